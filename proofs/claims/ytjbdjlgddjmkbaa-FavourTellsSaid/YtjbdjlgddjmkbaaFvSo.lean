/- slices.Sort and slices.Delete of one element at rows of the call's own, by the library's contracts. -/
import Derived.Test.YtjbdjlgddjmkbaaFvSs
import Derived.Test.YtjbdjlgddjmkbaaFvSh
import Derived.Sort.OwnSortedInts
namespace Go.Proofs.Ytjbdjlgddjmkbaa
open Go.RowKit
theorem ienc_map (l : List Int) : l.flatMap ienc = l.map (Value.int .i64) := by
  induction l with
  | nil => rfl
  | cons x r ih => simp only [List.flatMap_cons, List.map_cons, ienc, ih]; rfl
theorem sort_own (base g c : Nat) (s : List Int) (w : World) (hown : Own base 3 1 ienc w ⟨some ⟨g, 0, none⟩, c, s⟩) (hm : s.length ≤ 1000) (hbase : base ≤ w.heap.size) :
    Calls Try.prog 24 #[.slice (some ⟨g, 0, none⟩) s.length c] w fun e w' => e = .returned (.tuple #[]) ∧ Own base 3 1 ienc w' ⟨some ⟨g, 0, none⟩, c, s.mergeSort fun x y => decide (x ≤ y)⟩ ∧ Below base w w' := by
  obtain ⟨cur, hB, hcs, htk, hlc, hcm, hbg⟩ := hown.blk rfl
  simp only [Nat.mul_one] at hcs htk hlc hcm
  rw [ienc_map] at htk
  have hH := Go.holds_of_blockI (w := w) (g := g) (e := 3) (ss := s) hB htk
  refine (Go.Proofs.Try.slices_Sort_int g 0 c s w hH hB.lt (by omega)).mono ?_
  rintro e w' ⟨rfl, n, os, rfl⟩
  refine ⟨rfl, ?_, ?_⟩
  · unfold Own
    simp only [List.length_mergeSort, ienc_map]
    exact Go.ownsRow_sortedI (by simp) hbg hB hlc hcm (by omega)
  · exact (Below.refl base w).grown (Go.grownBy_sortedI _) hbase (fun j hj => by cases hj; exact hbg)
theorem mergeSort_lt {s : List Int} (h : s.Nodup) : (s.mergeSort fun x y => decide (x ≤ y)).Pairwise (· < ·) := by
  have h1 := List.pairwise_mergeSort (le := fun (x y : Int) => decide (x ≤ y)) (fun a b c hab hbc => by simp at *; omega) (fun a b => by simp; omega) s
  have h2 : (s.mergeSort fun x y => decide (x ≤ y)).Nodup := (List.mergeSort_perm s _).nodup_iff.2 h
  exact (h1.and h2).imp (fun ⟨a, b⟩ => by simp at a; omega)
theorem own_cut {base g c : Nat} {w : World} {l r : List Int} (h : Own base 3 1 ienc w ⟨some ⟨g, 0, none⟩, c, l ++ r⟩) : Own base 3 1 ienc w ⟨some ⟨g, 0, none⟩, c, l⟩ := by
  obtain ⟨cur, hB, hcs, htk, hlc, hcm, hbg⟩ := h.blk rfl
  simp only [Nat.mul_one, List.length_append, List.flatMap_append] at hcs htk hlc hcm
  refine Own.of_blk ienc_k hB (by omega) ?_ (by omega) hcm hbg
  have hl : (l.flatMap ienc).length = l.length * 1 := flat_len ienc_k l
  have h3 : (l.flatMap ienc ++ r.flatMap ienc).take (l.length * 1) = l.flatMap ienc := by rw [List.take_append_of_le_length (by omega), List.take_of_length_le (by omega)]
  rw [← h3, ← htk, List.take_take, Nat.min_eq_left (by omega)]
theorem del_own (base g c i : Nat) (s : List Int) (w : World) (hown : Own base 3 1 ienc w ⟨some ⟨g, 0, none⟩, c, s⟩) (hi : i < s.length) (hm : s.length ≤ 1000) (hbase : base ≤ w.heap.size) :
    Calls Try.prog 30 #[.slice (some ⟨g, 0, none⟩) s.length c, .int .i64 (i : Nat), .int .i64 ((i : Int) + 1)] w fun e w' => e = .returned (.slice (some ⟨g, 0, none⟩) (s.length - 1) c) ∧ Own base 3 1 ienc w' ⟨some ⟨g, 0, none⟩, c, s.take i ++ s.drop (i + 1)⟩ ∧ Below base w w' := by
  obtain ⟨cur, hB, hcs, htk, hlc, hcm, hbg⟩ := hown.blk rfl
  simp only [Nat.mul_one] at hcs htk hlc hcm
  rw [ienc_map] at htk
  have hH := Go.holds_of_blockI (w := w) (g := g) (e := 3) (ss := s) hB htk
  have hd := Go.Proofs.Try.slices_Delete_int g 0 c i (i + 1) s w hH hlc (by unfold maxLen at hcm; omega) (by omega) (by omega)
  rw [show i + 1 - i = 1 by omega, show ((i + 1 : Nat) : Int) = (i : Int) + 1 by omega] at hd
  refine hd.mono ?_
  rintro e w' ⟨rfl, n, rfl⟩
  refine ⟨rfl, ?_, ?_⟩
  · refine own_cut (r := [0]) ?_
    unfold Own
    have hl : (s.take i ++ s.drop (i + 1) ++ [(0 : Int)]).length = s.length := by simp; omega
    have := Go.ownsRow_sortedI (n := n) (os := #[]) (ts := s.take i ++ s.drop (i + 1) ++ [(0 : Int)]) hl hbg hB hlc hcm (by omega)
    rw [Go.Sort.grow_empty] at this
    simp only [hl, ienc_map]
    exact this
  · have := Go.grownBy_sortedI (w := w) (g := g) (n := n) (os := #[]) (s.take i ++ s.drop (i + 1) ++ [(0 : Int)]).toArray
    rw [Go.Sort.grow_empty] at this
    exact (Below.refl base w).grown this hbase (fun j hj => by cases hj; exact hbg)
end Go.Proofs.Ytjbdjlgddjmkbaa
