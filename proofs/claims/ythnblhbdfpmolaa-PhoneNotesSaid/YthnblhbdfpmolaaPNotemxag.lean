/- slices.Delete of one element, at loans. -/
import Derived.Test.YthnblhbdfpmolaaPNotemxae
import Derived.Test.YthnblhbdfpmolaaPNotemxab
import Derived.Test.YthnblhbdfpmolaaPNotemxad
import Derived.Test.YthnblhbdfpmolaaPNotemxac
import Derived.Test.YthnblhbdfpmolaaPNotemxaf
namespace Go.Proofs.Ythnblhbdfpmolaa
open Go.RowKit
theorem del_row {α : Type} {enc : α → List Value} {k : Nat} (hk : ∀ x, (enc x).length = k) {cur cur1 : List Value} {l : List α} {i : Nat} (hcur : cur.take (l.length * k) = l.flatMap enc) (hi : i < l.length) (hc : l.length * k ≤ cur.length)
    (h1 : cur1 = cur.take (i * k) ++ (l.drop (i + 1)).flatMap enc ++ cur.drop (i * k + ((l.drop (i + 1)).flatMap enc).length)) :
    cur1.length = cur.length ∧ cur1.take ((l.length - 1) * k) = (l.take i ++ l.drop (i + 1)).flatMap enc := by
  have e1 : ((l.drop (i + 1)).flatMap enc).length = (l.length - (i + 1)) * k := by rw [flat_len hk, List.length_drop]
  have e2 : i * k + (l.length - (i + 1)) * k = (l.length - 1) * k := by rw [← Nat.add_mul]; congr 1; omega
  have e3 : (l.length - 1) * k ≤ l.length * k := Nat.mul_le_mul_right _ (by omega)
  have e4 : i * k ≤ l.length * k := Nat.mul_le_mul_right _ (by omega)
  have c1 : cur.take (i * k) = (l.take i).flatMap enc := by rw [← flat_take hk, ← hcur, List.take_take, Nat.min_eq_left e4]
  have hl : ((l.take i).flatMap enc).length = i * k := by rw [flat_len hk, List.length_take, Nat.min_eq_left (Nat.le_of_lt hi)]
  rw [c1] at h1
  constructor
  · rw [h1]; simp only [List.length_append, hl, e1, List.length_drop]; omega
  · rw [h1, List.take_append_of_le_length (by simp only [List.length_append, hl, e1]; omega), List.take_of_length_le (by simp only [List.length_append, hl, e1]; omega), List.flatMap_append]
theorem z3_one : ∀ v ∈ (Value.agg #[.int .i64 0, .int .i64 0, .int .i64 0]).cells.toList, v.oneCell' = true := by
  intro v hv; simp [Value.cells] at hv; subst hv; rfl
set_option maxHeartbeats 1000000 in
set_option maxRecDepth 100000 in
theorem delete_loan (base : Nat) (s : Sl Loan) (i : Nat) (w : World) (hown : Own base 136 3 Loan.enc w s) (hi : i < s.l.length) (hb : s.l.length * 24 ≤ 140737488355328) :
    Calls Try.prog 114 #[.slice s.A s.l.length s.c, .int .i64 (i : Nat), .int .i64 ((i : Int) + 1)] w fun e w' =>
      e = .returned (.slice s.A (s.l.length - 1) s.c) ∧ Own base 136 3 Loan.enc w' ⟨s.A, s.c, s.l.take i ++ s.l.drop (i + 1)⟩ ∧ w.grownBy w' (Value.slice s.A s.l.length s.c).ownBlock := by
  obtain ⟨A, c, l⟩ := s
  simp only at hb hown hi ⊢
  obtain ⟨g, rfl⟩ : ∃ g, A = some ⟨g, 0, none⟩ := by
    rcases hown.form with ⟨_, _, hl⟩ | ⟨g, hA, _⟩
    · simp only at hl; rw [hl] at hi; simp at hi
    · exact ⟨g, hA⟩
  obtain ⟨cur, hB, hcs, htk, hlc, hcm2, hbg⟩ := hown.blk rfl
  simp only at hcs htk hlc hcm2
  have hcm : c ≤ 9223372036854775807 := by unfold maxLen at hcm2; omega
  have hn : l.length ≤ 5864062014806 := by omega
  have hcl1 : ¬ c = i := by omega
  have hne : ((i : Int) == (i : Int) + 1) = false := by simp; omega
  have HB := Lib.hid hB
  have HC := Lib.hid hcs
  have HT := Lib.hid htk
  have L1 := del_row Loan.k htk hi (by rw [show cur.toList.length = c * 3 from by rw [Array.length_toList]; exact hcs]; exact Nat.mul_le_mul_right 3 hlc) rfl
  have hk1 : ((l.drop (i + 1)).flatMap Loan.enc).length = (l.length - (i + 1)) * 3 := by rw [flat_len Loan.k, List.length_drop]
  have hk2 : Cells w g ((i + 1) * 3) ((l.drop (i + 1)).flatMap Loan.enc) := hB.flat Loan.k htk (i + 1)
  have hk3 : i * 3 + ((l.drop (i + 1)).flatMap Loan.enc).length ≤ cur.size := by rw [hk1, hcs]; omega
  have hk4 : ∀ v ∈ (l.drop (i + 1)).flatMap Loan.enc, v.oneCell' = true := fun v hv => by obtain ⟨y, _, hy⟩ := List.mem_flatMap.1 hv; exact Loan.one y v hy
  have M1 := Lib.hid hk1
  have M2 := Lib.hid hk2
  have M3 := Lib.hid hk3
  have M4 := Lib.hid hk4
  have HL := Lib.hid L1
  have hA2 : ∀ so, so = (i + 1) * 3 → 0 < l.length - (i + 1) → ∃ b so', (some ⟨g, so, none⟩ : Option Addr) = some ⟨b, so', none⟩ ∧ Cells w.drew b so' ((l.drop (i + 1)).flatMap Loan.enc) := fun so h _ => ⟨g, so, rfl, by rw [h]; exact hk2⟩
  have HA2 := Lib.hid hA2
  have hin : (i : Int) ≤ (c : Int) := by omega
  have hin2 : (i : Int) + 1 ≤ (l.length : Int) := by omega
  have hb1 : (0 : Int) ≤ (i : Int) + 1 := by omega
  have htn : ((i : Int) + 1).toNat = i + 1 := by omega
  have hcn : ¬ c = l.length - 1 := by omega
  have hl1 : (1 : Nat) ≤ l.length := by omega
  have hk5 : (l.length - 1) * 3 + (l.length - (l.length - 1)) * 3 ≤ (cur.toList.take (i * 3) ++ (l.drop (i + 1)).flatMap Loan.enc ++ cur.toList.drop (i * 3 + ((l.drop (i + 1)).flatMap Loan.enc).length)).toArray.size := by
    rw [List.size_toArray, HL.out.1, tl_len cur, HC.out]; omega
  have K5 := Lib.hid hk5
  clear hk5 hB hcs htk hown hk1 hk2 hk3 hk4 L1 hA2
  have fin : ∀ w1 w2 cur2, w.grownBy w1 (some g) → Blk w2 g 136 cur2 → cur2.size = (cur.toList.take (i * 3) ++ (l.drop (i + 1)).flatMap Loan.enc ++ cur.toList.drop (i * 3 + ((l.drop (i + 1)).flatMap Loan.enc).length)).toArray.size →
      cur2.toList.take ((l.length - 1) * 3) = (cur.toList.take (i * 3) ++ (l.drop (i + 1)).flatMap Loan.enc ++ cur.toList.drop (i * 3 + ((l.drop (i + 1)).flatMap Loan.enc).length)).toArray.toList.take ((l.length - 1) * 3) → w1.grownBy w2 (some g) →
      Own base 136 3 Loan.enc w2 ⟨some ⟨g, 0, none⟩, c, l.take i ++ l.drop (i + 1)⟩ ∧ w.grownBy w2 (some g) := by
    intro w1 w2 cur2 hg1 hB2 hs2 ht2 hg2
    have h1 := HL.out.1
    have h2 := HL.out.2
    have h3 : (l.take i ++ l.drop (i + 1)).length = l.length - 1 := by simp; omega
    refine ⟨?_, ?_⟩
    · refine Own.of_blk Loan.k hB2 ?_ ?_ ?_ hcm2 hbg
      · rw [hs2, ← HC.out, List.size_toArray, h1, tl_len cur]
      · rw [h3, ht2]; exact h2
      · rw [h3]; omega
    · exact ⟨hg2.os.trans hg1.os, hg2.tape.trans hg1.tape, hg2.output.trans hg1.output, Nat.le_trans hg1.size hg2.size, fun j hj hne => (hg2.block j (Nat.lt_of_lt_of_le hj hg1.size) hne).trans (hg1.block j hj hne)⟩
  have FIN := Lib.hid fin
  clear fin
  by_cases hcc : c = i + 1
  · subst hcc
    have hA2 : 0 < l.length - (i + 1) → ∃ b so', (some ⟨g, 0, none⟩ : Option Addr) = some ⟨b, so', none⟩ ∧ Cells w.drew b so' ((l.drop (i + 1)).flatMap Loan.enc) := fun h => absurd h (by omega)
    have HA3 := Lib.hid hA2
    have hin3 : (i : Int) ≤ (i : Int) + 1 := by omega
    clear hA2
    go_enter Try.func114, Try.ntmps114
    go_wp2_with fail
    go_region_law ((refine step_append_room_k rfl (.tmp 22) (.tmp 25) 64 rfl Try.underlying64 infoLoan g i (i + 1) (some ⟨g, 0, none⟩) (l.length - (i + 1)) (0) (l.length - 1) (by omega) cur 136 ((l.drop (i + 1)).flatMap Loan.enc) (by simp [Act.eval, Act.put]) (by simp [Act.eval, Act.put] <;> omega) HA3.out (by simp) HB.out.drew M1.out (by omega) M3.out M4.out ?_); intro w1 hB1 hg1)
    have HB1 := Lib.hid hB1
    have HG1 := Lib.hid hg1
    clear hB1 hg1
    go_wp2_with (refine wpl_clear_k rfl (.tmp 31) 64 rfl Try.underlying64 infoLoan z3_one g ((l.length - 1) * 3) (l.length - (l.length - 1)) (i + 1 - (l.length - 1)) (by omega) _ 136 rfl HB1.out K5.out ?_; intro w2 cur2 hB2 hs2 ht2 hg2)
    go_ret
    exact ⟨rfl, FIN.out w1 w2 cur2 (grown_undrew HG1.out) hB2 hs2 ht2 hg2⟩
  · have hA2 : 0 < l.length - (i + 1) → ∃ b so', (some ⟨g, (i + 1) * 3, none⟩ : Option Addr) = some ⟨b, so', none⟩ ∧ Cells w.drew b so' ((l.drop (i + 1)).flatMap Loan.enc) := HA2.out _ rfl
    have HA3 := Lib.hid hA2
    clear hA2
    go_enter Try.func114, Try.ntmps114
    go_wp2_with fail
    go_region_law ((refine step_append_room_k rfl (.tmp 22) (.tmp 25) 64 rfl Try.underlying64 infoLoan g i (c) (some ⟨g, (i + 1) * 3, none⟩) (l.length - (i + 1)) (c - (i + 1)) (l.length - 1) (by omega) cur 136 ((l.drop (i + 1)).flatMap Loan.enc) (by simp [Act.eval, Act.put]) (by simp [Act.eval, Act.put] <;> omega) HA3.out (by simp) HB.out.drew M1.out (by omega) M3.out M4.out ?_); intro w1 hB1 hg1)
    have HB1 := Lib.hid hB1
    have HG1 := Lib.hid hg1
    clear hB1 hg1
    go_wp2_with (refine wpl_clear_k rfl (.tmp 31) 64 rfl Try.underlying64 infoLoan z3_one g ((l.length - 1) * 3) (l.length - (l.length - 1)) (c - (l.length - 1)) (by omega) _ 136 rfl HB1.out K5.out ?_; intro w2 cur2 hB2 hs2 ht2 hg2)
    go_ret
    exact ⟨rfl, FIN.out w1 w2 cur2 (grown_undrew HG1.out) hB2 hs2 ht2 hg2⟩
end Go.Proofs.Ythnblhbdfpmolaa
/- Walks of package stock: Take, find. -/
namespace Go.Proofs.Ythnblhbdfpmolaa
open Go.RowKit
def StockD.take (x : StockD) (n : Int) : StockD × Int :=
  if x.fits 0 n then (if x.free < n then (x, 21) else ({ x with U := x.U + n }, 0)) else (x, 1)
set_option maxHeartbeats 1000000 in
theorem stock_take_no (s : Stock) (n : Int) (w : World) (hr : Rd (· < w.heap.size) 3 Loan.enc w s.L) (hb : s.L.l.length * 24 ≤ 140737488355328) (HF : Hid (s.d.fits 0 n = false)) :
    Calls Try.prog 51 #[s.v, .int .i64 n] w fun e w' => ∃ A c, e = .returned (.tuple #[.agg #[.int .i64 s.T, .int .i64 s.U, .slice A s.L.l.length c], .int .i64 1]) ∧ Own w.heap.size 136 3 Loan.enc w' ⟨A, c, s.L.l⟩ ∧ Below w.heap.size w w' := by
  obtain ⟨T, U, L⟩ := s
  have HR := Lib.hid hr
  clear hr
  simp only [Stock.v]
  simp only at hb
  go_enter Try.func51, Try.ntmps51
  go_wp2_with fail
  refine (stock_copied ⟨T, U, L⟩ _ ((HR.out.lt_alloc _).lt_alloc _) hb).mono ?_
  rintro e w1 ⟨A, c, rfl, hown, hb1⟩
  have K_a : Blk _ (w.heap.size) 66 #[.int .i64 T, .int .i64 U, .slice L.A L.l.length L.c] := qkb hb1
  obtain ⟨a0, a1, a2, af, az⟩ := Blk.b3 K_a
  have B_a := Lib.hid K_a
  clear K_a
  have K_b : Blk _ (w.heap.size + 1) 66 #[.int .i64 0, .int .i64 0, .slice none 0 0] := qkb hb1
  obtain ⟨b0, b1, b2, bf, bz⟩ := Blk.b3 K_b
  have B_b := Lib.hid K_b
  clear K_b
  have hB : Below w.heap.size w w1 := Below.trans qbl (hb1.mono (by first | omega | (simp; done) | (simp; omega)))
  have HO := Lib.hid (hown.mono (base' := w.heap.size + 2) (by simp))
  have HA := Lib.hid hown.bound
  clear hown hb1
  go_wp2_with fail
  refine (stock_fits ⟨T, U, L⟩ 0 n _ ((HR.out.below' hB (Nat.le_refl _)).lt_alloc _)).mono ?_
  rintro e w2 ⟨rfl, hb2⟩
  have K_a : Blk _ (w.heap.size) 66 #[.int .i64 T, .int .i64 U, .slice L.A L.l.length L.c] := qkc B_a hb2
  obtain ⟨a0, a1, a2, af, az⟩ := Blk.b3 K_a
  have B_a := Lib.hid K_a
  clear K_a
  have K_b : Blk _ (w.heap.size + 1) 66 #[.int .i64 0, .int .i64 0, .slice none 0 0] := qkc B_b hb2
  obtain ⟨b0, b1, b2, bf, bz⟩ := Blk.b3 K_b
  have B_b := Lib.hid K_b
  clear K_b
  have K_o : Blk _ (w1.heap.size) 66 #[.int .i64 T, .int .i64 U, .slice A L.l.length c] := qkb hb2
  obtain ⟨o0, o1, o2, of, oz⟩ := Blk.b3 K_o
  have B_o := Lib.hid K_o
  clear K_o
  have hB2 : Below w.heap.size w w2 := Below.trans qbh (hb2.mono (by first | omega | (simp; done) | (simp; omega)))
  have HO2 := Lib.hid ((HO.out.alloc _).below hb2)
  clear hb2
  rw [HF.out]
  go_wp2_with fail
  try simp only [Exit.inBlock, Exit.then]
  refine bodyPost_ret (v := .tuple #[.agg #[.int .i64 T, .int .i64 U, .slice A L.l.length c], .int .i64 1]) ?_ rfl ⟨A, c, rfl, Own.mono (base := w.heap.size + 2) (by repeat (first | (with_reducible exact HO2.out) | ((with_reducible refine Own.farr ?_ ?_); focus (first | (simp; done) | (simp; omega) | omega)) | (with_reducible refine Own.alloc ?_ _) | (with_reducible refine Own.drew ?_) | (with_reducible refine Own.drewN ?_ _))) (by omega), qbh⟩
  simp [results, Try.results51, go_sem, a0, a1, a2, af, b0, b1, b2, bf, o0, o1, o2, of]
set_option maxHeartbeats 1000000 in
theorem stock_take_few (s : Stock) (n : Int) (w : World) (hr : Rd (· < w.heap.size) 3 Loan.enc w s.L) (hb : s.L.l.length * 24 ≤ 140737488355328) (HF : Hid (s.d.fits 0 n = true)) (hlt : s.d.free < n) :
    Calls Try.prog 51 #[s.v, .int .i64 n] w fun e w' => ∃ A c, e = .returned (.tuple #[.agg #[.int .i64 s.T, .int .i64 s.U, .slice A s.L.l.length c], .int .i64 21]) ∧ Own w.heap.size 136 3 Loan.enc w' ⟨A, c, s.L.l⟩ ∧ Below w.heap.size w w' := by
  obtain ⟨T, U, L⟩ := s
  have HR := Lib.hid hr
  clear hr
  simp only [Stock.v]
  simp only at hb
  go_enter Try.func51, Try.ntmps51
  go_wp2_with fail
  refine (stock_copied ⟨T, U, L⟩ _ ((HR.out.lt_alloc _).lt_alloc _) hb).mono ?_
  rintro e w1 ⟨A, c, rfl, hown, hb1⟩
  have K_a : Blk _ (w.heap.size) 66 #[.int .i64 T, .int .i64 U, .slice L.A L.l.length L.c] := qkb hb1
  obtain ⟨a0, a1, a2, af, az⟩ := Blk.b3 K_a
  have B_a := Lib.hid K_a
  clear K_a
  have K_b : Blk _ (w.heap.size + 1) 66 #[.int .i64 0, .int .i64 0, .slice none 0 0] := qkb hb1
  obtain ⟨b0, b1, b2, bf, bz⟩ := Blk.b3 K_b
  have B_b := Lib.hid K_b
  clear K_b
  have hB : Below w.heap.size w w1 := Below.trans qbl (hb1.mono (by first | omega | (simp; done) | (simp; omega)))
  have HO := Lib.hid (hown.mono (base' := w.heap.size + 2) (by simp))
  have HA := Lib.hid hown.bound
  clear hown hb1
  go_wp2_with fail
  refine (stock_fits ⟨T, U, L⟩ 0 n _ ((HR.out.below' hB (Nat.le_refl _)).lt_alloc _)).mono ?_
  rintro e w2 ⟨rfl, hb2⟩
  have K_a : Blk _ (w.heap.size) 66 #[.int .i64 T, .int .i64 U, .slice L.A L.l.length L.c] := qkc B_a hb2
  obtain ⟨a0, a1, a2, af, az⟩ := Blk.b3 K_a
  have B_a := Lib.hid K_a
  clear K_a
  have K_b : Blk _ (w.heap.size + 1) 66 #[.int .i64 0, .int .i64 0, .slice none 0 0] := qkc B_b hb2
  obtain ⟨b0, b1, b2, bf, bz⟩ := Blk.b3 K_b
  have B_b := Lib.hid K_b
  clear K_b
  have K_o : Blk _ (w1.heap.size) 66 #[.int .i64 T, .int .i64 U, .slice A L.l.length c] := qkb hb2
  obtain ⟨o0, o1, o2, of, oz⟩ := Blk.b3 K_o
  have B_o := Lib.hid K_o
  clear K_o
  have hB2 : Below w.heap.size w w2 := Below.trans qbh (hb2.mono (by first | omega | (simp; done) | (simp; omega)))
  have HO2 := Lib.hid ((HO.out.alloc _).below hb2)
  clear hb2
  rw [HF.out]
  go_wp2_with fail
  refine (stock_free ⟨T, U, L⟩ _ (HR.out.below' hB2 (Nat.le_refl _))).mono ?_
  rintro e w3 ⟨rfl, hb3⟩
  have K_a : Blk _ (w.heap.size) 66 #[.int .i64 T, .int .i64 U, .slice L.A L.l.length L.c] := qkc B_a hb3
  obtain ⟨a0, a1, a2, af, az⟩ := Blk.b3 K_a
  have B_a := Lib.hid K_a
  clear K_a
  have K_b : Blk _ (w.heap.size + 1) 66 #[.int .i64 0, .int .i64 0, .slice none 0 0] := qkc B_b hb3
  obtain ⟨b0, b1, b2, bf, bz⟩ := Blk.b3 K_b
  have B_b := Lib.hid K_b
  clear K_b
  have K_o : Blk _ (w1.heap.size) 66 #[.int .i64 T, .int .i64 U, .slice A L.l.length c] := qkc B_o hb3
  obtain ⟨o0, o1, o2, of, oz⟩ := Blk.b3 K_o
  have B_o := Lib.hid K_o
  clear K_o
  have hB3 : Below w.heap.size w w3 := Below.trans qbh (hb3.mono (by first | omega | (simp; done) | (simp; omega)))
  have HO3 := Lib.hid (HO2.out.below hb3)
  clear hb3
  go_wp2_with fail
  try simp only [Exit.inBlock, Exit.then]
  refine bodyPost_ret (v := .tuple #[.agg #[.int .i64 T, .int .i64 U, .slice A L.l.length c], .int .i64 21]) ?_ rfl ⟨A, c, rfl, Own.mono (base := w.heap.size + 2) (by repeat (first | (with_reducible exact HO3.out) | ((with_reducible refine Own.farr ?_ ?_); focus (first | (simp; done) | (simp; omega) | omega)) | ((with_reducible refine Own.otherr HA.out ?_ ?_); focus (first | (simp; done) | (simp; omega) | omega)) | (with_reducible refine Own.alloc ?_ _) | (with_reducible refine Own.drew ?_) | (with_reducible refine Own.drewN ?_ _))) (by omega), qbh⟩
  simp [results, Try.results51, go_sem, a0, a1, a2, af, b0, b1, b2, bf, o0, o1, o2, of]
theorem StockD.fits_iff {x : StockD} {p n : Int} (h : x.fits p n = true) : x.right = true ∧ 0 ≤ p ∧ p < 12 ∧ 1 ≤ n ∧ n ≤ 1000000000000000 := by
  simp [StockD.fits] at h
  exact ⟨h.1, by omega, by omega, by omega, by omega⟩
theorem StockD.free_le {x : StockD} (h : x.right = true) : x.U + x.free ≤ x.T ∧ 0 ≤ x.free ∧ x.T ≤ 1000000000000000 ∧ 0 ≤ x.U := by
  obtain ⟨⟨h1, h2, h3, h4⟩, hg⟩ := StockD.right_iff h
  have := rightGo_sum _ _ _ hg (by omega)
  unfold StockD.free; rw [if_pos h]; omega
set_option maxHeartbeats 1000000 in
theorem stock_take_ok (s : Stock) (n : Int) (w : World) (hr : Rd (· < w.heap.size) 3 Loan.enc w s.L) (hb : s.L.l.length * 24 ≤ 140737488355328) (HF : Hid (s.d.fits 0 n = true)) (hlt : n ≤ s.d.free) :
    Calls Try.prog 51 #[s.v, .int .i64 n] w fun e w' => ∃ A c, e = .returned (.tuple #[.agg #[.int .i64 s.T, .int .i64 (s.U + n), .slice A s.L.l.length c], .int .i64 0]) ∧ Own w.heap.size 136 3 Loan.enc w' ⟨A, c, s.L.l⟩ ∧ Below w.heap.size w w' := by
  have h1 := StockD.fits_iff HF.out
  have h2 := StockD.free_le h1.1
  have hn1 : 1 ≤ n := by omega
  have hn2 : n ≤ 1000000000000000 := by omega
  have hu1 : 0 ≤ s.U := h2.2.2.2
  have hu2 : s.U ≤ 1000000000000000 := by have := h2.1; have := h2.2.1; have := h2.2.2.1; simp only [Stock.d] at *; omega
  clear h1 h2
  obtain ⟨T, U, L⟩ := s
  have HR := Lib.hid hr
  clear hr
  simp only [Stock.v]
  simp only at hb
  go_enter Try.func51, Try.ntmps51
  go_wp2_with fail
  refine (stock_copied ⟨T, U, L⟩ _ ((HR.out.lt_alloc _).lt_alloc _) hb).mono ?_
  rintro e w1 ⟨A, c, rfl, hown, hb1⟩
  have K_a : Blk _ (w.heap.size) 66 #[.int .i64 T, .int .i64 U, .slice L.A L.l.length L.c] := qkb hb1
  obtain ⟨a0, a1, a2, af, az⟩ := Blk.b3 K_a
  have B_a := Lib.hid K_a
  clear K_a
  have K_b : Blk _ (w.heap.size + 1) 66 #[.int .i64 0, .int .i64 0, .slice none 0 0] := qkb hb1
  obtain ⟨b0, b1, b2, bf, bz⟩ := Blk.b3 K_b
  have B_b := Lib.hid K_b
  clear K_b
  have hB : Below w.heap.size w w1 := Below.trans qbl (hb1.mono (by first | omega | (simp; done) | (simp; omega)))
  have HO := Lib.hid (hown.mono (base' := w.heap.size + 2) (by simp))
  have HA := Lib.hid hown.bound
  clear hown hb1
  go_wp2_with fail
  refine (stock_fits ⟨T, U, L⟩ 0 n _ ((HR.out.below' hB (Nat.le_refl _)).lt_alloc _)).mono ?_
  rintro e w2 ⟨rfl, hb2⟩
  have K_a : Blk _ (w.heap.size) 66 #[.int .i64 T, .int .i64 U, .slice L.A L.l.length L.c] := qkc B_a hb2
  obtain ⟨a0, a1, a2, af, az⟩ := Blk.b3 K_a
  have B_a := Lib.hid K_a
  clear K_a
  have K_b : Blk _ (w.heap.size + 1) 66 #[.int .i64 0, .int .i64 0, .slice none 0 0] := qkc B_b hb2
  obtain ⟨b0, b1, b2, bf, bz⟩ := Blk.b3 K_b
  have B_b := Lib.hid K_b
  clear K_b
  have K_o : Blk _ (w1.heap.size) 66 #[.int .i64 T, .int .i64 U, .slice A L.l.length c] := qkb hb2
  obtain ⟨o0, o1, o2, of, oz⟩ := Blk.b3 K_o
  have B_o := Lib.hid K_o
  clear K_o
  have hB2 : Below w.heap.size w w2 := Below.trans qbh (hb2.mono (by first | omega | (simp; done) | (simp; omega)))
  have HO2 := Lib.hid ((HO.out.alloc _).below hb2)
  clear hb2
  rw [HF.out]
  go_wp2_with fail
  refine (stock_free ⟨T, U, L⟩ _ (HR.out.below' hB2 (Nat.le_refl _))).mono ?_
  rintro e w3 ⟨rfl, hb3⟩
  have K_a : Blk _ (w.heap.size) 66 #[.int .i64 T, .int .i64 U, .slice L.A L.l.length L.c] := qkc B_a hb3
  obtain ⟨a0, a1, a2, af, az⟩ := Blk.b3 K_a
  have B_a := Lib.hid K_a
  clear K_a
  have K_b : Blk _ (w.heap.size + 1) 66 #[.int .i64 0, .int .i64 0, .slice none 0 0] := qkc B_b hb3
  obtain ⟨b0, b1, b2, bf, bz⟩ := Blk.b3 K_b
  have B_b := Lib.hid K_b
  clear K_b
  have K_o : Blk _ (w1.heap.size) 66 #[.int .i64 T, .int .i64 U, .slice A L.l.length c] := qkc B_o hb3
  obtain ⟨o0, o1, o2, of, oz⟩ := Blk.b3 K_o
  have B_o := Lib.hid K_o
  clear K_o
  have hB3 : Below w.heap.size w w3 := Below.trans qbh (hb3.mono (by first | omega | (simp; done) | (simp; omega)))
  have HO3 := Lib.hid (HO2.out.below hb3)
  clear hb3
  go_wp2_with fail
  try simp only [Exit.inBlock, Exit.then]
  refine bodyPost_ret (v := .tuple #[.agg #[.int .i64 T, .int .i64 (U + n), .slice A L.l.length c], .int .i64 0]) ?_ rfl ⟨A, c, rfl, Own.mono (base := w.heap.size + 2) (by repeat (first | (with_reducible exact HO3.out) | ((with_reducible refine Own.farr ?_ ?_); focus (first | (simp; done) | (simp; omega) | omega)) | ((with_reducible refine Own.otherr HA.out ?_ ?_); focus (first | (simp; done) | (simp; omega) | omega)) | (with_reducible refine Own.alloc ?_ _) | (with_reducible refine Own.drew ?_) | (with_reducible refine Own.drewN ?_ _))) (by omega), qbh⟩
  simp [results, Try.results51, go_sem, a0, a1, a2, af, b0, b1, b2, bf, o0, o1, o2, of]
end Go.Proofs.Ythnblhbdfpmolaa
