/- Walks of what the laws of layer 41 begin with: the example, and that the small examples have the documented results. -/
import Derived.Test.YthnblhbdfpmolaaMLatmxbf
import Derived.Test.YthnblhbdfpmolaaMLatmxbh
import Derived.Test.YthnblhbdfpmolaaMLatmxbk
import Derived.Test.YthnblhbdfpmolaaMLatmxbm
import Derived.Test.YthnblhbdfpmolaaMLatmxbg
namespace Go.Proofs.Ythnblhbdfpmolaa
open Go.RowKit
def sn1 : Note := ⟨0, 0, ⟨none, 0, []⟩, 5, ⟨#[97]⟩⟩
def sn2 : Note := ⟨0, 1, ⟨none, 0, []⟩, 9, ⟨#[98]⟩⟩
def sn3 : Note := ⟨1, 0, ⟨none, 0, []⟩, 3, ⟨#[99]⟩⟩
def sn4 (q : Nat) : Note := ⟨1, 1, ⟨some ⟨q, 0, none⟩, 1, [2]⟩, 4, ⟨#[100]⟩⟩
def sl4 (q : Nat) : List Note := [sn1, sn2, sn3, sn4 q]
def sx5 : Note := ⟨0, 1, ⟨none, 0, []⟩, 9, ⟨#[120]⟩⟩
def sx6 : Note := ⟨12, 0, ⟨none, 0, []⟩, 0, ⟨#[]⟩⟩
def sd1 : NoteD := ⟨0, 0, [], 5, ⟨#[97]⟩⟩
def sd2 : NoteD := ⟨0, 1, [], 9, ⟨#[98]⟩⟩
def sd3 : NoteD := ⟨1, 0, [], 3, ⟨#[99]⟩⟩
def sd4 : NoteD := ⟨1, 1, [2], 4, ⟨#[100]⟩⟩
theorem some_ord : ordN [sd1, sd2, sd3, sd4] = ([2, 0, 1, 3], 0) := by rfl
theorem some_ord2 : ordN [sd1, sd3, sd4] = ([], 18) := by rfl
theorem some_merge : mergeN [sd1, sd3] [sd3, sd2] = ([sd1, sd2, sd3], 0) := by rfl
theorem some_merge2 : mergeN [sd1, sd2, sd3, sd4] [⟨0, 1, [], 9, ⟨#[120]⟩⟩] = ([], 23) := by rfl
theorem some_lists : listsN [sd1, sd2, sd3] [sd1, sd2, sd3] = true := by rfl
theorem some_bef1 : beforeN sd2 sd4 = true := by rfl
theorem some_bef2 : beforeN sd3 sd1 = false := by rfl
theorem some_right : notesR [sd1, sd2, sd3, sd4] = true := by rfl
theorem some_right2 : notesR [⟨12, 0, [], 0, ByteArray.empty⟩] = false := by rfl
set_option maxHeartbeats 400000 in
theorem some41 (w : World) : Calls Try.prog 77 #[] w fun e w' => e = .returned (.slice (some ⟨w.heap.size + 1, 0, none⟩) 4 4) ∧
    Below w.heap.size w w' ∧ Blk w' w.heap.size 3 #[.int .i64 2] ∧ Blk w' (w.heap.size + 1) 61 #[.int .i64 0, .int .i64 0, .slice none 0 0, .int .i64 5, .string ⟨#[97]⟩, .int .i64 0, .int .i64 1, .slice none 0 0, .int .i64 9, .string ⟨#[98]⟩, .int .i64 1, .int .i64 0, .slice none 0 0, .int .i64 3, .string ⟨#[99]⟩, .int .i64 1, .int .i64 1, .slice (some ⟨w.heap.size, 0, none⟩) 1 1, .int .i64 4, .string ⟨#[100]⟩] := by
  go_enter Try.func77, Try.ntmps77
  go_wp2_with fail
  go_ret
  exact ⟨rfl, (by repeat (first | (with_reducible exact Below.refl _ _) | ((with_reducible refine below_setr ?_ ?_); focus (first | (simp; done) | (simp; omega) | omega)) | ((with_reducible refine below_allocr ?_ ?_); focus (first | (simp; done) | (simp; omega) | omega)) | (with_reducible refine Below.drew ?_) | (with_reducible refine below_drewN ?_ _))), (Blk.new _ _ _).alloc _, Blk.new' (by simp)⟩
theorem rd_blk {α : Type} {k : Nat} {enc : α → List Value} (hk : ∀ x, (enc x).length = k) {W : World} {e : TypeId} {g c : Nat} {l : List α} (h : Blk W g e (l.flatMap enc).toArray) (hc : l.length ≤ c) (hm : c ≤ maxLen) : Rd (· < W.heap.size) k enc W ⟨some ⟨g, 0, none⟩, c, l⟩ := by
  refine ⟨hc, hm, fun hn => (by cases hn), fun i x hx => ⟨g, 0, rfl, h.lt, fun j u hu => ?_⟩⟩
  rw [h.cell, Nat.zero_add, List.getElem?_toArray]
  have hj : j < k := by rw [← hk x]; exact (List.getElem?_eq_some_iff.1 hu).1
  rw [flat_get hk l i j x hx hj]; exact hu
theorem some_rd {W : World} {q g : Nat} (h1 : Blk W q 3 #[.int .i64 2]) (h2 : Blk W g 61 #[.int .i64 0, .int .i64 0, .slice none 0 0, .int .i64 5, .string ⟨#[97]⟩, .int .i64 0, .int .i64 1, .slice none 0 0, .int .i64 9, .string ⟨#[98]⟩, .int .i64 1, .int .i64 0, .slice none 0 0, .int .i64 3, .string ⟨#[99]⟩, .int .i64 1, .int .i64 1, .slice (some ⟨q, 0, none⟩) 1 1, .int .i64 4, .string ⟨#[100]⟩]) : RdNotes (· < W.heap.size) W ⟨some ⟨g, 0, none⟩, 4, sl4 q⟩ := by
  refine ⟨rd_blk Note.k (l := sl4 q) h2 (by simp [sl4]) (by simp [maxLen]), fun n hn => ?_⟩
  simp only [sl4, List.mem_cons, List.not_mem_nil, or_false] at hn
  rcases hn with rfl | rfl | rfl | rfl
  · exact Rd.nil _ _ _ _
  · exact Rd.nil _ _ _ _
  · exact Rd.nil _ _ _ _
  · exact rdOne h1
theorem morder_at {s : Sl Note} {w : World} (hr : RdNotes (· < w.heap.size) w s) {r : List Nat × Int} (h : ordN (s.l.map Note.d) = r) : Calls Try.prog 37 #[.slice s.A s.l.length s.c] w fun e w' => OrderP w r e w' := by
  have := morder s w hr
  rw [h] at this; exact this
theorem merge_at {s t : Sl Note} {w : World} (hs : RdNotes (· < w.heap.size) w s) (ht : RdNotes (· < w.heap.size) w t) (hl : s.l.length + t.l.length ≤ 10000) {r : List NoteD × Int} (h : mergeN (s.l.map Note.d) (t.l.map Note.d) = r) : Calls Try.prog 35 #[.slice s.A s.l.length s.c, .slice t.A t.l.length t.c] w fun e w' => MergeP w r e w' := by
  have := merge_note s t w hs ht hl
  rw [h] at this; exact this
/-- Some notes of the example, in a row of their own. -/
theorem pick_rd {W : World} {q g c : Nat} {l : List Note} (h1 : Blk W q 3 #[.int .i64 2]) (h2 : Blk W g 61 (l.flatMap Note.enc).toArray) (hc : l.length ≤ c) (hm : c ≤ maxLen) (hl : ∀ n, n ∈ l → n ∈ sl4 q) : RdNotes (· < W.heap.size) W ⟨some ⟨g, 0, none⟩, c, l⟩ := by
  refine ⟨rd_blk Note.k h2 hc hm, fun n hn => ?_⟩
  have hn' := hl n hn
  simp only [sl4, List.mem_cons, List.not_mem_nil, or_false] at hn'
  rcases hn' with rfl | rfl | rfl | rfl
  · exact Rd.nil _ _ _ _
  · exact Rd.nil _ _ _ _
  · exact Rd.nil _ _ _ _
  · exact rdOne h1
set_option maxHeartbeats 1000000 in
set_option maxRecDepth 100000 in
theorem small41 (w : World) : Calls Try.prog 33 #[] w fun e w' => e = .returned (.bool true) ∧ Below w.heap.size w w' := by
  go_enter Try.func33, Try.ntmps33
  go_wp2_with fail
  refine (some41 w).mono ?_
  rintro e w1 ⟨rfl, hb1, hq1, hg1⟩
  have hB1 : Below w.heap.size w w1 := hb1
  have hz1 : w.heap.size + 2 ≤ w1.heap.size := by have := hg1.lt; omega
  have hR1 := some_rd hq1 hg1
  have HQ := Lib.hid hq1
  have HG := Lib.hid hg1
  have HR1 := Lib.hid hR1
  clear hq1 hg1 hR1 hb1
  go_wp2_with fail
  refine (morder_at (s := ⟨some ⟨w.heap.size + 1, 0, none⟩, 4, sl4 w.heap.size⟩) HR1.out (r := ([2, 0, 1, 3], 0)) some_ord).mono ?_
  rintro e w2 ⟨⟨xA, xc, xl⟩, rfl, hxl, hxr, hb2⟩
  have hxl' : xl = [2, 0, 1, 3] := hxl
  subst hxl'
  have hB2 : Below w.heap.size w w2 := (by repeat (first | (with_reducible exact hB1) | (with_reducible exact Below.refl _ _) | ((with_reducible refine below_setr ?_ ?_); focus (first | (simp; done) | (simp; omega) | omega)) | ((with_reducible refine below_allocr ?_ ?_); focus (first | (simp; done) | (simp; omega) | omega)) | (with_reducible refine Below.drew ?_) | (with_reducible refine below_drewN ?_ _) | ((with_reducible apply below_via); focus (with_reducible assumption))))
  have HX := Lib.hid (hxr.mono (G := fun b => b < w2.heap.size) (fun b hb => hb.2))
  have HQ2 := Lib.hid (HQ.out.later hb2)
  have HG2 := Lib.hid (HG.out.later hb2)
  have hz2 : w1.heap.size ≤ w2.heap.size := hb2.size
  clear hxl hxr hb2
  go_wp2_with fail
  refine wp_region_T (fun w' => (w'.cell? ⟨w.heap.size + 1, 0, none⟩ = some (.int .i64 0) ∧ w'.cell? ⟨w.heap.size + 1, 1, none⟩ = some (.int .i64 0) ∧ w'.cell? ⟨w.heap.size + 1, 2, none⟩ = some (.slice none 0 0) ∧ w'.cell? ⟨w.heap.size + 1, 3, none⟩ = some (.int .i64 5) ∧ w'.cell? ⟨w.heap.size + 1, 4, none⟩ = some (.string ⟨#[97]⟩) ∧ w'.cell? ⟨w.heap.size + 1, 5, none⟩ = some (.int .i64 0) ∧ w'.cell? ⟨w.heap.size + 1, 6, none⟩ = some (.int .i64 1) ∧ w'.cell? ⟨w.heap.size + 1, 7, none⟩ = some (.slice none 0 0) ∧ w'.cell? ⟨w.heap.size + 1, 8, none⟩ = some (.int .i64 9) ∧ w'.cell? ⟨w.heap.size + 1, 9, none⟩ = some (.string ⟨#[98]⟩) ∧ w'.cell? ⟨w.heap.size + 1, 10, none⟩ = some (.int .i64 1) ∧ w'.cell? ⟨w.heap.size + 1, 11, none⟩ = some (.int .i64 0) ∧ w'.cell? ⟨w.heap.size + 1, 12, none⟩ = some (.slice none 0 0) ∧ w'.cell? ⟨w.heap.size + 1, 13, none⟩ = some (.int .i64 3) ∧ w'.cell? ⟨w.heap.size + 1, 14, none⟩ = some (.string ⟨#[99]⟩) ∧ w'.cell? ⟨w.heap.size + 1, 15, none⟩ = some (.int .i64 1) ∧ w'.cell? ⟨w.heap.size + 1, 16, none⟩ = some (.int .i64 1) ∧ w'.cell? ⟨w.heap.size + 1, 17, none⟩ = some (.slice (some ⟨w.heap.size, 0, none⟩) 1 1) ∧ w'.cell? ⟨w.heap.size + 1, 18, none⟩ = some (.int .i64 4) ∧ w'.cell? ⟨w.heap.size + 1, 19, none⟩ = some (.string ⟨#[100]⟩))) (fun _ => false) (by kernel_rfl) ⟨HG2.out.cell 0, HG2.out.cell 1, HG2.out.cell 2, HG2.out.cell 3, HG2.out.cell 4, HG2.out.cell 5, HG2.out.cell 6, HG2.out.cell 7, HG2.out.cell 8, HG2.out.cell 9, HG2.out.cell 10, HG2.out.cell 11, HG2.out.cell 12, HG2.out.cell 13, HG2.out.cell 14, HG2.out.cell 15, HG2.out.cell 16, HG2.out.cell 17, HG2.out.cell 18, HG2.out.cell 19⟩ (fun hHeld => ?_)
  refine wpAnyT_take2 (i := 0) (v := ?_) rfl rfl (by kernel_rfl) (by kernel_rfl) (by kernel_rfl) (by kernel_rfl) (fun _ _ _ h => h) (Or.inl ⟨by rfl, ?_⟩) (by first | assumption | trivial) ?_
  rotate_left
  · (intro w hSw; (try dsimp only at hSw); go_simp) <;> (with_reducible rfl)
  simp only [List.setIfInBounds_toArray, List.set_cons_zero, List.set_cons_succ]
  refine wpAnyT_take2 (i := 1) (v := ?_) rfl rfl (by kernel_rfl) (by kernel_rfl) (by kernel_rfl) (by kernel_rfl) (fun _ _ _ h => h) (Or.inl ⟨by rfl, ?_⟩) (by first | assumption | trivial) ?_
  rotate_left
  · (intro w hSw; (try dsimp only at hSw); go_simp) <;> (with_reducible rfl)
  simp only [List.setIfInBounds_toArray, List.set_cons_zero, List.set_cons_succ]
  refine wpAnyT_take2 (i := 2) (v := ?_) rfl rfl (by kernel_rfl) (by kernel_rfl) (by kernel_rfl) (by kernel_rfl) (fun _ _ _ h => h) (Or.inl ⟨by rfl, ?_⟩) (by first | assumption | trivial) ?_
  rotate_left
  · (intro w hSw; (try dsimp only at hSw); go_simp) <;> (with_reducible rfl)
  simp only [List.setIfInBounds_toArray, List.set_cons_zero, List.set_cons_succ]
  refine wpAnyT_take2 (i := 3) (v := ?_) rfl rfl (by kernel_rfl) (by kernel_rfl) (by kernel_rfl) (by kernel_rfl) (fun _ _ _ h => h) (Or.inl ⟨by rfl, ?_⟩) (by first | assumption | trivial) ?_
  rotate_left
  · (intro w hSw; (try dsimp only at hSw); go_simp) <;> (with_reducible rfl)
  simp only [List.setIfInBounds_toArray, List.set_cons_zero, List.set_cons_succ]
  refine wpAnyT_take2 (i := 4) (v := ?_) rfl rfl (by kernel_rfl) (by kernel_rfl) (by kernel_rfl) (by kernel_rfl) (fun _ _ _ h => h) (Or.inl ⟨by rfl, ?_⟩) (by first | assumption | trivial) ?_
  rotate_left
  · (intro w hSw; (try dsimp only at hSw); go_simp) <;> (with_reducible rfl)
  simp only [List.setIfInBounds_toArray, List.set_cons_zero, List.set_cons_succ]
  refine wpAnyT_take2 (i := 5) (v := ?_) rfl rfl (by kernel_rfl) (by kernel_rfl) (by kernel_rfl) (by kernel_rfl) (fun _ _ _ h => h) (Or.inl ⟨by rfl, ?_⟩) (by first | assumption | trivial) ?_
  rotate_left
  · (intro w hSw; (try dsimp only at hSw); go_simp) <;> (with_reducible rfl)
  simp only [List.setIfInBounds_toArray, List.set_cons_zero, List.set_cons_succ]
  refine wpAnyT_take2 (i := 6) (v := ?_) rfl rfl (by kernel_rfl) (by kernel_rfl) (by kernel_rfl) (by kernel_rfl) (fun _ _ _ h => h) (Or.inl ⟨by rfl, ?_⟩) (by first | assumption | trivial) ?_
  rotate_left
  · (intro w hSw; (try dsimp only at hSw); go_simp) <;> (with_reducible rfl)
  simp only [List.setIfInBounds_toArray, List.set_cons_zero, List.set_cons_succ]
  refine wpAnyT_take2 (i := 7) (v := ?_) rfl rfl (by kernel_rfl) (by kernel_rfl) (by kernel_rfl) (by kernel_rfl) (fun _ _ _ h => h) (Or.inl ⟨by rfl, ?_⟩) (by first | assumption | trivial) ?_
  rotate_left
  · (intro w hSw; (try dsimp only at hSw); go_simp) <;> (with_reducible rfl)
  simp only [List.setIfInBounds_toArray, List.set_cons_zero, List.set_cons_succ]
  refine wpAnyT_take2 (i := 8) (v := ?_) rfl rfl (by kernel_rfl) (by kernel_rfl) (by kernel_rfl) (by kernel_rfl) (fun _ _ _ h => h) (Or.inl ⟨by rfl, ?_⟩) (by first | assumption | trivial) ?_
  rotate_left
  · (intro w hSw; (try dsimp only at hSw); go_simp) <;> (with_reducible rfl)
  simp only [List.setIfInBounds_toArray, List.set_cons_zero, List.set_cons_succ]
  clear hHeld
  refine wpAnyT_next (i := 9) (by kernel_rfl) rfl ?_
  go_wp2_with fail
  have HG3 := HG2.out.alloc (.cells ([sn1, sn3, sn4 w.heap.size].flatMap Note.enc).toArray 61)
  refine ⟨(by first | exact ⟨HG3.cell 0, HG3.cell 1, HG3.cell 2, HG3.cell 3, HG3.cell 4, HG3.cell 5, HG3.cell 6, HG3.cell 7, HG3.cell 8, HG3.cell 9, HG3.cell 10, HG3.cell 11, HG3.cell 12, HG3.cell 13, HG3.cell 14, HG3.cell 15, HG3.cell 16, HG3.cell 17, HG3.cell 18, HG3.cell 19⟩ | exact fun _ => ⟨HG3.cell 0, HG3.cell 1, HG3.cell 2, HG3.cell 3, HG3.cell 4, HG3.cell 5, HG3.cell 6, HG3.cell 7, HG3.cell 8, HG3.cell 9, HG3.cell 10, HG3.cell 11, HG3.cell 12, HG3.cell 13, HG3.cell 14, HG3.cell 15, HG3.cell 16, HG3.cell 17, HG3.cell 18, HG3.cell 19⟩), ?_⟩
  refine wpAnyT_next (i := 10) (by kernel_rfl) rfl ?_
  go_wp2_with fail
  refine (morder_at (s := ⟨some ⟨w2.heap.size, 0, none⟩, 3, [sn1, sn3, sn4 w.heap.size]⟩) (w := (w2.alloc (.cells ([sn1, sn3, sn4 w.heap.size].flatMap Note.enc).toArray 61)).drew) (pick_rd (q := w.heap.size) (HQ2.out.alloc _) (Blk.new _ _ _) (by simp) (by simp [maxLen]) (fun n hn => by simp [sl4] at hn ⊢; rcases hn with rfl | rfl | rfl <;> simp)) (r := ([], 18)) some_ord2).mono ?_
  rintro e w3 ⟨⟨yA, yc, yl⟩, rfl, _, _, hb3⟩
  have hB3' : Below w2.heap.size w2 w3 := (by repeat (first | (with_reducible exact Below.refl _ _) | ((with_reducible refine below_setr ?_ ?_); focus (first | (simp; done) | (simp; omega) | omega)) | ((with_reducible refine below_allocr ?_ ?_); focus (first | (simp; done) | (simp; omega) | omega)) | (with_reducible refine Below.drew ?_) | (with_reducible refine below_drewN ?_ _) | ((with_reducible apply below_via); focus (with_reducible assumption))))
  have hB3 : Below w.heap.size w w3 := hB2.trans (hB3'.mono hB2.size)
  have HQ4 := HQ2.out.later hB3'
  have HG4 := HG2.out.later hB3'
  have hz3 : w2.heap.size ≤ w3.heap.size := hB3'.size
  clear hb3 HG3
  go_wp2_with fail
  refine ⟨(by first | exact ⟨HG4.cell 0, HG4.cell 1, HG4.cell 2, HG4.cell 3, HG4.cell 4, HG4.cell 5, HG4.cell 6, HG4.cell 7, HG4.cell 8, HG4.cell 9, HG4.cell 10, HG4.cell 11, HG4.cell 12, HG4.cell 13, HG4.cell 14, HG4.cell 15, HG4.cell 16, HG4.cell 17, HG4.cell 18, HG4.cell 19⟩ | exact fun _ => ⟨HG4.cell 0, HG4.cell 1, HG4.cell 2, HG4.cell 3, HG4.cell 4, HG4.cell 5, HG4.cell 6, HG4.cell 7, HG4.cell 8, HG4.cell 9, HG4.cell 10, HG4.cell 11, HG4.cell 12, HG4.cell 13, HG4.cell 14, HG4.cell 15, HG4.cell 16, HG4.cell 17, HG4.cell 18, HG4.cell 19⟩), ?_⟩
  have hHeld : (w3.cell? ⟨w.heap.size + 1, 0, none⟩ = some (.int .i64 0) ∧ w3.cell? ⟨w.heap.size + 1, 1, none⟩ = some (.int .i64 0) ∧ w3.cell? ⟨w.heap.size + 1, 2, none⟩ = some (.slice none 0 0) ∧ w3.cell? ⟨w.heap.size + 1, 3, none⟩ = some (.int .i64 5) ∧ w3.cell? ⟨w.heap.size + 1, 4, none⟩ = some (.string ⟨#[97]⟩) ∧ w3.cell? ⟨w.heap.size + 1, 5, none⟩ = some (.int .i64 0) ∧ w3.cell? ⟨w.heap.size + 1, 6, none⟩ = some (.int .i64 1) ∧ w3.cell? ⟨w.heap.size + 1, 7, none⟩ = some (.slice none 0 0) ∧ w3.cell? ⟨w.heap.size + 1, 8, none⟩ = some (.int .i64 9) ∧ w3.cell? ⟨w.heap.size + 1, 9, none⟩ = some (.string ⟨#[98]⟩) ∧ w3.cell? ⟨w.heap.size + 1, 10, none⟩ = some (.int .i64 1) ∧ w3.cell? ⟨w.heap.size + 1, 11, none⟩ = some (.int .i64 0) ∧ w3.cell? ⟨w.heap.size + 1, 12, none⟩ = some (.slice none 0 0) ∧ w3.cell? ⟨w.heap.size + 1, 13, none⟩ = some (.int .i64 3) ∧ w3.cell? ⟨w.heap.size + 1, 14, none⟩ = some (.string ⟨#[99]⟩) ∧ w3.cell? ⟨w.heap.size + 1, 15, none⟩ = some (.int .i64 1) ∧ w3.cell? ⟨w.heap.size + 1, 16, none⟩ = some (.int .i64 1) ∧ w3.cell? ⟨w.heap.size + 1, 17, none⟩ = some (.slice (some ⟨w.heap.size, 0, none⟩) 1 1) ∧ w3.cell? ⟨w.heap.size + 1, 18, none⟩ = some (.int .i64 4) ∧ w3.cell? ⟨w.heap.size + 1, 19, none⟩ = some (.string ⟨#[100]⟩)) := ⟨HG4.cell 0, HG4.cell 1, HG4.cell 2, HG4.cell 3, HG4.cell 4, HG4.cell 5, HG4.cell 6, HG4.cell 7, HG4.cell 8, HG4.cell 9, HG4.cell 10, HG4.cell 11, HG4.cell 12, HG4.cell 13, HG4.cell 14, HG4.cell 15, HG4.cell 16, HG4.cell 17, HG4.cell 18, HG4.cell 19⟩
  refine wpAnyT_take2 (i := 11) (v := ?_) rfl rfl (by kernel_rfl) (by kernel_rfl) (by kernel_rfl) (by kernel_rfl) (fun _ _ _ h => h) (Or.inl ⟨by rfl, ?_⟩) (by first | assumption | trivial) ?_
  rotate_left
  · (intro w hSw; (try dsimp only at hSw); go_simp) <;> (with_reducible rfl)
  simp only [List.setIfInBounds_toArray, List.set_cons_zero, List.set_cons_succ]
  refine wpAnyT_take2 (i := 12) (v := ?_) rfl rfl (by kernel_rfl) (by kernel_rfl) (by kernel_rfl) (by kernel_rfl) (fun _ _ _ h => h) (Or.inl ⟨by rfl, ?_⟩) (by first | assumption | trivial) ?_
  rotate_left
  · (intro w hSw; (try dsimp only at hSw); go_simp) <;> (with_reducible rfl)
  simp only [List.setIfInBounds_toArray, List.set_cons_zero, List.set_cons_succ]
  refine wpAnyT_take2 (i := 13) (v := ?_) rfl rfl (by kernel_rfl) (by kernel_rfl) (by kernel_rfl) (by kernel_rfl) (fun _ _ _ h => h) (Or.inl ⟨by rfl, ?_⟩) (by first | assumption | trivial) ?_
  rotate_left
  · (intro w hSw; (try dsimp only at hSw); go_simp) <;> (with_reducible rfl)
  simp only [List.setIfInBounds_toArray, List.set_cons_zero, List.set_cons_succ]
  refine wpAnyT_take2 (i := 14) (v := ?_) rfl rfl (by kernel_rfl) (by kernel_rfl) (by kernel_rfl) (by kernel_rfl) (fun _ _ _ h => h) (Or.inl ⟨by rfl, ?_⟩) (by first | assumption | trivial) ?_
  rotate_left
  · (intro w hSw; (try dsimp only at hSw); go_simp) <;> (with_reducible rfl)
  simp only [List.setIfInBounds_toArray, List.set_cons_zero, List.set_cons_succ]
  refine wpAnyT_take2 (i := 15) (v := ?_) rfl rfl (by kernel_rfl) (by kernel_rfl) (by kernel_rfl) (by kernel_rfl) (fun _ _ _ h => h) (Or.inl ⟨by rfl, ?_⟩) (by first | assumption | trivial) ?_
  rotate_left
  · (intro w hSw; (try dsimp only at hSw); go_simp) <;> (with_reducible rfl)
  simp only [List.setIfInBounds_toArray, List.set_cons_zero, List.set_cons_succ]
  refine wpAnyT_done (by kernel_rfl) ?_ _
  clear hHeld
  go_wp2_with fail
  refine wp_region_T (fun w' => (w'.cell? ⟨w.heap.size + 1, 0, none⟩ = some (.int .i64 0) ∧ w'.cell? ⟨w.heap.size + 1, 1, none⟩ = some (.int .i64 0) ∧ w'.cell? ⟨w.heap.size + 1, 2, none⟩ = some (.slice none 0 0) ∧ w'.cell? ⟨w.heap.size + 1, 3, none⟩ = some (.int .i64 5) ∧ w'.cell? ⟨w.heap.size + 1, 4, none⟩ = some (.string ⟨#[97]⟩) ∧ w'.cell? ⟨w.heap.size + 1, 5, none⟩ = some (.int .i64 0) ∧ w'.cell? ⟨w.heap.size + 1, 6, none⟩ = some (.int .i64 1) ∧ w'.cell? ⟨w.heap.size + 1, 7, none⟩ = some (.slice none 0 0) ∧ w'.cell? ⟨w.heap.size + 1, 8, none⟩ = some (.int .i64 9) ∧ w'.cell? ⟨w.heap.size + 1, 9, none⟩ = some (.string ⟨#[98]⟩) ∧ w'.cell? ⟨w.heap.size + 1, 10, none⟩ = some (.int .i64 1) ∧ w'.cell? ⟨w.heap.size + 1, 11, none⟩ = some (.int .i64 0) ∧ w'.cell? ⟨w.heap.size + 1, 12, none⟩ = some (.slice none 0 0) ∧ w'.cell? ⟨w.heap.size + 1, 13, none⟩ = some (.int .i64 3) ∧ w'.cell? ⟨w.heap.size + 1, 14, none⟩ = some (.string ⟨#[99]⟩) ∧ w'.cell? ⟨w.heap.size + 1, 15, none⟩ = some (.int .i64 1) ∧ w'.cell? ⟨w.heap.size + 1, 16, none⟩ = some (.int .i64 1) ∧ w'.cell? ⟨w.heap.size + 1, 17, none⟩ = some (.slice (some ⟨w.heap.size, 0, none⟩) 1 1) ∧ w'.cell? ⟨w.heap.size + 1, 18, none⟩ = some (.int .i64 4) ∧ w'.cell? ⟨w.heap.size + 1, 19, none⟩ = some (.string ⟨#[100]⟩))) (fun _ => false) (by kernel_rfl) ⟨HG4.cell 0, HG4.cell 1, HG4.cell 2, HG4.cell 3, HG4.cell 4, HG4.cell 5, HG4.cell 6, HG4.cell 7, HG4.cell 8, HG4.cell 9, HG4.cell 10, HG4.cell 11, HG4.cell 12, HG4.cell 13, HG4.cell 14, HG4.cell 15, HG4.cell 16, HG4.cell 17, HG4.cell 18, HG4.cell 19⟩ (fun hHeld => ?_)
  refine wpAnyT_take2 (i := 0) (v := ?_) rfl rfl (by kernel_rfl) (by kernel_rfl) (by kernel_rfl) (by kernel_rfl) (fun _ _ _ h => h) (Or.inl ⟨by rfl, ?_⟩) (by first | assumption | trivial) ?_
  rotate_left
  · (intro w hSw; (try dsimp only at hSw); go_simp) <;> (with_reducible rfl)
  simp only [List.setIfInBounds_toArray, List.set_cons_zero, List.set_cons_succ]
  refine wpAnyT_take2 (i := 1) (v := ?_) rfl rfl (by kernel_rfl) (by kernel_rfl) (by kernel_rfl) (by kernel_rfl) (fun _ _ _ h => h) (Or.inl ⟨by rfl, ?_⟩) (by first | assumption | trivial) ?_
  rotate_left
  · (intro w hSw; (try dsimp only at hSw); go_simp) <;> (with_reducible rfl)
  simp only [List.setIfInBounds_toArray, List.set_cons_zero, List.set_cons_succ]
  refine wpAnyT_take2 (i := 2) (v := ?_) rfl rfl (by kernel_rfl) (by kernel_rfl) (by kernel_rfl) (by kernel_rfl) (fun _ _ _ h => h) (Or.inl ⟨by rfl, ?_⟩) (by first | assumption | trivial) ?_
  rotate_left
  · (intro w hSw; (try dsimp only at hSw); go_simp) <;> (with_reducible rfl)
  simp only [List.setIfInBounds_toArray, List.set_cons_zero, List.set_cons_succ]
  refine wpAnyT_take2 (i := 3) (v := ?_) rfl rfl (by kernel_rfl) (by kernel_rfl) (by kernel_rfl) (by kernel_rfl) (fun _ _ _ h => h) (Or.inl ⟨by rfl, ?_⟩) (by first | assumption | trivial) ?_
  rotate_left
  · (intro w hSw; (try dsimp only at hSw); go_simp) <;> (with_reducible rfl)
  simp only [List.setIfInBounds_toArray, List.set_cons_zero, List.set_cons_succ]
  refine wpAnyT_take2 (i := 4) (v := ?_) rfl rfl (by kernel_rfl) (by kernel_rfl) (by kernel_rfl) (by kernel_rfl) (fun _ _ _ h => h) (Or.inl ⟨by rfl, ?_⟩) (by first | assumption | trivial) ?_
  rotate_left
  · (intro w hSw; (try dsimp only at hSw); go_simp) <;> (with_reducible rfl)
  simp only [List.setIfInBounds_toArray, List.set_cons_zero, List.set_cons_succ]
  refine wpAnyT_take2 (i := 5) (v := ?_) rfl rfl (by kernel_rfl) (by kernel_rfl) (by kernel_rfl) (by kernel_rfl) (fun _ _ _ h => h) (Or.inl ⟨by rfl, ?_⟩) (by first | assumption | trivial) ?_
  rotate_left
  · (intro w hSw; (try dsimp only at hSw); go_simp) <;> (with_reducible rfl)
  simp only [List.setIfInBounds_toArray, List.set_cons_zero, List.set_cons_succ]
  refine wpAnyT_take2 (i := 7) (v := ?_) rfl rfl (by kernel_rfl) (by kernel_rfl) (by kernel_rfl) (by kernel_rfl) (fun _ _ _ h => h) (Or.inl ⟨by rfl, ?_⟩) (by first | assumption | trivial) ?_
  rotate_left
  · (intro w hSw; (try dsimp only at hSw); go_simp) <;> (with_reducible rfl)
  simp only [List.setIfInBounds_toArray, List.set_cons_zero, List.set_cons_succ]
  refine wpAnyT_take2 (i := 8) (v := ?_) rfl rfl (by kernel_rfl) (by kernel_rfl) (by kernel_rfl) (by kernel_rfl) (fun _ _ _ h => h) (Or.inl ⟨by rfl, ?_⟩) (by first | assumption | trivial) ?_
  rotate_left
  · (intro w hSw; (try dsimp only at hSw); go_simp) <;> (with_reducible rfl)
  simp only [List.setIfInBounds_toArray, List.set_cons_zero, List.set_cons_succ]
  refine wpAnyT_take2 (i := 9) (v := ?_) rfl rfl (by kernel_rfl) (by kernel_rfl) (by kernel_rfl) (by kernel_rfl) (fun _ _ _ h => h) (Or.inl ⟨by rfl, ?_⟩) (by first | assumption | trivial) ?_
  rotate_left
  · (intro w hSw; (try dsimp only at hSw); go_simp) <;> (with_reducible rfl)
  simp only [List.setIfInBounds_toArray, List.set_cons_zero, List.set_cons_succ]
  refine wpAnyT_take2 (i := 10) (v := ?_) rfl rfl (by kernel_rfl) (by kernel_rfl) (by kernel_rfl) (by kernel_rfl) (fun _ _ _ h => h) (Or.inl ⟨by rfl, ?_⟩) (by first | assumption | trivial) ?_
  rotate_left
  · (intro w hSw; (try dsimp only at hSw); go_simp) <;> (with_reducible rfl)
  simp only [List.setIfInBounds_toArray, List.set_cons_zero, List.set_cons_succ]
  refine wpAnyT_take2 (i := 11) (v := ?_) rfl rfl (by kernel_rfl) (by kernel_rfl) (by kernel_rfl) (by kernel_rfl) (fun _ _ _ h => h) (Or.inl ⟨by rfl, ?_⟩) (by first | assumption | trivial) ?_
  rotate_left
  · (intro w hSw; (try dsimp only at hSw); go_simp) <;> (with_reducible rfl)
  simp only [List.setIfInBounds_toArray, List.set_cons_zero, List.set_cons_succ]
  refine wpAnyT_take2 (i := 12) (v := ?_) rfl rfl (by kernel_rfl) (by kernel_rfl) (by kernel_rfl) (by kernel_rfl) (fun _ _ _ h => h) (Or.inl ⟨by rfl, ?_⟩) (by first | assumption | trivial) ?_
  rotate_left
  · (intro w hSw; (try dsimp only at hSw); go_simp) <;> (with_reducible rfl)
  simp only [List.setIfInBounds_toArray, List.set_cons_zero, List.set_cons_succ]
  clear hHeld
  refine wpAnyT_two (i := 6) (j := 13) (by kernel_rfl) rfl rfl ?_ ?_
  · go_wp2_with fail
    have HG5 := HG4.alloc (.cells ([sn1, sn3].flatMap Note.enc).toArray 61)
    refine ⟨(by first | exact ⟨HG5.cell 0, HG5.cell 1, HG5.cell 2, HG5.cell 3, HG5.cell 4, HG5.cell 5, HG5.cell 6, HG5.cell 7, HG5.cell 8, HG5.cell 9, HG5.cell 10, HG5.cell 11, HG5.cell 12, HG5.cell 13, HG5.cell 14, HG5.cell 15, HG5.cell 16, HG5.cell 17, HG5.cell 18, HG5.cell 19⟩ | exact fun _ => ⟨HG5.cell 0, HG5.cell 1, HG5.cell 2, HG5.cell 3, HG5.cell 4, HG5.cell 5, HG5.cell 6, HG5.cell 7, HG5.cell 8, HG5.cell 9, HG5.cell 10, HG5.cell 11, HG5.cell 12, HG5.cell 13, HG5.cell 14, HG5.cell 15, HG5.cell 16, HG5.cell 17, HG5.cell 18, HG5.cell 19⟩), ?_⟩
    refine wpAnyT_next (i := 13) (by kernel_rfl) rfl ?_
    go_wp2_with fail
    have HG6 := HG5.alloc (.cells ([sn3, sn2].flatMap Note.enc).toArray 61)
    have HQ5 := (HQ4.alloc (.cells ([sn1, sn3].flatMap Note.enc).toArray 61)).alloc (.cells ([sn3, sn2].flatMap Note.enc).toArray 61)
    refine ⟨(by first | exact ⟨HG6.cell 0, HG6.cell 1, HG6.cell 2, HG6.cell 3, HG6.cell 4, HG6.cell 5, HG6.cell 6, HG6.cell 7, HG6.cell 8, HG6.cell 9, HG6.cell 10, HG6.cell 11, HG6.cell 12, HG6.cell 13, HG6.cell 14, HG6.cell 15, HG6.cell 16, HG6.cell 17, HG6.cell 18, HG6.cell 19⟩ | exact fun _ => ⟨HG6.cell 0, HG6.cell 1, HG6.cell 2, HG6.cell 3, HG6.cell 4, HG6.cell 5, HG6.cell 6, HG6.cell 7, HG6.cell 8, HG6.cell 9, HG6.cell 10, HG6.cell 11, HG6.cell 12, HG6.cell 13, HG6.cell 14, HG6.cell 15, HG6.cell 16, HG6.cell 17, HG6.cell 18, HG6.cell 19⟩), ?_⟩
    refine wpAnyT_next (i := 14) (by kernel_rfl) rfl ?_
    go_wp2_with fail
    have hP1 : RdNotes (· < ((w3.alloc (.cells ([sn1, sn3].flatMap Note.enc).toArray 61)).alloc (.cells ([sn3, sn2].flatMap Note.enc).toArray 61)).heap.size) ((w3.alloc (.cells ([sn1, sn3].flatMap Note.enc).toArray 61)).alloc (.cells ([sn3, sn2].flatMap Note.enc).toArray 61)) ⟨some ⟨w3.heap.size, 0, none⟩, 2, [sn1, sn3]⟩ := pick_rd (q := w.heap.size) HQ5 ((Blk.new _ _ _).alloc _) (by simp) (by simp [maxLen]) (fun n hn => by simp [sl4] at hn ⊢; rcases hn with rfl | rfl <;> simp)
    have hP2 : RdNotes (· < ((w3.alloc (.cells ([sn1, sn3].flatMap Note.enc).toArray 61)).alloc (.cells ([sn3, sn2].flatMap Note.enc).toArray 61)).heap.size) ((w3.alloc (.cells ([sn1, sn3].flatMap Note.enc).toArray 61)).alloc (.cells ([sn3, sn2].flatMap Note.enc).toArray 61)) ⟨some ⟨w3.heap.size + 1, 0, none⟩, 2, [sn3, sn2]⟩ := pick_rd (q := w.heap.size) HQ5 (Blk.new' (by simp)) (by simp) (by simp [maxLen]) (fun n hn => by simp [sl4] at hn ⊢; rcases hn with rfl | rfl <;> simp)
    refine (merge_at (w := ((w3.alloc (.cells ([sn1, sn3].flatMap Note.enc).toArray 61)).alloc (.cells ([sn3, sn2].flatMap Note.enc).toArray 61)).drew) hP1 hP2 (by simp) (r := ([sd1, sd2, sd3], 0)) some_merge).mono ?_
    rintro e w5 ⟨⟨bA, bc, bl⟩, rfl, hbl, hbr, hb5⟩
    have hbl' : bl.map Note.d = [sd1, sd2, sd3] := hbl
    have HBL := Lib.hid hbl'
    have HBR := Lib.hid ((hbr.mono (G := fun b => b < w5.heap.size) (fun b hb => hb.2)))
    have hB5' : Below w3.heap.size w3 w5 := (by repeat (first | (with_reducible exact Below.refl _ _) | ((with_reducible refine below_setr ?_ ?_); focus (first | (simp; done) | (simp; omega) | omega)) | ((with_reducible refine below_allocr ?_ ?_); focus (first | (simp; done) | (simp; omega) | omega)) | (with_reducible refine Below.drew ?_) | (with_reducible refine below_drewN ?_ _) | ((with_reducible apply below_via); focus (with_reducible assumption))))
    have hB5 : Below w.heap.size w w5 := hB3.trans (hB5'.mono hB3.size)
    have HQ7 := Lib.hid (HQ4.later hB5')
    have HG7 := Lib.hid (HG4.later hB5')
    have HX5 := Lib.hid ((HX.out.below' hB3' (Nat.le_refl _)).below' hB5' (Nat.le_refl _))
    have hz5 : w3.heap.size ≤ w5.heap.size := hB5'.size
    clear hbl hbl' hbr hb5 hP1 hP2 hB5'
    go_wp2_with fail
    refine ⟨(by first | exact ⟨HG7.out.cell 0, HG7.out.cell 1, HG7.out.cell 2, HG7.out.cell 3, HG7.out.cell 4, HG7.out.cell 5, HG7.out.cell 6, HG7.out.cell 7, HG7.out.cell 8, HG7.out.cell 9, HG7.out.cell 10, HG7.out.cell 11, HG7.out.cell 12, HG7.out.cell 13, HG7.out.cell 14, HG7.out.cell 15, HG7.out.cell 16, HG7.out.cell 17, HG7.out.cell 18, HG7.out.cell 19⟩ | exact fun _ => ⟨HG7.out.cell 0, HG7.out.cell 1, HG7.out.cell 2, HG7.out.cell 3, HG7.out.cell 4, HG7.out.cell 5, HG7.out.cell 6, HG7.out.cell 7, HG7.out.cell 8, HG7.out.cell 9, HG7.out.cell 10, HG7.out.cell 11, HG7.out.cell 12, HG7.out.cell 13, HG7.out.cell 14, HG7.out.cell 15, HG7.out.cell 16, HG7.out.cell 17, HG7.out.cell 18, HG7.out.cell 19⟩), ?_⟩
    have hHeld : (w5.cell? ⟨w.heap.size + 1, 0, none⟩ = some (.int .i64 0) ∧ w5.cell? ⟨w.heap.size + 1, 1, none⟩ = some (.int .i64 0) ∧ w5.cell? ⟨w.heap.size + 1, 2, none⟩ = some (.slice none 0 0) ∧ w5.cell? ⟨w.heap.size + 1, 3, none⟩ = some (.int .i64 5) ∧ w5.cell? ⟨w.heap.size + 1, 4, none⟩ = some (.string ⟨#[97]⟩) ∧ w5.cell? ⟨w.heap.size + 1, 5, none⟩ = some (.int .i64 0) ∧ w5.cell? ⟨w.heap.size + 1, 6, none⟩ = some (.int .i64 1) ∧ w5.cell? ⟨w.heap.size + 1, 7, none⟩ = some (.slice none 0 0) ∧ w5.cell? ⟨w.heap.size + 1, 8, none⟩ = some (.int .i64 9) ∧ w5.cell? ⟨w.heap.size + 1, 9, none⟩ = some (.string ⟨#[98]⟩) ∧ w5.cell? ⟨w.heap.size + 1, 10, none⟩ = some (.int .i64 1) ∧ w5.cell? ⟨w.heap.size + 1, 11, none⟩ = some (.int .i64 0) ∧ w5.cell? ⟨w.heap.size + 1, 12, none⟩ = some (.slice none 0 0) ∧ w5.cell? ⟨w.heap.size + 1, 13, none⟩ = some (.int .i64 3) ∧ w5.cell? ⟨w.heap.size + 1, 14, none⟩ = some (.string ⟨#[99]⟩) ∧ w5.cell? ⟨w.heap.size + 1, 15, none⟩ = some (.int .i64 1) ∧ w5.cell? ⟨w.heap.size + 1, 16, none⟩ = some (.int .i64 1) ∧ w5.cell? ⟨w.heap.size + 1, 17, none⟩ = some (.slice (some ⟨w.heap.size, 0, none⟩) 1 1) ∧ w5.cell? ⟨w.heap.size + 1, 18, none⟩ = some (.int .i64 4) ∧ w5.cell? ⟨w.heap.size + 1, 19, none⟩ = some (.string ⟨#[100]⟩)) := ⟨HG7.out.cell 0, HG7.out.cell 1, HG7.out.cell 2, HG7.out.cell 3, HG7.out.cell 4, HG7.out.cell 5, HG7.out.cell 6, HG7.out.cell 7, HG7.out.cell 8, HG7.out.cell 9, HG7.out.cell 10, HG7.out.cell 11, HG7.out.cell 12, HG7.out.cell 13, HG7.out.cell 14, HG7.out.cell 15, HG7.out.cell 16, HG7.out.cell 17, HG7.out.cell 18, HG7.out.cell 19⟩
    refine wpAnyT_take2 (i := 15) (v := ?_) rfl rfl (by kernel_rfl) (by kernel_rfl) (by kernel_rfl) (by kernel_rfl) (fun _ _ _ h => h) (Or.inl ⟨by rfl, ?_⟩) (by first | assumption | trivial) ?_
    rotate_left
    · (intro w hSw; (try dsimp only at hSw); go_simp) <;> (with_reducible rfl)
    simp only [List.setIfInBounds_toArray, List.set_cons_zero, List.set_cons_succ]
    refine wpAnyT_take2 (i := 16) (v := ?_) rfl rfl (by kernel_rfl) (by kernel_rfl) (by kernel_rfl) (by kernel_rfl) (fun _ _ _ h => h) (Or.inl ⟨by rfl, ?_⟩) (by first | assumption | trivial) ?_
    rotate_left
    · (intro w hSw; (try dsimp only at hSw); go_simp) <;> (with_reducible rfl)
    simp only [List.setIfInBounds_toArray, List.set_cons_zero, List.set_cons_succ]
    refine wpAnyT_take2 (i := 17) (v := ?_) rfl rfl (by kernel_rfl) (by kernel_rfl) (by kernel_rfl) (by kernel_rfl) (fun _ _ _ h => h) (Or.inl ⟨by rfl, ?_⟩) (by first | assumption | trivial) ?_
    rotate_left
    · (intro w hSw; (try dsimp only at hSw); go_simp) <;> (with_reducible rfl)
    simp only [List.setIfInBounds_toArray, List.set_cons_zero, List.set_cons_succ]
    refine wpAnyT_take2 (i := 18) (v := ?_) rfl rfl (by kernel_rfl) (by kernel_rfl) (by kernel_rfl) (by kernel_rfl) (fun _ _ _ h => h) (Or.inl ⟨by rfl, ?_⟩) (by first | assumption | trivial) ?_
    rotate_left
    · (intro w hSw; (try dsimp only at hSw); go_simp) <;> (with_reducible rfl)
    simp only [List.setIfInBounds_toArray, List.set_cons_zero, List.set_cons_succ]
    refine wpAnyT_take2 (i := 19) (v := ?_) rfl rfl (by kernel_rfl) (by kernel_rfl) (by kernel_rfl) (by kernel_rfl) (fun _ _ _ h => h) (Or.inl ⟨by rfl, ?_⟩) (by first | assumption | trivial) ?_
    rotate_left
    · (intro w hSw; (try dsimp only at hSw); go_simp) <;> (with_reducible rfl)
    simp only [List.setIfInBounds_toArray, List.set_cons_zero, List.set_cons_succ]
    refine wpAnyT_done (by kernel_rfl) ?_ _
    clear hHeld
    go_wp2_with fail
    have hR5 := some_rd (HQ7.out.alloc (.cells ([sx5].flatMap Note.enc).toArray 61)) (HG7.out.alloc (.cells ([sx5].flatMap Note.enc).toArray 61))
    refine (merge_at (w := w5.alloc (.cells ([sx5].flatMap Note.enc).toArray 61)) (s := ⟨some ⟨w.heap.size + 1, 0, none⟩, 4, sl4 w.heap.size⟩) (t := ⟨some ⟨w5.heap.size, 0, none⟩, 1, [sx5]⟩) hR5 ⟨rd_blk Note.k (Blk.new _ _ _) (by simp) (by simp [maxLen]), fun n hn => by rw [List.mem_singleton.1 hn]; exact Rd.nil _ _ _ _⟩ (by simp [sl4]) (r := ([], 23)) some_merge2).mono ?_
    rintro e w6 ⟨⟨zA, zc, zl⟩, rfl, hzl, _, hb6⟩
    have hB6' : Below w5.heap.size w5 w6 := (by repeat (first | (with_reducible exact Below.refl _ _) | ((with_reducible refine below_setr ?_ ?_); focus (first | (simp; done) | (simp; omega) | omega)) | ((with_reducible refine below_allocr ?_ ?_); focus (first | (simp; done) | (simp; omega) | omega)) | (with_reducible refine Below.drew ?_) | (with_reducible refine below_drewN ?_ _) | ((with_reducible apply below_via); focus (with_reducible assumption))))
    have hB6 : Below w.heap.size w w6 := hB5.trans (hB6'.mono hB5.size)
    have HQ8 := Lib.hid (HQ7.out.later hB6')
    have HG8 := Lib.hid (HG7.out.later hB6')
    have hz6 : w5.heap.size ≤ w6.heap.size := hB6'.size
    have HX6 := Lib.hid (HX5.out.below' hB6' (Nat.le_refl _))
    have HBR6 := Lib.hid (HBR.out.later hB6' (Nat.le_refl _))
    clear hzl hb6 hR5 hB6'
    go_wp2_with fail
    have hI : Calls Try.prog 39 #[.slice xA 4 xc, .slice (some ⟨w6.heap.size, 0, none⟩) 4 4] (w6.alloc (.cells (([2, 0, 1, 3] : List Int).flatMap ienc).toArray 3)) fun e w' => e = .returned (.bool true) ∧ Below (w6.alloc (.cells (([2, 0, 1, 3] : List Int).flatMap ienc).toArray 3)).heap.size (w6.alloc (.cells (([2, 0, 1, 3] : List Int).flatMap ienc).toArray 3)) w' :=
      rints ⟨xA, xc, [2, 0, 1, 3]⟩ ⟨some ⟨w6.heap.size, 0, none⟩, 4, [2, 0, 1, 3]⟩ _ (HX6.out.lt_alloc _) (rd_blk ienc_k (Blk.new _ _ _) (by simp) (by simp [maxLen]))
    refine hI.mono ?_
    rintro e w7 ⟨rfl, hb7⟩
    have hB7' : Below w6.heap.size w6 w7 := (by repeat (first | (with_reducible exact Below.refl _ _) | ((with_reducible refine below_setr ?_ ?_); focus (first | (simp; done) | (simp; omega) | omega)) | ((with_reducible refine below_allocr ?_ ?_); focus (first | (simp; done) | (simp; omega) | omega)) | (with_reducible refine Below.drew ?_) | (with_reducible refine below_drewN ?_ _) | ((with_reducible apply below_via); focus (with_reducible assumption))))
    have hB7 : Below w.heap.size w w7 := hB6.trans (hB7'.mono hB6.size)
    have HQ9 := Lib.hid (HQ8.out.later hB7')
    have HG9 := Lib.hid (HG8.out.later hB7')
    have hz7 : w6.heap.size ≤ w7.heap.size := hB7'.size
    have HBR7 := Lib.hid (HBR6.out.later hB7' (Nat.le_refl _))
    clear hb7 hI hB7'
    go_wp2_with fail
    have hL : Calls Try.prog 30 #[.slice bA bl.length bc, .slice (some ⟨w.heap.size + 1, 0, none⟩) 3 4] w7 fun e w' => e = .returned (.bool true) ∧ Below w7.heap.size w7 w' := by
      have h9 := some_rd HQ9.out HG9.out
      have := rlists ⟨bA, bc, bl⟩ ⟨some ⟨w.heap.size + 1, 0, none⟩, 4, [sn1, sn2, sn3]⟩ w7 HBR7.out ⟨rdTake h9.1 3, fun n hn => h9.2 n (by simp [sl4] at hn ⊢; rcases hn with rfl | rfl | rfl <;> simp)⟩
      simp only [HBL.out] at this
      exact this
    refine hL.mono ?_
    rintro e w8 ⟨rfl, hb8⟩
    have hB8 : Below w.heap.size w w8 := hB7.trans (hb8.mono hB7.size)
    have HQA := Lib.hid (HQ9.out.later hb8)
    have HGA := Lib.hid (HG9.out.later hb8)
    have hz8 : w7.heap.size ≤ w8.heap.size := hb8.size
    clear hL hb8
    go_wp2_with fail
    refine wp_region_T (fun w' => (w'.cell? ⟨w.heap.size + 1, 0, none⟩ = some (.int .i64 0) ∧ w'.cell? ⟨w.heap.size + 1, 1, none⟩ = some (.int .i64 0) ∧ w'.cell? ⟨w.heap.size + 1, 2, none⟩ = some (.slice none 0 0) ∧ w'.cell? ⟨w.heap.size + 1, 3, none⟩ = some (.int .i64 5) ∧ w'.cell? ⟨w.heap.size + 1, 4, none⟩ = some (.string ⟨#[97]⟩) ∧ w'.cell? ⟨w.heap.size + 1, 5, none⟩ = some (.int .i64 0) ∧ w'.cell? ⟨w.heap.size + 1, 6, none⟩ = some (.int .i64 1) ∧ w'.cell? ⟨w.heap.size + 1, 7, none⟩ = some (.slice none 0 0) ∧ w'.cell? ⟨w.heap.size + 1, 8, none⟩ = some (.int .i64 9) ∧ w'.cell? ⟨w.heap.size + 1, 9, none⟩ = some (.string ⟨#[98]⟩) ∧ w'.cell? ⟨w.heap.size + 1, 10, none⟩ = some (.int .i64 1) ∧ w'.cell? ⟨w.heap.size + 1, 11, none⟩ = some (.int .i64 0) ∧ w'.cell? ⟨w.heap.size + 1, 12, none⟩ = some (.slice none 0 0) ∧ w'.cell? ⟨w.heap.size + 1, 13, none⟩ = some (.int .i64 3) ∧ w'.cell? ⟨w.heap.size + 1, 14, none⟩ = some (.string ⟨#[99]⟩) ∧ w'.cell? ⟨w.heap.size + 1, 15, none⟩ = some (.int .i64 1) ∧ w'.cell? ⟨w.heap.size + 1, 16, none⟩ = some (.int .i64 1) ∧ w'.cell? ⟨w.heap.size + 1, 17, none⟩ = some (.slice (some ⟨w.heap.size, 0, none⟩) 1 1) ∧ w'.cell? ⟨w.heap.size + 1, 18, none⟩ = some (.int .i64 4) ∧ w'.cell? ⟨w.heap.size + 1, 19, none⟩ = some (.string ⟨#[100]⟩))) (fun _ => false) (by kernel_rfl) ⟨HGA.out.cell 0, HGA.out.cell 1, HGA.out.cell 2, HGA.out.cell 3, HGA.out.cell 4, HGA.out.cell 5, HGA.out.cell 6, HGA.out.cell 7, HGA.out.cell 8, HGA.out.cell 9, HGA.out.cell 10, HGA.out.cell 11, HGA.out.cell 12, HGA.out.cell 13, HGA.out.cell 14, HGA.out.cell 15, HGA.out.cell 16, HGA.out.cell 17, HGA.out.cell 18, HGA.out.cell 19⟩ (fun hHeld => ?_)
    refine wpAnyT_take2 (i := 0) (v := ?_) rfl rfl (by kernel_rfl) (by kernel_rfl) (by kernel_rfl) (by kernel_rfl) (fun _ _ _ h => h) (Or.inl ⟨by rfl, ?_⟩) (by first | assumption | trivial) ?_
    rotate_left
    · (intro w hSw; (try dsimp only at hSw); go_simp) <;> (with_reducible rfl)
    simp only [List.setIfInBounds_toArray, List.set_cons_zero, List.set_cons_succ]
    refine wpAnyT_take2 (i := 1) (v := ?_) rfl rfl (by kernel_rfl) (by kernel_rfl) (by kernel_rfl) (by kernel_rfl) (fun _ _ _ h => h) (Or.inl ⟨by rfl, ?_⟩) (by first | assumption | trivial) ?_
    rotate_left
    · (intro w hSw; (try dsimp only at hSw); go_simp) <;> (with_reducible rfl)
    simp only [List.setIfInBounds_toArray, List.set_cons_zero, List.set_cons_succ]
    refine wpAnyT_take2 (i := 2) (v := ?_) rfl rfl (by kernel_rfl) (by kernel_rfl) (by kernel_rfl) (by kernel_rfl) (fun _ _ _ h => h) (Or.inl ⟨by rfl, ?_⟩) (by first | assumption | trivial) ?_
    rotate_left
    · (intro w hSw; (try dsimp only at hSw); go_simp) <;> (with_reducible rfl)
    simp only [List.setIfInBounds_toArray, List.set_cons_zero, List.set_cons_succ]
    refine wpAnyT_take2 (i := 3) (v := ?_) rfl rfl (by kernel_rfl) (by kernel_rfl) (by kernel_rfl) (by kernel_rfl) (fun _ _ _ h => h) (Or.inl ⟨by rfl, ?_⟩) (by first | assumption | trivial) ?_
    rotate_left
    · (intro w hSw; (try dsimp only at hSw); go_simp) <;> (with_reducible rfl)
    simp only [List.setIfInBounds_toArray, List.set_cons_zero, List.set_cons_succ]
    refine wpAnyT_take2 (i := 4) (v := ?_) rfl rfl (by kernel_rfl) (by kernel_rfl) (by kernel_rfl) (by kernel_rfl) (fun _ _ _ h => h) (Or.inl ⟨by rfl, ?_⟩) (by first | assumption | trivial) ?_
    rotate_left
    · (intro w hSw; (try dsimp only at hSw); go_simp) <;> (with_reducible rfl)
    simp only [List.setIfInBounds_toArray, List.set_cons_zero, List.set_cons_succ]
    refine wpAnyT_take2 (i := 5) (v := ?_) rfl rfl (by kernel_rfl) (by kernel_rfl) (by kernel_rfl) (by kernel_rfl) (fun _ _ _ h => h) (Or.inl ⟨by rfl, ?_⟩) (by first | assumption | trivial) ?_
    rotate_left
    · (intro w hSw; (try dsimp only at hSw); go_simp) <;> (with_reducible rfl)
    simp only [List.setIfInBounds_toArray, List.set_cons_zero, List.set_cons_succ]
    refine wpAnyT_take2 (i := 6) (v := ?_) rfl rfl (by kernel_rfl) (by kernel_rfl) (by kernel_rfl) (by kernel_rfl) (fun _ _ _ h => h) (Or.inl ⟨by rfl, ?_⟩) (by first | assumption | trivial) ?_
    rotate_left
    · (intro w hSw; (try dsimp only at hSw); go_simp) <;> (with_reducible rfl)
    simp only [List.setIfInBounds_toArray, List.set_cons_zero, List.set_cons_succ]
    refine wpAnyT_take2 (i := 7) (v := ?_) rfl rfl (by kernel_rfl) (by kernel_rfl) (by kernel_rfl) (by kernel_rfl) (fun _ _ _ h => h) (Or.inl ⟨by rfl, ?_⟩) (by first | assumption | trivial) ?_
    rotate_left
    · (intro w hSw; (try dsimp only at hSw); go_simp) <;> (with_reducible rfl)
    simp only [List.setIfInBounds_toArray, List.set_cons_zero, List.set_cons_succ]
    clear hHeld
    refine wpAnyT_next (i := 8) (by kernel_rfl) rfl ?_
    go_wp2_with fail
    refine (mbefore sn2 (sn4 w.heap.size) w8.drew (Rd.nil _ _ _ _) (rdOne HQA.out)).mono ?_
    rintro e w9 ⟨rfl, hb9⟩
    rw [show beforeN (Note.d sn2) (Note.d (sn4 w.heap.size)) = true from some_bef1]
    have hB9' : Below w8.heap.size w8 w9 := (by repeat (first | (with_reducible exact Below.refl _ _) | ((with_reducible refine below_setr ?_ ?_); focus (first | (simp; done) | (simp; omega) | omega)) | ((with_reducible refine below_allocr ?_ ?_); focus (first | (simp; done) | (simp; omega) | omega)) | (with_reducible refine Below.drew ?_) | (with_reducible refine below_drewN ?_ _) | ((with_reducible apply below_via); focus (with_reducible assumption))))
    have HQB := Lib.hid (HQA.out.later hB9')
    have HGB := Lib.hid (HGA.out.later hB9')
    have hB9 : Below w.heap.size w w9 := hB8.trans (hB9'.mono hB8.size)
    clear hb9 hB9'
    go_wp2_with fail
    refine ⟨(by first | exact ⟨HGB.out.cell 0, HGB.out.cell 1, HGB.out.cell 2, HGB.out.cell 3, HGB.out.cell 4, HGB.out.cell 5, HGB.out.cell 6, HGB.out.cell 7, HGB.out.cell 8, HGB.out.cell 9, HGB.out.cell 10, HGB.out.cell 11, HGB.out.cell 12, HGB.out.cell 13, HGB.out.cell 14, HGB.out.cell 15, HGB.out.cell 16, HGB.out.cell 17, HGB.out.cell 18, HGB.out.cell 19⟩ | exact fun _ => ⟨HGB.out.cell 0, HGB.out.cell 1, HGB.out.cell 2, HGB.out.cell 3, HGB.out.cell 4, HGB.out.cell 5, HGB.out.cell 6, HGB.out.cell 7, HGB.out.cell 8, HGB.out.cell 9, HGB.out.cell 10, HGB.out.cell 11, HGB.out.cell 12, HGB.out.cell 13, HGB.out.cell 14, HGB.out.cell 15, HGB.out.cell 16, HGB.out.cell 17, HGB.out.cell 18, HGB.out.cell 19⟩), ?_⟩
    have hHeld : (w9.cell? ⟨w.heap.size + 1, 0, none⟩ = some (.int .i64 0) ∧ w9.cell? ⟨w.heap.size + 1, 1, none⟩ = some (.int .i64 0) ∧ w9.cell? ⟨w.heap.size + 1, 2, none⟩ = some (.slice none 0 0) ∧ w9.cell? ⟨w.heap.size + 1, 3, none⟩ = some (.int .i64 5) ∧ w9.cell? ⟨w.heap.size + 1, 4, none⟩ = some (.string ⟨#[97]⟩) ∧ w9.cell? ⟨w.heap.size + 1, 5, none⟩ = some (.int .i64 0) ∧ w9.cell? ⟨w.heap.size + 1, 6, none⟩ = some (.int .i64 1) ∧ w9.cell? ⟨w.heap.size + 1, 7, none⟩ = some (.slice none 0 0) ∧ w9.cell? ⟨w.heap.size + 1, 8, none⟩ = some (.int .i64 9) ∧ w9.cell? ⟨w.heap.size + 1, 9, none⟩ = some (.string ⟨#[98]⟩) ∧ w9.cell? ⟨w.heap.size + 1, 10, none⟩ = some (.int .i64 1) ∧ w9.cell? ⟨w.heap.size + 1, 11, none⟩ = some (.int .i64 0) ∧ w9.cell? ⟨w.heap.size + 1, 12, none⟩ = some (.slice none 0 0) ∧ w9.cell? ⟨w.heap.size + 1, 13, none⟩ = some (.int .i64 3) ∧ w9.cell? ⟨w.heap.size + 1, 14, none⟩ = some (.string ⟨#[99]⟩) ∧ w9.cell? ⟨w.heap.size + 1, 15, none⟩ = some (.int .i64 1) ∧ w9.cell? ⟨w.heap.size + 1, 16, none⟩ = some (.int .i64 1) ∧ w9.cell? ⟨w.heap.size + 1, 17, none⟩ = some (.slice (some ⟨w.heap.size, 0, none⟩) 1 1) ∧ w9.cell? ⟨w.heap.size + 1, 18, none⟩ = some (.int .i64 4) ∧ w9.cell? ⟨w.heap.size + 1, 19, none⟩ = some (.string ⟨#[100]⟩)) := ⟨HGB.out.cell 0, HGB.out.cell 1, HGB.out.cell 2, HGB.out.cell 3, HGB.out.cell 4, HGB.out.cell 5, HGB.out.cell 6, HGB.out.cell 7, HGB.out.cell 8, HGB.out.cell 9, HGB.out.cell 10, HGB.out.cell 11, HGB.out.cell 12, HGB.out.cell 13, HGB.out.cell 14, HGB.out.cell 15, HGB.out.cell 16, HGB.out.cell 17, HGB.out.cell 18, HGB.out.cell 19⟩
    refine wpAnyT_take2 (i := 9) (v := ?_) rfl rfl (by kernel_rfl) (by kernel_rfl) (by kernel_rfl) (by kernel_rfl) (fun _ _ _ h => h) (Or.inl ⟨by rfl, ?_⟩) (by first | assumption | trivial) ?_
    rotate_left
    · (intro w hSw; (try dsimp only at hSw); go_simp) <;> (with_reducible rfl)
    simp only [List.setIfInBounds_toArray, List.set_cons_zero, List.set_cons_succ]
    refine wpAnyT_take2 (i := 10) (v := ?_) rfl rfl (by kernel_rfl) (by kernel_rfl) (by kernel_rfl) (by kernel_rfl) (fun _ _ _ h => h) (Or.inl ⟨by rfl, ?_⟩) (by first | assumption | trivial) ?_
    rotate_left
    · (intro w hSw; (try dsimp only at hSw); go_simp) <;> (with_reducible rfl)
    simp only [List.setIfInBounds_toArray, List.set_cons_zero, List.set_cons_succ]
    refine wpAnyT_take2 (i := 11) (v := ?_) rfl rfl (by kernel_rfl) (by kernel_rfl) (by kernel_rfl) (by kernel_rfl) (fun _ _ _ h => h) (Or.inl ⟨by rfl, ?_⟩) (by first | assumption | trivial) ?_
    rotate_left
    · (intro w hSw; (try dsimp only at hSw); go_simp) <;> (with_reducible rfl)
    simp only [List.setIfInBounds_toArray, List.set_cons_zero, List.set_cons_succ]
    refine wpAnyT_take2 (i := 12) (v := ?_) rfl rfl (by kernel_rfl) (by kernel_rfl) (by kernel_rfl) (by kernel_rfl) (fun _ _ _ h => h) (Or.inl ⟨by rfl, ?_⟩) (by first | assumption | trivial) ?_
    rotate_left
    · (intro w hSw; (try dsimp only at hSw); go_simp) <;> (with_reducible rfl)
    simp only [List.setIfInBounds_toArray, List.set_cons_zero, List.set_cons_succ]
    refine wpAnyT_take2 (i := 13) (v := ?_) rfl rfl (by kernel_rfl) (by kernel_rfl) (by kernel_rfl) (by kernel_rfl) (fun _ _ _ h => h) (Or.inl ⟨by rfl, ?_⟩) (by first | assumption | trivial) ?_
    rotate_left
    · (intro w hSw; (try dsimp only at hSw); go_simp) <;> (with_reducible rfl)
    simp only [List.setIfInBounds_toArray, List.set_cons_zero, List.set_cons_succ]
    refine wpAnyT_take2 (i := 14) (v := ?_) rfl rfl (by kernel_rfl) (by kernel_rfl) (by kernel_rfl) (by kernel_rfl) (fun _ _ _ h => h) (Or.inl ⟨by rfl, ?_⟩) (by first | assumption | trivial) ?_
    rotate_left
    · (intro w hSw; (try dsimp only at hSw); go_simp) <;> (with_reducible rfl)
    simp only [List.setIfInBounds_toArray, List.set_cons_zero, List.set_cons_succ]
    refine wpAnyT_take2 (i := 15) (v := ?_) rfl rfl (by kernel_rfl) (by kernel_rfl) (by kernel_rfl) (by kernel_rfl) (fun _ _ _ h => h) (Or.inl ⟨by rfl, ?_⟩) (by first | assumption | trivial) ?_
    rotate_left
    · (intro w hSw; (try dsimp only at hSw); go_simp) <;> (with_reducible rfl)
    simp only [List.setIfInBounds_toArray, List.set_cons_zero, List.set_cons_succ]
    refine wpAnyT_take2 (i := 16) (v := ?_) rfl rfl (by kernel_rfl) (by kernel_rfl) (by kernel_rfl) (by kernel_rfl) (fun _ _ _ h => h) (Or.inl ⟨by rfl, ?_⟩) (by first | assumption | trivial) ?_
    rotate_left
    · (intro w hSw; (try dsimp only at hSw); go_simp) <;> (with_reducible rfl)
    simp only [List.setIfInBounds_toArray, List.set_cons_zero, List.set_cons_succ]
    clear hHeld
    refine wpAnyT_next (i := 17) (by kernel_rfl) rfl ?_
    go_wp2_with fail
    refine (mbefore sn3 sn1 w9 (Rd.nil _ _ _ _) (Rd.nil _ _ _ _)).mono ?_
    rintro e w10 ⟨rfl, hb10⟩
    rw [show beforeN (Note.d sn3) (Note.d sn1) = false from some_bef2]
    have hB10' : Below w9.heap.size w9 w10 := (by repeat (first | (with_reducible exact Below.refl _ _) | ((with_reducible refine below_setr ?_ ?_); focus (first | (simp; done) | (simp; omega) | omega)) | ((with_reducible refine below_allocr ?_ ?_); focus (first | (simp; done) | (simp; omega) | omega)) | (with_reducible refine Below.drew ?_) | (with_reducible refine below_drewN ?_ _) | ((with_reducible apply below_via); focus (with_reducible assumption))))
    have HQC := Lib.hid (HQB.out.later hB10')
    have HGC := Lib.hid (HGB.out.later hB10')
    have hB10 : Below w.heap.size w w10 := hB9.trans (hB10'.mono hB9.size)
    clear hb10 hB10'
    go_wp2_with fail
    refine ⟨(by first | exact ⟨HGC.out.cell 0, HGC.out.cell 1, HGC.out.cell 2, HGC.out.cell 3, HGC.out.cell 4, HGC.out.cell 5, HGC.out.cell 6, HGC.out.cell 7, HGC.out.cell 8, HGC.out.cell 9, HGC.out.cell 10, HGC.out.cell 11, HGC.out.cell 12, HGC.out.cell 13, HGC.out.cell 14, HGC.out.cell 15, HGC.out.cell 16, HGC.out.cell 17, HGC.out.cell 18, HGC.out.cell 19⟩ | exact fun _ => ⟨HGC.out.cell 0, HGC.out.cell 1, HGC.out.cell 2, HGC.out.cell 3, HGC.out.cell 4, HGC.out.cell 5, HGC.out.cell 6, HGC.out.cell 7, HGC.out.cell 8, HGC.out.cell 9, HGC.out.cell 10, HGC.out.cell 11, HGC.out.cell 12, HGC.out.cell 13, HGC.out.cell 14, HGC.out.cell 15, HGC.out.cell 16, HGC.out.cell 17, HGC.out.cell 18, HGC.out.cell 19⟩), ?_⟩
    have hHeld : (w10.cell? ⟨w.heap.size + 1, 0, none⟩ = some (.int .i64 0) ∧ w10.cell? ⟨w.heap.size + 1, 1, none⟩ = some (.int .i64 0) ∧ w10.cell? ⟨w.heap.size + 1, 2, none⟩ = some (.slice none 0 0) ∧ w10.cell? ⟨w.heap.size + 1, 3, none⟩ = some (.int .i64 5) ∧ w10.cell? ⟨w.heap.size + 1, 4, none⟩ = some (.string ⟨#[97]⟩) ∧ w10.cell? ⟨w.heap.size + 1, 5, none⟩ = some (.int .i64 0) ∧ w10.cell? ⟨w.heap.size + 1, 6, none⟩ = some (.int .i64 1) ∧ w10.cell? ⟨w.heap.size + 1, 7, none⟩ = some (.slice none 0 0) ∧ w10.cell? ⟨w.heap.size + 1, 8, none⟩ = some (.int .i64 9) ∧ w10.cell? ⟨w.heap.size + 1, 9, none⟩ = some (.string ⟨#[98]⟩) ∧ w10.cell? ⟨w.heap.size + 1, 10, none⟩ = some (.int .i64 1) ∧ w10.cell? ⟨w.heap.size + 1, 11, none⟩ = some (.int .i64 0) ∧ w10.cell? ⟨w.heap.size + 1, 12, none⟩ = some (.slice none 0 0) ∧ w10.cell? ⟨w.heap.size + 1, 13, none⟩ = some (.int .i64 3) ∧ w10.cell? ⟨w.heap.size + 1, 14, none⟩ = some (.string ⟨#[99]⟩) ∧ w10.cell? ⟨w.heap.size + 1, 15, none⟩ = some (.int .i64 1) ∧ w10.cell? ⟨w.heap.size + 1, 16, none⟩ = some (.int .i64 1) ∧ w10.cell? ⟨w.heap.size + 1, 17, none⟩ = some (.slice (some ⟨w.heap.size, 0, none⟩) 1 1) ∧ w10.cell? ⟨w.heap.size + 1, 18, none⟩ = some (.int .i64 4) ∧ w10.cell? ⟨w.heap.size + 1, 19, none⟩ = some (.string ⟨#[100]⟩)) := ⟨HGC.out.cell 0, HGC.out.cell 1, HGC.out.cell 2, HGC.out.cell 3, HGC.out.cell 4, HGC.out.cell 5, HGC.out.cell 6, HGC.out.cell 7, HGC.out.cell 8, HGC.out.cell 9, HGC.out.cell 10, HGC.out.cell 11, HGC.out.cell 12, HGC.out.cell 13, HGC.out.cell 14, HGC.out.cell 15, HGC.out.cell 16, HGC.out.cell 17, HGC.out.cell 18, HGC.out.cell 19⟩
    refine wpAnyT_take2 (i := 18) (v := ?_) rfl rfl (by kernel_rfl) (by kernel_rfl) (by kernel_rfl) (by kernel_rfl) (fun _ _ _ h => h) (Or.inl ⟨by rfl, ?_⟩) (by first | assumption | trivial) ?_
    rotate_left
    · (intro w hSw; (try dsimp only at hSw); go_simp) <;> (with_reducible rfl)
    simp only [List.setIfInBounds_toArray, List.set_cons_zero, List.set_cons_succ]
    refine wpAnyT_take2 (i := 19) (v := ?_) rfl rfl (by kernel_rfl) (by kernel_rfl) (by kernel_rfl) (by kernel_rfl) (fun _ _ _ h => h) (Or.inl ⟨by rfl, ?_⟩) (by first | assumption | trivial) ?_
    rotate_left
    · (intro w hSw; (try dsimp only at hSw); go_simp) <;> (with_reducible rfl)
    simp only [List.setIfInBounds_toArray, List.set_cons_zero, List.set_cons_succ]
    refine wpAnyT_take2 (i := 20) (v := ?_) rfl rfl (by kernel_rfl) (by kernel_rfl) (by kernel_rfl) (by kernel_rfl) (fun _ _ _ h => h) (Or.inl ⟨by rfl, ?_⟩) (by first | assumption | trivial) ?_
    rotate_left
    · (intro w hSw; (try dsimp only at hSw); go_simp) <;> (with_reducible rfl)
    simp only [List.setIfInBounds_toArray, List.set_cons_zero, List.set_cons_succ]
    refine wpAnyT_take2 (i := 21) (v := ?_) rfl rfl (by kernel_rfl) (by kernel_rfl) (by kernel_rfl) (by kernel_rfl) (fun _ _ _ h => h) (Or.inl ⟨by rfl, ?_⟩) (by first | assumption | trivial) ?_
    rotate_left
    · (intro w hSw; (try dsimp only at hSw); go_simp) <;> (with_reducible rfl)
    simp only [List.setIfInBounds_toArray, List.set_cons_zero, List.set_cons_succ]
    clear hHeld
    refine wpAnyT_next (i := 22) (by kernel_rfl) rfl ?_
    go_wp2_with fail
    refine (merge_right ⟨some ⟨w.heap.size + 1, 0, none⟩, 4, sl4 w.heap.size⟩ w10 (some_rd HQC.out HGC.out)).mono ?_
    rintro e w11 ⟨rfl, hb11⟩
    rw [show notesR (List.map Note.d (sl4 w.heap.size)) = true from some_right]
    have HGD := Lib.hid (HGC.out.later hb11)
    have hB11 : Below w.heap.size w w11 := hB10.trans (hb11.mono hB10.size)
    clear hb11
    go_wp2_with fail
    refine ⟨(by first | exact ⟨HGD.out.cell 0, HGD.out.cell 1, HGD.out.cell 2, HGD.out.cell 3, HGD.out.cell 4, HGD.out.cell 5, HGD.out.cell 6, HGD.out.cell 7, HGD.out.cell 8, HGD.out.cell 9, HGD.out.cell 10, HGD.out.cell 11, HGD.out.cell 12, HGD.out.cell 13, HGD.out.cell 14, HGD.out.cell 15, HGD.out.cell 16, HGD.out.cell 17, HGD.out.cell 18, HGD.out.cell 19⟩ | exact fun _ => ⟨HGD.out.cell 0, HGD.out.cell 1, HGD.out.cell 2, HGD.out.cell 3, HGD.out.cell 4, HGD.out.cell 5, HGD.out.cell 6, HGD.out.cell 7, HGD.out.cell 8, HGD.out.cell 9, HGD.out.cell 10, HGD.out.cell 11, HGD.out.cell 12, HGD.out.cell 13, HGD.out.cell 14, HGD.out.cell 15, HGD.out.cell 16, HGD.out.cell 17, HGD.out.cell 18, HGD.out.cell 19⟩), ?_⟩
    have hHeld : (w11.cell? ⟨w.heap.size + 1, 0, none⟩ = some (.int .i64 0) ∧ w11.cell? ⟨w.heap.size + 1, 1, none⟩ = some (.int .i64 0) ∧ w11.cell? ⟨w.heap.size + 1, 2, none⟩ = some (.slice none 0 0) ∧ w11.cell? ⟨w.heap.size + 1, 3, none⟩ = some (.int .i64 5) ∧ w11.cell? ⟨w.heap.size + 1, 4, none⟩ = some (.string ⟨#[97]⟩) ∧ w11.cell? ⟨w.heap.size + 1, 5, none⟩ = some (.int .i64 0) ∧ w11.cell? ⟨w.heap.size + 1, 6, none⟩ = some (.int .i64 1) ∧ w11.cell? ⟨w.heap.size + 1, 7, none⟩ = some (.slice none 0 0) ∧ w11.cell? ⟨w.heap.size + 1, 8, none⟩ = some (.int .i64 9) ∧ w11.cell? ⟨w.heap.size + 1, 9, none⟩ = some (.string ⟨#[98]⟩) ∧ w11.cell? ⟨w.heap.size + 1, 10, none⟩ = some (.int .i64 1) ∧ w11.cell? ⟨w.heap.size + 1, 11, none⟩ = some (.int .i64 0) ∧ w11.cell? ⟨w.heap.size + 1, 12, none⟩ = some (.slice none 0 0) ∧ w11.cell? ⟨w.heap.size + 1, 13, none⟩ = some (.int .i64 3) ∧ w11.cell? ⟨w.heap.size + 1, 14, none⟩ = some (.string ⟨#[99]⟩) ∧ w11.cell? ⟨w.heap.size + 1, 15, none⟩ = some (.int .i64 1) ∧ w11.cell? ⟨w.heap.size + 1, 16, none⟩ = some (.int .i64 1) ∧ w11.cell? ⟨w.heap.size + 1, 17, none⟩ = some (.slice (some ⟨w.heap.size, 0, none⟩) 1 1) ∧ w11.cell? ⟨w.heap.size + 1, 18, none⟩ = some (.int .i64 4) ∧ w11.cell? ⟨w.heap.size + 1, 19, none⟩ = some (.string ⟨#[100]⟩)) := ⟨HGD.out.cell 0, HGD.out.cell 1, HGD.out.cell 2, HGD.out.cell 3, HGD.out.cell 4, HGD.out.cell 5, HGD.out.cell 6, HGD.out.cell 7, HGD.out.cell 8, HGD.out.cell 9, HGD.out.cell 10, HGD.out.cell 11, HGD.out.cell 12, HGD.out.cell 13, HGD.out.cell 14, HGD.out.cell 15, HGD.out.cell 16, HGD.out.cell 17, HGD.out.cell 18, HGD.out.cell 19⟩
    refine wpAnyT_take2 (i := 23) (v := ?_) rfl rfl (by kernel_rfl) (by kernel_rfl) (by kernel_rfl) (by kernel_rfl) (fun _ _ _ h => h) (Or.inl ⟨by rfl, ?_⟩) (by first | assumption | trivial) ?_
    rotate_left
    · (intro w hSw; (try dsimp only at hSw); go_simp) <;> (with_reducible rfl)
    simp only [List.setIfInBounds_toArray, List.set_cons_zero, List.set_cons_succ]
    refine wpAnyT_take2 (i := 24) (v := ?_) rfl rfl (by kernel_rfl) (by kernel_rfl) (by kernel_rfl) (by kernel_rfl) (fun _ _ _ h => h) (Or.inl ⟨by rfl, ?_⟩) (by first | assumption | trivial) ?_
    rotate_left
    · (intro w hSw; (try dsimp only at hSw); go_simp) <;> (with_reducible rfl)
    simp only [List.setIfInBounds_toArray, List.set_cons_zero, List.set_cons_succ]
    refine wpAnyT_take2 (i := 25) (v := ?_) rfl rfl (by kernel_rfl) (by kernel_rfl) (by kernel_rfl) (by kernel_rfl) (fun _ _ _ h => h) (Or.inl ⟨by rfl, ?_⟩) (by first | assumption | trivial) ?_
    rotate_left
    · (intro w hSw; (try dsimp only at hSw); go_simp) <;> (with_reducible rfl)
    simp only [List.setIfInBounds_toArray, List.set_cons_zero, List.set_cons_succ]
    clear hHeld
    refine wpAnyT_next (i := 26) (by kernel_rfl) rfl ?_
    go_wp2_with fail
    have HGE := HGD.out.alloc (.cells ([sx6].flatMap Note.enc).toArray 61)
    refine ⟨(by first | exact ⟨HGE.cell 0, HGE.cell 1, HGE.cell 2, HGE.cell 3, HGE.cell 4, HGE.cell 5, HGE.cell 6, HGE.cell 7, HGE.cell 8, HGE.cell 9, HGE.cell 10, HGE.cell 11, HGE.cell 12, HGE.cell 13, HGE.cell 14, HGE.cell 15, HGE.cell 16, HGE.cell 17, HGE.cell 18, HGE.cell 19⟩ | exact fun _ => ⟨HGE.cell 0, HGE.cell 1, HGE.cell 2, HGE.cell 3, HGE.cell 4, HGE.cell 5, HGE.cell 6, HGE.cell 7, HGE.cell 8, HGE.cell 9, HGE.cell 10, HGE.cell 11, HGE.cell 12, HGE.cell 13, HGE.cell 14, HGE.cell 15, HGE.cell 16, HGE.cell 17, HGE.cell 18, HGE.cell 19⟩), ?_⟩
    refine wpAnyT_next (i := 27) (by kernel_rfl) rfl ?_
    go_wp2_with fail
    refine (merge_right ⟨some ⟨w11.heap.size, 0, none⟩, 1, [sx6]⟩ (w11.alloc (.cells ([sx6].flatMap Note.enc).toArray 61)) ⟨rd_blk Note.k (Blk.new _ _ _) (by simp) (by simp [maxLen]), fun n hn => by rw [List.mem_singleton.1 hn]; exact Rd.nil _ _ _ _⟩).mono ?_
    rintro e w12 ⟨rfl, hb12⟩
    rw [show notesR (List.map Note.d [sx6]) = false from some_right2]
    have hB12' : Below w11.heap.size w11 w12 := (by repeat (first | (with_reducible exact Below.refl _ _) | ((with_reducible refine below_setr ?_ ?_); focus (first | (simp; done) | (simp; omega) | omega)) | ((with_reducible refine below_allocr ?_ ?_); focus (first | (simp; done) | (simp; omega) | omega)) | (with_reducible refine Below.drew ?_) | (with_reducible refine below_drewN ?_ _) | ((with_reducible apply below_via); focus (with_reducible assumption))))
    have HGF := Lib.hid (HGD.out.later hB12')
    have hB12 : Below w.heap.size w w12 := hB11.trans (hB12'.mono hB11.size)
    clear hb12 hB12' HGE
    go_wp2_with fail
    refine ⟨(by first | exact ⟨HGF.out.cell 0, HGF.out.cell 1, HGF.out.cell 2, HGF.out.cell 3, HGF.out.cell 4, HGF.out.cell 5, HGF.out.cell 6, HGF.out.cell 7, HGF.out.cell 8, HGF.out.cell 9, HGF.out.cell 10, HGF.out.cell 11, HGF.out.cell 12, HGF.out.cell 13, HGF.out.cell 14, HGF.out.cell 15, HGF.out.cell 16, HGF.out.cell 17, HGF.out.cell 18, HGF.out.cell 19⟩ | exact fun _ => ⟨HGF.out.cell 0, HGF.out.cell 1, HGF.out.cell 2, HGF.out.cell 3, HGF.out.cell 4, HGF.out.cell 5, HGF.out.cell 6, HGF.out.cell 7, HGF.out.cell 8, HGF.out.cell 9, HGF.out.cell 10, HGF.out.cell 11, HGF.out.cell 12, HGF.out.cell 13, HGF.out.cell 14, HGF.out.cell 15, HGF.out.cell 16, HGF.out.cell 17, HGF.out.cell 18, HGF.out.cell 19⟩), ?_⟩
    have hHeld : (w12.cell? ⟨w.heap.size + 1, 0, none⟩ = some (.int .i64 0) ∧ w12.cell? ⟨w.heap.size + 1, 1, none⟩ = some (.int .i64 0) ∧ w12.cell? ⟨w.heap.size + 1, 2, none⟩ = some (.slice none 0 0) ∧ w12.cell? ⟨w.heap.size + 1, 3, none⟩ = some (.int .i64 5) ∧ w12.cell? ⟨w.heap.size + 1, 4, none⟩ = some (.string ⟨#[97]⟩) ∧ w12.cell? ⟨w.heap.size + 1, 5, none⟩ = some (.int .i64 0) ∧ w12.cell? ⟨w.heap.size + 1, 6, none⟩ = some (.int .i64 1) ∧ w12.cell? ⟨w.heap.size + 1, 7, none⟩ = some (.slice none 0 0) ∧ w12.cell? ⟨w.heap.size + 1, 8, none⟩ = some (.int .i64 9) ∧ w12.cell? ⟨w.heap.size + 1, 9, none⟩ = some (.string ⟨#[98]⟩) ∧ w12.cell? ⟨w.heap.size + 1, 10, none⟩ = some (.int .i64 1) ∧ w12.cell? ⟨w.heap.size + 1, 11, none⟩ = some (.int .i64 0) ∧ w12.cell? ⟨w.heap.size + 1, 12, none⟩ = some (.slice none 0 0) ∧ w12.cell? ⟨w.heap.size + 1, 13, none⟩ = some (.int .i64 3) ∧ w12.cell? ⟨w.heap.size + 1, 14, none⟩ = some (.string ⟨#[99]⟩) ∧ w12.cell? ⟨w.heap.size + 1, 15, none⟩ = some (.int .i64 1) ∧ w12.cell? ⟨w.heap.size + 1, 16, none⟩ = some (.int .i64 1) ∧ w12.cell? ⟨w.heap.size + 1, 17, none⟩ = some (.slice (some ⟨w.heap.size, 0, none⟩) 1 1) ∧ w12.cell? ⟨w.heap.size + 1, 18, none⟩ = some (.int .i64 4) ∧ w12.cell? ⟨w.heap.size + 1, 19, none⟩ = some (.string ⟨#[100]⟩)) := ⟨HGF.out.cell 0, HGF.out.cell 1, HGF.out.cell 2, HGF.out.cell 3, HGF.out.cell 4, HGF.out.cell 5, HGF.out.cell 6, HGF.out.cell 7, HGF.out.cell 8, HGF.out.cell 9, HGF.out.cell 10, HGF.out.cell 11, HGF.out.cell 12, HGF.out.cell 13, HGF.out.cell 14, HGF.out.cell 15, HGF.out.cell 16, HGF.out.cell 17, HGF.out.cell 18, HGF.out.cell 19⟩
    refine wpAnyT_take2 (i := 28) (v := ?_) rfl rfl (by kernel_rfl) (by kernel_rfl) (by kernel_rfl) (by kernel_rfl) (fun _ _ _ h => h) (Or.inl ⟨by rfl, ?_⟩) (by first | assumption | trivial) ?_
    rotate_left
    · (intro w hSw; (try dsimp only at hSw); go_simp) <;> (with_reducible rfl)
    simp only [List.setIfInBounds_toArray, List.set_cons_zero, List.set_cons_succ]
    refine wpAnyT_take2 (i := 29) (v := ?_) rfl rfl (by kernel_rfl) (by kernel_rfl) (by kernel_rfl) (by kernel_rfl) (fun _ _ _ h => h) (Or.inl ⟨by rfl, ?_⟩) (by first | assumption | trivial) ?_
    rotate_left
    · (intro w hSw; (try dsimp only at hSw); go_simp) <;> (with_reducible rfl)
    simp only [List.setIfInBounds_toArray, List.set_cons_zero, List.set_cons_succ]
    refine wpAnyT_take2 (i := 30) (v := ?_) rfl rfl (by kernel_rfl) (by kernel_rfl) (by kernel_rfl) (by kernel_rfl) (fun _ _ _ h => h) (Or.inl ⟨by rfl, ?_⟩) (by first | assumption | trivial) ?_
    rotate_left
    · (intro w hSw; (try dsimp only at hSw); go_simp) <;> (with_reducible rfl)
    simp only [List.setIfInBounds_toArray, List.set_cons_zero, List.set_cons_succ]
    refine wpAnyT_done (by kernel_rfl) ?_ _
    clear hHeld
    go_wp2_with fail
    go_ret
    exact ⟨by simp [Act.eval, go_sem], (by repeat (first | (with_reducible exact hB12) | (with_reducible exact Below.refl _ _) | ((with_reducible refine below_setr ?_ ?_); focus (first | (simp; done) | (simp; omega) | omega)) | ((with_reducible refine below_allocr ?_ ?_); focus (first | (simp; done) | (simp; omega) | omega)) | (with_reducible refine Below.drew ?_) | (with_reducible refine below_drewN ?_ _) | ((with_reducible apply below_via); focus (with_reducible assumption))))⟩
  · go_wp2_with fail
    have HG5 := HG4.alloc (.cells ([sn3, sn2].flatMap Note.enc).toArray 61)
    refine ⟨(by first | exact ⟨HG5.cell 0, HG5.cell 1, HG5.cell 2, HG5.cell 3, HG5.cell 4, HG5.cell 5, HG5.cell 6, HG5.cell 7, HG5.cell 8, HG5.cell 9, HG5.cell 10, HG5.cell 11, HG5.cell 12, HG5.cell 13, HG5.cell 14, HG5.cell 15, HG5.cell 16, HG5.cell 17, HG5.cell 18, HG5.cell 19⟩ | exact fun _ => ⟨HG5.cell 0, HG5.cell 1, HG5.cell 2, HG5.cell 3, HG5.cell 4, HG5.cell 5, HG5.cell 6, HG5.cell 7, HG5.cell 8, HG5.cell 9, HG5.cell 10, HG5.cell 11, HG5.cell 12, HG5.cell 13, HG5.cell 14, HG5.cell 15, HG5.cell 16, HG5.cell 17, HG5.cell 18, HG5.cell 19⟩), ?_⟩
    refine wpAnyT_next (i := 6) (by kernel_rfl) rfl ?_
    go_wp2_with fail
    have HG6 := HG5.alloc (.cells ([sn1, sn3].flatMap Note.enc).toArray 61)
    have HQ5 := (HQ4.alloc (.cells ([sn3, sn2].flatMap Note.enc).toArray 61)).alloc (.cells ([sn1, sn3].flatMap Note.enc).toArray 61)
    refine ⟨(by first | exact ⟨HG6.cell 0, HG6.cell 1, HG6.cell 2, HG6.cell 3, HG6.cell 4, HG6.cell 5, HG6.cell 6, HG6.cell 7, HG6.cell 8, HG6.cell 9, HG6.cell 10, HG6.cell 11, HG6.cell 12, HG6.cell 13, HG6.cell 14, HG6.cell 15, HG6.cell 16, HG6.cell 17, HG6.cell 18, HG6.cell 19⟩ | exact fun _ => ⟨HG6.cell 0, HG6.cell 1, HG6.cell 2, HG6.cell 3, HG6.cell 4, HG6.cell 5, HG6.cell 6, HG6.cell 7, HG6.cell 8, HG6.cell 9, HG6.cell 10, HG6.cell 11, HG6.cell 12, HG6.cell 13, HG6.cell 14, HG6.cell 15, HG6.cell 16, HG6.cell 17, HG6.cell 18, HG6.cell 19⟩), ?_⟩
    refine wpAnyT_next (i := 14) (by kernel_rfl) rfl ?_
    go_wp2_with fail
    have hP1 : RdNotes (· < ((w3.alloc (.cells ([sn3, sn2].flatMap Note.enc).toArray 61)).alloc (.cells ([sn1, sn3].flatMap Note.enc).toArray 61)).heap.size) ((w3.alloc (.cells ([sn3, sn2].flatMap Note.enc).toArray 61)).alloc (.cells ([sn1, sn3].flatMap Note.enc).toArray 61)) ⟨some ⟨w3.heap.size + 1, 0, none⟩, 2, [sn1, sn3]⟩ := pick_rd (q := w.heap.size) HQ5 (Blk.new' (by simp)) (by simp) (by simp [maxLen]) (fun n hn => by simp [sl4] at hn ⊢; rcases hn with rfl | rfl <;> simp)
    have hP2 : RdNotes (· < ((w3.alloc (.cells ([sn3, sn2].flatMap Note.enc).toArray 61)).alloc (.cells ([sn1, sn3].flatMap Note.enc).toArray 61)).heap.size) ((w3.alloc (.cells ([sn3, sn2].flatMap Note.enc).toArray 61)).alloc (.cells ([sn1, sn3].flatMap Note.enc).toArray 61)) ⟨some ⟨w3.heap.size, 0, none⟩, 2, [sn3, sn2]⟩ := pick_rd (q := w.heap.size) HQ5 ((Blk.new _ _ _).alloc _) (by simp) (by simp [maxLen]) (fun n hn => by simp [sl4] at hn ⊢; rcases hn with rfl | rfl <;> simp)
    refine (merge_at (w := ((w3.alloc (.cells ([sn3, sn2].flatMap Note.enc).toArray 61)).alloc (.cells ([sn1, sn3].flatMap Note.enc).toArray 61)).drew) hP1 hP2 (by simp) (r := ([sd1, sd2, sd3], 0)) some_merge).mono ?_
    rintro e w5 ⟨⟨bA, bc, bl⟩, rfl, hbl, hbr, hb5⟩
    have hbl' : bl.map Note.d = [sd1, sd2, sd3] := hbl
    have HBL := Lib.hid hbl'
    have HBR := Lib.hid ((hbr.mono (G := fun b => b < w5.heap.size) (fun b hb => hb.2)))
    have hB5' : Below w3.heap.size w3 w5 := (by repeat (first | (with_reducible exact Below.refl _ _) | ((with_reducible refine below_setr ?_ ?_); focus (first | (simp; done) | (simp; omega) | omega)) | ((with_reducible refine below_allocr ?_ ?_); focus (first | (simp; done) | (simp; omega) | omega)) | (with_reducible refine Below.drew ?_) | (with_reducible refine below_drewN ?_ _) | ((with_reducible apply below_via); focus (with_reducible assumption))))
    have hB5 : Below w.heap.size w w5 := hB3.trans (hB5'.mono hB3.size)
    have HQ7 := Lib.hid (HQ4.later hB5')
    have HG7 := Lib.hid (HG4.later hB5')
    have HX5 := Lib.hid ((HX.out.below' hB3' (Nat.le_refl _)).below' hB5' (Nat.le_refl _))
    have hz5 : w3.heap.size ≤ w5.heap.size := hB5'.size
    clear hbl hbl' hbr hb5 hP1 hP2 hB5'
    go_wp2_with fail
    refine ⟨(by first | exact ⟨HG7.out.cell 0, HG7.out.cell 1, HG7.out.cell 2, HG7.out.cell 3, HG7.out.cell 4, HG7.out.cell 5, HG7.out.cell 6, HG7.out.cell 7, HG7.out.cell 8, HG7.out.cell 9, HG7.out.cell 10, HG7.out.cell 11, HG7.out.cell 12, HG7.out.cell 13, HG7.out.cell 14, HG7.out.cell 15, HG7.out.cell 16, HG7.out.cell 17, HG7.out.cell 18, HG7.out.cell 19⟩ | exact fun _ => ⟨HG7.out.cell 0, HG7.out.cell 1, HG7.out.cell 2, HG7.out.cell 3, HG7.out.cell 4, HG7.out.cell 5, HG7.out.cell 6, HG7.out.cell 7, HG7.out.cell 8, HG7.out.cell 9, HG7.out.cell 10, HG7.out.cell 11, HG7.out.cell 12, HG7.out.cell 13, HG7.out.cell 14, HG7.out.cell 15, HG7.out.cell 16, HG7.out.cell 17, HG7.out.cell 18, HG7.out.cell 19⟩), ?_⟩
    have hHeld : (w5.cell? ⟨w.heap.size + 1, 0, none⟩ = some (.int .i64 0) ∧ w5.cell? ⟨w.heap.size + 1, 1, none⟩ = some (.int .i64 0) ∧ w5.cell? ⟨w.heap.size + 1, 2, none⟩ = some (.slice none 0 0) ∧ w5.cell? ⟨w.heap.size + 1, 3, none⟩ = some (.int .i64 5) ∧ w5.cell? ⟨w.heap.size + 1, 4, none⟩ = some (.string ⟨#[97]⟩) ∧ w5.cell? ⟨w.heap.size + 1, 5, none⟩ = some (.int .i64 0) ∧ w5.cell? ⟨w.heap.size + 1, 6, none⟩ = some (.int .i64 1) ∧ w5.cell? ⟨w.heap.size + 1, 7, none⟩ = some (.slice none 0 0) ∧ w5.cell? ⟨w.heap.size + 1, 8, none⟩ = some (.int .i64 9) ∧ w5.cell? ⟨w.heap.size + 1, 9, none⟩ = some (.string ⟨#[98]⟩) ∧ w5.cell? ⟨w.heap.size + 1, 10, none⟩ = some (.int .i64 1) ∧ w5.cell? ⟨w.heap.size + 1, 11, none⟩ = some (.int .i64 0) ∧ w5.cell? ⟨w.heap.size + 1, 12, none⟩ = some (.slice none 0 0) ∧ w5.cell? ⟨w.heap.size + 1, 13, none⟩ = some (.int .i64 3) ∧ w5.cell? ⟨w.heap.size + 1, 14, none⟩ = some (.string ⟨#[99]⟩) ∧ w5.cell? ⟨w.heap.size + 1, 15, none⟩ = some (.int .i64 1) ∧ w5.cell? ⟨w.heap.size + 1, 16, none⟩ = some (.int .i64 1) ∧ w5.cell? ⟨w.heap.size + 1, 17, none⟩ = some (.slice (some ⟨w.heap.size, 0, none⟩) 1 1) ∧ w5.cell? ⟨w.heap.size + 1, 18, none⟩ = some (.int .i64 4) ∧ w5.cell? ⟨w.heap.size + 1, 19, none⟩ = some (.string ⟨#[100]⟩)) := ⟨HG7.out.cell 0, HG7.out.cell 1, HG7.out.cell 2, HG7.out.cell 3, HG7.out.cell 4, HG7.out.cell 5, HG7.out.cell 6, HG7.out.cell 7, HG7.out.cell 8, HG7.out.cell 9, HG7.out.cell 10, HG7.out.cell 11, HG7.out.cell 12, HG7.out.cell 13, HG7.out.cell 14, HG7.out.cell 15, HG7.out.cell 16, HG7.out.cell 17, HG7.out.cell 18, HG7.out.cell 19⟩
    refine wpAnyT_take2 (i := 15) (v := ?_) rfl rfl (by kernel_rfl) (by kernel_rfl) (by kernel_rfl) (by kernel_rfl) (fun _ _ _ h => h) (Or.inl ⟨by rfl, ?_⟩) (by first | assumption | trivial) ?_
    rotate_left
    · (intro w hSw; (try dsimp only at hSw); go_simp) <;> (with_reducible rfl)
    simp only [List.setIfInBounds_toArray, List.set_cons_zero, List.set_cons_succ]
    refine wpAnyT_take2 (i := 16) (v := ?_) rfl rfl (by kernel_rfl) (by kernel_rfl) (by kernel_rfl) (by kernel_rfl) (fun _ _ _ h => h) (Or.inl ⟨by rfl, ?_⟩) (by first | assumption | trivial) ?_
    rotate_left
    · (intro w hSw; (try dsimp only at hSw); go_simp) <;> (with_reducible rfl)
    simp only [List.setIfInBounds_toArray, List.set_cons_zero, List.set_cons_succ]
    refine wpAnyT_take2 (i := 17) (v := ?_) rfl rfl (by kernel_rfl) (by kernel_rfl) (by kernel_rfl) (by kernel_rfl) (fun _ _ _ h => h) (Or.inl ⟨by rfl, ?_⟩) (by first | assumption | trivial) ?_
    rotate_left
    · (intro w hSw; (try dsimp only at hSw); go_simp) <;> (with_reducible rfl)
    simp only [List.setIfInBounds_toArray, List.set_cons_zero, List.set_cons_succ]
    refine wpAnyT_take2 (i := 18) (v := ?_) rfl rfl (by kernel_rfl) (by kernel_rfl) (by kernel_rfl) (by kernel_rfl) (fun _ _ _ h => h) (Or.inl ⟨by rfl, ?_⟩) (by first | assumption | trivial) ?_
    rotate_left
    · (intro w hSw; (try dsimp only at hSw); go_simp) <;> (with_reducible rfl)
    simp only [List.setIfInBounds_toArray, List.set_cons_zero, List.set_cons_succ]
    refine wpAnyT_take2 (i := 19) (v := ?_) rfl rfl (by kernel_rfl) (by kernel_rfl) (by kernel_rfl) (by kernel_rfl) (fun _ _ _ h => h) (Or.inl ⟨by rfl, ?_⟩) (by first | assumption | trivial) ?_
    rotate_left
    · (intro w hSw; (try dsimp only at hSw); go_simp) <;> (with_reducible rfl)
    simp only [List.setIfInBounds_toArray, List.set_cons_zero, List.set_cons_succ]
    refine wpAnyT_done (by kernel_rfl) ?_ _
    clear hHeld
    go_wp2_with fail
    have hR5 := some_rd (HQ7.out.alloc (.cells ([sx5].flatMap Note.enc).toArray 61)) (HG7.out.alloc (.cells ([sx5].flatMap Note.enc).toArray 61))
    refine (merge_at (w := w5.alloc (.cells ([sx5].flatMap Note.enc).toArray 61)) (s := ⟨some ⟨w.heap.size + 1, 0, none⟩, 4, sl4 w.heap.size⟩) (t := ⟨some ⟨w5.heap.size, 0, none⟩, 1, [sx5]⟩) hR5 ⟨rd_blk Note.k (Blk.new _ _ _) (by simp) (by simp [maxLen]), fun n hn => by rw [List.mem_singleton.1 hn]; exact Rd.nil _ _ _ _⟩ (by simp [sl4]) (r := ([], 23)) some_merge2).mono ?_
    rintro e w6 ⟨⟨zA, zc, zl⟩, rfl, hzl, _, hb6⟩
    have hB6' : Below w5.heap.size w5 w6 := (by repeat (first | (with_reducible exact Below.refl _ _) | ((with_reducible refine below_setr ?_ ?_); focus (first | (simp; done) | (simp; omega) | omega)) | ((with_reducible refine below_allocr ?_ ?_); focus (first | (simp; done) | (simp; omega) | omega)) | (with_reducible refine Below.drew ?_) | (with_reducible refine below_drewN ?_ _) | ((with_reducible apply below_via); focus (with_reducible assumption))))
    have hB6 : Below w.heap.size w w6 := hB5.trans (hB6'.mono hB5.size)
    have HQ8 := Lib.hid (HQ7.out.later hB6')
    have HG8 := Lib.hid (HG7.out.later hB6')
    have hz6 : w5.heap.size ≤ w6.heap.size := hB6'.size
    have HX6 := Lib.hid (HX5.out.below' hB6' (Nat.le_refl _))
    have HBR6 := Lib.hid (HBR.out.later hB6' (Nat.le_refl _))
    clear hzl hb6 hR5 hB6'
    go_wp2_with fail
    have hI : Calls Try.prog 39 #[.slice xA 4 xc, .slice (some ⟨w6.heap.size, 0, none⟩) 4 4] (w6.alloc (.cells (([2, 0, 1, 3] : List Int).flatMap ienc).toArray 3)) fun e w' => e = .returned (.bool true) ∧ Below (w6.alloc (.cells (([2, 0, 1, 3] : List Int).flatMap ienc).toArray 3)).heap.size (w6.alloc (.cells (([2, 0, 1, 3] : List Int).flatMap ienc).toArray 3)) w' :=
      rints ⟨xA, xc, [2, 0, 1, 3]⟩ ⟨some ⟨w6.heap.size, 0, none⟩, 4, [2, 0, 1, 3]⟩ _ (HX6.out.lt_alloc _) (rd_blk ienc_k (Blk.new _ _ _) (by simp) (by simp [maxLen]))
    refine hI.mono ?_
    rintro e w7 ⟨rfl, hb7⟩
    have hB7' : Below w6.heap.size w6 w7 := (by repeat (first | (with_reducible exact Below.refl _ _) | ((with_reducible refine below_setr ?_ ?_); focus (first | (simp; done) | (simp; omega) | omega)) | ((with_reducible refine below_allocr ?_ ?_); focus (first | (simp; done) | (simp; omega) | omega)) | (with_reducible refine Below.drew ?_) | (with_reducible refine below_drewN ?_ _) | ((with_reducible apply below_via); focus (with_reducible assumption))))
    have hB7 : Below w.heap.size w w7 := hB6.trans (hB7'.mono hB6.size)
    have HQ9 := Lib.hid (HQ8.out.later hB7')
    have HG9 := Lib.hid (HG8.out.later hB7')
    have hz7 : w6.heap.size ≤ w7.heap.size := hB7'.size
    have HBR7 := Lib.hid (HBR6.out.later hB7' (Nat.le_refl _))
    clear hb7 hI hB7'
    go_wp2_with fail
    have hL : Calls Try.prog 30 #[.slice bA bl.length bc, .slice (some ⟨w.heap.size + 1, 0, none⟩) 3 4] w7 fun e w' => e = .returned (.bool true) ∧ Below w7.heap.size w7 w' := by
      have h9 := some_rd HQ9.out HG9.out
      have := rlists ⟨bA, bc, bl⟩ ⟨some ⟨w.heap.size + 1, 0, none⟩, 4, [sn1, sn2, sn3]⟩ w7 HBR7.out ⟨rdTake h9.1 3, fun n hn => h9.2 n (by simp [sl4] at hn ⊢; rcases hn with rfl | rfl | rfl <;> simp)⟩
      simp only [HBL.out] at this
      exact this
    refine hL.mono ?_
    rintro e w8 ⟨rfl, hb8⟩
    have hB8 : Below w.heap.size w w8 := hB7.trans (hb8.mono hB7.size)
    have HQA := Lib.hid (HQ9.out.later hb8)
    have HGA := Lib.hid (HG9.out.later hb8)
    have hz8 : w7.heap.size ≤ w8.heap.size := hb8.size
    clear hL hb8
    go_wp2_with fail
    refine wp_region_T (fun w' => (w'.cell? ⟨w.heap.size + 1, 0, none⟩ = some (.int .i64 0) ∧ w'.cell? ⟨w.heap.size + 1, 1, none⟩ = some (.int .i64 0) ∧ w'.cell? ⟨w.heap.size + 1, 2, none⟩ = some (.slice none 0 0) ∧ w'.cell? ⟨w.heap.size + 1, 3, none⟩ = some (.int .i64 5) ∧ w'.cell? ⟨w.heap.size + 1, 4, none⟩ = some (.string ⟨#[97]⟩) ∧ w'.cell? ⟨w.heap.size + 1, 5, none⟩ = some (.int .i64 0) ∧ w'.cell? ⟨w.heap.size + 1, 6, none⟩ = some (.int .i64 1) ∧ w'.cell? ⟨w.heap.size + 1, 7, none⟩ = some (.slice none 0 0) ∧ w'.cell? ⟨w.heap.size + 1, 8, none⟩ = some (.int .i64 9) ∧ w'.cell? ⟨w.heap.size + 1, 9, none⟩ = some (.string ⟨#[98]⟩) ∧ w'.cell? ⟨w.heap.size + 1, 10, none⟩ = some (.int .i64 1) ∧ w'.cell? ⟨w.heap.size + 1, 11, none⟩ = some (.int .i64 0) ∧ w'.cell? ⟨w.heap.size + 1, 12, none⟩ = some (.slice none 0 0) ∧ w'.cell? ⟨w.heap.size + 1, 13, none⟩ = some (.int .i64 3) ∧ w'.cell? ⟨w.heap.size + 1, 14, none⟩ = some (.string ⟨#[99]⟩) ∧ w'.cell? ⟨w.heap.size + 1, 15, none⟩ = some (.int .i64 1) ∧ w'.cell? ⟨w.heap.size + 1, 16, none⟩ = some (.int .i64 1) ∧ w'.cell? ⟨w.heap.size + 1, 17, none⟩ = some (.slice (some ⟨w.heap.size, 0, none⟩) 1 1) ∧ w'.cell? ⟨w.heap.size + 1, 18, none⟩ = some (.int .i64 4) ∧ w'.cell? ⟨w.heap.size + 1, 19, none⟩ = some (.string ⟨#[100]⟩))) (fun _ => false) (by kernel_rfl) ⟨HGA.out.cell 0, HGA.out.cell 1, HGA.out.cell 2, HGA.out.cell 3, HGA.out.cell 4, HGA.out.cell 5, HGA.out.cell 6, HGA.out.cell 7, HGA.out.cell 8, HGA.out.cell 9, HGA.out.cell 10, HGA.out.cell 11, HGA.out.cell 12, HGA.out.cell 13, HGA.out.cell 14, HGA.out.cell 15, HGA.out.cell 16, HGA.out.cell 17, HGA.out.cell 18, HGA.out.cell 19⟩ (fun hHeld => ?_)
    refine wpAnyT_take2 (i := 0) (v := ?_) rfl rfl (by kernel_rfl) (by kernel_rfl) (by kernel_rfl) (by kernel_rfl) (fun _ _ _ h => h) (Or.inl ⟨by rfl, ?_⟩) (by first | assumption | trivial) ?_
    rotate_left
    · (intro w hSw; (try dsimp only at hSw); go_simp) <;> (with_reducible rfl)
    simp only [List.setIfInBounds_toArray, List.set_cons_zero, List.set_cons_succ]
    refine wpAnyT_take2 (i := 1) (v := ?_) rfl rfl (by kernel_rfl) (by kernel_rfl) (by kernel_rfl) (by kernel_rfl) (fun _ _ _ h => h) (Or.inl ⟨by rfl, ?_⟩) (by first | assumption | trivial) ?_
    rotate_left
    · (intro w hSw; (try dsimp only at hSw); go_simp) <;> (with_reducible rfl)
    simp only [List.setIfInBounds_toArray, List.set_cons_zero, List.set_cons_succ]
    refine wpAnyT_take2 (i := 2) (v := ?_) rfl rfl (by kernel_rfl) (by kernel_rfl) (by kernel_rfl) (by kernel_rfl) (fun _ _ _ h => h) (Or.inl ⟨by rfl, ?_⟩) (by first | assumption | trivial) ?_
    rotate_left
    · (intro w hSw; (try dsimp only at hSw); go_simp) <;> (with_reducible rfl)
    simp only [List.setIfInBounds_toArray, List.set_cons_zero, List.set_cons_succ]
    refine wpAnyT_take2 (i := 3) (v := ?_) rfl rfl (by kernel_rfl) (by kernel_rfl) (by kernel_rfl) (by kernel_rfl) (fun _ _ _ h => h) (Or.inl ⟨by rfl, ?_⟩) (by first | assumption | trivial) ?_
    rotate_left
    · (intro w hSw; (try dsimp only at hSw); go_simp) <;> (with_reducible rfl)
    simp only [List.setIfInBounds_toArray, List.set_cons_zero, List.set_cons_succ]
    refine wpAnyT_take2 (i := 4) (v := ?_) rfl rfl (by kernel_rfl) (by kernel_rfl) (by kernel_rfl) (by kernel_rfl) (fun _ _ _ h => h) (Or.inl ⟨by rfl, ?_⟩) (by first | assumption | trivial) ?_
    rotate_left
    · (intro w hSw; (try dsimp only at hSw); go_simp) <;> (with_reducible rfl)
    simp only [List.setIfInBounds_toArray, List.set_cons_zero, List.set_cons_succ]
    refine wpAnyT_take2 (i := 5) (v := ?_) rfl rfl (by kernel_rfl) (by kernel_rfl) (by kernel_rfl) (by kernel_rfl) (fun _ _ _ h => h) (Or.inl ⟨by rfl, ?_⟩) (by first | assumption | trivial) ?_
    rotate_left
    · (intro w hSw; (try dsimp only at hSw); go_simp) <;> (with_reducible rfl)
    simp only [List.setIfInBounds_toArray, List.set_cons_zero, List.set_cons_succ]
    refine wpAnyT_take2 (i := 6) (v := ?_) rfl rfl (by kernel_rfl) (by kernel_rfl) (by kernel_rfl) (by kernel_rfl) (fun _ _ _ h => h) (Or.inl ⟨by rfl, ?_⟩) (by first | assumption | trivial) ?_
    rotate_left
    · (intro w hSw; (try dsimp only at hSw); go_simp) <;> (with_reducible rfl)
    simp only [List.setIfInBounds_toArray, List.set_cons_zero, List.set_cons_succ]
    refine wpAnyT_take2 (i := 7) (v := ?_) rfl rfl (by kernel_rfl) (by kernel_rfl) (by kernel_rfl) (by kernel_rfl) (fun _ _ _ h => h) (Or.inl ⟨by rfl, ?_⟩) (by first | assumption | trivial) ?_
    rotate_left
    · (intro w hSw; (try dsimp only at hSw); go_simp) <;> (with_reducible rfl)
    simp only [List.setIfInBounds_toArray, List.set_cons_zero, List.set_cons_succ]
    clear hHeld
    refine wpAnyT_next (i := 8) (by kernel_rfl) rfl ?_
    go_wp2_with fail
    refine (mbefore sn2 (sn4 w.heap.size) w8.drew (Rd.nil _ _ _ _) (rdOne HQA.out)).mono ?_
    rintro e w9 ⟨rfl, hb9⟩
    rw [show beforeN (Note.d sn2) (Note.d (sn4 w.heap.size)) = true from some_bef1]
    have hB9' : Below w8.heap.size w8 w9 := (by repeat (first | (with_reducible exact Below.refl _ _) | ((with_reducible refine below_setr ?_ ?_); focus (first | (simp; done) | (simp; omega) | omega)) | ((with_reducible refine below_allocr ?_ ?_); focus (first | (simp; done) | (simp; omega) | omega)) | (with_reducible refine Below.drew ?_) | (with_reducible refine below_drewN ?_ _) | ((with_reducible apply below_via); focus (with_reducible assumption))))
    have HQB := Lib.hid (HQA.out.later hB9')
    have HGB := Lib.hid (HGA.out.later hB9')
    have hB9 : Below w.heap.size w w9 := hB8.trans (hB9'.mono hB8.size)
    clear hb9 hB9'
    go_wp2_with fail
    refine ⟨(by first | exact ⟨HGB.out.cell 0, HGB.out.cell 1, HGB.out.cell 2, HGB.out.cell 3, HGB.out.cell 4, HGB.out.cell 5, HGB.out.cell 6, HGB.out.cell 7, HGB.out.cell 8, HGB.out.cell 9, HGB.out.cell 10, HGB.out.cell 11, HGB.out.cell 12, HGB.out.cell 13, HGB.out.cell 14, HGB.out.cell 15, HGB.out.cell 16, HGB.out.cell 17, HGB.out.cell 18, HGB.out.cell 19⟩ | exact fun _ => ⟨HGB.out.cell 0, HGB.out.cell 1, HGB.out.cell 2, HGB.out.cell 3, HGB.out.cell 4, HGB.out.cell 5, HGB.out.cell 6, HGB.out.cell 7, HGB.out.cell 8, HGB.out.cell 9, HGB.out.cell 10, HGB.out.cell 11, HGB.out.cell 12, HGB.out.cell 13, HGB.out.cell 14, HGB.out.cell 15, HGB.out.cell 16, HGB.out.cell 17, HGB.out.cell 18, HGB.out.cell 19⟩), ?_⟩
    have hHeld : (w9.cell? ⟨w.heap.size + 1, 0, none⟩ = some (.int .i64 0) ∧ w9.cell? ⟨w.heap.size + 1, 1, none⟩ = some (.int .i64 0) ∧ w9.cell? ⟨w.heap.size + 1, 2, none⟩ = some (.slice none 0 0) ∧ w9.cell? ⟨w.heap.size + 1, 3, none⟩ = some (.int .i64 5) ∧ w9.cell? ⟨w.heap.size + 1, 4, none⟩ = some (.string ⟨#[97]⟩) ∧ w9.cell? ⟨w.heap.size + 1, 5, none⟩ = some (.int .i64 0) ∧ w9.cell? ⟨w.heap.size + 1, 6, none⟩ = some (.int .i64 1) ∧ w9.cell? ⟨w.heap.size + 1, 7, none⟩ = some (.slice none 0 0) ∧ w9.cell? ⟨w.heap.size + 1, 8, none⟩ = some (.int .i64 9) ∧ w9.cell? ⟨w.heap.size + 1, 9, none⟩ = some (.string ⟨#[98]⟩) ∧ w9.cell? ⟨w.heap.size + 1, 10, none⟩ = some (.int .i64 1) ∧ w9.cell? ⟨w.heap.size + 1, 11, none⟩ = some (.int .i64 0) ∧ w9.cell? ⟨w.heap.size + 1, 12, none⟩ = some (.slice none 0 0) ∧ w9.cell? ⟨w.heap.size + 1, 13, none⟩ = some (.int .i64 3) ∧ w9.cell? ⟨w.heap.size + 1, 14, none⟩ = some (.string ⟨#[99]⟩) ∧ w9.cell? ⟨w.heap.size + 1, 15, none⟩ = some (.int .i64 1) ∧ w9.cell? ⟨w.heap.size + 1, 16, none⟩ = some (.int .i64 1) ∧ w9.cell? ⟨w.heap.size + 1, 17, none⟩ = some (.slice (some ⟨w.heap.size, 0, none⟩) 1 1) ∧ w9.cell? ⟨w.heap.size + 1, 18, none⟩ = some (.int .i64 4) ∧ w9.cell? ⟨w.heap.size + 1, 19, none⟩ = some (.string ⟨#[100]⟩)) := ⟨HGB.out.cell 0, HGB.out.cell 1, HGB.out.cell 2, HGB.out.cell 3, HGB.out.cell 4, HGB.out.cell 5, HGB.out.cell 6, HGB.out.cell 7, HGB.out.cell 8, HGB.out.cell 9, HGB.out.cell 10, HGB.out.cell 11, HGB.out.cell 12, HGB.out.cell 13, HGB.out.cell 14, HGB.out.cell 15, HGB.out.cell 16, HGB.out.cell 17, HGB.out.cell 18, HGB.out.cell 19⟩
    refine wpAnyT_take2 (i := 9) (v := ?_) rfl rfl (by kernel_rfl) (by kernel_rfl) (by kernel_rfl) (by kernel_rfl) (fun _ _ _ h => h) (Or.inl ⟨by rfl, ?_⟩) (by first | assumption | trivial) ?_
    rotate_left
    · (intro w hSw; (try dsimp only at hSw); go_simp) <;> (with_reducible rfl)
    simp only [List.setIfInBounds_toArray, List.set_cons_zero, List.set_cons_succ]
    refine wpAnyT_take2 (i := 10) (v := ?_) rfl rfl (by kernel_rfl) (by kernel_rfl) (by kernel_rfl) (by kernel_rfl) (fun _ _ _ h => h) (Or.inl ⟨by rfl, ?_⟩) (by first | assumption | trivial) ?_
    rotate_left
    · (intro w hSw; (try dsimp only at hSw); go_simp) <;> (with_reducible rfl)
    simp only [List.setIfInBounds_toArray, List.set_cons_zero, List.set_cons_succ]
    refine wpAnyT_take2 (i := 11) (v := ?_) rfl rfl (by kernel_rfl) (by kernel_rfl) (by kernel_rfl) (by kernel_rfl) (fun _ _ _ h => h) (Or.inl ⟨by rfl, ?_⟩) (by first | assumption | trivial) ?_
    rotate_left
    · (intro w hSw; (try dsimp only at hSw); go_simp) <;> (with_reducible rfl)
    simp only [List.setIfInBounds_toArray, List.set_cons_zero, List.set_cons_succ]
    refine wpAnyT_take2 (i := 12) (v := ?_) rfl rfl (by kernel_rfl) (by kernel_rfl) (by kernel_rfl) (by kernel_rfl) (fun _ _ _ h => h) (Or.inl ⟨by rfl, ?_⟩) (by first | assumption | trivial) ?_
    rotate_left
    · (intro w hSw; (try dsimp only at hSw); go_simp) <;> (with_reducible rfl)
    simp only [List.setIfInBounds_toArray, List.set_cons_zero, List.set_cons_succ]
    refine wpAnyT_take2 (i := 13) (v := ?_) rfl rfl (by kernel_rfl) (by kernel_rfl) (by kernel_rfl) (by kernel_rfl) (fun _ _ _ h => h) (Or.inl ⟨by rfl, ?_⟩) (by first | assumption | trivial) ?_
    rotate_left
    · (intro w hSw; (try dsimp only at hSw); go_simp) <;> (with_reducible rfl)
    simp only [List.setIfInBounds_toArray, List.set_cons_zero, List.set_cons_succ]
    refine wpAnyT_take2 (i := 14) (v := ?_) rfl rfl (by kernel_rfl) (by kernel_rfl) (by kernel_rfl) (by kernel_rfl) (fun _ _ _ h => h) (Or.inl ⟨by rfl, ?_⟩) (by first | assumption | trivial) ?_
    rotate_left
    · (intro w hSw; (try dsimp only at hSw); go_simp) <;> (with_reducible rfl)
    simp only [List.setIfInBounds_toArray, List.set_cons_zero, List.set_cons_succ]
    refine wpAnyT_take2 (i := 15) (v := ?_) rfl rfl (by kernel_rfl) (by kernel_rfl) (by kernel_rfl) (by kernel_rfl) (fun _ _ _ h => h) (Or.inl ⟨by rfl, ?_⟩) (by first | assumption | trivial) ?_
    rotate_left
    · (intro w hSw; (try dsimp only at hSw); go_simp) <;> (with_reducible rfl)
    simp only [List.setIfInBounds_toArray, List.set_cons_zero, List.set_cons_succ]
    refine wpAnyT_take2 (i := 16) (v := ?_) rfl rfl (by kernel_rfl) (by kernel_rfl) (by kernel_rfl) (by kernel_rfl) (fun _ _ _ h => h) (Or.inl ⟨by rfl, ?_⟩) (by first | assumption | trivial) ?_
    rotate_left
    · (intro w hSw; (try dsimp only at hSw); go_simp) <;> (with_reducible rfl)
    simp only [List.setIfInBounds_toArray, List.set_cons_zero, List.set_cons_succ]
    clear hHeld
    refine wpAnyT_next (i := 17) (by kernel_rfl) rfl ?_
    go_wp2_with fail
    refine (mbefore sn3 sn1 w9 (Rd.nil _ _ _ _) (Rd.nil _ _ _ _)).mono ?_
    rintro e w10 ⟨rfl, hb10⟩
    rw [show beforeN (Note.d sn3) (Note.d sn1) = false from some_bef2]
    have hB10' : Below w9.heap.size w9 w10 := (by repeat (first | (with_reducible exact Below.refl _ _) | ((with_reducible refine below_setr ?_ ?_); focus (first | (simp; done) | (simp; omega) | omega)) | ((with_reducible refine below_allocr ?_ ?_); focus (first | (simp; done) | (simp; omega) | omega)) | (with_reducible refine Below.drew ?_) | (with_reducible refine below_drewN ?_ _) | ((with_reducible apply below_via); focus (with_reducible assumption))))
    have HQC := Lib.hid (HQB.out.later hB10')
    have HGC := Lib.hid (HGB.out.later hB10')
    have hB10 : Below w.heap.size w w10 := hB9.trans (hB10'.mono hB9.size)
    clear hb10 hB10'
    go_wp2_with fail
    refine ⟨(by first | exact ⟨HGC.out.cell 0, HGC.out.cell 1, HGC.out.cell 2, HGC.out.cell 3, HGC.out.cell 4, HGC.out.cell 5, HGC.out.cell 6, HGC.out.cell 7, HGC.out.cell 8, HGC.out.cell 9, HGC.out.cell 10, HGC.out.cell 11, HGC.out.cell 12, HGC.out.cell 13, HGC.out.cell 14, HGC.out.cell 15, HGC.out.cell 16, HGC.out.cell 17, HGC.out.cell 18, HGC.out.cell 19⟩ | exact fun _ => ⟨HGC.out.cell 0, HGC.out.cell 1, HGC.out.cell 2, HGC.out.cell 3, HGC.out.cell 4, HGC.out.cell 5, HGC.out.cell 6, HGC.out.cell 7, HGC.out.cell 8, HGC.out.cell 9, HGC.out.cell 10, HGC.out.cell 11, HGC.out.cell 12, HGC.out.cell 13, HGC.out.cell 14, HGC.out.cell 15, HGC.out.cell 16, HGC.out.cell 17, HGC.out.cell 18, HGC.out.cell 19⟩), ?_⟩
    have hHeld : (w10.cell? ⟨w.heap.size + 1, 0, none⟩ = some (.int .i64 0) ∧ w10.cell? ⟨w.heap.size + 1, 1, none⟩ = some (.int .i64 0) ∧ w10.cell? ⟨w.heap.size + 1, 2, none⟩ = some (.slice none 0 0) ∧ w10.cell? ⟨w.heap.size + 1, 3, none⟩ = some (.int .i64 5) ∧ w10.cell? ⟨w.heap.size + 1, 4, none⟩ = some (.string ⟨#[97]⟩) ∧ w10.cell? ⟨w.heap.size + 1, 5, none⟩ = some (.int .i64 0) ∧ w10.cell? ⟨w.heap.size + 1, 6, none⟩ = some (.int .i64 1) ∧ w10.cell? ⟨w.heap.size + 1, 7, none⟩ = some (.slice none 0 0) ∧ w10.cell? ⟨w.heap.size + 1, 8, none⟩ = some (.int .i64 9) ∧ w10.cell? ⟨w.heap.size + 1, 9, none⟩ = some (.string ⟨#[98]⟩) ∧ w10.cell? ⟨w.heap.size + 1, 10, none⟩ = some (.int .i64 1) ∧ w10.cell? ⟨w.heap.size + 1, 11, none⟩ = some (.int .i64 0) ∧ w10.cell? ⟨w.heap.size + 1, 12, none⟩ = some (.slice none 0 0) ∧ w10.cell? ⟨w.heap.size + 1, 13, none⟩ = some (.int .i64 3) ∧ w10.cell? ⟨w.heap.size + 1, 14, none⟩ = some (.string ⟨#[99]⟩) ∧ w10.cell? ⟨w.heap.size + 1, 15, none⟩ = some (.int .i64 1) ∧ w10.cell? ⟨w.heap.size + 1, 16, none⟩ = some (.int .i64 1) ∧ w10.cell? ⟨w.heap.size + 1, 17, none⟩ = some (.slice (some ⟨w.heap.size, 0, none⟩) 1 1) ∧ w10.cell? ⟨w.heap.size + 1, 18, none⟩ = some (.int .i64 4) ∧ w10.cell? ⟨w.heap.size + 1, 19, none⟩ = some (.string ⟨#[100]⟩)) := ⟨HGC.out.cell 0, HGC.out.cell 1, HGC.out.cell 2, HGC.out.cell 3, HGC.out.cell 4, HGC.out.cell 5, HGC.out.cell 6, HGC.out.cell 7, HGC.out.cell 8, HGC.out.cell 9, HGC.out.cell 10, HGC.out.cell 11, HGC.out.cell 12, HGC.out.cell 13, HGC.out.cell 14, HGC.out.cell 15, HGC.out.cell 16, HGC.out.cell 17, HGC.out.cell 18, HGC.out.cell 19⟩
    refine wpAnyT_take2 (i := 18) (v := ?_) rfl rfl (by kernel_rfl) (by kernel_rfl) (by kernel_rfl) (by kernel_rfl) (fun _ _ _ h => h) (Or.inl ⟨by rfl, ?_⟩) (by first | assumption | trivial) ?_
    rotate_left
    · (intro w hSw; (try dsimp only at hSw); go_simp) <;> (with_reducible rfl)
    simp only [List.setIfInBounds_toArray, List.set_cons_zero, List.set_cons_succ]
    refine wpAnyT_take2 (i := 19) (v := ?_) rfl rfl (by kernel_rfl) (by kernel_rfl) (by kernel_rfl) (by kernel_rfl) (fun _ _ _ h => h) (Or.inl ⟨by rfl, ?_⟩) (by first | assumption | trivial) ?_
    rotate_left
    · (intro w hSw; (try dsimp only at hSw); go_simp) <;> (with_reducible rfl)
    simp only [List.setIfInBounds_toArray, List.set_cons_zero, List.set_cons_succ]
    refine wpAnyT_take2 (i := 20) (v := ?_) rfl rfl (by kernel_rfl) (by kernel_rfl) (by kernel_rfl) (by kernel_rfl) (fun _ _ _ h => h) (Or.inl ⟨by rfl, ?_⟩) (by first | assumption | trivial) ?_
    rotate_left
    · (intro w hSw; (try dsimp only at hSw); go_simp) <;> (with_reducible rfl)
    simp only [List.setIfInBounds_toArray, List.set_cons_zero, List.set_cons_succ]
    refine wpAnyT_take2 (i := 21) (v := ?_) rfl rfl (by kernel_rfl) (by kernel_rfl) (by kernel_rfl) (by kernel_rfl) (fun _ _ _ h => h) (Or.inl ⟨by rfl, ?_⟩) (by first | assumption | trivial) ?_
    rotate_left
    · (intro w hSw; (try dsimp only at hSw); go_simp) <;> (with_reducible rfl)
    simp only [List.setIfInBounds_toArray, List.set_cons_zero, List.set_cons_succ]
    clear hHeld
    refine wpAnyT_next (i := 22) (by kernel_rfl) rfl ?_
    go_wp2_with fail
    refine (merge_right ⟨some ⟨w.heap.size + 1, 0, none⟩, 4, sl4 w.heap.size⟩ w10 (some_rd HQC.out HGC.out)).mono ?_
    rintro e w11 ⟨rfl, hb11⟩
    rw [show notesR (List.map Note.d (sl4 w.heap.size)) = true from some_right]
    have HGD := Lib.hid (HGC.out.later hb11)
    have hB11 : Below w.heap.size w w11 := hB10.trans (hb11.mono hB10.size)
    clear hb11
    go_wp2_with fail
    refine ⟨(by first | exact ⟨HGD.out.cell 0, HGD.out.cell 1, HGD.out.cell 2, HGD.out.cell 3, HGD.out.cell 4, HGD.out.cell 5, HGD.out.cell 6, HGD.out.cell 7, HGD.out.cell 8, HGD.out.cell 9, HGD.out.cell 10, HGD.out.cell 11, HGD.out.cell 12, HGD.out.cell 13, HGD.out.cell 14, HGD.out.cell 15, HGD.out.cell 16, HGD.out.cell 17, HGD.out.cell 18, HGD.out.cell 19⟩ | exact fun _ => ⟨HGD.out.cell 0, HGD.out.cell 1, HGD.out.cell 2, HGD.out.cell 3, HGD.out.cell 4, HGD.out.cell 5, HGD.out.cell 6, HGD.out.cell 7, HGD.out.cell 8, HGD.out.cell 9, HGD.out.cell 10, HGD.out.cell 11, HGD.out.cell 12, HGD.out.cell 13, HGD.out.cell 14, HGD.out.cell 15, HGD.out.cell 16, HGD.out.cell 17, HGD.out.cell 18, HGD.out.cell 19⟩), ?_⟩
    have hHeld : (w11.cell? ⟨w.heap.size + 1, 0, none⟩ = some (.int .i64 0) ∧ w11.cell? ⟨w.heap.size + 1, 1, none⟩ = some (.int .i64 0) ∧ w11.cell? ⟨w.heap.size + 1, 2, none⟩ = some (.slice none 0 0) ∧ w11.cell? ⟨w.heap.size + 1, 3, none⟩ = some (.int .i64 5) ∧ w11.cell? ⟨w.heap.size + 1, 4, none⟩ = some (.string ⟨#[97]⟩) ∧ w11.cell? ⟨w.heap.size + 1, 5, none⟩ = some (.int .i64 0) ∧ w11.cell? ⟨w.heap.size + 1, 6, none⟩ = some (.int .i64 1) ∧ w11.cell? ⟨w.heap.size + 1, 7, none⟩ = some (.slice none 0 0) ∧ w11.cell? ⟨w.heap.size + 1, 8, none⟩ = some (.int .i64 9) ∧ w11.cell? ⟨w.heap.size + 1, 9, none⟩ = some (.string ⟨#[98]⟩) ∧ w11.cell? ⟨w.heap.size + 1, 10, none⟩ = some (.int .i64 1) ∧ w11.cell? ⟨w.heap.size + 1, 11, none⟩ = some (.int .i64 0) ∧ w11.cell? ⟨w.heap.size + 1, 12, none⟩ = some (.slice none 0 0) ∧ w11.cell? ⟨w.heap.size + 1, 13, none⟩ = some (.int .i64 3) ∧ w11.cell? ⟨w.heap.size + 1, 14, none⟩ = some (.string ⟨#[99]⟩) ∧ w11.cell? ⟨w.heap.size + 1, 15, none⟩ = some (.int .i64 1) ∧ w11.cell? ⟨w.heap.size + 1, 16, none⟩ = some (.int .i64 1) ∧ w11.cell? ⟨w.heap.size + 1, 17, none⟩ = some (.slice (some ⟨w.heap.size, 0, none⟩) 1 1) ∧ w11.cell? ⟨w.heap.size + 1, 18, none⟩ = some (.int .i64 4) ∧ w11.cell? ⟨w.heap.size + 1, 19, none⟩ = some (.string ⟨#[100]⟩)) := ⟨HGD.out.cell 0, HGD.out.cell 1, HGD.out.cell 2, HGD.out.cell 3, HGD.out.cell 4, HGD.out.cell 5, HGD.out.cell 6, HGD.out.cell 7, HGD.out.cell 8, HGD.out.cell 9, HGD.out.cell 10, HGD.out.cell 11, HGD.out.cell 12, HGD.out.cell 13, HGD.out.cell 14, HGD.out.cell 15, HGD.out.cell 16, HGD.out.cell 17, HGD.out.cell 18, HGD.out.cell 19⟩
    refine wpAnyT_take2 (i := 23) (v := ?_) rfl rfl (by kernel_rfl) (by kernel_rfl) (by kernel_rfl) (by kernel_rfl) (fun _ _ _ h => h) (Or.inl ⟨by rfl, ?_⟩) (by first | assumption | trivial) ?_
    rotate_left
    · (intro w hSw; (try dsimp only at hSw); go_simp) <;> (with_reducible rfl)
    simp only [List.setIfInBounds_toArray, List.set_cons_zero, List.set_cons_succ]
    refine wpAnyT_take2 (i := 24) (v := ?_) rfl rfl (by kernel_rfl) (by kernel_rfl) (by kernel_rfl) (by kernel_rfl) (fun _ _ _ h => h) (Or.inl ⟨by rfl, ?_⟩) (by first | assumption | trivial) ?_
    rotate_left
    · (intro w hSw; (try dsimp only at hSw); go_simp) <;> (with_reducible rfl)
    simp only [List.setIfInBounds_toArray, List.set_cons_zero, List.set_cons_succ]
    refine wpAnyT_take2 (i := 25) (v := ?_) rfl rfl (by kernel_rfl) (by kernel_rfl) (by kernel_rfl) (by kernel_rfl) (fun _ _ _ h => h) (Or.inl ⟨by rfl, ?_⟩) (by first | assumption | trivial) ?_
    rotate_left
    · (intro w hSw; (try dsimp only at hSw); go_simp) <;> (with_reducible rfl)
    simp only [List.setIfInBounds_toArray, List.set_cons_zero, List.set_cons_succ]
    clear hHeld
    refine wpAnyT_next (i := 26) (by kernel_rfl) rfl ?_
    go_wp2_with fail
    have HGE := HGD.out.alloc (.cells ([sx6].flatMap Note.enc).toArray 61)
    refine ⟨(by first | exact ⟨HGE.cell 0, HGE.cell 1, HGE.cell 2, HGE.cell 3, HGE.cell 4, HGE.cell 5, HGE.cell 6, HGE.cell 7, HGE.cell 8, HGE.cell 9, HGE.cell 10, HGE.cell 11, HGE.cell 12, HGE.cell 13, HGE.cell 14, HGE.cell 15, HGE.cell 16, HGE.cell 17, HGE.cell 18, HGE.cell 19⟩ | exact fun _ => ⟨HGE.cell 0, HGE.cell 1, HGE.cell 2, HGE.cell 3, HGE.cell 4, HGE.cell 5, HGE.cell 6, HGE.cell 7, HGE.cell 8, HGE.cell 9, HGE.cell 10, HGE.cell 11, HGE.cell 12, HGE.cell 13, HGE.cell 14, HGE.cell 15, HGE.cell 16, HGE.cell 17, HGE.cell 18, HGE.cell 19⟩), ?_⟩
    refine wpAnyT_next (i := 27) (by kernel_rfl) rfl ?_
    go_wp2_with fail
    refine (merge_right ⟨some ⟨w11.heap.size, 0, none⟩, 1, [sx6]⟩ (w11.alloc (.cells ([sx6].flatMap Note.enc).toArray 61)) ⟨rd_blk Note.k (Blk.new _ _ _) (by simp) (by simp [maxLen]), fun n hn => by rw [List.mem_singleton.1 hn]; exact Rd.nil _ _ _ _⟩).mono ?_
    rintro e w12 ⟨rfl, hb12⟩
    rw [show notesR (List.map Note.d [sx6]) = false from some_right2]
    have hB12' : Below w11.heap.size w11 w12 := (by repeat (first | (with_reducible exact Below.refl _ _) | ((with_reducible refine below_setr ?_ ?_); focus (first | (simp; done) | (simp; omega) | omega)) | ((with_reducible refine below_allocr ?_ ?_); focus (first | (simp; done) | (simp; omega) | omega)) | (with_reducible refine Below.drew ?_) | (with_reducible refine below_drewN ?_ _) | ((with_reducible apply below_via); focus (with_reducible assumption))))
    have HGF := Lib.hid (HGD.out.later hB12')
    have hB12 : Below w.heap.size w w12 := hB11.trans (hB12'.mono hB11.size)
    clear hb12 hB12' HGE
    go_wp2_with fail
    refine ⟨(by first | exact ⟨HGF.out.cell 0, HGF.out.cell 1, HGF.out.cell 2, HGF.out.cell 3, HGF.out.cell 4, HGF.out.cell 5, HGF.out.cell 6, HGF.out.cell 7, HGF.out.cell 8, HGF.out.cell 9, HGF.out.cell 10, HGF.out.cell 11, HGF.out.cell 12, HGF.out.cell 13, HGF.out.cell 14, HGF.out.cell 15, HGF.out.cell 16, HGF.out.cell 17, HGF.out.cell 18, HGF.out.cell 19⟩ | exact fun _ => ⟨HGF.out.cell 0, HGF.out.cell 1, HGF.out.cell 2, HGF.out.cell 3, HGF.out.cell 4, HGF.out.cell 5, HGF.out.cell 6, HGF.out.cell 7, HGF.out.cell 8, HGF.out.cell 9, HGF.out.cell 10, HGF.out.cell 11, HGF.out.cell 12, HGF.out.cell 13, HGF.out.cell 14, HGF.out.cell 15, HGF.out.cell 16, HGF.out.cell 17, HGF.out.cell 18, HGF.out.cell 19⟩), ?_⟩
    have hHeld : (w12.cell? ⟨w.heap.size + 1, 0, none⟩ = some (.int .i64 0) ∧ w12.cell? ⟨w.heap.size + 1, 1, none⟩ = some (.int .i64 0) ∧ w12.cell? ⟨w.heap.size + 1, 2, none⟩ = some (.slice none 0 0) ∧ w12.cell? ⟨w.heap.size + 1, 3, none⟩ = some (.int .i64 5) ∧ w12.cell? ⟨w.heap.size + 1, 4, none⟩ = some (.string ⟨#[97]⟩) ∧ w12.cell? ⟨w.heap.size + 1, 5, none⟩ = some (.int .i64 0) ∧ w12.cell? ⟨w.heap.size + 1, 6, none⟩ = some (.int .i64 1) ∧ w12.cell? ⟨w.heap.size + 1, 7, none⟩ = some (.slice none 0 0) ∧ w12.cell? ⟨w.heap.size + 1, 8, none⟩ = some (.int .i64 9) ∧ w12.cell? ⟨w.heap.size + 1, 9, none⟩ = some (.string ⟨#[98]⟩) ∧ w12.cell? ⟨w.heap.size + 1, 10, none⟩ = some (.int .i64 1) ∧ w12.cell? ⟨w.heap.size + 1, 11, none⟩ = some (.int .i64 0) ∧ w12.cell? ⟨w.heap.size + 1, 12, none⟩ = some (.slice none 0 0) ∧ w12.cell? ⟨w.heap.size + 1, 13, none⟩ = some (.int .i64 3) ∧ w12.cell? ⟨w.heap.size + 1, 14, none⟩ = some (.string ⟨#[99]⟩) ∧ w12.cell? ⟨w.heap.size + 1, 15, none⟩ = some (.int .i64 1) ∧ w12.cell? ⟨w.heap.size + 1, 16, none⟩ = some (.int .i64 1) ∧ w12.cell? ⟨w.heap.size + 1, 17, none⟩ = some (.slice (some ⟨w.heap.size, 0, none⟩) 1 1) ∧ w12.cell? ⟨w.heap.size + 1, 18, none⟩ = some (.int .i64 4) ∧ w12.cell? ⟨w.heap.size + 1, 19, none⟩ = some (.string ⟨#[100]⟩)) := ⟨HGF.out.cell 0, HGF.out.cell 1, HGF.out.cell 2, HGF.out.cell 3, HGF.out.cell 4, HGF.out.cell 5, HGF.out.cell 6, HGF.out.cell 7, HGF.out.cell 8, HGF.out.cell 9, HGF.out.cell 10, HGF.out.cell 11, HGF.out.cell 12, HGF.out.cell 13, HGF.out.cell 14, HGF.out.cell 15, HGF.out.cell 16, HGF.out.cell 17, HGF.out.cell 18, HGF.out.cell 19⟩
    refine wpAnyT_take2 (i := 28) (v := ?_) rfl rfl (by kernel_rfl) (by kernel_rfl) (by kernel_rfl) (by kernel_rfl) (fun _ _ _ h => h) (Or.inl ⟨by rfl, ?_⟩) (by first | assumption | trivial) ?_
    rotate_left
    · (intro w hSw; (try dsimp only at hSw); go_simp) <;> (with_reducible rfl)
    simp only [List.setIfInBounds_toArray, List.set_cons_zero, List.set_cons_succ]
    refine wpAnyT_take2 (i := 29) (v := ?_) rfl rfl (by kernel_rfl) (by kernel_rfl) (by kernel_rfl) (by kernel_rfl) (fun _ _ _ h => h) (Or.inl ⟨by rfl, ?_⟩) (by first | assumption | trivial) ?_
    rotate_left
    · (intro w hSw; (try dsimp only at hSw); go_simp) <;> (with_reducible rfl)
    simp only [List.setIfInBounds_toArray, List.set_cons_zero, List.set_cons_succ]
    refine wpAnyT_take2 (i := 30) (v := ?_) rfl rfl (by kernel_rfl) (by kernel_rfl) (by kernel_rfl) (by kernel_rfl) (fun _ _ _ h => h) (Or.inl ⟨by rfl, ?_⟩) (by first | assumption | trivial) ?_
    rotate_left
    · (intro w hSw; (try dsimp only at hSw); go_simp) <;> (with_reducible rfl)
    simp only [List.setIfInBounds_toArray, List.set_cons_zero, List.set_cons_succ]
    refine wpAnyT_done (by kernel_rfl) ?_ _
    clear hHeld
    go_wp2_with fail
    go_ret
    exact ⟨by simp [Act.eval, go_sem], (by repeat (first | (with_reducible exact hB12) | (with_reducible exact Below.refl _ _) | ((with_reducible refine below_setr ?_ ?_); focus (first | (simp; done) | (simp; omega) | omega)) | ((with_reducible refine below_allocr ?_ ?_); focus (first | (simp; done) | (simp; omega) | omega)) | (with_reducible refine Below.drew ?_) | (with_reducible refine below_drewN ?_ _) | ((with_reducible apply below_via); focus (with_reducible assumption))))⟩
end Go.Proofs.Ythnblhbdfpmolaa
