/- The walk of the law's helper small: it returns true. -/
import Derived.Test.YtjbdjlgddjmkbaaFvB3
import Derived.Test.YtjbdjlgddjmkbaaFvH
namespace Go.Proofs.Ytjbdjlgddjmkbaa
open Go.RowKit
theorem sm1 : bearF [] [5, 3, 9] 10 = ([⟨3, 10⟩, ⟨5, -5⟩, ⟨9, -5⟩], 3, 0) := by kernel_rfl
theorem sm2 : bearF [⟨3, 10⟩, ⟨5, -5⟩, ⟨9, -5⟩] [3, 5, 9] 5 = ([⟨3, 7⟩, ⟨5, 0⟩, ⟨9, -7⟩], 5, 0) := by kernel_rfl
theorem sm3 : bearF [⟨3, 7⟩, ⟨5, 0⟩, ⟨9, -7⟩] [9] 4 = ([⟨3, 7⟩, ⟨5, 0⟩, ⟨9, -7⟩], 9, 0) := by kernel_rfl
theorem sm4 : bearF [⟨3, 7⟩, ⟨5, 0⟩, ⟨9, -7⟩] [] 4 = ([], 0, 1) := by kernel_rfl
theorem sm5 : lagL [⟨3, 7⟩, ⟨5, 0⟩, ⟨9, -7⟩] [3, 5, 9] = 14 := by kernel_rfl
theorem sm6 : ofL 9 [⟨3, 7⟩, ⟨5, 0⟩, ⟨9, -7⟩] = -7 := by kernel_rfl
theorem sm7 : ofL 4 [⟨3, 7⟩, ⟨5, 0⟩, ⟨9, -7⟩] = 0 := by kernel_rfl
theorem sm8 : rightL [⟨3, 7⟩, ⟨5, 0⟩, ⟨9, -7⟩] = true := by kernel_rfl
/-- A literal row that has just been made. -/
theorem rd_lit {α : Type} {e : TypeId} {k : Nat} {enc : α → List Value} (w : World) (cs : Array Value) (l : List α) (hm : l.length ≤ maxLen) (hs : cs.toList = l.flatMap enc) (hk : ∀ x, (enc x).length = k) :
    Rd (· < (w.alloc (.cells cs e)).heap.size) k enc (w.alloc (.cells cs e)) ⟨some ⟨w.heap.size, 0, none⟩, l.length, l⟩ :=
  ((Own.lit (base := w.heap.size) w cs l (Nat.le_refl _) hm hs hk).rd hk).mono (fun b hb => hb.2)
theorem Rd.top {α : Type} {k : Nat} {enc : α → List Value} {w : World} {s : Sl α} {b : Nat} (h : Rd (fun x => b ≤ x ∧ x < w.heap.size) k enc w s) : Rd (· < w.heap.size) k enc w s := h.mono (fun _ hb => hb.2)
set_option maxRecDepth 20000 in
set_option maxHeartbeats 4000000 in
theorem small_any (w : World) : Calls Try.prog 8 #[] w fun e w' => e = .returned (.bool true) ∧ Below w.heap.size w w' := by
  go_enter Try.func8, Try.ntmps8
  go_wp2_with fail
  refine (bear_any ⟨none, 0, []⟩ ⟨some ⟨w.heap.size, 0, none⟩, 3, [5, 3, 9]⟩ 10 _ (Rd.nil _ _ _ _) (rd_lit w _ [5, 3, 9] (by simp [maxLen]) rfl ienc_k) (by simp) (by simp)).mono ?_
  rintro e w1 ⟨A1, c1, rfl, hr1, hb1⟩
  simp only [sm1] at hr1
  simp only [sm1, List.length_cons, List.length_nil]
  have HR1 := Lib.hid (Rd.top hr1)
  have hB1 : Below w.heap.size w w1 := (by repeat (first | (with_reducible exact Below.refl _ _) | ((with_reducible refine below_setr ?_ ?_); focus (first | (simp; done) | (simp; omega) | omega)) | ((with_reducible refine below_allocr ?_ ?_); focus (first | (simp; done) | (simp; omega) | omega)) | (with_reducible refine Below.drew ?_) | (with_reducible refine below_drewN ?_ _) | ((with_reducible apply below_via); focus (with_reducible assumption))))
  clear hr1 hb1
  go_wp2_with fail
  refine (bear_any ⟨A1, c1, [⟨3, 10⟩, ⟨5, -5⟩, ⟨9, -5⟩]⟩ ⟨some ⟨w1.heap.size, 0, none⟩, 3, [3, 5, 9]⟩ 5 _ (HR1.out.lt_alloc _) (rd_lit w1 _ [3, 5, 9] (by simp [maxLen]) rfl ienc_k) (by simp) (by simp)).mono ?_
  rintro e w2 ⟨A2, c2, rfl, hr2, hb2⟩
  simp only [sm2] at hr2
  simp only [sm2, List.length_cons, List.length_nil]
  have hb2' : Below w1.heap.size w1 w2 := (by repeat (first | (with_reducible exact Below.refl _ _) | ((with_reducible refine below_setr ?_ ?_); focus (first | (simp; done) | (simp; omega) | omega)) | ((with_reducible refine below_allocr ?_ ?_); focus (first | (simp; done) | (simp; omega) | omega)) | (with_reducible refine Below.drew ?_) | (with_reducible refine below_drewN ?_ _) | ((with_reducible apply below_via); focus (with_reducible assumption))))
  have HR1' := Lib.hid (HR1.out.later hb2' (Nat.le_refl _))
  have HR2 := Lib.hid (Rd.top hr2)
  have hB2 : Below w.heap.size w w2 := (by repeat (first | (with_reducible exact hB1) | (with_reducible exact Below.refl _ _) | ((with_reducible refine below_setr ?_ ?_); focus (first | (simp; done) | (simp; omega) | omega)) | ((with_reducible refine below_allocr ?_ ?_); focus (first | (simp; done) | (simp; omega) | omega)) | (with_reducible refine Below.drew ?_) | (with_reducible refine below_drewN ?_ _) | ((with_reducible apply below_via); focus (with_reducible assumption))))
  clear hr2 hb2 HR1 hb2'
  go_wp2_with fail
  refine (bear_any ⟨A2, c2, [⟨3, 7⟩, ⟨5, 0⟩, ⟨9, -7⟩]⟩ ⟨some ⟨w2.heap.size, 0, none⟩, 1, [9]⟩ 4 _ (HR2.out.lt_alloc _) (rd_lit w2 _ [9] (by simp [maxLen]) rfl ienc_k) (by simp) (by simp)).mono ?_
  rintro e w3 ⟨A3, c3, rfl, hr3, hb3⟩
  simp only [sm3] at hr3
  simp only [sm3, List.length_cons, List.length_nil]
  have hb3' : Below w2.heap.size w2 w3 := (by repeat (first | (with_reducible exact Below.refl _ _) | ((with_reducible refine below_setr ?_ ?_); focus (first | (simp; done) | (simp; omega) | omega)) | ((with_reducible refine below_allocr ?_ ?_); focus (first | (simp; done) | (simp; omega) | omega)) | (with_reducible refine Below.drew ?_) | (with_reducible refine below_drewN ?_ _) | ((with_reducible apply below_via); focus (with_reducible assumption))))
  have HR1 := Lib.hid (HR1'.out.later hb3' (Nat.le_refl _))
  have HR2' := Lib.hid (HR2.out.later hb3' (Nat.le_refl _))
  have HR3 := Lib.hid (Rd.top hr3)
  have hB3 : Below w.heap.size w w3 := (by repeat (first | (with_reducible exact hB2) | (with_reducible exact Below.refl _ _) | ((with_reducible refine below_setr ?_ ?_); focus (first | (simp; done) | (simp; omega) | omega)) | ((with_reducible refine below_allocr ?_ ?_); focus (first | (simp; done) | (simp; omega) | omega)) | (with_reducible refine Below.drew ?_) | (with_reducible refine below_drewN ?_ _) | ((with_reducible apply below_via); focus (with_reducible assumption))))
  clear hr3 hb3 HR1' HR2 hb3'
  go_wp2_with fail
  refine (bear_any ⟨A2, c2, [⟨3, 7⟩, ⟨5, 0⟩, ⟨9, -7⟩]⟩ ⟨none, 0, []⟩ 4 _ HR2'.out (Rd.nil _ _ _ _) (by simp) (by simp)).mono ?_
  rintro e w4 ⟨A4, c4, rfl, hr4, hb4⟩
  simp only [sm4] at hr4
  simp only [sm4, List.length_cons, List.length_nil]
  have HR1' := Lib.hid (HR1.out.later hb4 (Nat.le_refl _))
  have HR2 := Lib.hid (HR2'.out.later hb4 (Nat.le_refl _))
  have HR3' := Lib.hid (HR3.out.later hb4 (Nat.le_refl _))
  have hB4 : Below w.heap.size w w4 := (by repeat (first | (with_reducible exact hB3) | (with_reducible exact Below.refl _ _) | ((with_reducible refine below_setr ?_ ?_); focus (first | (simp; done) | (simp; omega) | omega)) | ((with_reducible refine below_allocr ?_ ?_); focus (first | (simp; done) | (simp; omega) | omega)) | (with_reducible refine Below.drew ?_) | (with_reducible refine below_drewN ?_ _) | ((with_reducible apply below_via); focus (with_reducible assumption))))
  clear hr4 hb4 HR1 HR2' HR3
  go_wp2_with fail
  refine (same_any ⟨A1, c1, [⟨3, 10⟩, ⟨5, -5⟩, ⟨9, -5⟩]⟩ ⟨some ⟨w4.heap.size, 0, none⟩, 3, [⟨3, 10⟩, ⟨5, -5⟩, ⟨9, -5⟩]⟩ _ (HR1'.out.lt_alloc _) (rd_lit w4 _ [⟨3, 10⟩, ⟨5, -5⟩, ⟨9, -5⟩] (by simp [maxLen]) rfl Bal.k)).mono ?_
  rintro e w5 ⟨rfl, hb5⟩
  rw [decide_eq_true rfl]
  have hb5' : Below w4.heap.size w4 w5 := (by repeat (first | (with_reducible exact Below.refl _ _) | ((with_reducible refine below_setr ?_ ?_); focus (first | (simp; done) | (simp; omega) | omega)) | ((with_reducible refine below_allocr ?_ ?_); focus (first | (simp; done) | (simp; omega) | omega)) | (with_reducible refine Below.drew ?_) | (with_reducible refine below_drewN ?_ _) | ((with_reducible apply below_via); focus (with_reducible assumption))))
  have HR2' := Lib.hid (HR2.out.later hb5' (Nat.le_refl _))
  have HR3 := Lib.hid (HR3'.out.later hb5' (Nat.le_refl _))
  have hB5 : Below w.heap.size w w5 := (by repeat (first | (with_reducible exact hB4) | (with_reducible exact Below.refl _ _) | ((with_reducible refine below_setr ?_ ?_); focus (first | (simp; done) | (simp; omega) | omega)) | ((with_reducible refine below_allocr ?_ ?_); focus (first | (simp; done) | (simp; omega) | omega)) | (with_reducible refine Below.drew ?_) | (with_reducible refine below_drewN ?_ _) | ((with_reducible apply below_via); focus (with_reducible assumption))))
  clear hb5 hb5' HR1' HR2 HR3'
  go_wp2_with fail
  refine (same_any ⟨A2, c2, [⟨3, 7⟩, ⟨5, 0⟩, ⟨9, -7⟩]⟩ ⟨some ⟨w5.heap.size, 0, none⟩, 3, [⟨3, 7⟩, ⟨5, 0⟩, ⟨9, -7⟩]⟩ _ (HR2'.out.lt_alloc _) (rd_lit w5 _ [⟨3, 7⟩, ⟨5, 0⟩, ⟨9, -7⟩] (by simp [maxLen]) rfl Bal.k)).mono ?_
  rintro e w6 ⟨rfl, hb6⟩
  rw [decide_eq_true rfl]
  have hb6' : Below w5.heap.size w5 w6 := (by repeat (first | (with_reducible exact Below.refl _ _) | ((with_reducible refine below_setr ?_ ?_); focus (first | (simp; done) | (simp; omega) | omega)) | ((with_reducible refine below_allocr ?_ ?_); focus (first | (simp; done) | (simp; omega) | omega)) | (with_reducible refine Below.drew ?_) | (with_reducible refine below_drewN ?_ _) | ((with_reducible apply below_via); focus (with_reducible assumption))))
  have HR2 := Lib.hid (HR2'.out.later hb6' (Nat.le_refl _))
  have HR3' := Lib.hid (HR3.out.later hb6' (Nat.le_refl _))
  have hB6 : Below w.heap.size w w6 := (by repeat (first | (with_reducible exact hB5) | (with_reducible exact Below.refl _ _) | ((with_reducible refine below_setr ?_ ?_); focus (first | (simp; done) | (simp; omega) | omega)) | ((with_reducible refine below_allocr ?_ ?_); focus (first | (simp; done) | (simp; omega) | omega)) | (with_reducible refine Below.drew ?_) | (with_reducible refine below_drewN ?_ _) | ((with_reducible apply below_via); focus (with_reducible assumption))))
  clear hb6 hb6' HR2' HR3
  go_wp2_with fail
  refine (same_any ⟨A2, c2, [⟨3, 7⟩, ⟨5, 0⟩, ⟨9, -7⟩]⟩ ⟨A3, c3, [⟨3, 7⟩, ⟨5, 0⟩, ⟨9, -7⟩]⟩ _ HR2.out HR3'.out).mono ?_
  rintro e w7 ⟨rfl, hb7⟩
  rw [decide_eq_true rfl]
  have HR3 := Lib.hid (HR3'.out.later hb7 (Nat.le_refl _))
  have hB7 : Below w.heap.size w w7 := (by repeat (first | (with_reducible exact hB6) | (with_reducible exact Below.refl _ _) | ((with_reducible refine below_setr ?_ ?_); focus (first | (simp; done) | (simp; omega) | omega)) | ((with_reducible refine below_allocr ?_ ?_); focus (first | (simp; done) | (simp; omega) | omega)) | (with_reducible refine Below.drew ?_) | (with_reducible refine below_drewN ?_ _) | ((with_reducible apply below_via); focus (with_reducible assumption))))
  clear hb7 HR2 HR3'
  go_wp2_with fail
  refine (lag_any ⟨A3, c3, [⟨3, 7⟩, ⟨5, 0⟩, ⟨9, -7⟩]⟩ ⟨some ⟨w7.heap.size, 0, none⟩, 3, [3, 5, 9]⟩ _ (HR3.out.lt_alloc _) (rd_lit w7 _ [3, 5, 9] (by simp [maxLen]) rfl ienc_k) (by simp)).mono ?_
  rintro e w8 ⟨rfl, hb8⟩
  rw [sm5]
  have hb8' : Below w7.heap.size w7 w8 := (by repeat (first | (with_reducible exact Below.refl _ _) | ((with_reducible refine below_setr ?_ ?_); focus (first | (simp; done) | (simp; omega) | omega)) | ((with_reducible refine below_allocr ?_ ?_); focus (first | (simp; done) | (simp; omega) | omega)) | (with_reducible refine Below.drew ?_) | (with_reducible refine below_drewN ?_ _) | ((with_reducible apply below_via); focus (with_reducible assumption))))
  have HR3' := Lib.hid (HR3.out.later hb8' (Nat.le_refl _))
  have hB8 : Below w.heap.size w w8 := (by repeat (first | (with_reducible exact hB7) | (with_reducible exact Below.refl _ _) | ((with_reducible refine below_setr ?_ ?_); focus (first | (simp; done) | (simp; omega) | omega)) | ((with_reducible refine below_allocr ?_ ?_); focus (first | (simp; done) | (simp; omega) | omega)) | (with_reducible refine Below.drew ?_) | (with_reducible refine below_drewN ?_ _) | ((with_reducible apply below_via); focus (with_reducible assumption))))
  clear hb8 HR3 hb8'
  go_wp2_with fail
  refine (of_any ⟨A3, c3, [⟨3, 7⟩, ⟨5, 0⟩, ⟨9, -7⟩]⟩ 9 _ HR3'.out).mono ?_
  rintro e w9 ⟨rfl, hb9⟩
  rw [sm6]
  have HR3 := Lib.hid (HR3'.out.later hb9 (Nat.le_refl _))
  have hB9 : Below w.heap.size w w9 := (by repeat (first | (with_reducible exact hB8) | (with_reducible exact Below.refl _ _) | ((with_reducible refine below_setr ?_ ?_); focus (first | (simp; done) | (simp; omega) | omega)) | ((with_reducible refine below_allocr ?_ ?_); focus (first | (simp; done) | (simp; omega) | omega)) | (with_reducible refine Below.drew ?_) | (with_reducible refine below_drewN ?_ _) | ((with_reducible apply below_via); focus (with_reducible assumption))))
  clear hb9 HR3'
  go_wp2_with fail
  refine (of_any ⟨A3, c3, [⟨3, 7⟩, ⟨5, 0⟩, ⟨9, -7⟩]⟩ 4 _ HR3.out).mono ?_
  rintro e w10 ⟨rfl, hb10⟩
  rw [sm7]
  have HR3' := Lib.hid (HR3.out.later hb10 (Nat.le_refl _))
  have hB10 : Below w.heap.size w w10 := (by repeat (first | (with_reducible exact hB9) | (with_reducible exact Below.refl _ _) | ((with_reducible refine below_setr ?_ ?_); focus (first | (simp; done) | (simp; omega) | omega)) | ((with_reducible refine below_allocr ?_ ?_); focus (first | (simp; done) | (simp; omega) | omega)) | (with_reducible refine Below.drew ?_) | (with_reducible refine below_drewN ?_ _) | ((with_reducible apply below_via); focus (with_reducible assumption))))
  clear hb10 HR3
  go_wp2_with fail
  refine (right_any ⟨A3, c3, [⟨3, 7⟩, ⟨5, 0⟩, ⟨9, -7⟩]⟩ _ HR3'.out (by simp)).mono ?_
  rintro e w11 ⟨rfl, hb11⟩
  rw [sm8]
  have hB11 : Below w.heap.size w w11 := (by repeat (first | (with_reducible exact hB10) | (with_reducible exact Below.refl _ _) | ((with_reducible refine below_setr ?_ ?_); focus (first | (simp; done) | (simp; omega) | omega)) | ((with_reducible refine below_allocr ?_ ?_); focus (first | (simp; done) | (simp; omega) | omega)) | (with_reducible refine Below.drew ?_) | (with_reducible refine below_drewN ?_ _) | ((with_reducible apply below_via); focus (with_reducible assumption))))
  clear hb11
  go_wp2_with fail
  go_ret
  exact ⟨rfl, hB11⟩
end Go.Proofs.Ytjbdjlgddjmkbaa
