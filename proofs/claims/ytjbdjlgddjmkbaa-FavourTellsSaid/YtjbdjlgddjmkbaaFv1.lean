/- Walks: valid, Right, Of. -/
import Derived.Test.YtjbdjlgddjmkbaaFvD
namespace Go.Proofs.Ytjbdjlgddjmkbaa
open Go.RowKit
set_option maxHeartbeats 400000 in
theorem valid_any (m n : Int) (w : World) : Calls Try.prog 35 #[.agg #[.int .i64 m, .int .i64 n]] w fun e w' => e = .returned (.bool (validB ⟨m, n⟩)) ∧ Below w.heap.size w w' := by
  go_enter Try.func35, Try.ntmps35
  go_wp2
  all_goals
    go_ret
    exact ⟨ret_bool (by simp [validB, rngB, *] <;> omega), (by repeat (first | (with_reducible exact Below.refl _ _) | ((with_reducible refine below_setr ?_ ?_); focus (first | (simp; done) | (simp; omega) | omega)) | ((with_reducible refine below_allocr ?_ ?_); focus (first | (simp; done) | (simp; omega) | omega)) | (with_reducible refine Below.drew ?_) | (with_reducible refine below_drewN ?_ _)))⟩
set_option maxHeartbeats 1000000 in
theorem right_any (l : Sl Bal) (w : World) (hr : Rd (· < w.heap.size) 2 Bal.enc w l) (hn : l.l.length ≤ 4000) :
    Calls Try.prog 12 #[.slice l.A l.l.length l.c] w fun e w' => e = .returned (.bool (rightL l.l)) ∧ Below w.heap.size w w' := by
  obtain ⟨A, c, l⟩ := l
  simp only at hn
  have HR := Lib.hid hr
  clear hr
  simp only
  go_enter Try.func12, Try.ntmps12
  go_wp2_with fail
  go_loopw [3, 4, 9] (fun la s i wr => ∃ (k : Nat) (q z : Int), k ≤ l.length ∧ i = .int .i64 k ∧ la = .int .i64 q ∧ s = .int .i64 z ∧ -1 ≤ q ∧ q ≤ 3999 ∧ -(1099511627776 * (k : Int)) ≤ z ∧ z ≤ 1099511627776 * (k : Int) ∧ Below w.heap.size w wr ∧
    Hid (goL (-1) l = goL q (l.drop k)) ∧ Hid (sumL l = z + sumL (l.drop k))) (fun _ _ i _ => l.length - (intOf i).toNat)
  case atStart => exact ⟨0, -1, 0, by omega, rfl, rfl, rfl, by omega, by omega, by simp, by simp, (by repeat (first | (with_reducible exact Below.refl _ _) | ((with_reducible refine below_setr ?_ ?_); focus (first | (simp; done) | (simp; omega) | omega)) | ((with_reducible refine below_allocr ?_ ?_); focus (first | (simp; done) | (simp; omega) | omega)) | (with_reducible refine Below.drew ?_) | (with_reducible refine below_drewN ?_ _))), Lib.hid (by simp), Lib.hid (by simp)⟩
  case round =>
    obtain ⟨k, q, z, hk, rfl, rfl, rfl, hq1, hq2, hz1, hz2, hbel, HG, HS⟩ := hrel
    have hhe : w.heap.size ≤ wr.heap.size := hbel.size
    by_cases hlt : k < l.length
    · obtain ⟨b, o, rfl, hb, hcl⟩ := HR.out.at1 hlt
      obtain ⟨g0, g1⟩ := Cells.c2 (hcl.keep (hbel.block b hb))
      have hd : l.drop k = l[k] :: l.drop (k + 1) := List.drop_eq_getElem_cons hlt
      have hgo := HG.out
      have hso := HS.out
      rw [hd] at hgo hso
      simp only [sumL] at hso
      have HGO := Lib.hid hgo
      have HSO := Lib.hid hso
      clear hd hgo hso hcl HG HS
      simp only at g0 g1
      generalize l[k] = x at *
      obtain ⟨xm, xn⟩ := x
      simp only at HSO
      go_wp2_with fail
      refine (valid_any xm xn _).mono ?_
      rintro e w1 ⟨rfl, hb1⟩
      have K_a : Blk _ (wr.heap.size) 39 #[.int .i64 xm, .int .i64 xn] := blk_later hb1 (by simp [hp_past, hp_at, hp_other, hp_same, hp_drew, hp_drewN])
      obtain ⟨a0, a1, af, az⟩ := Blk.b2 K_a
      have B_a := Lib.hid K_a
      clear K_a
      have hB1 : Below w.heap.size w w1 := (by repeat (first | (with_reducible exact hbel) | (with_reducible exact Below.refl _ _) | ((with_reducible refine below_setr ?_ ?_); focus (first | (simp; done) | (simp; omega) | omega)) | ((with_reducible refine below_allocr ?_ ?_); focus (first | (simp; done) | (simp; omega) | omega)) | (with_reducible refine Below.drew ?_) | (with_reducible refine below_drewN ?_ _) | ((with_reducible apply below_via); focus (with_reducible assumption))))
      clear hb1
      by_cases hv : validB ⟨xm, xn⟩ = true ∧ q < xm
      · obtain ⟨hv1, hv2⟩ := hv
        have hvv := validB_iff.1 hv1
        simp only at hvv
        rw [hv1]
        have HG2 : Hid (goL (-1) l = goL xm (l.drop (k + 1))) := Lib.hid (by rw [HGO.out]; simp [goL, hv1, hv2])
        clear hv1 HGO
        go_wp2_with fail
        go_roundw
        case rel => exact ⟨k + 1, xm, z + xn, by omega, by go_num, rfl, rfl, by omega, by omega, by push_cast; omega, by push_cast; omega, hB1, HG2, Lib.hid (by rw [HSO.out]; omega)⟩
        case measure => simp [intOf]; omega
      · have hgf : rightL l = false := by
          unfold rightL
          rw [HGO.out]
          by_cases h1 : validB ⟨xm, xn⟩ = true
          · have : ¬ q < xm := fun h => hv ⟨h1, h⟩
            simp [goL, this]
          · simp [goL, h1]
        have HGF := Lib.hid hgf
        clear hgf HGO HSO
        rcases hv1 : validB ⟨xm, xn⟩
        · go_wp2_with fail
          go_ret
          exact ⟨ret_bool HGF.out.symm, hB1⟩
        · have : xm ≤ q := Int.not_lt.1 fun h => hv ⟨hv1, h⟩
          clear hv
          go_wp2_with fail
          go_ret
          exact ⟨ret_bool HGF.out.symm, hB1⟩
    · have hkl : l.drop k = [] := List.drop_eq_nil_of_le (by omega)
      have hgo := HG.out
      have hso := HS.out
      rw [hkl] at hgo hso
      simp only [sumL, goL] at hso hgo
      have hv : rightL l = decide (z = 0) := by unfold rightL; rw [hgo, hso]; simp
      have HV := Lib.hid hv
      clear hkl hgo hso hv HG HS
      go_wp2_with fail
      all_goals
        go_ret
        exact ⟨ret_bool (by rw [HV.out]; first | rfl | (simp; done) | (simp; omega) | (simp [*]; done)), hbel⟩
def idxP {α : Type} (p : α → Bool) : Nat → List α → Int
  | _, [] => -1
  | k, x :: r => if p x then (k : Int) else idxP p (k + 1) r
theorem idxP_ge {α : Type} (p : α → Bool) : ∀ (l : List α) (k : Nat), (idxP p k l = -1 ∧ ∀ x ∈ l, p x = false) ∨ ∃ (j : Nat) (x : α), idxP p k l = ((k + j : Nat) : Int) ∧ l[j]? = some x ∧ p x = true ∧ ∀ y ∈ l.take j, p y = false
  | [], k => .inl ⟨rfl, by simp⟩
  | x :: r, k => by
    unfold idxP
    by_cases h : p x = true
    · rw [if_pos h]; exact .inr ⟨0, x, rfl, rfl, h, by simp⟩
    · rw [if_neg h]
      have hf : p x = false := by simpa using h
      rcases idxP_ge p r (k + 1) with ⟨h1, h2⟩ | ⟨j, y, h1, h2, h3, h4⟩
      · exact .inl ⟨h1, fun y hy => by rcases List.mem_cons.1 hy with rfl | hy; exact hf; exact h2 y hy⟩
      · refine .inr ⟨j + 1, y, by rw [h1]; congr 1; omega, by simpa using h2, h3, fun z hz => ?_⟩
        rw [List.take_succ_cons] at hz
        rcases List.mem_cons.1 hz with rfl | hz
        · exact hf
        · exact h4 z hz
end Go.Proofs.Ytjbdjlgddjmkbaa
