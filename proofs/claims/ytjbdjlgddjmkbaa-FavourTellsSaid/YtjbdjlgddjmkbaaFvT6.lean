/- The walk of FavourTells. -/
import Derived.Test.YtjbdjlgddjmkbaaFvT5
import Derived.Test.YtjbdjlgddjmkbaaFvSm
namespace Go.Proofs.Ytjbdjlgddjmkbaa
open Go.RowKit
set_option maxRecDepth 20000 in
set_option maxHeartbeats 4000000 in
theorem favourtells (L : Sl Bal) (s : Sl Int) (t q : Int) (w : World) (hL : Rd (· < w.heap.size) 2 Bal.enc w L) (hr : Rd (· < w.heap.size) 1 ienc w s) :
    Calls Try.prog 3 #[.slice L.A L.l.length L.c, .slice s.A s.l.length s.c, .int .i64 t, .int .i64 q] w fun e w' => e = .returned (.bool true) ∧ Below w.heap.size w w' := by
  have HL := Lib.hid hL
  have HR := Lib.hid hr
  clear hL hr
  go_enter Try.func3, Try.ntmps3
  go_wp2_with fail
  refine (small_any w).mono ?_
  rintro e w1 ⟨rfl, hB1⟩
  go_wp2_with fail
  refine (few_any L _ (HL.out.later hB1 (Nat.le_refl _))).mono ?_
  rintro e w1' ⟨⟨b, rfl, hfew⟩, rfl⟩
  have HFEW := Lib.hid hfew
  clear hfew
  rcases b with _ | _
  · go_wp2_with fail
    go_ret
    exact ⟨rfl, hB1⟩
  rcases Nat.lt_or_ge 20 s.l.length with h20 | h20
  · have h20' : ((20 : Nat) : Int) < (s.l.length : Int) := by omega
    go_wp2_with fail
    all_goals
      go_ret
      exact ⟨rfl, hB1⟩
  have h20' : (s.l.length : Int) ≤ ((20 : Nat) : Int) := by omega
  have hl20 := (HFEW.out rfl).1
  have HLIM : Hid (∀ x ∈ L.l, -1000000000000000 ≤ x.n ∧ x.n ≤ 1000000000000000) := Lib.hid (fun x hx => by have := (HFEW.out rfl).2 x hx; omega)
  go_wp2_with fail
  refine (bear_any L s t _ (HL.out.later hB1 (Nat.le_refl _)) (HR.out.later hB1 (Nat.le_refl _)) (by omega) (by omega)).mono ?_
  rintro e w2 ⟨A2, c2, rfl, hr2, hb2⟩
  have HR2 := Lib.hid (Rd.top hr2)
  have hB2 : Below w.heap.size w w2 := (by repeat (first | (with_reducible exact hB1) | (with_reducible exact Below.refl _ _) | ((with_reducible refine below_setr ?_ ?_); focus (first | (simp; done) | (simp; omega) | omega)) | ((with_reducible refine below_allocr ?_ ?_); focus (first | (simp; done) | (simp; omega) | omega)) | (with_reducible refine Below.drew ?_) | (with_reducible refine below_drewN ?_ _) | ((with_reducible apply below_via); focus (with_reducible assumption))))
  clear hr2 hb2
  go_wp2_with fail
  refine (rbear_any L s t _ (HL.out.later hB2 (Nat.le_refl _)) (HR.out.later hB2 (Nat.le_refl _)) (by omega)).mono ?_
  rintro e w3 ⟨A3, c3, rfl, hr3, hb3⟩
  have HR3 := Lib.hid (Rd.top hr3)
  have HR2' := Lib.hid (HR2.out.later hb3 (Nat.le_refl _))
  have hB3 : Below w.heap.size w w3 := below_via hb3 hB2
  clear hr3 hb3 HR2
  generalize bearF L.l s.l t = z at *
  obtain ⟨ob, zb, ze⟩ := z
  simp only at HR2' HR3 ⊢
  go_wp2_with fail
  refine (right_any L _ (HL.out.later hB3 (Nat.le_refl _)) (by omega)).mono ?_
  rintro e w4 ⟨rfl, hb4⟩
  have HR2 := Lib.hid (HR2'.out.later hb4 (Nat.le_refl _))
  have HR3' := Lib.hid (HR3.out.later hb4 (Nat.le_refl _))
  have hB4 : Below w.heap.size w w4 := below_via hb4 hB3
  clear hb4 HR2' HR3
  go_wp2_with fail
  refine (rright_any L _ (HL.out.later hB4 (Nat.le_refl _)) (by omega)).mono ?_
  rintro e w5 ⟨rfl, hb5⟩
  have HR2' := Lib.hid (HR2.out.later hb5 (Nat.le_refl _))
  have HR3 := Lib.hid (HR3'.out.later hb5 (Nat.le_refl _))
  have hB5 : Below w.heap.size w w5 := below_via hb5 hB4
  clear hb5 HR2 HR3'
  generalize rightL L.l = rl at *
  go_wp2_with fail
  refine (of_any L q _ (HL.out.later hB5 (Nat.le_refl _))).mono ?_
  rintro e w6 ⟨rfl, hb6⟩
  have HR2 := Lib.hid (HR2'.out.later hb6 (Nat.le_refl _))
  have HR3' := Lib.hid (HR3.out.later hb6 (Nat.le_refl _))
  have hB6 : Below w.heap.size w w6 := below_via hb6 hB5
  clear hb6 HR2' HR3
  go_wp2_with fail
  refine (rof_any L q _ (HL.out.later hB6 (Nat.le_refl _))).mono ?_
  rintro e w7 ⟨rfl, rfl⟩
  generalize ofL q L.l = oq at *
  go_wp2_with fail
  refine (lag_any L s _ (HL.out.later hB6 (Nat.le_refl _)) (HR.out.later hB6 (Nat.le_refl _)) HLIM.out).mono ?_
  rintro e w7 ⟨rfl, hb7⟩
  have HR2' := Lib.hid (HR2.out.later hb7 (Nat.le_refl _))
  have HR3 := Lib.hid (HR3'.out.later hb7 (Nat.le_refl _))
  have hB7 : Below w.heap.size w w7 := below_via hb7 hB6
  clear hb7 HR2 HR3'
  go_wp2_with fail
  refine (rlag_any L s _ (HL.out.later hB7 (Nat.le_refl _)) (HR.out.later hB7 (Nat.le_refl _)) HLIM.out).mono ?_
  rintro e w8 ⟨rfl, hb8⟩
  have HR2 := Lib.hid (HR2'.out.later hb8 (Nat.le_refl _))
  have HR3' := Lib.hid (HR3.out.later hb8 (Nat.le_refl _))
  have hB8 : Below w.heap.size w w8 := below_via hb8 hB7
  clear hb8 HR2' HR3
  generalize lagL L.l s.l = lg at *
  go_wp2_with fail
  refine (same_any ⟨A2, c2, ob⟩ ⟨A3, c3, ob⟩ _ HR2.out HR3'.out).mono ?_
  rintro e w9 ⟨rfl, hb9⟩
  rw [decide_eq_true rfl]
  have hB9 : Below w.heap.size w w9 := below_via hb9 hB8
  clear hb9
  go_wp2_with fail
  go_ret
  exact ⟨ret_bool (by first | rfl | (simp; done)), hB9⟩
end Go.Proofs.Ytjbdjlgddjmkbaa
