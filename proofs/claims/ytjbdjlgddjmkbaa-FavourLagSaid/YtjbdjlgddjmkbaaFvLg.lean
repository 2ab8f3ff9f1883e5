/- The walk of FavourLag. -/
import Derived.Test.YtjbdjlgddjmkbaaFvSm
import Derived.Test.YtjbdjlgddjmkbaaFvOp
namespace Go.Proofs.Ytjbdjlgddjmkbaa
open Go.RowKit
theorem hiF_mem (l : List Bal) : ∀ (r : List Int) (a : Int), hiF l a r = a ∨ ∃ x ∈ r, hiF l a r = ofL x l
  | [], a => .inl rfl
  | m :: r, a => by
    unfold hiF
    rcases hiF_mem l r (max a (ofL m l)) with h | ⟨x, hx, h⟩
    · rw [h]
      rcases Int.lt_or_le a (ofL m l) with h1 | h1
      · exact .inr ⟨m, by simp, by omega⟩
      · exact .inl (by omega)
    · exact .inr ⟨x, by simp [hx], h⟩
theorem loF_mem (l : List Bal) : ∀ (r : List Int) (a : Int), loF l a r = a ∨ ∃ x ∈ r, loF l a r = ofL x l
  | [], a => .inl rfl
  | m :: r, a => by
    unfold loF
    rcases loF_mem l r (min a (ofL m l)) with h | ⟨x, hx, h⟩
    · rw [h]
      rcases Int.lt_or_le (ofL m l) a with h1 | h1
      · exact .inr ⟨m, by simp, by omega⟩
      · exact .inl (by omega)
    · exact .inr ⟨x, by simp [hx], h⟩
theorem lagL_le {l : List Bal} {g : List Int} {B : Int} (hB : 0 ≤ B) (h : ∀ x ∈ g, ∀ y ∈ g, ofL x l - ofL y l ≤ B) : lagL l g ≤ B := by
  rcases g with _ | ⟨m, r⟩
  · exact hB
  · show hiF l (ofL m l) (m :: r) - loF l (ofL m l) (m :: r) ≤ B
    have hx : ∃ x ∈ m :: r, hiF l (ofL m l) (m :: r) = ofL x l := by
      rcases hiF_mem l (m :: r) (ofL m l) with h | h
      · exact ⟨m, by simp, h⟩
      · exact h
    have hy : ∃ y ∈ m :: r, loF l (ofL m l) (m :: r) = ofL y l := by
      rcases loF_mem l (m :: r) (ofL m l) with h | h
      · exact ⟨m, by simp, h⟩
      · exact h
    obtain ⟨x, hx, e1⟩ := hx
    obtain ⟨y, hy, e2⟩ := hy
    rw [e1, e2]
    exact h x hx y hy
set_option maxRecDepth 20000 in
set_option maxHeartbeats 8000000 in
theorem favourlag (s : Sl Int) (u : Sl Int) (w : World) (hr : Rd (· < w.heap.size) 1 ienc w s) (hu : Rd (· < w.heap.size) 1 uenc w u) (hub : ∀ z ∈ u.l, 0 ≤ z ∧ z < 65536) :
    Calls Try.prog 4 #[.slice s.A s.l.length s.c, .slice u.A u.l.length u.c] w fun e w' => e = .returned (.bool true) ∧ Below w.heap.size w w' := by
  have HR := Lib.hid hr
  have HU := Lib.hid hu
  have HUB := Lib.hid hub
  clear hr hu hub
  go_enter Try.func4, Try.ntmps4
  go_wp2_with fail
  refine (small_any w).mono ?_
  rintro e w1 ⟨rfl, hB1⟩
  rcases Nat.lt_or_ge s.l.length 1 with h1 | h1
  · have h1' : (s.l.length : Int) < 1 := by omega
    clear h1
    go_wp2_with fail
    go_ret
    exact ⟨rfl, hB1⟩
  rcases Nat.lt_or_ge 8 s.l.length with h8 | h8
  · have h8' : (8 : Int) < (s.l.length : Int) := by omega
    go_wp2_with fail
    go_ret
    exact ⟨rfl, hB1⟩
  rcases Nat.lt_or_ge 60 u.l.length with h60 | h60
  · have h60' : (60 : Int) < (u.l.length : Int) := by omega
    have h1' : (1 : Int) ≤ (s.l.length : Int) := by omega
    have h8' : (s.l.length : Int) ≤ 8 := by omega
    go_wp2_with fail
    go_ret
    exact ⟨rfl, hB1⟩
  have h60' : (u.l.length : Int) ≤ 60 := by omega
  have h1' : (1 : Int) ≤ (s.l.length : Int) := by omega
  have h8' : (s.l.length : Int) ≤ 8 := by omega
  have hap := apart_any s w1 (HR.out.later hB1 (Nat.le_refl _))
  rcases hg : ridesGo s.l
  · rw [hg] at hap
    clear hg
    go_wp2_with fail
    refine hap.mono ?_
    clear hap
    rintro e w2 ⟨rfl, hb2⟩
    have hB2 : Below w.heap.size w w2 := (by repeat (first | (with_reducible exact hB1) | (with_reducible exact Below.refl _ _) | ((with_reducible refine below_setr ?_ ?_); focus (first | (simp; done) | (simp; omega) | omega)) | ((with_reducible refine below_allocr ?_ ?_); focus (first | (simp; done) | (simp; omega) | omega)) | (with_reducible refine Below.drew ?_) | (with_reducible refine below_drewN ?_ _) | ((with_reducible apply below_via); focus (with_reducible assumption))))
    clear hb2
    go_wp2_with fail
    go_ret
    exact ⟨rfl, hB2⟩
  · rw [hg] at hap
    have HRI : Hid (ridesL s.l = true) := Lib.hid (by unfold ridesL; rw [hg]; simp; omega)
    clear hg
    go_wp2_with fail
    refine hap.mono ?_
    clear hap
    rintro e w2 ⟨rfl, hb2⟩
    have hB2 : Below w.heap.size w w2 := (by repeat (first | (with_reducible exact hB1) | (with_reducible exact Below.refl _ _) | ((with_reducible refine below_setr ?_ ?_); focus (first | (simp; done) | (simp; omega) | omega)) | ((with_reducible refine below_allocr ?_ ?_); focus (first | (simp; done) | (simp; omega) | omega)) | (with_reducible refine Below.drew ?_) | (with_reducible refine below_drewN ?_ _) | ((with_reducible apply below_via); focus (with_reducible assumption))))
    clear hb2 hB1
    obtain ⟨UA, uc, ul⟩ := u
    simp only at HUB h60 h60'
    go_wp2_with fail
    go_loopw [6, 7, 8] (fun vl vm vi wr => ∃ (k : Nat) (M : Int) (A : Option Addr) (c : Nat) (l : List Bal), k ≤ ul.length ∧ vi = .int .i64 k ∧ vm = .int .i64 M ∧ vl = .slice A l.length c ∧ 0 ≤ M ∧ M ≤ 1000 ∧ Hid (Rd (· < wr.heap.size) 2 Bal.enc wr ⟨A, c, l⟩) ∧
      Hid (rightL l = true) ∧ l.length ≤ 8 * k ∧ Hid (∀ x ∈ s.l, ∀ y ∈ s.l, ofL x l - ofL y l ≤ 2 * M) ∧ Hid (∀ q, -(1000 * (k : Int)) ≤ ofL q l ∧ ofL q l ≤ 1000 * (k : Int)) ∧ Below w.heap.size w wr) (fun _ _ vi _ => ul.length - (intOf vi).toNat)
    case atStart => exact ⟨0, 0, none, 0, [], by omega, rfl, rfl, rfl, by omega, by omega, Lib.hid (Rd.nil _ _ _ _), Lib.hid rfl, by simp, Lib.hid (by simp [ofL]), Lib.hid (by simp [ofL]), hB2⟩
    case round =>
      obtain ⟨k, M, A, c, l, hk, rfl, rfl, rfl, hM0, hM1, HRD, HRT, hlen, HLAG, HBD, hbel⟩ := hrel
      by_cases hlt : k < ul.length
      · obtain ⟨b, o, rfl, hb, hcl⟩ := HU.out.at1 hlt
        have g0 := (hcl.keep (hbel.block b hb)).c1
        simp only [Nat.mul_one] at g0
        have hzb := HUB.out _ (List.getElem_mem hlt)
        generalize ul[k] = z at *
        obtain ⟨hz0, hz1⟩ := hzb
        have hd0 : 0 ≤ z % 1001 := Int.emod_nonneg _ (by omega)
        have hd1 : z % 1001 ≤ 1000 := by omega
        have hst := lag_step (M := M) (K := 1000 * (k : Int)) (d := z % 1001) HRT.out HRI.out hd0 hd1 hM0 HLAG.out HBD.out (by omega)
        obtain ⟨he, hlg, hbd⟩ := hst
        obtain ⟨hf, hv, hbf⟩ := bear_ok he
        have hor := out_right hf hv
        have hlo := (raw_ok hf).len
        have hll := lagL_le (B := 2 * max M (z % 1001)) (by omega) hlg
        have hva : ∀ x ∈ outF l s.l (z % 1001), -1000000000000000 ≤ x.n ∧ x.n ≤ 1000000000000000 := fun x hx => by
          have := validB_iff.1 (List.all_eq_true.1 hv x hx); omega
        generalize outF l s.l (z % 1001) = ou at *
        have HBF := Lib.hid hbf
        have HOR := Lib.hid hor
        have HLG := Lib.hid hlg
        have HBD2 := Lib.hid hbd
        have HVA := Lib.hid hva
        clear hcl hv hbf hor hlg hbd hf he hva HBD HLAG
        have hM2 : 0 ≤ max M (z % 1001) ∧ max M (z % 1001) ≤ 1000 := by omega
        generalize hmx : max M (z % 1001) = M2 at *
        generalize hlgg : lagL ou s.l = lg at *
        obtain ⟨hM20, hM21⟩ := hM2
        have HLGG := Lib.hid hlgg
        clear hlgg
        go_wp2_with fail
        refine (bear_any ⟨A, c, l⟩ s (z % 1001) _ HRD.out (HR.out.later hbel (Nat.le_refl _)) (by simp only; omega) (by omega)).mono ?_
        rintro e w3 ⟨A3, c3, rfl, hr3, hb3⟩
        simp only [HBF.out] at hr3
        simp only [HBF.out]
        have HR3 := Lib.hid (Rd.top hr3)
        have hB3 : Below w.heap.size w w3 := (by repeat (first | (with_reducible exact hbel) | (with_reducible exact Below.refl _ _) | ((with_reducible refine below_setr ?_ ?_); focus (first | (simp; done) | (simp; omega) | omega)) | ((with_reducible refine below_allocr ?_ ?_); focus (first | (simp; done) | (simp; omega) | omega)) | (with_reducible refine Below.drew ?_) | (with_reducible refine below_drewN ?_ _) | ((with_reducible apply below_via); focus (with_reducible assumption))))
        clear hr3 hb3
        go_wp2_with fail
        refine (lag_any ⟨A3, c3, ou⟩ s _ HR3.out (HR.out.later hB3 (Nat.le_refl _)) HVA.out).mono ?_
        rintro e w4 ⟨rfl, hb4⟩
        simp only [HLGG.out]
        have HR4 := Lib.hid (HR3.out.later hb4 (Nat.le_refl _))
        have hB4 : Below w.heap.size w w4 := (by repeat (first | (with_reducible exact hB3) | (with_reducible exact Below.refl _ _) | ((with_reducible refine below_setr ?_ ?_); focus (first | (simp; done) | (simp; omega) | omega)) | ((with_reducible refine below_allocr ?_ ?_); focus (first | (simp; done) | (simp; omega) | omega)) | (with_reducible refine Below.drew ?_) | (with_reducible refine below_drewN ?_ _) | ((with_reducible apply below_via); focus (with_reducible assumption))))
        clear hb4
        have hll2 : ¬ 2 * M2 < lg := by omega
        go_wp2_with fail
        go_roundw
        case rel => exact ⟨k + 1, M2, A3, c3, ou, by omega, by go_num, rfl, rfl, hM20, hM21, HR4, HOR, by omega, HLG, Lib.hid (fun q => by have := HBD2.out q; push_cast; omega), hB4⟩
        case measure => simp [intOf]; omega
      · go_wp2_with fail
        go_ret
        exact ⟨rfl, hbel⟩
end Go.Proofs.Ytjbdjlgddjmkbaa
