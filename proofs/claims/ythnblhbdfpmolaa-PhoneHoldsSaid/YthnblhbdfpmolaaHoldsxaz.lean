/- Walks of the reference of layer 43: Seen, At. -/
import Derived.Test.YthnblhbdfpmolaaHoldsxay
namespace Go.Proofs.Ythnblhbdfpmolaa
open Go.RowKit
set_option maxHeartbeats 1000000 in
theorem rseen43 (s : Sl Int) (w : World) (hr : Rd (· < w.heap.size) 1 ienc w s) :
    Calls Try.prog 57 #[.slice s.A s.l.length s.c] w fun e w' => e = .returned (.bool (seenR s.l)) ∧ Below w.heap.size w w' := by
  obtain ⟨A, c, l⟩ := s
  have hn := hr.len
  simp only at hn
  have HR := Lib.hid hr
  clear hr
  simp only
  go_enter Try.func57, Try.ntmps57
  go_wp2_with fail
  go_loopw [3] (fun i wr => ∃ (k : Nat), k ≤ l.length ∧ i = .int .i64 k ∧ Below w.heap.size w wr ∧ (∀ j x, j < k → l[j]? = some x → rngB x 0 10000 = true)) (fun i _ => l.length - (intOf i).toNat)
  case atStart => exact ⟨0, by omega, rfl, (by repeat (first | (with_reducible exact Below.refl _ _) | ((with_reducible refine below_setr ?_ ?_); focus (first | (simp; done) | (simp; omega) | omega)) | ((with_reducible refine below_allocr ?_ ?_); focus (first | (simp; done) | (simp; omega) | omega)) | (with_reducible refine Below.drew ?_) | (with_reducible refine below_drewN ?_ _))), fun j x hj => absurd hj (Nat.not_lt_zero _)⟩
  case round =>
    obtain ⟨k, hk, rfl, hbel, hall⟩ := hrel
    have HALL := Lib.hid hall
    clear hall
    have hhe : w.heap.size ≤ wr.heap.size := hbel.size
    by_cases hlt : k < l.length
    · obtain ⟨b, o, rfl, hb, hcl⟩ := HR.out.at1 hlt
      have g0 := (hcl.keep (hbel.block b hb)).c1
      simp only [Nat.mul_one] at g0
      have hxk : l[k]? = some l[k] := List.getElem?_eq_getElem hlt
      have hmem : l[k] ∈ l := List.getElem_mem hlt
      generalize l[k] = x at *
      have HXK := Lib.hid hxk
      have HM := Lib.hid hmem
      clear hxk hcl hmem
      rcases hz : rngB x 0 10000
      · have hv : seenR l = false := by
          unfold seenR
          rw [all_false HM.out hz, Bool.and_false]
        have HV := Lib.hid hv
        clear hv
        go_wp2_with (go_at_call 54; refine (in43_any _ _ _ _).mono ?_; rintro e w' ⟨rfl, rfl⟩)
        go_ret
        exact ⟨ret_bool HV.out.symm, hbel⟩
      · have HZ := Lib.hid hz
        go_wp2_with (go_at_call 54; refine (in43_any _ _ _ _).mono ?_; rintro e w' ⟨rfl, rfl⟩)
        go_roundw
        case rel =>
          refine ⟨k + 1, by omega, by go_num, hbel, fun j x hj hx => ?_⟩
          rcases Nat.lt_or_ge j k with h1 | h1
          · exact HALL.out j x h1 hx
          · obtain rfl : j = k := by omega
            rw [HXK.out] at hx; injection hx with hx; subst hx; exact HZ.out
        case measure => simp [intOf]; omega
    · have hv : seenR l = decide (l.length = 12) := by
        unfold seenR
        have : l.all (fun n => rngB n 0 10000) = true := by
          rw [List.all_eq_true]
          intro x hx
          obtain ⟨j, hj⟩ := List.getElem?_of_mem hx
          have := (List.getElem?_eq_some_iff.1 hj).1
          exact HALL.out j x (by omega) hj
        rw [this, Bool.and_true]
      have HV := Lib.hid hv
      clear hv
      by_cases h12 : l.length = 12
      · have e : ((l.length : Int) == 12) = true := by simp; omega
        have H12 := Lib.hid h12
        clear h12
        go_wp2_with fail
        go_ret
        exact ⟨ret_bool (by rw [HV.out, decide_eq_true H12.out]), hbel⟩
      · have e : ((l.length : Int) == 12) = false := by simp; omega
        have H12 := Lib.hid h12
        clear h12
        go_wp2_with fail
        go_ret
        exact ⟨ret_bool (by rw [HV.out, decide_eq_false H12.out]), hbel⟩
set_option maxHeartbeats 800000 in
theorem rat43 (p : Phone) (q : Int) (w : World) (hr : Rd (· < w.heap.size) 3 Hold.enc w p.H) :
    Calls Try.prog 31 #[p.v, .int .i64 q] w fun e w' => e = .returned (.int .i64 (findK Hold.st q 0 p.H.l)) ∧ Below w.heap.size w w' := by
  obtain ⟨id, cut, ⟨A, c, L⟩, N, S⟩ := p
  have hn := hr.len
  simp only at hn
  have HR := Lib.hid hr
  clear hr
  simp only [Phone.v]
  go_enter Try.func31, Try.ntmps31
  go_wp2_with fail
  go_loopw [5] (fun i wr => ∃ (k : Nat), k ≤ L.length ∧ i = .int .i64 k ∧ Blk wr w.heap.size 26 #[.int .i64 id, .bool cut, .slice A L.length c, .slice N.A N.l.length N.c, .slice S.A S.l.length S.c] ∧ Below w.heap.size w wr ∧ findK Hold.st q 0 L = findK Hold.st q k (L.drop k)) (fun i _ => L.length - (intOf i).toNat)
  case atStart => exact ⟨0, by omega, rfl, Blk.new _ _ _, (by repeat (first | (with_reducible exact Below.refl _ _) | ((with_reducible refine below_setr ?_ ?_); focus (first | (simp; done) | (simp; omega) | omega)) | ((with_reducible refine below_allocr ?_ ?_); focus (first | (simp; done) | (simp; omega) | omega)) | (with_reducible refine Below.drew ?_) | (with_reducible refine below_drewN ?_ _))), by simp⟩
  case round =>
    obtain ⟨k, hk, rfl, hblk, hbel, heq⟩ := hrel
    obtain ⟨a0, a1, a2, a3, a4, af, az⟩ := hblk.b5
    have B_a := Lib.hid hblk
    clear hblk
    have hhe : w.heap.size ≤ wr.heap.size := hbel.size
    by_cases hlt : k < L.length
    · obtain ⟨b, o, rfl, hb, hcl⟩ := HR.out.at1 hlt
      obtain ⟨g0, g1, g2⟩ := Cells.c3 (hcl.keep (hbel.block b hb))
      have hd : L.drop k = L[k] :: L.drop (k + 1) := List.drop_eq_getElem_cons hlt
      rw [hd] at heq
      have HE := Lib.hid heq
      clear hd heq hcl
      generalize L[k] = x at *
      obtain ⟨xp, xu, xs⟩ := x
      by_cases hx : xp = q
      · subst hx
        go_wp2_with fail
        go_ret
        exact ⟨ret_int (by rw [HE.out]; simp [findK]), hbel⟩
      · have hx' : (xp == q) = false := by simp [hx]
        have HX := Lib.hid hx
        clear hx
        go_wp2_with fail
        go_roundw
        case rel => exact ⟨k + 1, by omega, by go_num, B_a.out, hbel, by rw [HE.out]; exact findK_far HX.out⟩
        case measure => simp [intOf]; omega
    · have hkl : L.drop k = [] := List.drop_eq_nil_of_le (by omega)
      rw [hkl] at heq
      have HE := Lib.hid heq
      clear hkl heq
      go_wp2_with fail
      go_ret
      exact ⟨ret_int (by rw [HE.out]; rfl), hbel⟩
end Go.Proofs.Ythnblhbdfpmolaa
