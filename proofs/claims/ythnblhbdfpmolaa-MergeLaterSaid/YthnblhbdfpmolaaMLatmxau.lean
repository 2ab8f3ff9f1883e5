/- Walks of the reference of layer 41: what is right, seen, the same. -/
import Derived.Test.YthnblhbdfpmolaaMLatmxas
import Derived.Test.YthnblhbdfpmolaaMLatmxat
namespace Go.Proofs.Ythnblhbdfpmolaa
open Go.RowKit
set_option maxHeartbeats 400000 in
theorem in40_any (n a b : Int) (w : World) : Calls Try.prog 116 #[.int .i64 n, .int .i64 a, .int .i64 b] w fun e w' => e = .returned (.bool (rngB n a b)) ∧ w = w' := by
  go_enter Try.func116, Try.ntmps116
  go_wp2
  all_goals
    go_ret
    exact ⟨ret_bool (by simp only [rngB]; simp; try omega), rfl⟩
set_option maxHeartbeats 400000 in
theorem in43_any (n a b : Int) (w : World) : Calls Try.prog 54 #[.int .i64 n, .int .i64 a, .int .i64 b] w fun e w' => e = .returned (.bool (rngB n a b)) ∧ w = w' := by
  go_enter Try.func54, Try.ntmps54
  go_wp2
  all_goals
    go_ret
    exact ⟨ret_bool (by simp only [rngB]; simp; try omega), rfl⟩
set_option maxHeartbeats 400000 in
theorem in41_any (n b : Int) (w : World) : Calls Try.prog 125 #[.int .i64 n, .int .i64 b] w fun e w' => e = .returned (.bool (rngB n 0 b)) ∧ w = w' := by
  go_enter Try.func125, Try.ntmps125
  go_wp2
  all_goals
    go_ret
    exact ⟨ret_bool (by simp only [rngB]; simp; try omega), rfl⟩
def seenN (l : List Int) (d : Int) : Int := if 0 ≤ d ∧ d < l.length then l.getD d.toNat 0 else 0
set_option maxHeartbeats 800000 in
theorem rseen (n : Note) (d : Int) (w : World) (hr : Rd (· < w.heap.size) 1 ienc w n.af) :
    Calls Try.prog 95 #[n.v, .int .i64 d] w fun e w' => e = .returned (.int .i64 (seenN n.af.l d)) ∧ Below w.heap.size w w' := by
  obtain ⟨nd, ns, ⟨A, c, l⟩, nt, nx⟩ := n
  have HR := Lib.hid hr
  clear hr
  simp only [Note.v]
  by_cases h : 0 ≤ d ∧ d < l.length
  · obtain ⟨j, rfl⟩ := Int.eq_ofNat_of_zero_le h.1
    have hj : j < l.length := by omega
    obtain ⟨b, o, rfl, hb, hcl⟩ := HR.out.at1 hj
    have g0 := hcl.c1
    simp only [Nat.mul_one] at g0
    have hv : seenN l j = l[j] := by unfold seenN; rw [if_pos h]; simp [List.getD, hj]
    have HV := Lib.hid hv
    clear hv h hcl
    generalize l[j] = y at *
    go_enter Try.func95, Try.ntmps95
    go_wp2_with fail
    go_ret
    exact ⟨ret_int HV.out.symm, (by repeat (first | (with_reducible exact Below.refl _ _) | ((with_reducible refine below_setr ?_ ?_); focus (first | (simp; done) | (simp; omega) | omega)) | ((with_reducible refine below_allocr ?_ ?_); focus (first | (simp; done) | (simp; omega) | omega)) | (with_reducible refine Below.drew ?_) | (with_reducible refine below_drewN ?_ _)))⟩
  · have hv : seenN l d = 0 := by unfold seenN; rw [if_neg h]
    have HV := Lib.hid hv
    clear hv
    rcases Int.lt_or_le d 0 with h' | h'
    · go_enter Try.func95, Try.ntmps95
      go_wp2_with fail
      go_ret
      exact ⟨ret_int HV.out.symm, (by repeat (first | (with_reducible exact Below.refl _ _) | ((with_reducible refine below_setr ?_ ?_); focus (first | (simp; done) | (simp; omega) | omega)) | ((with_reducible refine below_allocr ?_ ?_); focus (first | (simp; done) | (simp; omega) | omega)) | (with_reducible refine Below.drew ?_) | (with_reducible refine below_drewN ?_ _)))⟩
    · have h2 : (l.length : Int) ≤ d := by omega
      go_enter Try.func95, Try.ntmps95
      go_wp2_with fail
      go_ret
      exact ⟨ret_int HV.out.symm, (by repeat (first | (with_reducible exact Below.refl _ _) | ((with_reducible refine below_setr ?_ ?_); focus (first | (simp; done) | (simp; omega) | omega)) | ((with_reducible refine below_allocr ?_ ?_); focus (first | (simp; done) | (simp; omega) | omega)) | (with_reducible refine Below.drew ?_) | (with_reducible refine below_drewN ?_ _)))⟩
set_option maxHeartbeats 1000000 in
theorem rone_no (n : Note) (w : World) (h0 : n.d.ok0 = false) :
    Calls Try.prog 93 #[n.v] w fun e w' => e = .returned (.bool false) ∧ Below w.heap.size w w' := by
  obtain ⟨d, s, ⟨A, c, l⟩, t, x⟩ := n
  simp only [Note.d, NoteD.ok0] at h0
  simp only [Note.v]
  rcases h1 : rngB d 0 11
  rotate_left
  rcases h2 : rngB s 0 9999
  rotate_left
  rcases h3 : rngB t 0 1048576
  rotate_left
  rcases Nat.lt_or_ge 12 l.length with h4 | h4
  rotate_left
  have h5 : 20000 < x.size := Nat.lt_of_not_le (fun hc => by simp [h1, h2, h3, h4, hc] at h0)
  all_goals
    clear h0
    go_enter Try.func93, Try.ntmps93
    go_wp2_with (go_at_call 125; refine (in41_any _ _ _).mono ?_; rintro e w' ⟨rfl, rfl⟩)
    go_ret
    exact ⟨rfl, (by repeat (first | (with_reducible exact Below.refl _ _) | ((with_reducible refine below_setr ?_ ?_); focus (first | (simp; done) | (simp; omega) | omega)) | ((with_reducible refine below_allocr ?_ ?_); focus (first | (simp; done) | (simp; omega) | omega)) | (with_reducible refine Below.drew ?_) | (with_reducible refine below_drewN ?_ _)))⟩
set_option maxHeartbeats 1000000 in
theorem rone_yes (n : Note) (w : World) (hr : Rd (· < w.heap.size) 1 ienc w n.af) (h0 : n.d.ok0 = true) :
    Calls Try.prog 93 #[n.v] w fun e w' => e = .returned (.bool (afOk n.dev 0 n.af.l)) ∧ Below w.heap.size w w' := by
  obtain ⟨d, s, ⟨A, c, l⟩, t, x⟩ := n
  simp only [Note.d, NoteD.ok0, Bool.and_eq_true, decide_eq_true_eq] at h0
  obtain ⟨h1, h2, h3, h4, h5⟩ := h0
  have h4' : l.length ≤ 12 := of_decide_eq_true h4
  have h5' : x.size ≤ 20000 := of_decide_eq_true h5
  clear h4 h5
  have h4 : (l.length : Int) ≤ 12 := by omega
  have h5 : (x.size : Int) ≤ 20000 := by omega
  have HR := Lib.hid hr
  clear hr
  simp only [Note.v]
  go_enter Try.func93, Try.ntmps93
  go_wp2_with (go_at_call 125; refine (in41_any _ _ _).mono ?_; rintro e w' ⟨rfl, rfl⟩)
  go_loopw [3] (fun i wr => ∃ (k : Nat), k ≤ l.length ∧ i = .int .i64 k ∧ Blk wr w.heap.size 61 #[.int .i64 d, .int .i64 s, .slice A l.length c, .int .i64 t, .string x] ∧ Below w.heap.size w wr ∧ afOk d 0 l = afOk d k (l.drop k)) (fun i _ => l.length - (intOf i).toNat)
  case atStart => exact ⟨0, by omega, rfl, Blk.new _ _ _, (by repeat (first | (with_reducible exact Below.refl _ _) | ((with_reducible refine below_setr ?_ ?_); focus (first | (simp; done) | (simp; omega) | omega)) | ((with_reducible refine below_allocr ?_ ?_); focus (first | (simp; done) | (simp; omega) | omega)) | (with_reducible refine Below.drew ?_) | (with_reducible refine below_drewN ?_ _))), by simp⟩
  case round =>
    obtain ⟨k, hk, rfl, hblk, hbel, heq⟩ := hrel
    obtain ⟨a0, a1, a2, a3, a4, af, az⟩ := hblk.b5
    have HB := Lib.hid hblk
    clear hblk
    by_cases hlt : k < l.length
    · obtain ⟨b, o, rfl, hb, hcl⟩ := HR.out.at1 hlt
      have g0 := (hcl.keep (hbel.block b hb)).c1
      have hd : l.drop k = l[k] :: l.drop (k + 1) := List.drop_eq_getElem_cons hlt
      rw [hd] at heq
      have HE := Lib.hid heq
      clear hd heq hcl HR
      simp only [Nat.mul_one] at g0
      generalize l[k] = y at *
      rcases hy : rngB y 0 10000
      · have HY := Lib.hid hy
        go_wp2_with (go_at_call 125; refine (in41_any _ _ _).mono ?_; rintro e w' ⟨rfl, rfl⟩)
        go_ret
        exact ⟨ret_bool (by rw [HE.out, afOk_no (.inl HY.out)]), hbel⟩
      · have HY := Lib.hid hy
        by_cases hkd : (k : Int) = d
        · by_cases hy0 : y = 0
          · have e1 : ((k : Int) == d) = true := by simp [hkd]
            have e2 : (y != 0) = false := by simp [hy0]
            have H1 := Lib.hid hkd
            have H2 := Lib.hid hy0
            clear hkd hy0
            go_wp2_with (go_at_call 125; refine (in41_any _ _ _).mono ?_; rintro e w' ⟨rfl, rfl⟩)
            go_roundw
            case rel => exact ⟨k + 1, by omega, by go_num, HB.out, hbel, by rw [HE.out, afOk_go2 HY.out (fun hc => hc.2 H2.out)]; simp⟩
            case measure => simp [intOf]; omega
          · have e1 : ((k : Int) == d) = true := by simp [hkd]
            have e2 : (y != 0) = true := by simp [hy0]
            have H1 := Lib.hid hkd
            have H2 := Lib.hid hy0
            clear hkd hy0
            go_wp2_with (go_at_call 125; refine (in41_any _ _ _).mono ?_; rintro e w' ⟨rfl, rfl⟩)
            go_ret
            exact ⟨ret_bool (by rw [HE.out, afOk_no (.inr ⟨H1.out, H2.out⟩)]), hbel⟩
        · have e1 : ((k : Int) == d) = false := by simp [hkd]
          have H1 := Lib.hid hkd
          clear hkd
          go_wp2_with (go_at_call 125; refine (in41_any _ _ _).mono ?_; rintro e w' ⟨rfl, rfl⟩)
          go_roundw
          case rel => exact ⟨k + 1, by omega, by go_num, HB.out, hbel, by rw [HE.out, afOk_go2 HY.out (fun hc => H1.out hc.1)]; simp⟩
          case measure => simp [intOf]; omega
    · have hkl : l.drop k = [] := List.drop_eq_nil_of_le (by omega)
      rw [hkl] at heq
      have HE := Lib.hid heq
      clear hkl heq HR
      go_wp2_with fail
      go_ret
      exact ⟨ret_bool (by rw [HE.out]; rfl), hbel⟩
theorem rone (n : Note) (w : World) (hr : Rd (· < w.heap.size) 1 ienc w n.af) :
    Calls Try.prog 93 #[n.v] w fun e w' => e = .returned (.bool n.d.right) ∧ Below w.heap.size w w' := by
  unfold NoteD.right
  rcases h : n.d.ok0
  · exact rone_no n w h
  · exact rone_yes n w hr h
end Go.Proofs.Ythnblhbdfpmolaa
