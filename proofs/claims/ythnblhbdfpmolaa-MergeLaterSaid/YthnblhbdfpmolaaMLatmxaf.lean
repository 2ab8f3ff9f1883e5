/- Walks of merge.Right and what it calls. -/
import Derived.Test.YthnblhbdfpmolaaMLatmxae
namespace Go.Proofs.Ythnblhbdfpmolaa
open Go.RowKit
def rngB (n a b : Int) : Bool := decide (a ≤ n) && decide (n ≤ b)
theorem rngB_iff {n a b : Int} : rngB n a b = true ↔ a ≤ n ∧ n ≤ b := by simp [rngB]
theorem rngB_not {n a b : Int} : rngB n a b = false ↔ n < a ∨ b < n := by simp [rngB]; omega
set_option maxHeartbeats 400000 in
theorem within_any (n a b : Int) (w : World) : Calls Try.prog 124 #[.int .i64 n, .int .i64 a, .int .i64 b] w fun e w' => e = .returned (.bool (rngB n a b)) ∧ w = w' := by
  go_enter Try.func124, Try.ntmps124
  go_wp2
  all_goals
    go_ret
    exact ⟨ret_bool (by simp only [rngB]; simp; try omega), rfl⟩
set_option maxHeartbeats 400000 in
theorem pto_any (n a b : Int) (w : World) : Calls Try.prog 59 #[.int .i64 n, .int .i64 a, .int .i64 b] w fun e w' => e = .returned (.bool (rngB n a b)) ∧ w = w' := by
  go_enter Try.func59, Try.ntmps59
  go_wp2
  all_goals
    go_ret
    exact ⟨ret_bool (by simp only [rngB]; simp; try omega), rfl⟩
def afOk (dev k : Int) : List Int → Bool
  | [] => true
  | x :: l => if rngB x 0 10000 = false ∨ (k = dev ∧ x ≠ 0) then false else afOk dev (k + 1) l
theorem afOk_no {d k x : Int} {l : List Int} (h : rngB x 0 10000 = false ∨ (k = d ∧ x ≠ 0)) : afOk d k (x :: l) = false := by simp only [afOk, if_pos h]
theorem afOk_go {d k x : Int} {l : List Int} (h : ¬ (rngB x 0 10000 = false ∨ (k = d ∧ x ≠ 0))) : afOk d k (x :: l) = afOk d (k + 1) l := by simp only [afOk, if_neg h]
theorem afOk_go2 {d k x : Int} {l : List Int} (hy : rngB x 0 10000 = true) (h : ¬ (k = d ∧ x ≠ 0)) : afOk d k (x :: l) = afOk d (k + 1) l := afOk_go (fun hc => by
  rcases hc with hc | hc
  · rw [hy] at hc; cases hc
  · exact h hc)
def NoteD.ok0 (n : NoteD) : Bool := rngB n.dev 0 11 && (rngB n.seq 0 9999 && (rngB n.tm 0 1048576 && (decide (n.af.length ≤ 12) && decide (n.tx.size ≤ 20000))))
def NoteD.right (n : NoteD) : Bool := if n.ok0 then afOk n.dev 0 n.af else false
def Note.v (x : Note) : Value := .agg #[.int .i64 x.dev, .int .i64 x.seq, .slice x.af.A x.af.l.length x.af.c, .int .i64 x.tm, .string x.tx]
set_option maxHeartbeats 1000000 in
theorem mright_no (n : Note) (w : World) (h0 : n.d.ok0 = false) :
    Calls Try.prog 92 #[n.v] w fun e w' => e = .returned (.bool false) ∧ Below w.heap.size w w' := by
  obtain ⟨d, s, ⟨A, c, l⟩, t, x⟩ := n
  simp only [Note.d, NoteD.ok0] at h0
  simp only [Note.v]
  rcases h1 : rngB d 0 11
  rotate_left
  rcases h2 : rngB s 0 9999
  rotate_left
  rcases h3 : rngB t 0 1048576
  rotate_left
  rcases Nat.lt_or_ge 12 l.length with h4 | h4
  rotate_left
  have h5 : 20000 < x.size := Nat.lt_of_not_le (fun hc => by simp [h1, h2, h3, h4, hc] at h0)
  all_goals
    clear h0
    go_enter Try.func92, Try.ntmps92
    go_wp2_with (go_at_call 124; refine (within_any _ _ _ _).mono ?_; rintro e w' ⟨rfl, rfl⟩)
    go_ret
    exact ⟨rfl, (by repeat (first | (with_reducible exact Below.refl _ _) | ((with_reducible refine below_setr ?_ ?_); focus (first | (simp; done) | (simp; omega) | omega)) | ((with_reducible refine below_allocr ?_ ?_); focus (first | (simp; done) | (simp; omega) | omega)) | (with_reducible refine Below.drew ?_) | (with_reducible refine below_drewN ?_ _)))⟩
set_option maxHeartbeats 1000000 in
theorem mright_yes (n : Note) (w : World) (hr : Rd (· < w.heap.size) 1 ienc w n.af) (h0 : n.d.ok0 = true) :
    Calls Try.prog 92 #[n.v] w fun e w' => e = .returned (.bool (afOk n.dev 0 n.af.l)) ∧ Below w.heap.size w w' := by
  obtain ⟨d, s, ⟨A, c, l⟩, t, x⟩ := n
  simp only [Note.d, NoteD.ok0, Bool.and_eq_true, decide_eq_true_eq] at h0
  obtain ⟨h1, h2, h3, h4, h5⟩ := h0
  have h4' : l.length ≤ 12 := of_decide_eq_true h4
  have h5' : x.size ≤ 20000 := of_decide_eq_true h5
  clear h4 h5
  have h4 : (l.length : Int) ≤ 12 := by omega
  have h5 : (x.size : Int) ≤ 20000 := by omega
  have HR := Lib.hid hr
  clear hr
  simp only [Note.v]
  go_enter Try.func92, Try.ntmps92
  go_wp2_with (go_at_call 124; refine (within_any _ _ _ _).mono ?_; rintro e w' ⟨rfl, rfl⟩)
  go_loopw [36] (fun i wr => ∃ (k : Nat), k ≤ l.length ∧ i = .int .i64 k ∧ Blk wr w.heap.size 61 #[.int .i64 d, .int .i64 s, .slice A l.length c, .int .i64 t, .string x] ∧ Below w.heap.size w wr ∧ afOk d 0 l = afOk d k (l.drop k)) (fun i _ => l.length - (intOf i).toNat)
  case atStart => exact ⟨0, by omega, rfl, Blk.new _ _ _, (by repeat (first | (with_reducible exact Below.refl _ _) | ((with_reducible refine below_setr ?_ ?_); focus (first | (simp; done) | (simp; omega) | omega)) | ((with_reducible refine below_allocr ?_ ?_); focus (first | (simp; done) | (simp; omega) | omega)) | (with_reducible refine Below.drew ?_) | (with_reducible refine below_drewN ?_ _))), by simp⟩
  case round =>
    obtain ⟨k, hk, rfl, hblk, hbel, heq⟩ := hrel
    obtain ⟨a0, a1, a2, a3, a4, af, az⟩ := hblk.b5
    have HB := Lib.hid hblk
    clear hblk
    by_cases hlt : k < l.length
    · obtain ⟨b, o, rfl, hb, hcl⟩ := HR.out.at1 hlt
      have g0 := (hcl.keep (hbel.block b hb)).c1
      have hd : l.drop k = l[k] :: l.drop (k + 1) := List.drop_eq_getElem_cons hlt
      rw [hd] at heq
      have HE := Lib.hid heq
      clear hd heq hcl HR
      simp only [Nat.mul_one] at g0
      generalize l[k] = y at *
      rcases hy : rngB y 0 10000
      · have HY := Lib.hid hy
        go_wp2_with (go_at_call 124; refine (within_any _ _ _ _).mono ?_; rintro e w' ⟨rfl, rfl⟩)
        go_ret
        exact ⟨ret_bool (by rw [HE.out, afOk_no (.inl HY.out)]), hbel⟩
      · have HY := Lib.hid hy
        by_cases hkd : (k : Int) = d
        · by_cases hy0 : y = 0
          · have e1 : ((k : Int) == d) = true := by simp [hkd]
            have e2 : (y != 0) = false := by simp [hy0]
            have H1 := Lib.hid hkd
            have H2 := Lib.hid hy0
            clear hkd hy0
            go_wp2_with (go_at_call 124; refine (within_any _ _ _ _).mono ?_; rintro e w' ⟨rfl, rfl⟩)
            go_roundw
            case rel => exact ⟨k + 1, by omega, by go_num, HB.out, hbel, by rw [HE.out, afOk_go2 HY.out (fun hc => hc.2 H2.out)]; simp⟩
            case measure => simp [intOf]; omega
          · have e1 : ((k : Int) == d) = true := by simp [hkd]
            have e2 : (y != 0) = true := by simp [hy0]
            have H1 := Lib.hid hkd
            have H2 := Lib.hid hy0
            clear hkd hy0
            go_wp2_with (go_at_call 124; refine (within_any _ _ _ _).mono ?_; rintro e w' ⟨rfl, rfl⟩)
            go_ret
            exact ⟨ret_bool (by rw [HE.out, afOk_no (.inr ⟨H1.out, H2.out⟩)]), hbel⟩
        · have e1 : ((k : Int) == d) = false := by simp [hkd]
          have H1 := Lib.hid hkd
          clear hkd
          go_wp2_with (go_at_call 124; refine (within_any _ _ _ _).mono ?_; rintro e w' ⟨rfl, rfl⟩)
          go_roundw
          case rel => exact ⟨k + 1, by omega, by go_num, HB.out, hbel, by rw [HE.out, afOk_go2 HY.out (fun hc => H1.out hc.1)]; simp⟩
          case measure => simp [intOf]; omega
    · have hkl : l.drop k = [] := List.drop_eq_nil_of_le (by omega)
      rw [hkl] at heq
      have HE := Lib.hid heq
      clear hkl heq HR
      go_wp2_with fail
      go_ret
      exact ⟨ret_bool (by rw [HE.out]; rfl), hbel⟩
theorem mright (n : Note) (w : World) (hr : Rd (· < w.heap.size) 1 ienc w n.af) :
    Calls Try.prog 92 #[n.v] w fun e w' => e = .returned (.bool n.d.right) ∧ Below w.heap.size w w' := by
  unfold NoteD.right
  rcases h : n.d.ok0
  · exact mright_no n w h
  · exact mright_yes n w hr h
end Go.Proofs.Ythnblhbdfpmolaa
