/- Walks of merge.Right, phone.seen, phone.holds. -/
import Derived.Test.YthnblhbdfpmolaaMLatmxaf
namespace Go.Proofs.Ythnblhbdfpmolaa
open Go.RowKit
def idxF {α : Type} (p : α → Bool) (k : Int) : List α → Int
  | [] => -1
  | x :: l => if p x then k else idxF p (k + 1) l
theorem idxF_yes {α : Type} {p : α → Bool} {k : Int} {x : α} {l : List α} (h : p x = true) : idxF p k (x :: l) = k := by simp [idxF, h]
theorem idxF_no {α : Type} {p : α → Bool} {k : Int} {x : α} {l : List α} (h : p x = false) : idxF p k (x :: l) = idxF p (k + 1) l := by simp [idxF, h]
theorem idxF_any {α : Type} {p : α → Bool} : ∀ (l : List α) (k : Int), 0 ≤ k → decide (0 ≤ idxF p k l) = l.any p
  | [], k, _ => by simp [idxF]
  | x :: l, k, hk => by
    rcases h : p x
    · rw [idxF_no h, idxF_any l (k + 1) (by omega)]; simp [h]
    · rw [idxF_yes h]; simp [h, hk]
set_option maxHeartbeats 400000 in
theorem clo_note (n : Note) (w : World) (hr : Rd (· < w.heap.size) 1 ienc w n.af) :
    Calls Try.prog 91 #[n.v] w fun e w' => e = .returned (.bool (!n.d.right)) ∧ Below w.heap.size w w' := by
  obtain ⟨d, s, af, t, x⟩ := n
  have HR := Lib.hid hr
  clear hr
  simp only [Note.v]
  go_enter Try.func91, Try.ntmps91
  go_wp2_with fail
  refine (mright ⟨d, s, af, t, x⟩ _ (HR.out.lt_alloc _)).mono ?_
  rintro e w1 ⟨rfl, hb1⟩
  have hB : Below w.heap.size w w1 := Below.trans (by repeat (first | (with_reducible exact Below.refl _ _) | ((with_reducible refine below_setr ?_ ?_); focus (first | (simp; done) | (simp; omega) | omega)) | ((with_reducible refine below_allocr ?_ ?_); focus (first | (simp; done) | (simp; omega) | omega)) | (with_reducible refine Below.drew ?_) | (with_reducible refine below_drewN ?_ _))) (hb1.mono (by first | omega | (simp; done) | (simp; omega)))
  clear hb1
  generalize hq : (Note.d ⟨d, s, af, t, x⟩).right = r
  have HQ := Lib.hid hq
  clear hq
  go_wp2_with fail
  go_ret
  exact ⟨ret_bool (by rw [HQ.out]), hB⟩
set_option maxHeartbeats 400000 in
theorem clo_seen (n : Int) (w : World) :
    Calls Try.prog 101 #[.int .i64 n] w fun e w' => e = .returned (.bool (!rngB n 0 10000)) ∧ Below w.heap.size w w' := by
  go_enter Try.func101, Try.ntmps101
  go_wp2_with (go_at_call 59; refine (pto_any _ _ _ _).mono ?_; rintro e w' ⟨rfl, rfl⟩)
  go_ret
  exact ⟨rfl, Below.refl _ _⟩
set_option maxHeartbeats 1000000 in
theorem idxF_note (s : Sl Note) (w : World) (hr : RdNotes (· < w.heap.size) w s) :
    Calls Try.prog 123 #[.slice s.A s.l.length s.c, .func (.func 91) #[] #[]] w fun e w' => e = .returned (.int .i64 (idxF (fun n : Note => !n.d.right) 0 s.l)) ∧ Below w.heap.size w w' := by
  obtain ⟨A, c, l⟩ := s
  have hn := hr.1.len
  simp only at hn
  have HR := Lib.hid hr
  clear hr
  simp only
  go_enter Try.func123, Try.ntmps123
  go_wp2_with fail
  go_loopw [8] (fun i wr => ∃ (k : Nat), k ≤ l.length ∧ i = .int .i64 k ∧ Below w.heap.size w wr ∧ idxF (fun n : Note => !n.d.right) 0 l = idxF (fun n : Note => !n.d.right) k (l.drop k)) (fun i _ => l.length - (intOf i).toNat)
  case atStart => exact ⟨0, by omega, rfl, Below.refl _ _, by simp⟩
  case round =>
    obtain ⟨k, hk, rfl, hbel, heq⟩ := hrel
    have hhe : w.heap.size ≤ wr.heap.size := hbel.size
    by_cases hlt : k < l.length
    · obtain ⟨b, o, rfl, hb, hcl⟩ := HR.out.1.at1 hlt
      obtain ⟨g0, g1, g2, g3, g4⟩ := Cells.c5 (hcl.keep (hbel.block b hb))
      have hra := (HR.out.2 l[k] (List.getElem_mem hlt)).below' hbel (Nat.le_refl _)
      have hd : l.drop k = l[k] :: l.drop (k + 1) := List.drop_eq_getElem_cons hlt
      rw [hd] at heq
      have HE := Lib.hid heq
      have HA := Lib.hid hra
      clear hd heq hcl HR hra
      generalize l[k] = y at *
      rcases hy : y.d.right
      · have HY := Lib.hid hy
        clear hy
        go_wp2_with (go_at_call 91; refine (clo_note y wr HA.out).mono ?_; rintro e w1 ⟨rfl, hb1⟩; rw [HY.out])
        go_ret
        exact ⟨ret_int (by rw [HE.out, idxF_yes (by simp [HY.out])]), hbel.trans (hb1.mono hhe)⟩
      · have HY := Lib.hid hy
        clear hy
        go_wp2_with (go_at_call 91; refine (clo_note y wr HA.out).mono ?_; rintro e w1 ⟨rfl, hb1⟩; rw [HY.out])
        go_roundw
        case rel => exact ⟨k + 1, by omega, by go_num, hbel.trans (hb1.mono hhe), by rw [HE.out, idxF_no (by simp [HY.out])]; simp⟩
        case measure => simp [intOf]; omega
    · have hkl : l.drop k = [] := List.drop_eq_nil_of_le (by omega)
      rw [hkl] at heq
      have HE := Lib.hid heq
      clear hkl heq HR
      go_wp2_with fail
      go_ret
      exact ⟨ret_int (by rw [HE.out]; rfl), hbel⟩
set_option maxHeartbeats 1000000 in
theorem idxF_int (s : Sl Int) (w : World) (hr : Rd (· < w.heap.size) 1 ienc w s) :
    Calls Try.prog 126 #[.slice s.A s.l.length s.c, .func (.func 101) #[] #[]] w fun e w' => e = .returned (.int .i64 (idxF (fun n => !rngB n 0 10000) 0 s.l)) ∧ Below w.heap.size w w' := by
  obtain ⟨A, c, l⟩ := s
  have hn := hr.len
  simp only at hn
  have HR := Lib.hid hr
  clear hr
  simp only
  go_enter Try.func126, Try.ntmps126
  go_wp2_with fail
  go_loopw [8] (fun i wr => ∃ (k : Nat), k ≤ l.length ∧ i = .int .i64 k ∧ Below w.heap.size w wr ∧ idxF (fun n => !rngB n 0 10000) 0 l = idxF (fun n => !rngB n 0 10000) k (l.drop k)) (fun i _ => l.length - (intOf i).toNat)
  case atStart => exact ⟨0, by omega, rfl, Below.refl _ _, by simp⟩
  case round =>
    obtain ⟨k, hk, rfl, hbel, heq⟩ := hrel
    have hhe : w.heap.size ≤ wr.heap.size := hbel.size
    by_cases hlt : k < l.length
    · obtain ⟨b, o, rfl, hb, hcl⟩ := HR.out.at1 hlt
      have g0 := (hcl.keep (hbel.block b hb)).c1
      have hd : l.drop k = l[k] :: l.drop (k + 1) := List.drop_eq_getElem_cons hlt
      rw [hd] at heq
      have HE := Lib.hid heq
      clear hd heq hcl HR
      simp only [Nat.mul_one] at g0
      generalize l[k] = y at *
      rcases hy : rngB y 0 10000
      · have HY := Lib.hid hy
        clear hy
        go_wp2_with (go_at_call 101; refine (clo_seen y wr).mono ?_; rintro e w1 ⟨rfl, hb1⟩; rw [HY.out])
        go_ret
        exact ⟨ret_int (by rw [HE.out, idxF_yes (by simp [HY.out])]), hbel.trans (hb1.mono hhe)⟩
      · have HY := Lib.hid hy
        clear hy
        go_wp2_with (go_at_call 101; refine (clo_seen y wr).mono ?_; rintro e w1 ⟨rfl, hb1⟩; rw [HY.out])
        go_roundw
        case rel => exact ⟨k + 1, by omega, by go_num, hbel.trans (hb1.mono hhe), by rw [HE.out, idxF_no (by simp [HY.out])]; simp⟩
        case measure => simp [intOf]; omega
    · have hkl : l.drop k = [] := List.drop_eq_nil_of_le (by omega)
      rw [hkl] at heq
      have HE := Lib.hid heq
      clear hkl heq HR
      go_wp2_with fail
      go_ret
      exact ⟨ret_int (by rw [HE.out]; rfl), hbel⟩
set_option maxHeartbeats 400000 in
theorem contains_note (s : Sl Note) (w : World) (hr : RdNotes (· < w.heap.size) w s) :
    Calls Try.prog 90 #[.slice s.A s.l.length s.c, .func (.func 91) #[] #[]] w fun e w' => e = .returned (.bool (s.l.any (fun n : Note => !n.d.right))) ∧ Below w.heap.size w w' := by
  rw [← idxF_any s.l 0 (Int.le_refl _)]
  go_enter Try.func90, Try.ntmps90
  go_wp2_with (go_at_call 123; refine (idxF_note s w hr).mono ?_; rintro e w1 ⟨rfl, hb1⟩; generalize hq : idxF (fun n : Note => !n.d.right) 0 s.l = r; have HQ := Lib.hid hq; clear hq)
  go_ret
  exact ⟨ret_bool (by rw [HQ.out]), hb1⟩
set_option maxHeartbeats 400000 in
theorem contains_int (s : Sl Int) (w : World) (hr : Rd (· < w.heap.size) 1 ienc w s) :
    Calls Try.prog 100 #[.slice s.A s.l.length s.c, .func (.func 101) #[] #[]] w fun e w' => e = .returned (.bool (s.l.any (fun n => !rngB n 0 10000))) ∧ Below w.heap.size w w' := by
  rw [← idxF_any s.l 0 (Int.le_refl _)]
  go_enter Try.func100, Try.ntmps100
  go_wp2_with (go_at_call 126; refine (idxF_int s w hr).mono ?_; rintro e w1 ⟨rfl, hb1⟩; generalize hq : idxF (fun n => !rngB n 0 10000) 0 s.l = r; have HQ := Lib.hid hq; clear hq)
  go_ret
  exact ⟨ret_bool (by rw [HQ.out]), hb1⟩
end Go.Proofs.Ythnblhbdfpmolaa
