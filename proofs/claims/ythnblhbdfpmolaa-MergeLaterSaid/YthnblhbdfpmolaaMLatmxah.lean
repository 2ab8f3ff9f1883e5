/- Walks of package phone: what a right phone is. -/
import Derived.Test.YthnblhbdfpmolaaMLatmxag
import Derived.Test.YthnblhbdfpmolaaMLatmxad
namespace Go.Proofs.Ythnblhbdfpmolaa
open Go.RowKit
def notesR (l : List NoteD) : Bool := decide (l.length ≤ 10000) && l.all NoteD.right
theorem any_all (l : List Note) : (!l.any (fun n : Note => !n.d.right)) = (l.map Note.d).all NoteD.right := by
  induction l with
  | nil => rfl
  | cons x l ih => simp only [List.any_cons, List.map_cons, List.all_cons, Bool.not_or, ih, Bool.not_not]
def seenR (l : List Int) : Bool := decide (l.length = 12) && l.all (fun n => rngB n 0 10000)
theorem any_all_int (l : List Int) : (!l.any (fun n => !rngB n 0 10000)) = l.all (fun n => rngB n 0 10000) := by
  induction l with
  | nil => rfl
  | cons x l ih => simp only [List.any_cons, List.all_cons, Bool.not_or, ih, Bool.not_not]
set_option maxHeartbeats 400000 in
theorem merge_right (s : Sl Note) (w : World) (hr : RdNotes (· < w.heap.size) w s) :
    Calls Try.prog 40 #[.slice s.A s.l.length s.c] w fun e w' => e = .returned (.bool (notesR (s.l.map Note.d))) ∧ Below w.heap.size w w' := by
  unfold notesR
  rw [← any_all, List.length_map]
  by_cases h : s.l.length ≤ 10000
  · go_enter Try.func40, Try.ntmps40
    go_wp2_with (go_at_call 90; refine (contains_note s w hr).mono ?_; rintro e w1 ⟨rfl, hb1⟩; generalize hq : s.l.any (fun n : Note => !n.d.right) = r; have HQ := Lib.hid hq; clear hq)
    go_ret
    exact ⟨ret_bool (by rw [HQ.out]; simp [h]), hb1⟩
  · have h' : 10000 < s.l.length := by omega
    go_enter Try.func40, Try.ntmps40
    go_wp2_with fail
    go_ret
    exact ⟨ret_bool (by simp <;> omega), Below.refl _ _⟩
set_option maxHeartbeats 400000 in
theorem phone_seen (s : Sl Int) (w : World) (hr : Rd (· < w.heap.size) 1 ienc w s) :
    Calls Try.prog 56 #[.slice s.A s.l.length s.c] w fun e w' => e = .returned (.bool (seenR s.l)) ∧ Below w.heap.size w w' := by
  unfold seenR
  rw [← any_all_int]
  by_cases h : s.l.length = 12
  · have h' : ((s.l.length : Int) == 12) = true := by simp; omega
    have H := Lib.hid h
    clear h
    go_enter Try.func56, Try.ntmps56
    go_wp2_with (go_at_call 100; refine (contains_int s w hr).mono ?_; rintro e w1 ⟨rfl, hb1⟩; generalize hq : s.l.any (fun n => !rngB n 0 10000) = r; have HQ := Lib.hid hq; clear hq)
    go_ret
    exact ⟨ret_bool (by rw [HQ.out]; simp [H.out]), hb1⟩
  · have h' : ((s.l.length : Int) == 12) = false := by simp; omega
    have H := Lib.hid h
    clear h
    go_enter Try.func56, Try.ntmps56
    go_wp2_with fail
    go_ret
    exact ⟨ret_bool (by simp [H.out]), Below.refl _ _⟩
set_option maxHeartbeats 400000 in
theorem phone_device (n : Int) (w : World) : Calls Try.prog 53 #[.int .i64 n] w fun e w' => e = .returned (.bool (rngB n 0 11)) ∧ w = w' := by
  go_enter Try.func53, Try.ntmps53
  go_wp2_with (go_at_call 59; refine (pto_any _ _ _ _).mono ?_; rintro e w' ⟨rfl, rfl⟩)
  go_ret
  exact ⟨rfl, rfl⟩
def holdsGo (last : Int) : List Hold → Bool
  | [] => true
  | h :: r => if h.st ≤ last ∨ rngB h.u 1 1000000000000000 = false ∨ rngB h.s 0 h.u = false then false else holdsGo h.st r
theorem holdsGo_no {la : Int} {x : Hold} {l : List Hold} (h : x.st ≤ la ∨ rngB x.u 1 1000000000000000 = false ∨ rngB x.s 0 x.u = false) : holdsGo la (x :: l) = false := by simp only [holdsGo, if_pos h]
theorem holdsGo_go {la : Int} {x : Hold} {l : List Hold} (h : la < x.st) (h1 : rngB x.u 1 1000000000000000 = true) (h2 : rngB x.s 0 x.u = true) : holdsGo la (x :: l) = holdsGo x.st l := by
  simp only [holdsGo]; rw [if_neg]; rintro (h' | h' | h')
  · omega
  · rw [h1] at h'; cases h'
  · rw [h2] at h'; cases h'
def holdsR (l : List Hold) : Bool := holdsGo (-1) l && decide (l.length ≤ 100)
set_option maxHeartbeats 1000000 in
theorem phone_holds (s : Sl Hold) (w : World) (hr : Rd (· < w.heap.size) 3 Hold.enc w s) :
    Calls Try.prog 55 #[.slice s.A s.l.length s.c] w fun e w' => e = .returned (.bool (holdsR s.l)) ∧ Below w.heap.size w w' := by
  obtain ⟨A, c, l⟩ := s
  have hn := hr.len
  simp only at hn
  have HR := Lib.hid hr
  clear hr
  simp only
  go_enter Try.func55, Try.ntmps55
  go_wp2_with fail
  go_loopw [3, 8] (fun la i wr => ∃ (k : Nat) (q : Int), k ≤ l.length ∧ la = .int .i64 q ∧ i = .int .i64 k ∧ Below w.heap.size w wr ∧ holdsGo (-1) l = holdsGo q (l.drop k)) (fun _ i _ => l.length - (intOf i).toNat)
  case atStart => exact ⟨0, -1, by omega, rfl, rfl, Below.refl _ _, by simp⟩
  case round =>
    obtain ⟨k, q, hk, rfl, rfl, hbel, heq⟩ := hrel
    have hhe : w.heap.size ≤ wr.heap.size := hbel.size
    by_cases hlt : k < l.length
    · obtain ⟨b, o, rfl, hb, hcl⟩ := HR.out.at1 hlt
      obtain ⟨g0, g1, g2⟩ := Cells.c3 (hcl.keep (hbel.block b hb))
      have hd : l.drop k = l[k] :: l.drop (k + 1) := List.drop_eq_getElem_cons hlt
      rw [hd] at heq
      have HE := Lib.hid heq
      clear hd heq hcl HR
      generalize l[k] = y at *
      rcases Int.lt_or_le q y.st with hq | hq
      · rcases hy : rngB y.u 1 1000000000000000
        · go_wp2_with (go_at_call 59; refine (pto_any _ _ _ _).mono ?_; rintro e w' ⟨rfl, rfl⟩)
          go_ret
          exact ⟨ret_bool (by unfold holdsR; rw [HE.out, holdsGo_no (.inr (.inl hy))]; rfl), (by repeat (first | (with_reducible exact hbel) | (with_reducible exact Below.refl _ _) | ((with_reducible refine below_setr ?_ ?_); focus (first | (simp; done) | (simp; omega) | omega)) | ((with_reducible refine below_allocr ?_ ?_); focus (first | (simp; done) | (simp; omega) | omega)) | (with_reducible refine Below.drew ?_) | (with_reducible refine below_drewN ?_ _)))⟩
        · rcases hz : rngB y.s 0 y.u
          · go_wp2_with (go_at_call 59; refine (pto_any _ _ _ _).mono ?_; rintro e w' ⟨rfl, rfl⟩)
            go_ret
            exact ⟨ret_bool (by unfold holdsR; rw [HE.out, holdsGo_no (.inr (.inr hz))]; rfl), (by repeat (first | (with_reducible exact hbel) | (with_reducible exact Below.refl _ _) | ((with_reducible refine below_setr ?_ ?_); focus (first | (simp; done) | (simp; omega) | omega)) | ((with_reducible refine below_allocr ?_ ?_); focus (first | (simp; done) | (simp; omega) | omega)) | (with_reducible refine Below.drew ?_) | (with_reducible refine below_drewN ?_ _)))⟩
          · go_wp2_with (go_at_call 59; refine (pto_any _ _ _ _).mono ?_; rintro e w' ⟨rfl, rfl⟩)
            go_roundw
            case rel => exact ⟨k + 1, y.st, by omega, rfl, by go_num, (by repeat (first | (with_reducible exact hbel) | (with_reducible exact Below.refl _ _) | ((with_reducible refine below_setr ?_ ?_); focus (first | (simp; done) | (simp; omega) | omega)) | ((with_reducible refine below_allocr ?_ ?_); focus (first | (simp; done) | (simp; omega) | omega)) | (with_reducible refine Below.drew ?_) | (with_reducible refine below_drewN ?_ _))), by rw [HE.out, holdsGo_go hq hy hz]⟩
            case measure => simp [intOf]; omega
      · go_wp2_with fail
        go_ret
        exact ⟨ret_bool (by unfold holdsR; rw [HE.out, holdsGo_no (.inl hq)]; rfl), (by repeat (first | (with_reducible exact hbel) | (with_reducible exact Below.refl _ _) | ((with_reducible refine below_setr ?_ ?_); focus (first | (simp; done) | (simp; omega) | omega)) | ((with_reducible refine below_allocr ?_ ?_); focus (first | (simp; done) | (simp; omega) | omega)) | (with_reducible refine Below.drew ?_) | (with_reducible refine below_drewN ?_ _)))⟩
    · have hkl : l.drop k = [] := List.drop_eq_nil_of_le (by omega)
      rw [hkl] at heq
      have HE := Lib.hid heq
      clear hkl heq HR
      go_wp2_with fail
      go_ret
      exact ⟨ret_bool (by unfold holdsR; rw [HE.out]; simp [holdsGo] <;> omega), hbel⟩
def notesGo (id k last : Int) : List NoteD → Bool
  | [] => true
  | n :: r => if n.dev ≠ id ∨ n.seq ≠ k ∨ n.tm < last then false else notesGo id (k + 1) n.tm r
theorem notesGo_no {id k la : Int} {x : NoteD} {l : List NoteD} (h : x.dev ≠ id ∨ x.seq ≠ k ∨ x.tm < la) : notesGo id k la (x :: l) = false := by simp only [notesGo, if_pos h]
theorem notesGo_go {id k la : Int} {x : NoteD} {l : List NoteD} (h1 : x.dev = id) (h2 : x.seq = k) (h3 : la ≤ x.tm) : notesGo id k la (x :: l) = notesGo id (k + 1) x.tm l := by
  simp only [notesGo]; rw [if_neg]; rintro (h | h | h)
  · exact h h1
  · exact h h2
  · omega
def PhoneD.right (p : PhoneD) : Bool := rngB p.id 0 11 && (holdsR p.H && (notesR p.N && (seenR p.S && (decide (p.S[p.id.toNat]? = some 0) && notesGo p.id 0 0 p.N))))
def Phone.v (p : Phone) : Value := .agg #[.int .i64 p.id, .bool p.cut, .slice p.H.A p.H.l.length p.H.c, .slice p.N.A p.N.l.length p.N.c, .slice p.S.A p.S.l.length p.S.c]
end Go.Proofs.Ythnblhbdfpmolaa
