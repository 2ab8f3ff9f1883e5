/- Walks of the reference of layer 41: lists. -/
import Derived.Test.YthnblhbdfpmolaaMLatmxau
namespace Go.Proofs.Ythnblhbdfpmolaa
open Go.RowKit
/-- It returns a bool of which P holds. -/
def AnyB (P : Bool → Prop) (e : Ending) : Prop := ∃ b, e = .returned (.bool b) ∧ P b
def NoteD.same (a b : NoteD) : Bool := decide (∀ i, i < max a.af.length b.af.length → seenN a.af i = seenN b.af i) && (decide (a.dev = b.dev) && (decide (a.seq = b.seq) && (decide (a.tm = b.tm) && decide (a.tx = b.tx))))
def listsN : List NoteD → List NoteD → Bool
  | [], [] => true
  | a :: l, b :: m => a.same b && listsN l m
  | _, _ => false
theorem listsN_len : ∀ {l m : List NoteD}, l.length ≠ m.length → listsN l m = false
  | [], [], h => absurd rfl h
  | [], _ :: _, _ => rfl
  | _ :: _, [], _ => rfl
  | a :: l, b :: m, h => by simp only [listsN]; rw [listsN_len (by simpa using h)]; simp
theorem NoteD.same_refl (a : NoteD) : a.same a = true := by simp [NoteD.same]
theorem listsN_refl : ∀ l : List NoteD, listsN l l = true
  | [] => rfl
  | a :: l => by simp [listsN, NoteD.same_refl, listsN_refl l]
theorem all_false {α : Type} {p : α → Bool} {l : List α} {x : α} (hx : x ∈ l) (h : p x = false) : l.all p = false := by
  rcases ha : l.all p
  · rfl
  · rw [List.all_eq_true] at ha
    have := ha x hx; rw [h] at this; cases this
set_option maxHeartbeats 1000000 in
theorem rright41 (s : Sl Note) (w : World) (hr : RdNotes (· < w.heap.size) w s) :
    Calls Try.prog 41 #[.slice s.A s.l.length s.c] w fun e w' => e = .returned (.bool (notesR (s.l.map Note.d))) ∧ Below w.heap.size w w' := by
  obtain ⟨A, c, l⟩ := s
  have hn := hr.1.len
  simp only at hn
  have HR := Lib.hid hr
  clear hr
  simp only
  unfold notesR
  by_cases h : 10000 < l.length
  · have h' : (10000 : Int) < l.length := by omega
    have hv : (decide ((l.map Note.d).length ≤ 10000) && (l.map Note.d).all NoteD.right) = false := by simp; omega
    have HV := Lib.hid hv
    clear hv
    go_enter Try.func41, Try.ntmps41
    go_wp2_with fail
    go_ret
    exact ⟨ret_bool HV.out.symm, (by repeat (first | (with_reducible exact Below.refl _ _) | ((with_reducible refine below_setr ?_ ?_); focus (first | (simp; done) | (simp; omega) | omega)) | ((with_reducible refine below_allocr ?_ ?_); focus (first | (simp; done) | (simp; omega) | omega)) | (with_reducible refine Below.drew ?_) | (with_reducible refine below_drewN ?_ _)))⟩
  · have h' : (l.length : Int) ≤ 10000 := by omega
    have hv : (decide ((l.map Note.d).length ≤ 10000) && (l.map Note.d).all NoteD.right) = (l.map Note.d).all NoteD.right := by simp; omega
    rw [hv]
    clear hv
    go_enter Try.func41, Try.ntmps41
    go_wp2_with fail
    go_loopw [3] (fun i wr => ∃ (k : Nat), k ≤ l.length ∧ i = .int .i64 k ∧ Below w.heap.size w wr ∧ (∀ j x, j < k → l[j]? = some x → x.d.right = true)) (fun i _ => l.length - (intOf i).toNat)
    case atStart => exact ⟨0, by omega, rfl, (by repeat (first | (with_reducible exact Below.refl _ _) | ((with_reducible refine below_setr ?_ ?_); focus (first | (simp; done) | (simp; omega) | omega)) | ((with_reducible refine below_allocr ?_ ?_); focus (first | (simp; done) | (simp; omega) | omega)) | (with_reducible refine Below.drew ?_) | (with_reducible refine below_drewN ?_ _))), fun j x hj => absurd hj (Nat.not_lt_zero _)⟩
    case round =>
      obtain ⟨k, hk, rfl, hbel, hall⟩ := hrel
      have HALL := Lib.hid hall
      clear hall
      have hhe : w.heap.size ≤ wr.heap.size := hbel.size
      by_cases hlt : k < l.length
      · obtain ⟨b, o, rfl, hb, hcl⟩ := HR.out.1.at1 hlt
        obtain ⟨g0, g1, g2, g3, g4⟩ := Cells.c5 (hcl.keep (hbel.block b hb))
        have hxk : l[k]? = some l[k] := List.getElem?_eq_getElem hlt
        have hmem : l[k] ∈ l := List.getElem_mem hlt
        generalize l[k] = x at *
        have HAF := Lib.hid (HR.out.2 _ hmem)
        have HXK := Lib.hid hxk
        have HM := Lib.hid hmem
        clear hxk hcl hmem
        obtain ⟨xd, xs, xa, xt, xx⟩ := x
        go_wp2_with fail
        refine (rone ⟨xd, xs, xa, xt, xx⟩ _ (HAF.out.below' hbel (Nat.le_refl _))).mono ?_
        rintro e w1 ⟨rfl, hb1⟩
        rcases hz : NoteD.right (Note.d ⟨xd, xs, xa, xt, xx⟩)
        · have hv : (l.map Note.d).all NoteD.right = false := all_false (List.mem_map_of_mem (f := Note.d) HM.out) hz
          have HV := Lib.hid hv
          clear hv hz
          go_wp2_with fail
          go_ret
          exact ⟨ret_bool HV.out.symm, (by repeat (first | (with_reducible exact hbel) | (with_reducible exact Below.refl _ _) | ((with_reducible refine below_setr ?_ ?_); focus (first | (simp; done) | (simp; omega) | omega)) | ((with_reducible refine below_allocr ?_ ?_); focus (first | (simp; done) | (simp; omega) | omega)) | (with_reducible refine Below.drew ?_) | (with_reducible refine below_drewN ?_ _) | ((with_reducible apply below_via); focus (with_reducible assumption))))⟩
        · have HZ := Lib.hid hz
          clear hz
          go_wp2_with fail
          go_roundw
          case rel =>
            refine ⟨k + 1, by omega, by go_num, (by repeat (first | (with_reducible exact hbel) | (with_reducible exact Below.refl _ _) | ((with_reducible refine below_setr ?_ ?_); focus (first | (simp; done) | (simp; omega) | omega)) | ((with_reducible refine below_allocr ?_ ?_); focus (first | (simp; done) | (simp; omega) | omega)) | (with_reducible refine Below.drew ?_) | (with_reducible refine below_drewN ?_ _) | ((with_reducible apply below_via); focus (with_reducible assumption)))), fun j x hj hx => ?_⟩
            rcases Nat.lt_or_ge j k with h1 | h1
            · exact HALL.out j x h1 hx
            · obtain rfl : j = k := by omega
              rw [HXK.out] at hx; injection hx with hx; subst hx; exact HZ.out
          case measure => simp [intOf]; omega
      · have hv : (l.map Note.d).all NoteD.right = true := by
          simp only [List.all_map, List.all_eq_true]
          intro x hx
          obtain ⟨j, hj⟩ := List.getElem?_of_mem hx
          have := (List.getElem?_eq_some_iff.1 hj).1
          exact HALL.out j x (by omega) hj
        have HV := Lib.hid hv
        clear hv
        go_wp2_with fail
        go_ret
        exact ⟨ret_bool HV.out.symm, (by repeat (first | (with_reducible exact hbel) | (with_reducible exact Below.refl _ _) | ((with_reducible refine below_setr ?_ ?_); focus (first | (simp; done) | (simp; omega) | omega)) | ((with_reducible refine below_allocr ?_ ?_); focus (first | (simp; done) | (simp; omega) | omega)) | (with_reducible refine Below.drew ?_) | (with_reducible refine below_drewN ?_ _) | ((with_reducible apply below_via); focus (with_reducible assumption))))⟩
set_option maxHeartbeats 1000000 in
theorem rfew41 (s : Sl Note) (n : Nat) (hn1 : n ≤ 1000) (w : World) (hr : RdNotes (· < w.heap.size) w s) :
    Calls Try.prog 34 #[.slice s.A s.l.length s.c, .int .i64 n] w fun e w' => AnyB (fun b => b = true → s.l.length ≤ n) e ∧ Below w.heap.size w w' := by
  obtain ⟨A, c, l⟩ := s
  have hn := hr.1.len
  simp only at hn
  have HR := Lib.hid hr
  clear hr
  simp only
  go_enter Try.func34, Try.ntmps34
  go_wp2_with fail
  go_loopw [5] (fun i wr => ∃ (k : Nat), k ≤ l.length ∧ k ≤ n + 1 ∧ i = .int .i64 k ∧ Below w.heap.size w wr) (fun i _ => l.length - (intOf i).toNat)
  case atStart => exact ⟨0, by omega, by omega, rfl, (by repeat (first | (with_reducible exact Below.refl _ _) | ((with_reducible refine below_setr ?_ ?_); focus (first | (simp; done) | (simp; omega) | omega)) | ((with_reducible refine below_allocr ?_ ?_); focus (first | (simp; done) | (simp; omega) | omega)) | (with_reducible refine Below.drew ?_) | (with_reducible refine below_drewN ?_ _)))⟩
  case round =>
    obtain ⟨k, hk, hkn, rfl, hbel⟩ := hrel
    have hhe : w.heap.size ≤ wr.heap.size := hbel.size
    have fin : (l.length ≤ n → decide ((l.length : Int) ≤ n) = true) ∧ (decide ((l.length : Int) ≤ n) = true → l.length ≤ n) := ⟨fun h => by simpa using h, fun h => by simpa using h⟩
    have HF := Lib.hid fin
    clear fin
    by_cases hlt : k < l.length
    · rcases Nat.lt_or_ge n k with hkn' | hkn'
      · have h3 : (n : Int) < k := by omega
        go_wp2_with fail
        go_ret
        exact ⟨⟨decide ((l.length : Int) ≤ n), ret_bool (by simp), HF.out.2⟩, hbel⟩
      · have h3 : (k : Int) ≤ n := by omega
        obtain ⟨b, o, rfl, hb, hcl⟩ := HR.out.1.at1 hlt
        obtain ⟨g0, g1, g2, g3, g4⟩ := Cells.c5 (hcl.keep (hbel.block b hb))
        generalize l[k] = x at *
        obtain ⟨xd, xs, ⟨xA, xc, xl⟩, xt, xx⟩ := x
        clear hcl
        have hx1 : (200 < (xx.size : Int)) ∨ (xx.size : Int) ≤ 200 := by omega
        have hx2 : (20 < (xl.length : Int)) ∨ (xl.length : Int) ≤ 20 := by omega
        rcases hx1 with hx1 | hx1
        rotate_left
        rcases hx2 with hx2 | hx2
        rotate_left
        all_goals go_wp2_with fail
        · go_roundw
          case rel => exact ⟨k + 1, by omega, by omega, by go_num, hbel⟩
          case measure => simp [intOf]; omega
        all_goals
          go_ret
          exact ⟨⟨false, rfl, fun h => by cases h⟩, hbel⟩
    · go_wp2_with fail
      go_ret
      exact ⟨⟨decide ((l.length : Int) ≤ n), ret_bool (by simp), HF.out.2⟩, hbel⟩
end Go.Proofs.Ythnblhbdfpmolaa
