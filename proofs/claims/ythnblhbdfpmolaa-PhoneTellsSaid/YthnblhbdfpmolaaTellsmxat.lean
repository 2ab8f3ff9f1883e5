/- A drawn region with two ways next. -/
import Derived.Test.YthnblhbdfpmolaaTellsmxal
import Derived.Test.YthnblhbdfpmolaaTellsmxam
namespace Go.Proofs.Ythnblhbdfpmolaa
open Go.RowKit
section
variable {P : Program} {ops : Array Oper} {Q : Exit → Act → World → Prop} {md : Region.Mode} {S : World → Prop} {T : Nat → Bool}
theorem wpAnyT_two {i j : Nat} {o o' : Oper} {fuel : Nat} {listed : Array Bool} {a : Act} {w : World} (hr : Region.ready md ops listed = [i, j]) (ho : ops[i]? = some o) (ho' : ops[j]? = some o')
    (h : wpList P ops (QT Q fun a' w' => (T i = false → S w') ∧ wpAnyT P md ops Q S T fuel (listed.setIfInBounds i true) a' w') [o] a w)
    (h' : wpList P ops (QT Q fun a' w' => (T j = false → S w') ∧ wpAnyT P md ops Q S T fuel (listed.setIfInBounds j true) a' w') [o'] a w) : wpAnyT P md ops Q S T (fuel + 1) listed a w := by
  refine ⟨fun h0 => ?_, fun k hk => ?_⟩
  · rw [hr] at h0; cases h0
  · rw [hr] at hk
    rcases List.mem_cons.1 hk with rfl | hk
    · exact wpOp_of_list ho h
    · rcases List.mem_singleton.1 hk with rfl
      exact wpOp_of_list ho' h'
end
end Go.Proofs.Ythnblhbdfpmolaa
/- Walks of the reference of layer 41: what is right, seen, the same. -/
namespace Go.Proofs.Ythnblhbdfpmolaa
open Go.RowKit
set_option maxHeartbeats 400000 in
theorem in40_any (n a b : Int) (w : World) : Calls Try.prog 116 #[.int .i64 n, .int .i64 a, .int .i64 b] w fun e w' => e = .returned (.bool (rngB n a b)) ∧ w = w' := by
  go_enter Try.func116, Try.ntmps116
  go_wp2
  all_goals
    go_ret
    exact ⟨ret_bool (by simp only [rngB]; simp; try omega), rfl⟩
set_option maxHeartbeats 400000 in
theorem in43_any (n a b : Int) (w : World) : Calls Try.prog 54 #[.int .i64 n, .int .i64 a, .int .i64 b] w fun e w' => e = .returned (.bool (rngB n a b)) ∧ w = w' := by
  go_enter Try.func54, Try.ntmps54
  go_wp2
  all_goals
    go_ret
    exact ⟨ret_bool (by simp only [rngB]; simp; try omega), rfl⟩
set_option maxHeartbeats 400000 in
theorem in41_any (n b : Int) (w : World) : Calls Try.prog 125 #[.int .i64 n, .int .i64 b] w fun e w' => e = .returned (.bool (rngB n 0 b)) ∧ w = w' := by
  go_enter Try.func125, Try.ntmps125
  go_wp2
  all_goals
    go_ret
    exact ⟨ret_bool (by simp only [rngB]; simp; try omega), rfl⟩
def seenN (l : List Int) (d : Int) : Int := if 0 ≤ d ∧ d < l.length then l.getD d.toNat 0 else 0
set_option maxHeartbeats 800000 in
theorem rseen (n : Note) (d : Int) (w : World) (hr : Rd (· < w.heap.size) 1 ienc w n.af) :
    Calls Try.prog 95 #[n.v, .int .i64 d] w fun e w' => e = .returned (.int .i64 (seenN n.af.l d)) ∧ Below w.heap.size w w' := by
  obtain ⟨nd, ns, ⟨A, c, l⟩, nt, nx⟩ := n
  have HR := Lib.hid hr
  clear hr
  simp only [Note.v]
  by_cases h : 0 ≤ d ∧ d < l.length
  · obtain ⟨j, rfl⟩ := Int.eq_ofNat_of_zero_le h.1
    have hj : j < l.length := by omega
    obtain ⟨b, o, rfl, hb, hcl⟩ := HR.out.at1 hj
    have g0 := hcl.c1
    simp only [Nat.mul_one] at g0
    have hv : seenN l j = l[j] := by unfold seenN; rw [if_pos h]; simp [List.getD, hj]
    have HV := Lib.hid hv
    clear hv h hcl
    generalize l[j] = y at *
    go_enter Try.func95, Try.ntmps95
    go_wp2_with fail
    go_ret
    exact ⟨ret_int HV.out.symm, qbl⟩
  · have hv : seenN l d = 0 := by unfold seenN; rw [if_neg h]
    have HV := Lib.hid hv
    clear hv
    rcases Int.lt_or_le d 0 with h' | h'
    · go_enter Try.func95, Try.ntmps95
      go_wp2_with fail
      go_ret
      exact ⟨ret_int HV.out.symm, qbl⟩
    · have h2 : (l.length : Int) ≤ d := by omega
      go_enter Try.func95, Try.ntmps95
      go_wp2_with fail
      go_ret
      exact ⟨ret_int HV.out.symm, qbl⟩
set_option maxHeartbeats 1000000 in
theorem rone_no (n : Note) (w : World) (h0 : n.d.ok0 = false) :
    Calls Try.prog 93 #[n.v] w fun e w' => e = .returned (.bool false) ∧ Below w.heap.size w w' := by
  obtain ⟨d, s, ⟨A, c, l⟩, t, x⟩ := n
  simp only [Note.d, NoteD.ok0] at h0
  simp only [Note.v]
  rcases h1 : rngB d 0 11
  rotate_left
  rcases h2 : rngB s 0 9999
  rotate_left
  rcases h3 : rngB t 0 1048576
  rotate_left
  rcases Nat.lt_or_ge 12 l.length with h4 | h4
  rotate_left
  have h5 : 20000 < x.size := Nat.lt_of_not_le (fun hc => by simp [h1, h2, h3, h4, hc] at h0)
  all_goals
    clear h0
    go_enter Try.func93, Try.ntmps93
    go_wp2_with (go_at_call 125; refine (in41_any _ _ _).mono ?_; rintro e w' ⟨rfl, rfl⟩)
    go_ret
    exact ⟨rfl, qbl⟩
set_option maxHeartbeats 1000000 in
theorem rone_yes (n : Note) (w : World) (hr : Rd (· < w.heap.size) 1 ienc w n.af) (h0 : n.d.ok0 = true) :
    Calls Try.prog 93 #[n.v] w fun e w' => e = .returned (.bool (afOk n.dev 0 n.af.l)) ∧ Below w.heap.size w w' := by
  obtain ⟨d, s, ⟨A, c, l⟩, t, x⟩ := n
  simp only [Note.d, NoteD.ok0, Bool.and_eq_true, decide_eq_true_eq] at h0
  obtain ⟨h1, h2, h3, h4, h5⟩ := h0
  have h4' : l.length ≤ 12 := of_decide_eq_true h4
  have h5' : x.size ≤ 20000 := of_decide_eq_true h5
  clear h4 h5
  have h4 : (l.length : Int) ≤ 12 := by omega
  have h5 : (x.size : Int) ≤ 20000 := by omega
  have HR := Lib.hid hr
  clear hr
  simp only [Note.v]
  go_enter Try.func93, Try.ntmps93
  go_wp2_with (go_at_call 125; refine (in41_any _ _ _).mono ?_; rintro e w' ⟨rfl, rfl⟩)
  go_loopw [3] (fun i wr => ∃ (k : Nat), k ≤ l.length ∧ i = .int .i64 k ∧ Blk wr w.heap.size 61 #[.int .i64 d, .int .i64 s, .slice A l.length c, .int .i64 t, .string x] ∧ Below w.heap.size w wr ∧ afOk d 0 l = afOk d k (l.drop k)) (fun i _ => l.length - (intOf i).toNat)
  case atStart => exact ⟨0, by omega, rfl, Blk.new _ _ _, qbl, by simp⟩
  case round =>
    obtain ⟨k, hk, rfl, hblk, hbel, heq⟩ := hrel
    obtain ⟨a0, a1, a2, a3, a4, af, az⟩ := hblk.b5
    have HB := Lib.hid hblk
    clear hblk
    by_cases hlt : k < l.length
    · obtain ⟨b, o, rfl, hb, hcl⟩ := HR.out.at1 hlt
      have g0 := (hcl.keep (hbel.block b hb)).c1
      have hd : l.drop k = l[k] :: l.drop (k + 1) := List.drop_eq_getElem_cons hlt
      rw [hd] at heq
      have HE := Lib.hid heq
      clear hd heq hcl HR
      simp only [Nat.mul_one] at g0
      generalize l[k] = y at *
      rcases hy : rngB y 0 10000
      · have HY := Lib.hid hy
        go_wp2_with (go_at_call 125; refine (in41_any _ _ _).mono ?_; rintro e w' ⟨rfl, rfl⟩)
        go_ret
        exact ⟨ret_bool (by rw [HE.out, afOk_no (.inl HY.out)]), hbel⟩
      · have HY := Lib.hid hy
        by_cases hkd : (k : Int) = d
        · by_cases hy0 : y = 0
          · have e1 : ((k : Int) == d) = true := by simp [hkd]
            have e2 : (y != 0) = false := by simp [hy0]
            have H1 := Lib.hid hkd
            have H2 := Lib.hid hy0
            clear hkd hy0
            go_wp2_with (go_at_call 125; refine (in41_any _ _ _).mono ?_; rintro e w' ⟨rfl, rfl⟩)
            go_roundw
            case rel => exact ⟨k + 1, by omega, by go_num, HB.out, hbel, by rw [HE.out, afOk_go2 HY.out (fun hc => hc.2 H2.out)]; simp⟩
            case measure => simp [intOf]; omega
          · have e1 : ((k : Int) == d) = true := by simp [hkd]
            have e2 : (y != 0) = true := by simp [hy0]
            have H1 := Lib.hid hkd
            have H2 := Lib.hid hy0
            clear hkd hy0
            go_wp2_with (go_at_call 125; refine (in41_any _ _ _).mono ?_; rintro e w' ⟨rfl, rfl⟩)
            go_ret
            exact ⟨ret_bool (by rw [HE.out, afOk_no (.inr ⟨H1.out, H2.out⟩)]), hbel⟩
        · have e1 : ((k : Int) == d) = false := by simp [hkd]
          have H1 := Lib.hid hkd
          clear hkd
          go_wp2_with (go_at_call 125; refine (in41_any _ _ _).mono ?_; rintro e w' ⟨rfl, rfl⟩)
          go_roundw
          case rel => exact ⟨k + 1, by omega, by go_num, HB.out, hbel, by rw [HE.out, afOk_go2 HY.out (fun hc => H1.out hc.1)]; simp⟩
          case measure => simp [intOf]; omega
    · have hkl : l.drop k = [] := List.drop_eq_nil_of_le (by omega)
      rw [hkl] at heq
      have HE := Lib.hid heq
      clear hkl heq HR
      go_wp2_with fail
      go_ret
      exact ⟨ret_bool (by rw [HE.out]; rfl), hbel⟩
theorem rone (n : Note) (w : World) (hr : Rd (· < w.heap.size) 1 ienc w n.af) :
    Calls Try.prog 93 #[n.v] w fun e w' => e = .returned (.bool n.d.right) ∧ Below w.heap.size w w' := by
  unfold NoteD.right
  rcases h : n.d.ok0
  · exact rone_no n w h
  · exact rone_yes n w hr h
end Go.Proofs.Ythnblhbdfpmolaa
/- Walks of the reference of layer 41: lists. -/
namespace Go.Proofs.Ythnblhbdfpmolaa
open Go.RowKit
/-- It returns a bool of which P holds. -/
def AnyB (P : Bool → Prop) (e : Ending) : Prop := ∃ b, e = .returned (.bool b) ∧ P b
def NoteD.same (a b : NoteD) : Bool := decide (∀ i, i < max a.af.length b.af.length → seenN a.af i = seenN b.af i) && (decide (a.dev = b.dev) && (decide (a.seq = b.seq) && (decide (a.tm = b.tm) && decide (a.tx = b.tx))))
def listsN : List NoteD → List NoteD → Bool
  | [], [] => true
  | a :: l, b :: m => a.same b && listsN l m
  | _, _ => false
theorem listsN_len : ∀ {l m : List NoteD}, l.length ≠ m.length → listsN l m = false
  | [], [], h => absurd rfl h
  | [], _ :: _, _ => rfl
  | _ :: _, [], _ => rfl
  | a :: l, b :: m, h => by simp only [listsN]; rw [listsN_len (by simpa using h)]; simp
theorem NoteD.same_refl (a : NoteD) : a.same a = true := by simp [NoteD.same]
theorem listsN_refl : ∀ l : List NoteD, listsN l l = true
  | [] => rfl
  | a :: l => by simp [listsN, NoteD.same_refl, listsN_refl l]
theorem all_false {α : Type} {p : α → Bool} {l : List α} {x : α} (hx : x ∈ l) (h : p x = false) : l.all p = false := by
  rcases ha : l.all p
  · rfl
  · rw [List.all_eq_true] at ha
    have := ha x hx; rw [h] at this; cases this
set_option maxHeartbeats 1000000 in
theorem rright41 (s : Sl Note) (w : World) (hr : RdNotes (· < w.heap.size) w s) :
    Calls Try.prog 41 #[.slice s.A s.l.length s.c] w fun e w' => e = .returned (.bool (notesR (s.l.map Note.d))) ∧ Below w.heap.size w w' := by
  obtain ⟨A, c, l⟩ := s
  have hn := hr.1.len
  simp only at hn
  have HR := Lib.hid hr
  clear hr
  simp only
  unfold notesR
  by_cases h : 10000 < l.length
  · have h' : (10000 : Int) < l.length := by omega
    have hv : (decide ((l.map Note.d).length ≤ 10000) && (l.map Note.d).all NoteD.right) = false := by simp; omega
    have HV := Lib.hid hv
    clear hv
    go_enter Try.func41, Try.ntmps41
    go_wp2_with fail
    go_ret
    exact ⟨ret_bool HV.out.symm, qbl⟩
  · have h' : (l.length : Int) ≤ 10000 := by omega
    have hv : (decide ((l.map Note.d).length ≤ 10000) && (l.map Note.d).all NoteD.right) = (l.map Note.d).all NoteD.right := by simp; omega
    rw [hv]
    clear hv
    go_enter Try.func41, Try.ntmps41
    go_wp2_with fail
    go_loopw [3] (fun i wr => ∃ (k : Nat), k ≤ l.length ∧ i = .int .i64 k ∧ Below w.heap.size w wr ∧ (∀ j x, j < k → l[j]? = some x → x.d.right = true)) (fun i _ => l.length - (intOf i).toNat)
    case atStart => exact ⟨0, by omega, rfl, qbl, fun j x hj => absurd hj (Nat.not_lt_zero _)⟩
    case round =>
      obtain ⟨k, hk, rfl, hbel, hall⟩ := hrel
      have HALL := Lib.hid hall
      clear hall
      have hhe : w.heap.size ≤ wr.heap.size := hbel.size
      by_cases hlt : k < l.length
      · obtain ⟨b, o, rfl, hb, hcl⟩ := HR.out.1.at1 hlt
        obtain ⟨g0, g1, g2, g3, g4⟩ := Cells.c5 (hcl.keep (hbel.block b hb))
        have hxk : l[k]? = some l[k] := List.getElem?_eq_getElem hlt
        have hmem : l[k] ∈ l := List.getElem_mem hlt
        generalize l[k] = x at *
        have HAF := Lib.hid (HR.out.2 _ hmem)
        have HXK := Lib.hid hxk
        have HM := Lib.hid hmem
        clear hxk hcl hmem
        obtain ⟨xd, xs, xa, xt, xx⟩ := x
        go_wp2_with fail
        refine (rone ⟨xd, xs, xa, xt, xx⟩ _ (HAF.out.below' hbel (Nat.le_refl _))).mono ?_
        rintro e w1 ⟨rfl, hb1⟩
        rcases hz : NoteD.right (Note.d ⟨xd, xs, xa, xt, xx⟩)
        · have hv : (l.map Note.d).all NoteD.right = false := all_false (List.mem_map_of_mem (f := Note.d) HM.out) hz
          have HV := Lib.hid hv
          clear hv hz
          go_wp2_with fail
          go_ret
          exact ⟨ret_bool HV.out.symm, qbv⟩
        · have HZ := Lib.hid hz
          clear hz
          go_wp2_with fail
          go_roundw
          case rel =>
            refine ⟨k + 1, by omega, by go_num, qbv, fun j x hj hx => ?_⟩
            rcases Nat.lt_or_ge j k with h1 | h1
            · exact HALL.out j x h1 hx
            · obtain rfl : j = k := by omega
              rw [HXK.out] at hx; injection hx with hx; subst hx; exact HZ.out
          case measure => simp [intOf]; omega
      · have hv : (l.map Note.d).all NoteD.right = true := by
          simp only [List.all_map, List.all_eq_true]
          intro x hx
          obtain ⟨j, hj⟩ := List.getElem?_of_mem hx
          have := (List.getElem?_eq_some_iff.1 hj).1
          exact HALL.out j x (by omega) hj
        have HV := Lib.hid hv
        clear hv
        go_wp2_with fail
        go_ret
        exact ⟨ret_bool HV.out.symm, qbv⟩
set_option maxHeartbeats 1000000 in
theorem rfew41 (s : Sl Note) (n : Nat) (hn1 : n ≤ 1000) (w : World) (hr : RdNotes (· < w.heap.size) w s) :
    Calls Try.prog 34 #[.slice s.A s.l.length s.c, .int .i64 n] w fun e w' => AnyB (fun b => b = true → s.l.length ≤ n) e ∧ Below w.heap.size w w' := by
  obtain ⟨A, c, l⟩ := s
  have hn := hr.1.len
  simp only at hn
  have HR := Lib.hid hr
  clear hr
  simp only
  go_enter Try.func34, Try.ntmps34
  go_wp2_with fail
  go_loopw [5] (fun i wr => ∃ (k : Nat), k ≤ l.length ∧ k ≤ n + 1 ∧ i = .int .i64 k ∧ Below w.heap.size w wr) (fun i _ => l.length - (intOf i).toNat)
  case atStart => exact ⟨0, by omega, by omega, rfl, qbl⟩
  case round =>
    obtain ⟨k, hk, hkn, rfl, hbel⟩ := hrel
    have hhe : w.heap.size ≤ wr.heap.size := hbel.size
    have fin : (l.length ≤ n → decide ((l.length : Int) ≤ n) = true) ∧ (decide ((l.length : Int) ≤ n) = true → l.length ≤ n) := ⟨fun h => by simpa using h, fun h => by simpa using h⟩
    have HF := Lib.hid fin
    clear fin
    by_cases hlt : k < l.length
    · rcases Nat.lt_or_ge n k with hkn' | hkn'
      · have h3 : (n : Int) < k := by omega
        go_wp2_with fail
        go_ret
        exact ⟨⟨decide ((l.length : Int) ≤ n), ret_bool (by simp), HF.out.2⟩, hbel⟩
      · have h3 : (k : Int) ≤ n := by omega
        obtain ⟨b, o, rfl, hb, hcl⟩ := HR.out.1.at1 hlt
        obtain ⟨g0, g1, g2, g3, g4⟩ := Cells.c5 (hcl.keep (hbel.block b hb))
        generalize l[k] = x at *
        obtain ⟨xd, xs, ⟨xA, xc, xl⟩, xt, xx⟩ := x
        clear hcl
        have hx1 : (200 < (xx.size : Int)) ∨ (xx.size : Int) ≤ 200 := by omega
        have hx2 : (20 < (xl.length : Int)) ∨ (xl.length : Int) ≤ 20 := by omega
        rcases hx1 with hx1 | hx1
        rotate_left
        rcases hx2 with hx2 | hx2
        rotate_left
        all_goals go_wp2_with fail
        · go_roundw
          case rel => exact ⟨k + 1, by omega, by omega, by go_num, hbel⟩
          case measure => simp [intOf]; omega
        all_goals
          go_ret
          exact ⟨⟨false, rfl, fun h => by cases h⟩, hbel⟩
    · go_wp2_with fail
      go_ret
      exact ⟨⟨decide ((l.length : Int) ≤ n), ret_bool (by simp), HF.out.2⟩, hbel⟩
end Go.Proofs.Ythnblhbdfpmolaa
/- A drawn region: taking an operation, with its place given as a number. -/
namespace Go.Proofs.Ythnblhbdfpmolaa
open Go.RowKit
section
variable {P : Program} {ops : Array Oper} {Q : Exit → Act → World → Prop} {md : Region.Mode} {S : World → Prop} {T : Nat → Bool}
theorem wpAnyT_take2 {i d : Nat} {oi : Oper} {v : Value} {fuel : Nat} {listed : Array Bool} {a : Act} {w : World} (hi : ops[i]? = some oi) (hd : oi.dst = some d)
    (hs : Region.noSelect ops = true) (hf : Region.free md ops listed i = true) (hr : (Region.ready md ops listed).contains i = true) (hw : waitT md ops T i = true)
    (hQ : ∀ c a w, Q (.panic c) (a.put oi.dst v) w → Q (.panic c) a w) (hy : YieldsIf P ops S oi v a) (hS : S w)
    (h : wpAnyT P md ops Q S T fuel (listed.setIfInBounds i true) { a with tmps := a.tmps.setIfInBounds d v } w) : wpAnyT P md ops Q S T (fuel + 1) listed a w :=
  wpAnyT_take hi hs hf hr hw hQ hy hS (by rw [hd]; exact h)
end
section
variable {P : Program} {ops : Array Oper} {Q : Exit → Act → World → Prop} {md : Region.Mode} {S : World → Prop} {T : Nat → Bool}
theorem qtq (i : Nat) {d : Nat} {oi : Oper} {v : Value} {fuel : Nat} {listed : Array Bool} {a : Act} {w : World} (h : wpAnyT P md ops Q S T fuel (listed.setIfInBounds i true) { a with tmps := a.tmps.setIfInBounds d v } w)
    (hi : ops[i]? = some oi := by exact rfl) (hd : oi.dst = some d := by exact rfl) (hs : Region.noSelect ops = true := by kernel_rfl) (hf : Region.free md ops listed i = true := by kernel_rfl) (hr : (Region.ready md ops listed).contains i = true := by kernel_rfl) (hw : waitT md ops T i = true := by kernel_rfl)
    (hQ : ∀ c a w, Q (.panic c) (a.put oi.dst v) w → Q (.panic c) a w := by exact fun _ _ _ h => h) (hy : YieldsIf P ops S oi v a := by (refine Or.inl ⟨by rfl, ?_⟩; intro w hSw; (try dsimp only at hSw); go_simp) <;> (with_reducible rfl)) (hS : S w := by first | assumption | trivial) : wpAnyT P md ops Q S T (fuel + 1) listed a w :=
  wpAnyT_take2 hi hd hs hf hr hw hQ hy hS h
theorem qtn (i : Nat) {d : Nat} {oi : Oper} {fuel : Nat} {listed : Array Bool} {a : Act} {w : World} (h : wpAnyT P md ops Q S T fuel (listed.setIfInBounds i true) { a with tmps := a.tmps.setIfInBounds d undef } w)
    (hi : ops[i]? = some oi := by exact rfl) (hd : oi.dst = some d := by exact rfl) (hs : Region.noSelect ops = true := by kernel_rfl) (hf : Region.free md ops listed i = true := by kernel_rfl) (hr : (Region.ready md ops listed).contains i = true := by kernel_rfl) (hw : waitT md ops T i = true := by kernel_rfl)
    (hQ : ∀ c a w, Q (.panic c) (a.put oi.dst undef) w → Q (.panic c) a w := by exact fun _ _ _ h => h) (hy : YieldsIf P ops S oi undef a := by exact Or.inr ⟨by rfl, rfl⟩) (hS : S w := by first | assumption | trivial) : wpAnyT P md ops Q S T (fuel + 1) listed a w :=
  wpAnyT_take2 hi hd hs hf hr hw hQ hy hS h
end
end Go.Proofs.Ythnblhbdfpmolaa
