/- cmp.Compare at int, and slices.BinarySearchFunc over loans. -/
import Derived.Test.YthnblhbdfpmolaaPNotemxab
namespace Go.Proofs.Ythnblhbdfpmolaa
open Go.RowKit
def cmpI (x y : Int) : Int := if x < y then -1 else if y < x then 1 else 0
theorem cmpI_lt {x y : Int} (h : x < y) : cmpI x y = -1 := by simp [cmpI, h]
theorem cmpI_gt {x y : Int} (h : y < x) : cmpI x y = 1 := by simp [cmpI, h]; omega
theorem cmpI_eq {x y : Int} (h : x = y) : cmpI x y = 0 := by simp [cmpI, h]
set_option maxHeartbeats 400000 in
theorem cmp_int (x y : Int) (w : World) : Calls Try.prog 83 #[.int .i64 x, .int .i64 y] w fun e w' => e = .returned (.int .i64 (cmpI x y)) ∧ w = w' := by
  rcases Int.lt_trichotomy x y with h | h | h
  · rw [cmpI_lt h]
    go_enter Try.func83, Try.ntmps83
    go_wp2
    go_ret
    exact ⟨rfl, rfl⟩
  · rw [cmpI_eq h]
    subst h
    go_enter Try.func83, Try.ntmps83
    go_wp2
    go_ret
    exact ⟨rfl, rfl⟩
  · rw [cmpI_gt h]
    go_enter Try.func83, Try.ntmps83
    go_wp2
    go_ret
    exact ⟨rfl, rfl⟩
theorem countP_at {α : Type} (p : α → Bool) : ∀ (l : List α) (i : Nat), i ≤ l.length → (∀ t x, l[t]? = some x → t < i → p x = true) → (∀ t x, l[t]? = some x → i ≤ t → p x = false) → l.countP p = i
  | [], i, hi, _, _ => by simp at hi; simp [hi]
  | a :: r, 0, _, _, h2 => by
    rw [List.countP_eq_zero]
    intro x hx
    obtain ⟨t, ht, rfl⟩ := List.getElem_of_mem hx
    simp [h2 t _ (List.getElem?_eq_getElem ht) (Nat.zero_le _)]
  | a :: r, i + 1, hi, h1, h2 => by
    have ha : p a = true := h1 0 a rfl (Nat.succ_pos _)
    rw [List.countP_cons_of_pos ha, countP_at p r i (by simpa using hi) (fun t x hx ht => h1 (t + 1) x (by simpa using hx) (by omega)) (fun t x hx ht => h2 (t + 1) x (by simpa using hx) (by omega))]
theorem sorted_get {α : Type} {R : α → α → Prop} {l : List α} (h : l.Pairwise R) {i j : Nat} {x y : α} (hx : l[i]? = some x) (hy : l[j]? = some y) (hij : i < j) : R x y := by
  obtain ⟨hi, rfl⟩ := List.getElem?_eq_some_iff.1 hx
  obtain ⟨hj, rfl⟩ := List.getElem?_eq_some_iff.1 hy
  exact List.pairwise_iff_getElem.1 h i j hi hj hij
theorem any_at {α : Type} {p : α → Bool} {l : List α} {i : Nat} {x : α} (hx : l[i]? = some x) (h : ∀ t y, l[t]? = some y → p y = true → t = i) : l.any p = p x := by
  rcases hp : p x with _ | _
  · rw [List.any_eq_false]
    intro y hy hpy
    obtain ⟨t, ht, rfl⟩ := List.getElem_of_mem hy
    have := h t _ (List.getElem?_eq_getElem ht) hpy
    subst this
    rw [List.getElem?_eq_getElem ht] at hx
    injection hx with hx
    rw [hx, hp] at hpy
    cases hpy
  · exact List.any_eq_true.2 ⟨x, List.mem_of_getElem? hx, hp⟩
set_option maxHeartbeats 400000 in
theorem cmp_loan (x : Loan) (y : Int) (w : World) : Calls Try.prog 128 #[.agg #[.int .i64 x.p, .int .i64 x.u, .int .i64 x.s], .int .i64 y] w fun e w' => e = .returned (.int .i64 (cmpI x.p y)) ∧ Below w.heap.size w w' := by
  go_enter Try.func128, Try.ntmps128
  go_wp2_with (go_at_call 83; refine (cmp_int _ _ _).mono ?_; rintro e w' ⟨rfl, rfl⟩)
  go_ret
  exact ⟨rfl, qbl⟩
set_option maxHeartbeats 1000000 in
set_option maxRecDepth 100000 in
theorem bs_loan (s : Sl Loan) (y : Int) (w : World) (hr : Rd (· < w.heap.size) 3 Loan.enc w s) (hb : s.l.length * 24 ≤ 140737488355328) (hs : s.l.Pairwise (fun a b => a.p < b.p)) :
    Calls Try.prog 127 #[.slice s.A s.l.length s.c, .int .i64 y, .func (.func 128) #[] #[]] w fun e w' =>
      e = .returned (.tuple #[.int .i64 (s.l.countP (fun x => decide (x.p < y)) : Nat), .bool (s.l.any (fun x => decide (x.p = y)))]) ∧ Below w.heap.size w w' := by
  obtain ⟨A, c, l⟩ := s
  simp only at hb hs
  have hn : l.length ≤ 5864062014806 := by omega
  have HR := Lib.hid hr
  have HS := Lib.hid hs
  clear hr hs hb
  simp only
  generalize hcnt : l.countP (fun x => decide (x.p < y)) = cnt
  have CN := Lib.hid hcnt
  clear hcnt
  generalize hfin : (l.any (fun x => decide (x.p = y))) = fin
  have FIN := Lib.hid hfin
  clear hfin
  go_enter Try.func127, Try.ntmps127
  go_wp2_with fail
  go_loopw [9, 10] (fun vi vj wr => ∃ (i j : Nat), i ≤ j ∧ j ≤ l.length ∧ vi = .int .i64 i ∧ vj = .int .i64 j ∧ Below w.heap.size w wr ∧
     Hid ((∀ k x, l[k]? = some x → k < i → x.p < y) ∧ (∀ k x, l[k]? = some x → j ≤ k → y ≤ x.p))) (fun vi vj _ => (intOf vj - intOf vi).toNat)
  case atStart => exact ⟨0, l.length, by omega, by omega, rfl, rfl, Below.refl _ _, Lib.hid ⟨fun k x _ h => absurd h (by omega), fun k x hx h => absurd (List.getElem?_eq_some_iff.1 hx).1 (by omega)⟩⟩
  case round =>
    obtain ⟨i, j, hij, hj, rfl, rfl, hbel, H⟩ := hrel
    have hhe : w.heap.size ≤ wr.heap.size := hbel.size
    by_cases hlt : i < j
    · have hm : (i + j) / 2 < l.length := by omega
      obtain ⟨b, o, rfl, hb, hcl⟩ := HR.out.at1 hm
      have hcl := hcl.keep (hbel.block b hb)
      obtain ⟨g0, g1, g2⟩ := Cells.c3 hcl
      have hx : l[(i + j) / 2]? = some l[(i + j) / 2] := List.getElem?_eq_getElem hm
      generalize l[(i + j) / 2] = x at *
      have HX := Lib.hid hx
      clear hx hcl HR
      by_cases hxy : x.p < y
      · go_wp2_with (go_at_call 128; refine (cmp_loan x y wr).mono ?_; rintro e w1 ⟨rfl, hb1⟩; rw [cmpI_lt hxy])
        go_roundw
        case rel =>
          exact ⟨(i + j) / 2 + 1, j, by omega, by omega, by rw [show ((i : Int) + (j : Int)) / 2 + 1 = (((i + j) / 2 + 1 : Nat) : Int) by omega], rfl, hbel.trans (hb1.mono hhe),
            Lib.hid ⟨fun k z hz hk => by
              rcases Nat.lt_or_ge k ((i + j) / 2) with hkm | hkm
              · have := sorted_get HS.out hz HX.out hkm; omega
              · have : k = (i + j) / 2 := by omega
                subst this
                have hh := HX.out
                rw [hz] at hh; injection hh with hh; rw [hh]; exact hxy, H.out.2⟩⟩
        case measure => simp [intOf]; omega
      · have hc : 0 ≤ cmpI x.p y := by simp only [cmpI]; split <;> (try split) <;> omega
        have hyx : y ≤ x.p := by omega
        clear hxy
        go_wp2_with (go_at_call 128; refine (cmp_loan x y wr).mono ?_; rintro e w1 ⟨rfl, hb1⟩)
        go_roundw
        case rel =>
          exact ⟨i, (i + j) / 2, by omega, by omega, rfl, by rw [show ((i : Int) + (j : Int)) / 2 = (((i + j) / 2 : Nat) : Int) by omega], hbel.trans (hb1.mono hhe),
            Lib.hid ⟨H.out.1, fun k z hz hk => by
              rcases Nat.lt_or_ge ((i + j) / 2) k with hkm | hkm
              · have := sorted_get HS.out HX.out hz hkm; omega
              · have : k = (i + j) / 2 := by omega
                subst this
                have hh := HX.out
                rw [hz] at hh; injection hh with hh; rw [hh]; exact hyx⟩⟩
        case measure => simp [intOf]; omega
    · obtain rfl : j = i := by omega
      have ecnt : cnt = j := by
        rw [← CN.out]
        exact countP_at _ l j hj (fun t x hx ht => by simpa using H.out.1 t x hx ht) (fun t x hx ht => by have := H.out.2 t x hx ht; simp; omega)
      subst ecnt
      by_cases hn : cnt < l.length
      · obtain ⟨b, o, rfl, hb, hcl⟩ := HR.out.at1 hn
        have hcl := hcl.keep (hbel.block b hb)
        obtain ⟨g0, g1, g2⟩ := Cells.c3 hcl
        have hx : l[cnt]? = some l[cnt] := List.getElem?_eq_getElem hn
        have hf : fin = decide (l[cnt].p = y) := by
          rw [← FIN.out]
          refine any_at hx (fun t z hz hpz => ?_)
          simp at hpz
          have h1 : ¬ t < cnt := fun h => by have := H.out.1 t z hz h; omega
          rcases Nat.lt_or_ge cnt t with h | h
          · have := sorted_get HS.out hx hz h
            have := H.out.2 cnt _ hx (Nat.le_refl _)
            omega
          · omega
        generalize l[cnt] = x at *
        have HF := Lib.hid hf
        clear hx hf hcl HR
        by_cases hxy : x.p = y
        · have hc := cmpI_eq hxy
          have HXY := Lib.hid hxy
          have HC := Lib.hid hc
          clear hxy hc
          go_wp2_with (go_at_call 128; refine (cmp_loan x y wr).mono ?_; rintro e w1 ⟨rfl, hb1⟩; rw [HC.out])
          go_ret2
          exact ⟨by rw [HF.out]; simp [HXY.out], hbel.trans (hb1.mono hhe)⟩
        · have hc : (cmpI x.p y == 0) = false := by simp only [cmpI]; split <;> (try split) <;> simp <;> omega
          have HXY := Lib.hid hxy
          clear hxy
          go_wp2_with (go_at_call 128; refine (cmp_loan x y wr).mono ?_; rintro e w1 ⟨rfl, hb1⟩)
          go_ret2
          exact ⟨by rw [HF.out]; simp [HXY.out], hbel.trans (hb1.mono hhe)⟩
      · have hf : fin = false := by
          rw [← FIN.out, List.any_eq_false]
          intro z hz
          obtain ⟨t, ht, rfl⟩ := List.getElem_of_mem hz
          have := H.out.1 t _ (List.getElem?_eq_getElem ht) (by omega)
          simp; omega
        have HF := Lib.hid hf
        clear hf
        go_wp2_with fail
        go_ret2
        exact ⟨by rw [HF.out]; rfl, hbel⟩
set_option maxHeartbeats 400000 in
theorem cmp_hold (x : Hold) (y : Int) (w : World) : Calls Try.prog 103 #[.agg #[.int .i64 x.st, .int .i64 x.u, .int .i64 x.s], .int .i64 y] w fun e w' => e = .returned (.int .i64 (cmpI x.st y)) ∧ Below w.heap.size w w' := by
  go_enter Try.func103, Try.ntmps103
  go_wp2_with (go_at_call 83; refine (cmp_int _ _ _).mono ?_; rintro e w' ⟨rfl, rfl⟩)
  go_ret
  exact ⟨rfl, qbl⟩
set_option maxHeartbeats 1000000 in
set_option maxRecDepth 100000 in
theorem bs_hold (s : Sl Hold) (y : Int) (w : World) (hr : Rd (· < w.heap.size) 3 Hold.enc w s) (hb : s.l.length * 24 ≤ 140737488355328) (hs : s.l.Pairwise (fun a b => a.st < b.st)) :
    Calls Try.prog 102 #[.slice s.A s.l.length s.c, .int .i64 y, .func (.func 103) #[] #[]] w fun e w' =>
      e = .returned (.tuple #[.int .i64 (s.l.countP (fun x => decide (x.st < y)) : Nat), .bool (s.l.any (fun x => decide (x.st = y)))]) ∧ Below w.heap.size w w' := by
  obtain ⟨A, c, l⟩ := s
  simp only at hb hs
  have hn : l.length ≤ 5864062014806 := by omega
  have HR := Lib.hid hr
  have HS := Lib.hid hs
  clear hr hs hb
  simp only
  generalize hcnt : l.countP (fun x => decide (x.st < y)) = cnt
  have CN := Lib.hid hcnt
  clear hcnt
  generalize hfin : (l.any (fun x => decide (x.st = y))) = fin
  have FIN := Lib.hid hfin
  clear hfin
  go_enter Try.func102, Try.ntmps102
  go_wp2_with fail
  go_loopw [9, 10] (fun vi vj wr => ∃ (i j : Nat), i ≤ j ∧ j ≤ l.length ∧ vi = .int .i64 i ∧ vj = .int .i64 j ∧ Below w.heap.size w wr ∧
     Hid ((∀ k x, l[k]? = some x → k < i → x.st < y) ∧ (∀ k x, l[k]? = some x → j ≤ k → y ≤ x.st))) (fun vi vj _ => (intOf vj - intOf vi).toNat)
  case atStart => exact ⟨0, l.length, by omega, by omega, rfl, rfl, Below.refl _ _, Lib.hid ⟨fun k x _ h => absurd h (by omega), fun k x hx h => absurd (List.getElem?_eq_some_iff.1 hx).1 (by omega)⟩⟩
  case round =>
    obtain ⟨i, j, hij, hj, rfl, rfl, hbel, H⟩ := hrel
    have hhe : w.heap.size ≤ wr.heap.size := hbel.size
    by_cases hlt : i < j
    · have hm : (i + j) / 2 < l.length := by omega
      obtain ⟨b, o, rfl, hb, hcl⟩ := HR.out.at1 hm
      have hcl := hcl.keep (hbel.block b hb)
      obtain ⟨g0, g1, g2⟩ := Cells.c3 hcl
      have hx : l[(i + j) / 2]? = some l[(i + j) / 2] := List.getElem?_eq_getElem hm
      generalize l[(i + j) / 2] = x at *
      have HX := Lib.hid hx
      clear hx hcl HR
      by_cases hxy : x.st < y
      · go_wp2_with (go_at_call 103; refine (cmp_hold x y wr).mono ?_; rintro e w1 ⟨rfl, hb1⟩; rw [cmpI_lt hxy])
        go_roundw
        case rel =>
          exact ⟨(i + j) / 2 + 1, j, by omega, by omega, by rw [show ((i : Int) + (j : Int)) / 2 + 1 = (((i + j) / 2 + 1 : Nat) : Int) by omega], rfl, hbel.trans (hb1.mono hhe),
            Lib.hid ⟨fun k z hz hk => by
              rcases Nat.lt_or_ge k ((i + j) / 2) with hkm | hkm
              · have := sorted_get HS.out hz HX.out hkm; omega
              · have : k = (i + j) / 2 := by omega
                subst this
                have hh := HX.out
                rw [hz] at hh; injection hh with hh; rw [hh]; exact hxy, H.out.2⟩⟩
        case measure => simp [intOf]; omega
      · have hc : 0 ≤ cmpI x.st y := by simp only [cmpI]; split <;> (try split) <;> omega
        have hyx : y ≤ x.st := by omega
        clear hxy
        go_wp2_with (go_at_call 103; refine (cmp_hold x y wr).mono ?_; rintro e w1 ⟨rfl, hb1⟩)
        go_roundw
        case rel =>
          exact ⟨i, (i + j) / 2, by omega, by omega, rfl, by rw [show ((i : Int) + (j : Int)) / 2 = (((i + j) / 2 : Nat) : Int) by omega], hbel.trans (hb1.mono hhe),
            Lib.hid ⟨H.out.1, fun k z hz hk => by
              rcases Nat.lt_or_ge ((i + j) / 2) k with hkm | hkm
              · have := sorted_get HS.out HX.out hz hkm; omega
              · have : k = (i + j) / 2 := by omega
                subst this
                have hh := HX.out
                rw [hz] at hh; injection hh with hh; rw [hh]; exact hyx⟩⟩
        case measure => simp [intOf]; omega
    · obtain rfl : j = i := by omega
      have ecnt : cnt = j := by
        rw [← CN.out]
        exact countP_at _ l j hj (fun t x hx ht => by simpa using H.out.1 t x hx ht) (fun t x hx ht => by have := H.out.2 t x hx ht; simp; omega)
      subst ecnt
      by_cases hn : cnt < l.length
      · obtain ⟨b, o, rfl, hb, hcl⟩ := HR.out.at1 hn
        have hcl := hcl.keep (hbel.block b hb)
        obtain ⟨g0, g1, g2⟩ := Cells.c3 hcl
        have hx : l[cnt]? = some l[cnt] := List.getElem?_eq_getElem hn
        have hf : fin = decide (l[cnt].st = y) := by
          rw [← FIN.out]
          refine any_at hx (fun t z hz hpz => ?_)
          simp at hpz
          have h1 : ¬ t < cnt := fun h => by have := H.out.1 t z hz h; omega
          rcases Nat.lt_or_ge cnt t with h | h
          · have := sorted_get HS.out hx hz h
            have := H.out.2 cnt _ hx (Nat.le_refl _)
            omega
          · omega
        generalize l[cnt] = x at *
        have HF := Lib.hid hf
        clear hx hf hcl HR
        by_cases hxy : x.st = y
        · have hc := cmpI_eq hxy
          have HXY := Lib.hid hxy
          have HC := Lib.hid hc
          clear hxy hc
          go_wp2_with (go_at_call 103; refine (cmp_hold x y wr).mono ?_; rintro e w1 ⟨rfl, hb1⟩; rw [HC.out])
          go_ret2
          exact ⟨by rw [HF.out]; simp [HXY.out], hbel.trans (hb1.mono hhe)⟩
        · have hc : (cmpI x.st y == 0) = false := by simp only [cmpI]; split <;> (try split) <;> simp <;> omega
          have HXY := Lib.hid hxy
          clear hxy
          go_wp2_with (go_at_call 103; refine (cmp_hold x y wr).mono ?_; rintro e w1 ⟨rfl, hb1⟩)
          go_ret2
          exact ⟨by rw [HF.out]; simp [HXY.out], hbel.trans (hb1.mono hhe)⟩
      · have hf : fin = false := by
          rw [← FIN.out, List.any_eq_false]
          intro z hz
          obtain ⟨t, ht, rfl⟩ := List.getElem_of_mem hz
          have := H.out.1 t _ (List.getElem?_eq_getElem ht) (by omega)
          simp; omega
        have HF := Lib.hid hf
        clear hf
        go_wp2_with fail
        go_ret2
        exact ⟨by rw [HF.out]; rfl, hbel⟩
end Go.Proofs.Ythnblhbdfpmolaa
/- Walks of package phone: what a right phone is. -/
namespace Go.Proofs.Ythnblhbdfpmolaa
open Go.RowKit
def notesR (l : List NoteD) : Bool := decide (l.length ≤ 10000) && l.all NoteD.right
theorem any_all (l : List Note) : (!l.any (fun n : Note => !n.d.right)) = (l.map Note.d).all NoteD.right := by
  induction l with
  | nil => rfl
  | cons x l ih => simp only [List.any_cons, List.map_cons, List.all_cons, Bool.not_or, ih, Bool.not_not]
def seenR (l : List Int) : Bool := decide (l.length = 12) && l.all (fun n => rngB n 0 10000)
theorem any_all_int (l : List Int) : (!l.any (fun n => !rngB n 0 10000)) = l.all (fun n => rngB n 0 10000) := by
  induction l with
  | nil => rfl
  | cons x l ih => simp only [List.any_cons, List.all_cons, Bool.not_or, ih, Bool.not_not]
set_option maxHeartbeats 400000 in
theorem merge_right (s : Sl Note) (w : World) (hr : RdNotes (· < w.heap.size) w s) :
    Calls Try.prog 40 #[.slice s.A s.l.length s.c] w fun e w' => e = .returned (.bool (notesR (s.l.map Note.d))) ∧ Below w.heap.size w w' := by
  unfold notesR
  rw [← any_all, List.length_map]
  by_cases h : s.l.length ≤ 10000
  · go_enter Try.func40, Try.ntmps40
    go_wp2_with (go_at_call 90; refine (contains_note s w hr).mono ?_; rintro e w1 ⟨rfl, hb1⟩; generalize hq : s.l.any (fun n : Note => !n.d.right) = r; have HQ := Lib.hid hq; clear hq)
    go_ret
    exact ⟨ret_bool (by rw [HQ.out]; simp [h]), hb1⟩
  · have h' : 10000 < s.l.length := by omega
    go_enter Try.func40, Try.ntmps40
    go_wp2_with fail
    go_ret
    exact ⟨ret_bool (by simp <;> omega), Below.refl _ _⟩
set_option maxHeartbeats 400000 in
theorem phone_seen (s : Sl Int) (w : World) (hr : Rd (· < w.heap.size) 1 ienc w s) :
    Calls Try.prog 56 #[.slice s.A s.l.length s.c] w fun e w' => e = .returned (.bool (seenR s.l)) ∧ Below w.heap.size w w' := by
  unfold seenR
  rw [← any_all_int]
  by_cases h : s.l.length = 12
  · have h' : ((s.l.length : Int) == 12) = true := by simp; omega
    have H := Lib.hid h
    clear h
    go_enter Try.func56, Try.ntmps56
    go_wp2_with (go_at_call 100; refine (contains_int s w hr).mono ?_; rintro e w1 ⟨rfl, hb1⟩; generalize hq : s.l.any (fun n => !rngB n 0 10000) = r; have HQ := Lib.hid hq; clear hq)
    go_ret
    exact ⟨ret_bool (by rw [HQ.out]; simp [H.out]), hb1⟩
  · have h' : ((s.l.length : Int) == 12) = false := by simp; omega
    have H := Lib.hid h
    clear h
    go_enter Try.func56, Try.ntmps56
    go_wp2_with fail
    go_ret
    exact ⟨ret_bool (by simp [H.out]), Below.refl _ _⟩
set_option maxHeartbeats 400000 in
theorem phone_device (n : Int) (w : World) : Calls Try.prog 53 #[.int .i64 n] w fun e w' => e = .returned (.bool (rngB n 0 11)) ∧ w = w' := by
  go_enter Try.func53, Try.ntmps53
  go_wp2_with (go_at_call 59; refine (pto_any _ _ _ _).mono ?_; rintro e w' ⟨rfl, rfl⟩)
  go_ret
  exact ⟨rfl, rfl⟩
def holdsGo (last : Int) : List Hold → Bool
  | [] => true
  | h :: r => if h.st ≤ last ∨ rngB h.u 1 1000000000000000 = false ∨ rngB h.s 0 h.u = false then false else holdsGo h.st r
theorem holdsGo_no {la : Int} {x : Hold} {l : List Hold} (h : x.st ≤ la ∨ rngB x.u 1 1000000000000000 = false ∨ rngB x.s 0 x.u = false) : holdsGo la (x :: l) = false := by simp only [holdsGo, if_pos h]
theorem holdsGo_go {la : Int} {x : Hold} {l : List Hold} (h : la < x.st) (h1 : rngB x.u 1 1000000000000000 = true) (h2 : rngB x.s 0 x.u = true) : holdsGo la (x :: l) = holdsGo x.st l := by
  simp only [holdsGo]; rw [if_neg]; rintro (h' | h' | h')
  · omega
  · rw [h1] at h'; cases h'
  · rw [h2] at h'; cases h'
def holdsR (l : List Hold) : Bool := holdsGo (-1) l && decide (l.length ≤ 100)
set_option maxHeartbeats 1000000 in
theorem phone_holds (s : Sl Hold) (w : World) (hr : Rd (· < w.heap.size) 3 Hold.enc w s) :
    Calls Try.prog 55 #[.slice s.A s.l.length s.c] w fun e w' => e = .returned (.bool (holdsR s.l)) ∧ Below w.heap.size w w' := by
  obtain ⟨A, c, l⟩ := s
  have hn := hr.len
  simp only at hn
  have HR := Lib.hid hr
  clear hr
  simp only
  go_enter Try.func55, Try.ntmps55
  go_wp2_with fail
  go_loopw [3, 8] (fun la i wr => ∃ (k : Nat) (q : Int), k ≤ l.length ∧ la = .int .i64 q ∧ i = .int .i64 k ∧ Below w.heap.size w wr ∧ holdsGo (-1) l = holdsGo q (l.drop k)) (fun _ i _ => l.length - (intOf i).toNat)
  case atStart => exact ⟨0, -1, by omega, rfl, rfl, Below.refl _ _, by simp⟩
  case round =>
    obtain ⟨k, q, hk, rfl, rfl, hbel, heq⟩ := hrel
    have hhe : w.heap.size ≤ wr.heap.size := hbel.size
    by_cases hlt : k < l.length
    · obtain ⟨b, o, rfl, hb, hcl⟩ := HR.out.at1 hlt
      obtain ⟨g0, g1, g2⟩ := Cells.c3 (hcl.keep (hbel.block b hb))
      have hd : l.drop k = l[k] :: l.drop (k + 1) := List.drop_eq_getElem_cons hlt
      rw [hd] at heq
      have HE := Lib.hid heq
      clear hd heq hcl HR
      generalize l[k] = y at *
      rcases Int.lt_or_le q y.st with hq | hq
      · rcases hy : rngB y.u 1 1000000000000000
        · go_wp2_with (go_at_call 59; refine (pto_any _ _ _ _).mono ?_; rintro e w' ⟨rfl, rfl⟩)
          go_ret
          exact ⟨ret_bool (by unfold holdsR; rw [HE.out, holdsGo_no (.inr (.inl hy))]; rfl), qbh⟩
        · rcases hz : rngB y.s 0 y.u
          · go_wp2_with (go_at_call 59; refine (pto_any _ _ _ _).mono ?_; rintro e w' ⟨rfl, rfl⟩)
            go_ret
            exact ⟨ret_bool (by unfold holdsR; rw [HE.out, holdsGo_no (.inr (.inr hz))]; rfl), qbh⟩
          · go_wp2_with (go_at_call 59; refine (pto_any _ _ _ _).mono ?_; rintro e w' ⟨rfl, rfl⟩)
            go_roundw
            case rel => exact ⟨k + 1, y.st, by omega, rfl, by go_num, qbh, by rw [HE.out, holdsGo_go hq hy hz]⟩
            case measure => simp [intOf]; omega
      · go_wp2_with fail
        go_ret
        exact ⟨ret_bool (by unfold holdsR; rw [HE.out, holdsGo_no (.inl hq)]; rfl), qbh⟩
    · have hkl : l.drop k = [] := List.drop_eq_nil_of_le (by omega)
      rw [hkl] at heq
      have HE := Lib.hid heq
      clear hkl heq HR
      go_wp2_with fail
      go_ret
      exact ⟨ret_bool (by unfold holdsR; rw [HE.out]; simp [holdsGo] <;> omega), hbel⟩
def notesGo (id k last : Int) : List NoteD → Bool
  | [] => true
  | n :: r => if n.dev ≠ id ∨ n.seq ≠ k ∨ n.tm < last then false else notesGo id (k + 1) n.tm r
theorem notesGo_no {id k la : Int} {x : NoteD} {l : List NoteD} (h : x.dev ≠ id ∨ x.seq ≠ k ∨ x.tm < la) : notesGo id k la (x :: l) = false := by simp only [notesGo, if_pos h]
theorem notesGo_go {id k la : Int} {x : NoteD} {l : List NoteD} (h1 : x.dev = id) (h2 : x.seq = k) (h3 : la ≤ x.tm) : notesGo id k la (x :: l) = notesGo id (k + 1) x.tm l := by
  simp only [notesGo]; rw [if_neg]; rintro (h | h | h)
  · exact h h1
  · exact h h2
  · omega
def PhoneD.right (p : PhoneD) : Bool := rngB p.id 0 11 && (holdsR p.H && (notesR p.N && (seenR p.S && (decide (p.S[p.id.toNat]? = some 0) && notesGo p.id 0 0 p.N))))
def Phone.v (p : Phone) : Value := .agg #[.int .i64 p.id, .bool p.cut, .slice p.H.A p.H.l.length p.H.c, .slice p.N.A p.N.l.length p.N.c, .slice p.S.A p.S.l.length p.S.c]
end Go.Proofs.Ythnblhbdfpmolaa
