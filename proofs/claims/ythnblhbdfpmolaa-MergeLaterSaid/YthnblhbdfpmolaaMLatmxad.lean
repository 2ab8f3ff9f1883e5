/- cmp.Compare at int, and slices.BinarySearchFunc over loans. -/
import Derived.Test.YthnblhbdfpmolaaMLatmxac
namespace Go.Proofs.Ythnblhbdfpmolaa
open Go.RowKit
def cmpI (x y : Int) : Int := if x < y then -1 else if y < x then 1 else 0
theorem cmpI_lt {x y : Int} (h : x < y) : cmpI x y = -1 := by simp [cmpI, h]
theorem cmpI_gt {x y : Int} (h : y < x) : cmpI x y = 1 := by simp [cmpI, h]; omega
theorem cmpI_eq {x y : Int} (h : x = y) : cmpI x y = 0 := by simp [cmpI, h]
set_option maxHeartbeats 400000 in
theorem cmp_int (x y : Int) (w : World) : Calls Try.prog 83 #[.int .i64 x, .int .i64 y] w fun e w' => e = .returned (.int .i64 (cmpI x y)) ∧ w = w' := by
  rcases Int.lt_trichotomy x y with h | h | h
  · rw [cmpI_lt h]
    go_enter Try.func83, Try.ntmps83
    go_wp2
    go_ret
    exact ⟨rfl, rfl⟩
  · rw [cmpI_eq h]
    subst h
    go_enter Try.func83, Try.ntmps83
    go_wp2
    go_ret
    exact ⟨rfl, rfl⟩
  · rw [cmpI_gt h]
    go_enter Try.func83, Try.ntmps83
    go_wp2
    go_ret
    exact ⟨rfl, rfl⟩
theorem countP_at {α : Type} (p : α → Bool) : ∀ (l : List α) (i : Nat), i ≤ l.length → (∀ t x, l[t]? = some x → t < i → p x = true) → (∀ t x, l[t]? = some x → i ≤ t → p x = false) → l.countP p = i
  | [], i, hi, _, _ => by simp at hi; simp [hi]
  | a :: r, 0, _, _, h2 => by
    rw [List.countP_eq_zero]
    intro x hx
    obtain ⟨t, ht, rfl⟩ := List.getElem_of_mem hx
    simp [h2 t _ (List.getElem?_eq_getElem ht) (Nat.zero_le _)]
  | a :: r, i + 1, hi, h1, h2 => by
    have ha : p a = true := h1 0 a rfl (Nat.succ_pos _)
    rw [List.countP_cons_of_pos ha, countP_at p r i (by simpa using hi) (fun t x hx ht => h1 (t + 1) x (by simpa using hx) (by omega)) (fun t x hx ht => h2 (t + 1) x (by simpa using hx) (by omega))]
theorem sorted_get {α : Type} {R : α → α → Prop} {l : List α} (h : l.Pairwise R) {i j : Nat} {x y : α} (hx : l[i]? = some x) (hy : l[j]? = some y) (hij : i < j) : R x y := by
  obtain ⟨hi, rfl⟩ := List.getElem?_eq_some_iff.1 hx
  obtain ⟨hj, rfl⟩ := List.getElem?_eq_some_iff.1 hy
  exact List.pairwise_iff_getElem.1 h i j hi hj hij
theorem any_at {α : Type} {p : α → Bool} {l : List α} {i : Nat} {x : α} (hx : l[i]? = some x) (h : ∀ t y, l[t]? = some y → p y = true → t = i) : l.any p = p x := by
  rcases hp : p x with _ | _
  · rw [List.any_eq_false]
    intro y hy hpy
    obtain ⟨t, ht, rfl⟩ := List.getElem_of_mem hy
    have := h t _ (List.getElem?_eq_getElem ht) hpy
    subst this
    rw [List.getElem?_eq_getElem ht] at hx
    injection hx with hx
    rw [hx, hp] at hpy
    cases hpy
  · exact List.any_eq_true.2 ⟨x, List.mem_of_getElem? hx, hp⟩
set_option maxHeartbeats 400000 in
theorem cmp_loan (x : Loan) (y : Int) (w : World) : Calls Try.prog 128 #[.agg #[.int .i64 x.p, .int .i64 x.u, .int .i64 x.s], .int .i64 y] w fun e w' => e = .returned (.int .i64 (cmpI x.p y)) ∧ Below w.heap.size w w' := by
  go_enter Try.func128, Try.ntmps128
  go_wp2_with (go_at_call 83; refine (cmp_int _ _ _).mono ?_; rintro e w' ⟨rfl, rfl⟩)
  go_ret
  exact ⟨rfl, (by repeat (first | (with_reducible exact Below.refl _ _) | ((with_reducible refine below_setr ?_ ?_); focus (first | (simp; done) | (simp; omega) | omega)) | ((with_reducible refine below_allocr ?_ ?_); focus (first | (simp; done) | (simp; omega) | omega)) | (with_reducible refine Below.drew ?_) | (with_reducible refine below_drewN ?_ _)))⟩
set_option maxHeartbeats 1000000 in
set_option maxRecDepth 100000 in
theorem bs_loan (s : Sl Loan) (y : Int) (w : World) (hr : Rd (· < w.heap.size) 3 Loan.enc w s) (hb : s.l.length * 24 ≤ 140737488355328) (hs : s.l.Pairwise (fun a b => a.p < b.p)) :
    Calls Try.prog 127 #[.slice s.A s.l.length s.c, .int .i64 y, .func (.func 128) #[] #[]] w fun e w' =>
      e = .returned (.tuple #[.int .i64 (s.l.countP (fun x => decide (x.p < y)) : Nat), .bool (s.l.any (fun x => decide (x.p = y)))]) ∧ Below w.heap.size w w' := by
  obtain ⟨A, c, l⟩ := s
  simp only at hb hs
  have hn : l.length ≤ 5864062014806 := by omega
  have HR := Lib.hid hr
  have HS := Lib.hid hs
  clear hr hs hb
  simp only
  generalize hcnt : l.countP (fun x => decide (x.p < y)) = cnt
  have CN := Lib.hid hcnt
  clear hcnt
  generalize hfin : (l.any (fun x => decide (x.p = y))) = fin
  have FIN := Lib.hid hfin
  clear hfin
  go_enter Try.func127, Try.ntmps127
  go_wp2_with fail
  go_loopw [9, 10] (fun vi vj wr => ∃ (i j : Nat), i ≤ j ∧ j ≤ l.length ∧ vi = .int .i64 i ∧ vj = .int .i64 j ∧ Below w.heap.size w wr ∧
     Hid ((∀ k x, l[k]? = some x → k < i → x.p < y) ∧ (∀ k x, l[k]? = some x → j ≤ k → y ≤ x.p))) (fun vi vj _ => (intOf vj - intOf vi).toNat)
  case atStart => exact ⟨0, l.length, by omega, by omega, rfl, rfl, Below.refl _ _, Lib.hid ⟨fun k x _ h => absurd h (by omega), fun k x hx h => absurd (List.getElem?_eq_some_iff.1 hx).1 (by omega)⟩⟩
  case round =>
    obtain ⟨i, j, hij, hj, rfl, rfl, hbel, H⟩ := hrel
    have hhe : w.heap.size ≤ wr.heap.size := hbel.size
    by_cases hlt : i < j
    · have hm : (i + j) / 2 < l.length := by omega
      obtain ⟨b, o, rfl, hb, hcl⟩ := HR.out.at1 hm
      have hcl := hcl.keep (hbel.block b hb)
      obtain ⟨g0, g1, g2⟩ := Cells.c3 hcl
      have hx : l[(i + j) / 2]? = some l[(i + j) / 2] := List.getElem?_eq_getElem hm
      generalize l[(i + j) / 2] = x at *
      have HX := Lib.hid hx
      clear hx hcl HR
      by_cases hxy : x.p < y
      · go_wp2_with (go_at_call 128; refine (cmp_loan x y wr).mono ?_; rintro e w1 ⟨rfl, hb1⟩; rw [cmpI_lt hxy])
        go_roundw
        case rel =>
          exact ⟨(i + j) / 2 + 1, j, by omega, by omega, by rw [show ((i : Int) + (j : Int)) / 2 + 1 = (((i + j) / 2 + 1 : Nat) : Int) by omega], rfl, hbel.trans (hb1.mono hhe),
            Lib.hid ⟨fun k z hz hk => by
              rcases Nat.lt_or_ge k ((i + j) / 2) with hkm | hkm
              · have := sorted_get HS.out hz HX.out hkm; omega
              · have : k = (i + j) / 2 := by omega
                subst this
                have hh := HX.out
                rw [hz] at hh; injection hh with hh; rw [hh]; exact hxy, H.out.2⟩⟩
        case measure => simp [intOf]; omega
      · have hc : 0 ≤ cmpI x.p y := by simp only [cmpI]; split <;> (try split) <;> omega
        have hyx : y ≤ x.p := by omega
        clear hxy
        go_wp2_with (go_at_call 128; refine (cmp_loan x y wr).mono ?_; rintro e w1 ⟨rfl, hb1⟩)
        go_roundw
        case rel =>
          exact ⟨i, (i + j) / 2, by omega, by omega, rfl, by rw [show ((i : Int) + (j : Int)) / 2 = (((i + j) / 2 : Nat) : Int) by omega], hbel.trans (hb1.mono hhe),
            Lib.hid ⟨H.out.1, fun k z hz hk => by
              rcases Nat.lt_or_ge ((i + j) / 2) k with hkm | hkm
              · have := sorted_get HS.out HX.out hz hkm; omega
              · have : k = (i + j) / 2 := by omega
                subst this
                have hh := HX.out
                rw [hz] at hh; injection hh with hh; rw [hh]; exact hyx⟩⟩
        case measure => simp [intOf]; omega
    · obtain rfl : j = i := by omega
      have ecnt : cnt = j := by
        rw [← CN.out]
        exact countP_at _ l j hj (fun t x hx ht => by simpa using H.out.1 t x hx ht) (fun t x hx ht => by have := H.out.2 t x hx ht; simp; omega)
      subst ecnt
      by_cases hn : cnt < l.length
      · obtain ⟨b, o, rfl, hb, hcl⟩ := HR.out.at1 hn
        have hcl := hcl.keep (hbel.block b hb)
        obtain ⟨g0, g1, g2⟩ := Cells.c3 hcl
        have hx : l[cnt]? = some l[cnt] := List.getElem?_eq_getElem hn
        have hf : fin = decide (l[cnt].p = y) := by
          rw [← FIN.out]
          refine any_at hx (fun t z hz hpz => ?_)
          simp at hpz
          have h1 : ¬ t < cnt := fun h => by have := H.out.1 t z hz h; omega
          rcases Nat.lt_or_ge cnt t with h | h
          · have := sorted_get HS.out hx hz h
            have := H.out.2 cnt _ hx (Nat.le_refl _)
            omega
          · omega
        generalize l[cnt] = x at *
        have HF := Lib.hid hf
        clear hx hf hcl HR
        by_cases hxy : x.p = y
        · have hc := cmpI_eq hxy
          have HXY := Lib.hid hxy
          have HC := Lib.hid hc
          clear hxy hc
          go_wp2_with (go_at_call 128; refine (cmp_loan x y wr).mono ?_; rintro e w1 ⟨rfl, hb1⟩; rw [HC.out])
          go_ret2
          exact ⟨by rw [HF.out]; simp [HXY.out], hbel.trans (hb1.mono hhe)⟩
        · have hc : (cmpI x.p y == 0) = false := by simp only [cmpI]; split <;> (try split) <;> simp <;> omega
          have HXY := Lib.hid hxy
          clear hxy
          go_wp2_with (go_at_call 128; refine (cmp_loan x y wr).mono ?_; rintro e w1 ⟨rfl, hb1⟩)
          go_ret2
          exact ⟨by rw [HF.out]; simp [HXY.out], hbel.trans (hb1.mono hhe)⟩
      · have hf : fin = false := by
          rw [← FIN.out, List.any_eq_false]
          intro z hz
          obtain ⟨t, ht, rfl⟩ := List.getElem_of_mem hz
          have := H.out.1 t _ (List.getElem?_eq_getElem ht) (by omega)
          simp; omega
        have HF := Lib.hid hf
        clear hf
        go_wp2_with fail
        go_ret2
        exact ⟨by rw [HF.out]; rfl, hbel⟩
set_option maxHeartbeats 400000 in
theorem cmp_hold (x : Hold) (y : Int) (w : World) : Calls Try.prog 103 #[.agg #[.int .i64 x.st, .int .i64 x.u, .int .i64 x.s], .int .i64 y] w fun e w' => e = .returned (.int .i64 (cmpI x.st y)) ∧ Below w.heap.size w w' := by
  go_enter Try.func103, Try.ntmps103
  go_wp2_with (go_at_call 83; refine (cmp_int _ _ _).mono ?_; rintro e w' ⟨rfl, rfl⟩)
  go_ret
  exact ⟨rfl, (by repeat (first | (with_reducible exact Below.refl _ _) | ((with_reducible refine below_setr ?_ ?_); focus (first | (simp; done) | (simp; omega) | omega)) | ((with_reducible refine below_allocr ?_ ?_); focus (first | (simp; done) | (simp; omega) | omega)) | (with_reducible refine Below.drew ?_) | (with_reducible refine below_drewN ?_ _)))⟩
set_option maxHeartbeats 1000000 in
set_option maxRecDepth 100000 in
theorem bs_hold (s : Sl Hold) (y : Int) (w : World) (hr : Rd (· < w.heap.size) 3 Hold.enc w s) (hb : s.l.length * 24 ≤ 140737488355328) (hs : s.l.Pairwise (fun a b => a.st < b.st)) :
    Calls Try.prog 102 #[.slice s.A s.l.length s.c, .int .i64 y, .func (.func 103) #[] #[]] w fun e w' =>
      e = .returned (.tuple #[.int .i64 (s.l.countP (fun x => decide (x.st < y)) : Nat), .bool (s.l.any (fun x => decide (x.st = y)))]) ∧ Below w.heap.size w w' := by
  obtain ⟨A, c, l⟩ := s
  simp only at hb hs
  have hn : l.length ≤ 5864062014806 := by omega
  have HR := Lib.hid hr
  have HS := Lib.hid hs
  clear hr hs hb
  simp only
  generalize hcnt : l.countP (fun x => decide (x.st < y)) = cnt
  have CN := Lib.hid hcnt
  clear hcnt
  generalize hfin : (l.any (fun x => decide (x.st = y))) = fin
  have FIN := Lib.hid hfin
  clear hfin
  go_enter Try.func102, Try.ntmps102
  go_wp2_with fail
  go_loopw [9, 10] (fun vi vj wr => ∃ (i j : Nat), i ≤ j ∧ j ≤ l.length ∧ vi = .int .i64 i ∧ vj = .int .i64 j ∧ Below w.heap.size w wr ∧
     Hid ((∀ k x, l[k]? = some x → k < i → x.st < y) ∧ (∀ k x, l[k]? = some x → j ≤ k → y ≤ x.st))) (fun vi vj _ => (intOf vj - intOf vi).toNat)
  case atStart => exact ⟨0, l.length, by omega, by omega, rfl, rfl, Below.refl _ _, Lib.hid ⟨fun k x _ h => absurd h (by omega), fun k x hx h => absurd (List.getElem?_eq_some_iff.1 hx).1 (by omega)⟩⟩
  case round =>
    obtain ⟨i, j, hij, hj, rfl, rfl, hbel, H⟩ := hrel
    have hhe : w.heap.size ≤ wr.heap.size := hbel.size
    by_cases hlt : i < j
    · have hm : (i + j) / 2 < l.length := by omega
      obtain ⟨b, o, rfl, hb, hcl⟩ := HR.out.at1 hm
      have hcl := hcl.keep (hbel.block b hb)
      obtain ⟨g0, g1, g2⟩ := Cells.c3 hcl
      have hx : l[(i + j) / 2]? = some l[(i + j) / 2] := List.getElem?_eq_getElem hm
      generalize l[(i + j) / 2] = x at *
      have HX := Lib.hid hx
      clear hx hcl HR
      by_cases hxy : x.st < y
      · go_wp2_with (go_at_call 103; refine (cmp_hold x y wr).mono ?_; rintro e w1 ⟨rfl, hb1⟩; rw [cmpI_lt hxy])
        go_roundw
        case rel =>
          exact ⟨(i + j) / 2 + 1, j, by omega, by omega, by rw [show ((i : Int) + (j : Int)) / 2 + 1 = (((i + j) / 2 + 1 : Nat) : Int) by omega], rfl, hbel.trans (hb1.mono hhe),
            Lib.hid ⟨fun k z hz hk => by
              rcases Nat.lt_or_ge k ((i + j) / 2) with hkm | hkm
              · have := sorted_get HS.out hz HX.out hkm; omega
              · have : k = (i + j) / 2 := by omega
                subst this
                have hh := HX.out
                rw [hz] at hh; injection hh with hh; rw [hh]; exact hxy, H.out.2⟩⟩
        case measure => simp [intOf]; omega
      · have hc : 0 ≤ cmpI x.st y := by simp only [cmpI]; split <;> (try split) <;> omega
        have hyx : y ≤ x.st := by omega
        clear hxy
        go_wp2_with (go_at_call 103; refine (cmp_hold x y wr).mono ?_; rintro e w1 ⟨rfl, hb1⟩)
        go_roundw
        case rel =>
          exact ⟨i, (i + j) / 2, by omega, by omega, rfl, by rw [show ((i : Int) + (j : Int)) / 2 = (((i + j) / 2 : Nat) : Int) by omega], hbel.trans (hb1.mono hhe),
            Lib.hid ⟨H.out.1, fun k z hz hk => by
              rcases Nat.lt_or_ge ((i + j) / 2) k with hkm | hkm
              · have := sorted_get HS.out HX.out hz hkm; omega
              · have : k = (i + j) / 2 := by omega
                subst this
                have hh := HX.out
                rw [hz] at hh; injection hh with hh; rw [hh]; exact hyx⟩⟩
        case measure => simp [intOf]; omega
    · obtain rfl : j = i := by omega
      have ecnt : cnt = j := by
        rw [← CN.out]
        exact countP_at _ l j hj (fun t x hx ht => by simpa using H.out.1 t x hx ht) (fun t x hx ht => by have := H.out.2 t x hx ht; simp; omega)
      subst ecnt
      by_cases hn : cnt < l.length
      · obtain ⟨b, o, rfl, hb, hcl⟩ := HR.out.at1 hn
        have hcl := hcl.keep (hbel.block b hb)
        obtain ⟨g0, g1, g2⟩ := Cells.c3 hcl
        have hx : l[cnt]? = some l[cnt] := List.getElem?_eq_getElem hn
        have hf : fin = decide (l[cnt].st = y) := by
          rw [← FIN.out]
          refine any_at hx (fun t z hz hpz => ?_)
          simp at hpz
          have h1 : ¬ t < cnt := fun h => by have := H.out.1 t z hz h; omega
          rcases Nat.lt_or_ge cnt t with h | h
          · have := sorted_get HS.out hx hz h
            have := H.out.2 cnt _ hx (Nat.le_refl _)
            omega
          · omega
        generalize l[cnt] = x at *
        have HF := Lib.hid hf
        clear hx hf hcl HR
        by_cases hxy : x.st = y
        · have hc := cmpI_eq hxy
          have HXY := Lib.hid hxy
          have HC := Lib.hid hc
          clear hxy hc
          go_wp2_with (go_at_call 103; refine (cmp_hold x y wr).mono ?_; rintro e w1 ⟨rfl, hb1⟩; rw [HC.out])
          go_ret2
          exact ⟨by rw [HF.out]; simp [HXY.out], hbel.trans (hb1.mono hhe)⟩
        · have hc : (cmpI x.st y == 0) = false := by simp only [cmpI]; split <;> (try split) <;> simp <;> omega
          have HXY := Lib.hid hxy
          clear hxy
          go_wp2_with (go_at_call 103; refine (cmp_hold x y wr).mono ?_; rintro e w1 ⟨rfl, hb1⟩)
          go_ret2
          exact ⟨by rw [HF.out]; simp [HXY.out], hbel.trans (hb1.mono hhe)⟩
      · have hf : fin = false := by
          rw [← FIN.out, List.any_eq_false]
          intro z hz
          obtain ⟨t, ht, rfl⟩ := List.getElem_of_mem hz
          have := H.out.1 t _ (List.getElem?_eq_getElem ht) (by omega)
          simp; omega
        have HF := Lib.hid hf
        clear hf
        go_wp2_with fail
        go_ret2
        exact ⟨by rw [HF.out]; rfl, hbel⟩
end Go.Proofs.Ythnblhbdfpmolaa
