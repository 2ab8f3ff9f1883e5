/- Walks of the references of layers 40 and 43: the same stocks. -/
import Derived.Test.YthnblhbdfpmolaaPOncemxbf
import Derived.Test.YthnblhbdfpmolaaPOncemxau
namespace Go.Proofs.Ythnblhbdfpmolaa
open Go.RowKit
set_option maxHeartbeats 1600000 in
theorem rsame40 (a b : Stock) (w : World) (ha : Rd (· < w.heap.size) 3 Loan.enc w a.L) (hb : Rd (· < w.heap.size) 3 Loan.enc w b.L) :
    Calls Try.prog 68 #[a.v, b.v] w fun e w' => e = .returned (.bool (decide (a.d = b.d))) ∧ Below w.heap.size w w' := by
  obtain ⟨aT, aU, aA, ac, al⟩ := a
  obtain ⟨bT, bU, bA, bc, bl⟩ := b
  have hn := ha.len
  have hn' := hb.len
  simp only at hn hn'
  have HA := Lib.hid ha
  have HB := Lib.hid hb
  clear ha hb
  simp only [Stock.v]
  have hd : decide (Stock.d ⟨aT, aU, ⟨aA, ac, al⟩⟩ = Stock.d ⟨bT, bU, ⟨bA, bc, bl⟩⟩) = (decide (aT = bT) && (decide (aU = bU) && decide (al = bl))) := by
    simp only [Stock.d, StockD.mk.injEq, Bool.decide_and]
  rw [hd]
  clear hd
  have hlen : al.length ≠ bl.length → decide (al = bl) = false := fun h => decide_eq_false (fun hc => h (by rw [hc]))
  have HLEN := Lib.hid hlen
  clear hlen
  by_cases e1 : aT = bT
  rotate_left
  · have f1 : (aT != bT) = true := by simp [e1]
    have E1 := Lib.hid e1
    clear e1
    go_enter Try.func68, Try.ntmps68
    go_wp2_with fail
    go_ret
    exact ⟨ret_bool (by rw [decide_eq_false E1.out]; rfl), qbl⟩
  by_cases e2 : aU = bU
  rotate_left
  · have f1 : (aT != bT) = false := by simp [e1]
    have f2 : (aU != bU) = true := by simp [e2]
    have E2 := Lib.hid e2
    clear e2
    have E1 := Lib.hid e1
    clear e1
    go_enter Try.func68, Try.ntmps68
    go_wp2_with fail
    go_ret
    exact ⟨ret_bool (by rw [decide_eq_false E2.out]; simp), qbl⟩
  by_cases e3 : al.length = bl.length
  rotate_left
  · have f1 : (aT != bT) = false := by simp [e1]
    have f2 : (aU != bU) = false := by simp [e2]
    have f3 : ((al.length : Int) != bl.length) = true := by simp; omega
    have E3 := Lib.hid e3
    clear e3
    have E2 := Lib.hid e2
    clear e2
    have E1 := Lib.hid e1
    clear e1
    go_enter Try.func68, Try.ntmps68
    go_wp2_with fail
    go_ret
    exact ⟨ret_bool (by rw [HLEN.out E3.out]; simp), qbl⟩
  subst e1 e2
  have f3 : ((al.length : Int) != bl.length) = false := by simp; omega
  have E3 := Lib.hid e3
  clear e3
  rw [decide_eq_true rfl, decide_eq_true rfl, Bool.true_and, Bool.true_and]
  go_enter Try.func68, Try.ntmps68
  go_wp2_with fail
  go_loopw [5] (fun i wr => ∃ (k : Nat), k ≤ al.length ∧ i = .int .i64 k ∧ Blk wr w.heap.size 66 #[.int .i64 aT, .int .i64 aU, .slice aA al.length ac] ∧ Blk wr (w.heap.size + 1) 66 #[.int .i64 aT, .int .i64 aU, .slice bA bl.length bc] ∧ Below w.heap.size w wr ∧ (∀ j, j < k → al[j]? = bl[j]?)) (fun i _ => al.length - (intOf i).toNat)
  case atStart => exact ⟨0, by omega, rfl, (Blk.new _ _ _).alloc _, Blk.new' (by simp), qbl, fun j hj => absurd hj (Nat.not_lt_zero _)⟩
  case round =>
    obtain ⟨k, hk, rfl, hblk, hblkb, hbel, hall⟩ := hrel
    obtain ⟨a0, a1, a2, af, az⟩ := hblk.b3
    obtain ⟨b0, b1, b2, bf, bz⟩ := hblkb.b3
    have B_a := Lib.hid hblk
    have B_b := Lib.hid hblkb
    have HALL := Lib.hid hall
    clear hblk hblkb hall
    have hhe : w.heap.size ≤ wr.heap.size := hbel.size
    by_cases hlt : k < al.length
    · have hlm : k < bl.length := by have := E3.out; omega
      obtain ⟨b, o, rfl, hb, hcl⟩ := HA.out.at1 hlt
      obtain ⟨b', o', rfl, hb', hcl'⟩ := HB.out.at1 hlm
      obtain ⟨g0, g1, g2⟩ := Cells.c3 (hcl.keep (hbel.block b hb))
      obtain ⟨j0, j1, j2⟩ := Cells.c3 (hcl'.keep (hbel.block b' hb'))
      have hx : al[k]? = some al[k] := List.getElem?_eq_getElem hlt
      have hy : bl[k]? = some bl[k] := List.getElem?_eq_getElem hlm
      generalize al[k] = x at *
      generalize bl[k] = y at *
      have HX := Lib.hid hx
      have HY := Lib.hid hy
      clear hx hy hcl hcl'
      obtain ⟨xp, xu, xs⟩ := x
      obtain ⟨yp, yu, ys⟩ := y
      go_wp2_with fail
      refine wp_region_T (fun w' => w'.cell? ⟨w.heap.size, 2, none⟩ = some (.slice (some ⟨b, o, none⟩) al.length ac) ∧ w'.cell? ⟨w.heap.size + 1, 2, none⟩ = some (.slice (some ⟨b', o', none⟩) bl.length bc) ∧ w'.cell? ⟨b, o + k * 3, none⟩ = some (.int .i64 xp) ∧ w'.cell? ⟨b, o + k * 3 + 1, none⟩ = some (.int .i64 xu) ∧ w'.cell? ⟨b, o + k * 3 + 2, none⟩ = some (.int .i64 xs) ∧ w'.cell? ⟨b', o' + k * 3, none⟩ = some (.int .i64 yp) ∧ w'.cell? ⟨b', o' + k * 3 + 1, none⟩ = some (.int .i64 yu) ∧ w'.cell? ⟨b', o' + k * 3 + 2, none⟩ = some (.int .i64 ys)) (fun _ => false) (by kernel_rfl) ⟨a2, b2, g0, g1, g2, j0, j1, j2⟩ (fun hHeld => ?_)
      refine qtq 0 ?_
      simp only [qsa, qsb, qsc]
      refine qtq 1 ?_
      simp only [qsa, qsb, qsc]
      refine qtq 2 ?_
      simp only [qsa, qsb, qsc]
      refine qtq 3 ?_
      simp only [qsa, qsb, qsc]
      refine qtq 4 ?_
      simp only [qsa, qsb, qsc]
      refine qtq 5 ?_
      simp only [qsa, qsb, qsc]
      refine qtq 6 ?_
      simp only [qsa, qsb, qsc]
      refine qtq 7 ?_
      simp only [qsa, qsb, qsc]
      refine qtq 8 ?_
      simp only [qsa, qsb, qsc]
      refine qtq 9 ?_
      simp only [qsa, qsb, qsc]
      by_cases hxy : (⟨xp, xu, xs⟩ : Loan) = ⟨yp, yu, ys⟩
      · injection hxy with h1 h2 h3
        subst h1 h2 h3
        refine wpAnyT_take2 (i := 10) (v := .bool false) rfl rfl (by kernel_rfl) (by kernel_rfl) (by kernel_rfl) (by kernel_rfl) (fun _ _ _ h => h) (Or.inl ⟨by rfl, ?_⟩) (by first | assumption | trivial) ?_
        · (intro w hSw; (try dsimp only at hSw); go_simp) <;> (first | (with_reducible rfl) | assumption | (simp; done) | (simp [*]; done) | (simp; omega))
        simp only [qsa, qsb, qsc]
        refine wpAnyT_done (by kernel_rfl) ?_ _
        clear hHeld
        go_wp2_with fail
        go_roundw
        case rel =>
          refine ⟨k + 1, by omega, by go_num, B_a.out, B_b.out, qbv, fun j hj => ?_⟩
          rcases Nat.lt_or_ge j k with h1 | h1
          · exact HALL.out j h1
          · obtain rfl : j = k := by omega
            rw [HX.out, HY.out]
        case measure => simp [intOf]; omega
      · have hf : decide (al = bl) = false := decide_eq_false (fun hc => hxy (by
          have h1 := HX.out
          rw [hc, HY.out] at h1
          injection h1 with h1
          exact h1.symm))
        have HFF := Lib.hid hf
        clear hf
        have hne : xp = yp → xu = yu → ¬ xs = ys := fun h1 h2 h3 => hxy (by rw [h1, h2, h3])
        clear hxy
        refine wpAnyT_take2 (i := 10) (v := .bool true) rfl rfl (by kernel_rfl) (by kernel_rfl) (by kernel_rfl) (by kernel_rfl) (fun _ _ _ h => h) (Or.inl ⟨by rfl, ?_⟩) (by first | assumption | trivial) ?_
        · (intro w hSw; (try dsimp only at hSw); go_simp) <;> (first | (with_reducible rfl) | assumption | (simp; done) | (simp [*]; done) | (simp; omega))
        simp only [qsa, qsb, qsc]
        refine wpAnyT_done (by kernel_rfl) ?_ _
        clear hHeld
        go_wp2_with fail
        go_ret
        exact ⟨ret_bool HFF.out.symm, qbv⟩
    · have hv : al = bl := by
        apply List.ext_getElem?
        intro j
        rcases Nat.lt_or_ge j al.length with h1 | h1
        · exact HALL.out j (by omega)
        · rw [List.getElem?_eq_none h1, List.getElem?_eq_none (by have := E3.out; omega)]
      have HV := Lib.hid hv
      clear hv
      go_wp2_with fail
      go_ret
      exact ⟨ret_bool (by simp [HV.out]), qbv⟩
set_option maxHeartbeats 1600000 in
theorem rstocks (s t : Sl Stock) (w : World) (hr : RdStocks (· < w.heap.size) w s) (ht : RdStocks (· < w.heap.size) w t) :
    Calls Try.prog 23 #[.slice s.A s.l.length s.c, .slice t.A t.l.length t.c] w fun e w' => e = .returned (.bool (decide (s.l.map Stock.d = t.l.map Stock.d))) ∧ Below w.heap.size w w' := by
  obtain ⟨A, c, l⟩ := s
  obtain ⟨A', c', m⟩ := t
  have hn := hr.1.len
  have hn' := ht.1.len
  simp only at hn hn'
  have HR := Lib.hid hr
  have HT := Lib.hid ht
  clear hr ht
  simp only
  by_cases he : l.length = m.length
  · have he' : ((l.length : Int) != m.length) = false := by simp; omega
    have HE := Lib.hid he
    clear he
    go_enter Try.func23, Try.ntmps23
    go_wp2_with fail
    go_loopw [5] (fun i wr => ∃ (k : Nat), k ≤ l.length ∧ i = .int .i64 k ∧ Below w.heap.size w wr ∧ (∀ j, j < k → (l.map Stock.d)[j]? = (m.map Stock.d)[j]?)) (fun i _ => l.length - (intOf i).toNat)
    case atStart => exact ⟨0, by omega, rfl, qbl, fun j hj => absurd hj (Nat.not_lt_zero _)⟩
    case round =>
      obtain ⟨k, hk, rfl, hbel, hall⟩ := hrel
      have HALL := Lib.hid hall
      clear hall
      have hhe : w.heap.size ≤ wr.heap.size := hbel.size
      by_cases hlt : k < l.length
      · have hlm : k < m.length := by have := HE.out; omega
        obtain ⟨b, o, rfl, hb, hcl⟩ := HR.out.1.at1 hlt
        obtain ⟨b', o', rfl, hb', hcl'⟩ := HT.out.1.at1 hlm
        obtain ⟨g0, g1, g2⟩ := Cells.c3 (hcl.keep (hbel.block b hb))
        obtain ⟨j0, j1, j2⟩ := Cells.c3 (hcl'.keep (hbel.block b' hb'))
        have hxk : (l.map Stock.d)[k]? = some l[k].d := by simp [hlt]
        have hyk : (m.map Stock.d)[k]? = some m[k].d := by simp [hlm]
        have hx : l[k] ∈ l := List.getElem_mem hlt
        have hy : m[k] ∈ m := List.getElem_mem hlm
        generalize l[k] = x at *
        generalize m[k] = y at *
        have HX := Lib.hid (HR.out.2 _ hx)
        have HY := Lib.hid (HT.out.2 _ hy)
        have HXK := Lib.hid hxk
        have HYK := Lib.hid hyk
        clear hx hy hxk hyk hcl hcl'
        obtain ⟨xT, xU, xL⟩ := x
        obtain ⟨yT, yU, yL⟩ := y
        go_wp2_with fail
        refine wp_region_T (fun w' => (w'.cell? ⟨b, o + k * 3, none⟩ = some (.int .i64 xT) ∧ w'.cell? ⟨b, o + k * 3 + 1, none⟩ = some (.int .i64 xU) ∧ w'.cell? ⟨b, o + k * 3 + 2, none⟩ = some (.slice xL.A xL.l.length xL.c)) ∧ (w'.cell? ⟨b', o' + k * 3, none⟩ = some (.int .i64 yT) ∧ w'.cell? ⟨b', o' + k * 3 + 1, none⟩ = some (.int .i64 yU) ∧ w'.cell? ⟨b', o' + k * 3 + 2, none⟩ = some (.slice yL.A yL.l.length yL.c))) (fun _ => false) (by kernel_rfl) ⟨⟨g0, g1, g2⟩, j0, j1, j2⟩ (fun hHeld => ?_)
        refine qtq 0 ?_
        simp only [qsa, qsb, qsc]
        refine qtq 1 ?_
        simp only [qsa, qsb, qsc]
        refine qtq 2 ?_
        simp only [qsa, qsb, qsc]
        refine qtq 3 ?_
        simp only [qsa, qsb, qsc]
        refine qtq 4 ?_
        simp only [qsa, qsb, qsc]
        refine qtq 5 ?_
        simp only [qsa, qsb, qsc]
        refine qtq 6 ?_
        simp only [qsa, qsb, qsc]
        refine qtq 7 ?_
        simp only [qsa, qsb, qsc]
        clear hHeld
        refine wpAnyT_next (i := 8) (by kernel_rfl) rfl ?_
        go_wp2_with fail
        refine (rsame40 ⟨xT, xU, xL⟩ ⟨yT, yU, yL⟩ _ (HX.out.below' qbv (Nat.le_refl _)) (HY.out.below' qbv (Nat.le_refl _))).mono ?_
        rintro e w1 ⟨rfl, hb1⟩
        have hB1 : Below w.heap.size w w1 := qbv
        generalize hva : decide (Stock.d ⟨xT, xU, xL⟩ = Stock.d ⟨yT, yU, yL⟩) = va at *
        have G0 := keep_cell hb1 (show (World.drew _).cell? ⟨b, o + k * 3, none⟩ = _ from g0)
        have G1 := keep_cell hb1 (show (World.drew _).cell? ⟨b, o + k * 3 + 1, none⟩ = _ from g1)
        have G2 := keep_cell hb1 (show (World.drew _).cell? ⟨b, o + k * 3 + 2, none⟩ = _ from g2)
        have J0 := keep_cell hb1 (show (World.drew _).cell? ⟨b', o' + k * 3, none⟩ = _ from j0)
        have J1 := keep_cell hb1 (show (World.drew _).cell? ⟨b', o' + k * 3 + 1, none⟩ = _ from j1)
        have J2 := keep_cell hb1 (show (World.drew _).cell? ⟨b', o' + k * 3 + 2, none⟩ = _ from j2)
        clear hb1 g0 g1 g2 j0 j1 j2
        have HVA := Lib.hid hva
        clear hva
        go_wp2_with fail
        have hHeld := And.intro (And.intro G0 (And.intro G1 G2)) (And.intro J0 (And.intro J1 J2))
        refine ⟨(by first | exact hHeld | exact fun _ => hHeld), ?_⟩
        refine qtq 9 ?_
        simp only [qsa, qsb, qsc]
        refine wpAnyT_done (by kernel_rfl) ?_ _
        clear hHeld G0 G1 G2 J0 J1 J2
        rcases va with _ | _
        · have hf : decide (l.map Stock.d = m.map Stock.d) = false := decide_eq_false (fun hc => by
            have h1 := HXK.out
            rw [hc, HYK.out] at h1
            injection h1 with h1
            exact of_decide_eq_false HVA.out h1.symm)
          have HFF := Lib.hid hf
          clear hf
          go_wp2_with fail
          go_ret
          exact ⟨ret_bool HFF.out.symm, qbv⟩
        · go_wp2_with fail
          go_roundw
          case rel =>
            refine ⟨k + 1, by omega, by go_num, qbv, fun j hj => ?_⟩
            rcases Nat.lt_or_ge j k with h1 | h1
            · exact HALL.out j h1
            · obtain rfl : j = k := by omega
              rw [HXK.out, HYK.out, of_decide_eq_true HVA.out]
          case measure => simp [intOf]; omega
      · have hv : l.map Stock.d = m.map Stock.d := by
          apply List.ext_getElem?
          intro j
          rcases Nat.lt_or_ge j l.length with h1 | h1
          · exact HALL.out j (by omega)
          · rw [List.getElem?_eq_none (by simpa using h1), List.getElem?_eq_none (by have := HE.out; simp; omega)]
        have HV := Lib.hid hv
        clear hv
        go_wp2_with fail
        go_ret
        exact ⟨ret_bool (by rw [decide_eq_true HV.out]), qbv⟩
  · have he' : ((l.length : Int) != m.length) = true := by simp; omega
    have hv : decide (l.map Stock.d = m.map Stock.d) = false := decide_eq_false (fun h => he (by simpa using congrArg List.length h))
    have HV := Lib.hid hv
    clear hv he
    go_enter Try.func23, Try.ntmps23
    go_wp2_with fail
    go_ret
    exact ⟨ret_bool HV.out.symm, qbl⟩
set_option maxHeartbeats 1000000 in
theorem rfew43 (a : Option Addr) (c q n : Nat) (s : Sl Stock) (hqn : q ≤ 100) (hn1 : n ≤ 1000) (w : World) (hr : RdStocks (· < w.heap.size) w s) :
    Calls Try.prog 14 #[.slice a q c, .slice s.A s.l.length s.c, .int .i64 n] w fun e w' => AnyB (fun b => b = true → s.l.length ≤ 3 ∧ q ≤ n ∧ ∀ x ∈ s.l, x.L.l.length ≤ 12) e ∧ Below w.heap.size w w' := by
  obtain ⟨A, c, l⟩ := s
  have hn := hr.1.len
  simp only at hn
  have HR := Lib.hid hr
  clear hr
  simp only
  go_enter Try.func14, Try.ntmps14
  go_wp2_with fail
  go_loopw [7] (fun i wr => ∃ (k : Nat), k ≤ l.length ∧ k ≤ 4 ∧ i = .int .i64 k ∧ Below w.heap.size w wr ∧ (∀ j x, j < k → l[j]? = some x → x.L.l.length ≤ 12)) (fun i _ => l.length - (intOf i).toNat)
  case atStart => exact ⟨0, by omega, by omega, rfl, qbl, fun j x hj => absurd hj (Nat.not_lt_zero _)⟩
  case round =>
    obtain ⟨k, hk, hk4, rfl, hbel, hall⟩ := hrel
    have HALL := Lib.hid hall
    clear hall
    have hhe : w.heap.size ≤ wr.heap.size := hbel.size
    have hfin : k = l.length ∨ 3 < k → ((decide ((q : Int) ≤ n) && decide ((l.length : Int) ≤ 3)) = true → l.length ≤ 3 ∧ q ≤ n ∧ ∀ x ∈ l, x.L.l.length ≤ 12) := fun hkk h => by
      simp only [Bool.and_eq_true, decide_eq_true_eq] at h
      refine ⟨by omega, by omega, fun x hx => ?_⟩
      obtain ⟨j, hj⟩ := List.getElem?_of_mem hx
      have := (List.getElem?_eq_some_iff.1 hj).1
      exact HALL.out j x (by omega) hj
    have HFIN := Lib.hid hfin
    clear hfin
    by_cases hlt : k < l.length
    · rcases Nat.lt_or_ge 3 k with hkn' | hkn'
      · have h3 : (3 : Int) < k := by omega
        have HK3 := Lib.hid hkn'
        rcases Int.lt_or_le (n : Int) q with hqq | hqq
        all_goals go_wp2_with fail
        all_goals
          go_ret
          exact ⟨⟨_, rfl, fun h => HFIN.out (.inr HK3.out) (by first | exact h | (simp; omega) | (simp at h; done) | (simp at h; simp; omega))⟩, hbel⟩
      · have h3 : (k : Int) ≤ 3 := by omega
        obtain ⟨b, o, rfl, hb, hcl⟩ := HR.out.1.at1 hlt
        obtain ⟨g0, g1, g2⟩ := Cells.c3 (hcl.keep (hbel.block b hb))
        have hxk : l[k]? = some l[k] := List.getElem?_eq_getElem hlt
        generalize l[k] = x at *
        have HXK := Lib.hid hxk
        obtain ⟨xT, xU, ⟨xA, xc, xl⟩⟩ := x
        clear hcl hxk
        rcases (show (12 < (xl.length : Int)) ∨ (xl.length : Int) ≤ 12 by omega) with hx1 | hx1
        · go_wp2_with fail
          go_ret
          exact ⟨⟨false, rfl, fun h => by cases h⟩, hbel⟩
        · go_wp2_with fail
          go_roundw
          case rel =>
            refine ⟨k + 1, by omega, by omega, by go_num, hbel, fun j x hj hx => ?_⟩
            rcases Nat.lt_or_ge j k with h1 | h1
            · exact HALL.out j x h1 hx
            · obtain rfl : j = k := by omega
              rw [HXK.out] at hx
              injection hx with hx
              subst hx
              simp only; omega
          case measure => simp [intOf]; omega
    · have HK3 := Lib.hid (show k = l.length by omega)
      rcases Int.lt_or_le (n : Int) q with hqq | hqq
      all_goals go_wp2_with fail
      all_goals
        go_ret
        exact ⟨⟨_, rfl, fun h => HFIN.out (.inl HK3.out) (by first | exact h | (simp; omega) | (simp at h; done) | (simp at h; simp; omega))⟩, hbel⟩
end Go.Proofs.Ythnblhbdfpmolaa
/- Walks of the helpers of the laws of layer 43: the small examples. -/
namespace Go.Proofs.Ythnblhbdfpmolaa
open Go.RowKit
theorem cutT {G : Prop} (T : Prop) (main : T → G) (fin : T) : G := main fin
section
variable {P : Program} {ops : Array Oper} {Q : Exit → Act → World → Prop} {md : Region.Mode} {S : World → Prop} {T : Nat → Bool}
theorem wpAnyT_three {i j l : Nat} {o o' o'' : Oper} {fuel : Nat} {listed : Array Bool} {a : Act} {w : World} (hr : Region.ready md ops listed = [i, j, l]) (ho : ops[i]? = some o) (ho' : ops[j]? = some o') (ho'' : ops[l]? = some o'')
    (h : wpList P ops (QT Q fun a' w' => (T i = false → S w') ∧ wpAnyT P md ops Q S T fuel (listed.setIfInBounds i true) a' w') [o] a w)
    (h' : wpList P ops (QT Q fun a' w' => (T j = false → S w') ∧ wpAnyT P md ops Q S T fuel (listed.setIfInBounds j true) a' w') [o'] a w)
    (h'' : wpList P ops (QT Q fun a' w' => (T l = false → S w') ∧ wpAnyT P md ops Q S T fuel (listed.setIfInBounds l true) a' w') [o''] a w) : wpAnyT P md ops Q S T (fuel + 1) listed a w := by
  refine ⟨fun h0 => ?_, fun k hk => ?_⟩
  · rw [hr] at h0; cases h0
  · rw [hr] at hk
    rcases List.mem_cons.1 hk with rfl | hk
    · exact wpOp_of_list ho h
    · rcases List.mem_cons.1 hk with rfl | hk
      · exact wpOp_of_list ho' h'
      · rcases List.mem_singleton.1 hk with rfl
        exact wpOp_of_list ho'' h''
end
def nB : ByteArray := ⟨#[110]⟩
def P0 : PhoneD := ⟨3, false, [], [], List.replicate 12 0⟩
def P1 : PhoneD := ⟨3, false, [⟨0, 6, 0⟩], [], List.replicate 12 0⟩
def P2 : PhoneD := ⟨3, true, [⟨0, 6, 0⟩], [], List.replicate 12 0⟩
def P3 : PhoneD := ⟨3, true, [⟨0, 6, 4⟩], [⟨3, 0, List.replicate 12 0, 100, nB⟩], List.replicate 12 0⟩
def P4 : PhoneD := ⟨3, false, [], [⟨3, 0, List.replicate 12 0, 100, nB⟩], List.replicate 12 0⟩
theorem sm_new : newP 3 = (P0, 0) := rfl
theorem sm_lend : P0.lend [⟨10, 0, []⟩] 0 6 = (P1, [⟨10, 0, [⟨3, 6, 0⟩]⟩], 0) := by rfl
theorem sm_cut : P1.cutS = (P2, 0) := by rfl
theorem sm_pro1 : P2.promise 0 4 100 nB = (P3, 0) := by rfl
theorem sm_pro2 : (P3.promise 0 3 101 nB).2 = 21 := by rfl
theorem sm_pro3 : (P3.promise 0 2 99 nB).2 = 19 := by rfl
theorem sm_take1 : (StockD.take ⟨10, 0, [⟨3, 6, 0⟩]⟩ 5).2 = 21 := by rfl
theorem sm_take2 : StockD.take ⟨10, 0, [⟨3, 6, 0⟩]⟩ 4 = (⟨10, 4, [⟨3, 6, 0⟩]⟩, 0) := by rfl
theorem sm_join : P3.join [⟨10, 4, [⟨3, 6, 0⟩]⟩] (List.replicate 12 0) = (P4, [⟨10, 8, []⟩], P3.N, 0) := by rfl
theorem sm_right : P4.right = true := by rfl
theorem sm_free : StockD.free ⟨10, 8, []⟩ = 2 := by rfl
end Go.Proofs.Ythnblhbdfpmolaa
