/- Walks: eval.Truth, Whole. -/
import Derived.Test.YtcgocdhhneckhaaGreatFnammxbh
namespace Go.Proofs.YtcgocdhhneckhaaGreat
open Go.RowKit
theorem RG.lat {w w' : World} {f : Frc} {p q : Int} (h : RG (· < w.heap.size) w f p q) (hb : Below w.heap.size w w') : RG (· < w'.heap.size) w' f p q := (h.keep fun b hb' => hb.block b hb').mono fun _ hb' => Nat.lt_of_lt_of_le hb' hb.size
def trF (r : FrR) : Bool := decide (r.e = 0) && isF r
/-- The value rounded down, as an amount. -/
def whF (r : FrR) : Int × Int := if r.e ≠ 0 then (0, r.e) else if r.p < 0 then (0, 0) else if 1000000000000001 * r.q ≤ r.p then (0, 3) else (r.p / r.q, 0)
set_option maxRecDepth 100000 in
set_option maxHeartbeats 1600000 in
theorem ev_Truth (b : Byl) (e : PT) (T M : Sl FT) (w : World) (hb : Byl.At (· < w.heap.size) w b) (he : PT.At (· < w.heap.size) w e) (hT : FactsAt (· < w.heap.size) w T) (hM : FactsAt (· < w.heap.size) w M) :
    Calls Tryz.prog 30 #[b.v, e.v, .slice T.A T.l.length T.c, .slice M.A M.l.length M.c] w fun r w' => r = .returned (.tuple #[.bool (trF (evalF b.lets.l e T.l M.l)), .int .i64 (evalF b.lets.l e T.l M.l).e]) ∧ Below w.heap.size w w' := by
  obtain ⟨nm, ⟨LA, Lc, L⟩, ⟨o, n, u, s, A, c, l⟩, ⟨oB, nB, uB, sB, AB, cB, lB⟩, ⟨oC, nC, uC, sC, AC, cC, lC⟩, ⟨oD, nD, uD, sD, AD, cD, lD⟩, q, sh, ch⟩ := b
  obtain ⟨xo, xm, xu, xs, xA, xc, xl⟩ := e
  have hmf : True := trivial
  have hbb : Below w.heap.size w ((w.alloc (.cells #[.string nm, .slice LA L.length Lc, .int .i64 o, .int .i64 n, .int .i64 u, .string s, .slice A l.length c, .int .i64 oB, .int .i64 nB, .int .i64 uB, .string sB, .slice AB lB.length cB, .int .i64 oC, .int .i64 nC, .int .i64 uC, .string sC, .slice AC lC.length cC, .int .i64 oD, .int .i64 nD, .int .i64 uD, .string sD, .slice AD lD.length cD, .int .i64 q, .int .i64 sh, .int .i64 ch] 27)).alloc (.cells #[.int .i64 xo, .int .i64 xm, .int .i64 xu, .string xs, .slice xA xl.length xc] 25)) := qbl
  have hcall := ev_Value ⟨nm, ⟨LA, Lc, L⟩, ⟨o, n, u, s, A, c, l⟩, ⟨oB, nB, uB, sB, AB, cB, lB⟩, ⟨oC, nC, uC, sC, AC, cC, lC⟩, ⟨oD, nD, uD, sD, AD, cD, lD⟩, q, sh, ch⟩ ⟨xo, xm, xu, xs, xA, xc, xl⟩ T M _ (hb.later hbb) (he.later hbb) (hT.later hbb) (hM.later hbb)
  simp only at hcall
  obtain ⟨V, hV⟩ : ∃ V, evalF L ⟨xo, xm, xu, xs, xA, xc, xl⟩ T.l M.l = V := ⟨_, rfl⟩
  rw [hV] at hcall ⊢
  have HBB := Lib.hid hbb
  clear hb he hT hM hV hbb hmf
  simp only [Byl.v, PT.v] at hcall ⊢
  have HBX := Lib.hid (show Blk ((w.alloc (.cells #[.string nm, .slice LA L.length Lc, .int .i64 o, .int .i64 n, .int .i64 u, .string s, .slice A l.length c, .int .i64 oB, .int .i64 nB, .int .i64 uB, .string sB, .slice AB lB.length cB, .int .i64 oC, .int .i64 nC, .int .i64 uC, .string sC, .slice AC lC.length cC, .int .i64 oD, .int .i64 nD, .int .i64 uD, .string sD, .slice AD lD.length cD, .int .i64 q, .int .i64 sh, .int .i64 ch] 27)).alloc (.cells #[.int .i64 xo, .int .i64 xm, .int .i64 xu, .string xs, .slice xA xl.length xc] 25)) w.heap.size 27 #[.string nm, .slice LA L.length Lc, .int .i64 o, .int .i64 n, .int .i64 u, .string s, .slice A l.length c, .int .i64 oB, .int .i64 nB, .int .i64 uB, .string sB, .slice AB lB.length cB, .int .i64 oC, .int .i64 nC, .int .i64 uC, .string sC, .slice AC lC.length cC, .int .i64 oD, .int .i64 nD, .int .i64 uD, .string sD, .slice AD lD.length cD, .int .i64 q, .int .i64 sh, .int .i64 ch] from (Blk.new _ _ _).alloc _)
  go_enter Tryz.func30, Tryz.ntmps30
  go_wp2_with (refine wpList_load_row rfl 27 (.tmp 4) rfl w.heap.size rfl 27 #[.string nm, .slice LA L.length Lc, .int .i64 o, .int .i64 n, .int .i64 u, .string s, .slice A l.length c, .int .i64 oB, .int .i64 nB, .int .i64 uB, .string sB, .slice AB lB.length cB, .int .i64 oC, .int .i64 nC, .int .i64 uC, .string sC, .slice AC lC.length cC, .int .i64 oD, .int .i64 nD, .int .i64 uD, .string sD, .slice AD lD.length cD, .int .i64 q, .int .i64 sh, .int .i64 ch] (0, 0) _ HBX.out Tryz.underlying27 rfl (by kernel_rfl) ?_)
  clear HBX
  refine hcall.mono ?_
  clear hcall
  rintro e w2 ⟨f, rfl, hok, hno, hb2⟩
  have HB2 : Hid (Below w.heap.size w w2) := Lib.hid (HBB.out.trans (hb2.mono HBB.out.size))
  clear hb2 HBB
  simp only [Frc.v]
  by_cases h0 : V.e = 0
  · have HF := Lib.hid (isF_sign (f := f) (r := V) (hok h0).dp.1)
    have HTR : Hid (trF V = isF V) := Lib.hid (by unfold trF; rw [h0]; simp)
    have H0 := Lib.hid h0
    rw [h0]
    clear hok hno h0
    go_wp2_with fail
    try simp only [Exit.inBlock, Exit.then]
    refine bodyPost_ret (v := .tuple #[.bool (f.p.s != 0), .int .i64 0]) ?_ rfl ⟨by rw [HTR.out, ← HF.out, H0.out], HB2.out.alloc HB2.out.size _⟩
    simp [results, Tryz.results30, go_sem, ]
  · have HTR : Hid (trF V = false) := Lib.hid (by unfold trF; rw [decide_eq_false h0]; rfl)
    clear hok hno
    go_wp2_with fail
    try simp only [Exit.inBlock, Exit.then]
    refine bodyPost_ret (v := .tuple #[.bool false, .int .i64 V.e]) ?_ rfl ⟨by rw [HTR.out], HB2.out.alloc HB2.out.size _⟩
    simp [results, Tryz.results30, go_sem, ]
theorem whF_err {r : FrR} (h : r.e ≠ 0) : whF r = (0, r.e) := by unfold whF; rw [if_pos h]
theorem whF_neg {r : FrR} (h : r.e = 0) (h1 : r.p < 0) : whF r = (0, 0) := by unfold whF; rw [if_neg (fun h' => h' h), if_pos h1]
theorem whF_big {r : FrR} (h : r.e = 0) (h1 : 0 ≤ r.p) (h2 : 1000000000000001 * r.q ≤ r.p) : whF r = (0, 3) := by unfold whF; rw [if_neg (fun h' => h' h), if_neg (by omega), if_pos h2]
theorem whF_ok {r : FrR} (h : r.e = 0) (h1 : 0 ≤ r.p) (h2 : ¬ 1000000000000001 * r.q ≤ r.p) : whF r = (r.p / r.q, 0) := by unfold whF; rw [if_neg (fun h' => h' h), if_neg (by omega), if_neg h2]
theorem cmp_most {r : FrR} (hq : 0 < r.q) : (0 ≤ cmpI r.p r.q 1000000000000001 1) ↔ 1000000000000001 * r.q ≤ r.p := by
  rw [cmpI_sign hq (by decide), Int.mul_one]
  constructor
  · intro h
    rcases Int.lt_or_le (r.p - 1000000000000001 * r.q) 0 with h0 | h0
    · rw [Int.sign_eq_neg_one_of_neg h0] at h; omega
    · omega
  · intro h
    rcases Int.lt_or_le 0 (r.p - 1000000000000001 * r.q) with h0 | h0
    · rw [Int.sign_eq_one_of_pos h0]; omega
    · have : r.p - 1000000000000001 * r.q = 0 := by omega
      rw [this]; simp
theorem val_step {d : List Int} {k : Nat} (hk : k < d.length) : val (d.drop k) = d[k] + 1048576 * val (d.drop (k + 1)) := by
  rw [List.drop_eq_getElem_cons hk]; rfl
theorem val_drop_le {d : List Int} (h : DigOK d) (k : Nat) : val (d.drop k) ≤ val d := by
  have h1 : d = d.take k ++ d.drop k := (List.take_append_drop k d).symm
  have hd : DigOK (d.take k) ∧ DigOK (d.drop k) := by rw [← digOK_app, List.take_append_drop]; exact h
  have h2 := val_app (d.take k) (d.drop k)
  rw [List.take_append_drop] at h2
  have h3 := val_nn hd.1
  have h4 := val_nn hd.2
  have h5 := pw_pos (d.take k).length
  have h6 : 1 * val (d.drop k) ≤ pw (d.take k).length * val (d.drop k) := Int.mul_le_mul_of_nonneg_right (by omega) h4
  omega
set_option maxRecDepth 100000 in
set_option maxHeartbeats 3200000 in
theorem ev_Whole (b : Byl) (e : PT) (T M : Sl FT) (w : World) (hb : Byl.At (· < w.heap.size) w b) (he : PT.At (· < w.heap.size) w e) (hT : FactsAt (· < w.heap.size) w T) (hM : FactsAt (· < w.heap.size) w M) :
    Calls Tryz.prog 51 #[b.v, e.v, .slice T.A T.l.length T.c, .slice M.A M.l.length M.c] w fun r w' => r = .returned (.tuple #[.int .i64 (whF (evalF b.lets.l e T.l M.l)).1, .int .i64 (whF (evalF b.lets.l e T.l M.l)).2]) ∧ Below w.heap.size w w' := by
  obtain ⟨nm, ⟨LA, Lc, L⟩, ⟨o, n, u, s, A, c, l⟩, ⟨oB, nB, uB, sB, AB, cB, lB⟩, ⟨oC, nC, uC, sC, AC, cC, lC⟩, ⟨oD, nD, uD, sD, AD, cD, lD⟩, q, sh, ch⟩ := b
  obtain ⟨xo, xm, xu, xs, xA, xc, xl⟩ := e
  have hmf : True := trivial
  have hbb : Below w.heap.size w ((w.alloc (.cells #[.string nm, .slice LA L.length Lc, .int .i64 o, .int .i64 n, .int .i64 u, .string s, .slice A l.length c, .int .i64 oB, .int .i64 nB, .int .i64 uB, .string sB, .slice AB lB.length cB, .int .i64 oC, .int .i64 nC, .int .i64 uC, .string sC, .slice AC lC.length cC, .int .i64 oD, .int .i64 nD, .int .i64 uD, .string sD, .slice AD lD.length cD, .int .i64 q, .int .i64 sh, .int .i64 ch] 27)).alloc (.cells #[.int .i64 xo, .int .i64 xm, .int .i64 xu, .string xs, .slice xA xl.length xc] 25)) := qbl
  have hcall := ev_Value ⟨nm, ⟨LA, Lc, L⟩, ⟨o, n, u, s, A, c, l⟩, ⟨oB, nB, uB, sB, AB, cB, lB⟩, ⟨oC, nC, uC, sC, AC, cC, lC⟩, ⟨oD, nD, uD, sD, AD, cD, lD⟩, q, sh, ch⟩ ⟨xo, xm, xu, xs, xA, xc, xl⟩ T M _ (hb.later hbb) (he.later hbb) (hT.later hbb) (hM.later hbb)
  simp only at hcall
  obtain ⟨V, hV⟩ : ∃ V, evalF L ⟨xo, xm, xu, xs, xA, xc, xl⟩ T.l M.l = V := ⟨_, rfl⟩
  rw [hV] at hcall ⊢
  have HBB := Lib.hid hbb
  clear hb he hT hM hV hbb hmf
  simp only [Byl.v, PT.v] at hcall ⊢
  have HBX := Lib.hid (show Blk ((w.alloc (.cells #[.string nm, .slice LA L.length Lc, .int .i64 o, .int .i64 n, .int .i64 u, .string s, .slice A l.length c, .int .i64 oB, .int .i64 nB, .int .i64 uB, .string sB, .slice AB lB.length cB, .int .i64 oC, .int .i64 nC, .int .i64 uC, .string sC, .slice AC lC.length cC, .int .i64 oD, .int .i64 nD, .int .i64 uD, .string sD, .slice AD lD.length cD, .int .i64 q, .int .i64 sh, .int .i64 ch] 27)).alloc (.cells #[.int .i64 xo, .int .i64 xm, .int .i64 xu, .string xs, .slice xA xl.length xc] 25)) w.heap.size 27 #[.string nm, .slice LA L.length Lc, .int .i64 o, .int .i64 n, .int .i64 u, .string s, .slice A l.length c, .int .i64 oB, .int .i64 nB, .int .i64 uB, .string sB, .slice AB lB.length cB, .int .i64 oC, .int .i64 nC, .int .i64 uC, .string sC, .slice AC lC.length cC, .int .i64 oD, .int .i64 nD, .int .i64 uD, .string sD, .slice AD lD.length cD, .int .i64 q, .int .i64 sh, .int .i64 ch] from (Blk.new _ _ _).alloc _)
  go_enter Tryz.func51, Tryz.ntmps51
  go_wp2_with (refine wpList_load_row rfl 27 (.tmp 4) rfl w.heap.size rfl 27 #[.string nm, .slice LA L.length Lc, .int .i64 o, .int .i64 n, .int .i64 u, .string s, .slice A l.length c, .int .i64 oB, .int .i64 nB, .int .i64 uB, .string sB, .slice AB lB.length cB, .int .i64 oC, .int .i64 nC, .int .i64 uC, .string sC, .slice AC lC.length cC, .int .i64 oD, .int .i64 nD, .int .i64 uD, .string sD, .slice AD lD.length cD, .int .i64 q, .int .i64 sh, .int .i64 ch] (0, 0) _ HBX.out Tryz.underlying27 rfl (by kernel_rfl) ?_)
  clear HBX
  refine hcall.mono ?_
  clear hcall
  rintro e w2 ⟨f, rfl, hok, hno, hb2⟩
  have HB2 : Hid (Below w.heap.size w w2) := Lib.hid (HBB.out.trans (hb2.mono HBB.out.size))
  clear hb2 HBB
  simp only [Frc.v]
  by_cases h0 : V.e = 0
  · have HF := Lib.hid (hok h0)
    have H0 := Lib.hid h0
    rw [h0]
    clear hok hno h0
    have hsg := HF.out.dp.1
    by_cases hneg : V.p < 0
    · have HW := Lib.hid (whF_neg H0.out hneg)
      have hs1 : f.p.s < 0 := by rw [hsg, Int.sign_eq_neg_one_of_neg hneg]; decide
      clear hsg
      go_wp2_with fail
      try simp only [Exit.inBlock, Exit.then]
      refine bodyPost_ret (v := .tuple #[.int .i64 0, .int .i64 0]) ?_ rfl ⟨by rw [HW.out], HB2.out.alloc HB2.out.size _⟩
      simp [results, Tryz.results51, go_sem, ]
    · have hs1 : ¬ f.p.s < 0 := by
        rw [hsg]
        rcases Int.lt_or_le 0 V.p with h | h
        · rw [Int.sign_eq_one_of_pos h]; decide
        · have : V.p = 0 := by omega
          rw [this]; decide
      have HNG := Lib.hid hneg
      clear hsg hneg
      go_wp2_with fail
      have HB3 : Hid (Below w.heap.size w (w2.alloc (.cells #[.int .i64 f.p.s, .slice f.p.l.A f.p.l.l.length f.p.l.c, .int .i64 f.q.s, .slice f.q.l.A f.q.l.l.length f.q.l.c] 71))) := Lib.hid (HB2.out.alloc HB2.out.size _)
      have HF3 : Hid (RG (· < (w2.alloc (.cells #[.int .i64 f.p.s, .slice f.p.l.A f.p.l.l.length f.p.l.c, .int .i64 f.q.s, .slice f.q.l.A f.q.l.l.length f.q.l.c] 71)).heap.size) (w2.alloc (.cells #[.int .i64 f.p.s, .slice f.p.l.A f.p.l.l.length f.p.l.c, .int .i64 f.q.s, .slice f.q.l.A f.q.l.l.length f.q.l.c] 71)) f V.p V.q) := Lib.hid (HF.out.lat qbl)
      have HBF : Hid (Blk (w2.alloc (.cells #[.int .i64 f.p.s, .slice f.p.l.A f.p.l.l.length f.p.l.c, .int .i64 f.q.s, .slice f.q.l.A f.q.l.l.length f.q.l.c] 71)) w2.heap.size 71 #[.int .i64 f.p.s, .slice f.p.l.A f.p.l.l.length f.p.l.c, .int .i64 f.q.s, .slice f.q.l.A f.q.l.l.length f.q.l.c]) := Lib.hid (Blk.new _ _ _)
      have hw2 := HB2.out.size
      generalize w2.alloc (.cells #[.int .i64 f.p.s, .slice f.p.l.A f.p.l.l.length f.p.l.c, .int .i64 f.q.s, .slice f.q.l.A f.q.l.l.length f.q.l.c] 71) = w3 at *
      generalize w2.heap.size = gf at *
      obtain ⟨g0, g1, g2, g3, gg, gz⟩ := HBF.out.b4
      refine wp_region_T (fun W => W.cell? ⟨gf, 0, none⟩ = some (.int .i64 f.p.s) ∧ W.cell? ⟨gf, 1, none⟩ = some (.slice f.p.l.A f.p.l.l.length f.p.l.c) ∧ W.cell? ⟨gf, 2, none⟩ = some (.int .i64 f.q.s) ∧ W.cell? ⟨gf, 3, none⟩ = some (.slice f.q.l.A f.q.l.l.length f.q.l.c)) (fun _ => false) (by kernel_rfl) ⟨g0, g1, g2, g3⟩ (fun hHeld => ?_)
      refine qtq 0 ?_
      simp only [qsa, qsb, qsc]
      clear hHeld
      refine wpAnyT_next (i := 1) (by kernel_rfl) rfl ?_
      go_wp2_with fail
      refine (ev_whole 1000000000000001 _ (by omega) (by omega)).mono ?_
      rintro e w4 ⟨f2, rfl, hf2, hb4⟩
      have hb34 : Below w3.heap.size w3 w4 := Below.trans (Below.drew (Below.refl _ _)) hb4
      have HB4 : Hid (Below w.heap.size w w4) := Lib.hid (HB3.out.trans (hb34.mono HB3.out.size))
      have HF4 := Lib.hid (HF3.out.lat hb34)
      have HG4 : Hid (RG (· < w4.heap.size) w4 f2 1000000000000001 1) := Lib.hid (hf2.mono fun b hb => hb.2)
      have HBF4 := Lib.hid (HBF.out.later hb34)
      clear g0 g1 g2 g3 gg gz hf2 hb4 hb34 HB3 HF3 HBF
      obtain ⟨g0, g1, g2, g3, gg, gz⟩ := HBF4.out.b4
      simp only [Frc.v]
      go_wp2_with fail
      refine And.intro (by first | exact fun _ => ⟨g0, g1, g2, g3⟩ | exact ⟨g0, g1, g2, g3⟩) ?_
      refine wpAnyT_next (i := 2) (by kernel_rfl) rfl ?_
      go_wp2_with fail
      refine (frac_cmp f f2 V.p V.q 1000000000000001 1 w4 (HF4.out.rf (fun _ h => h)) (HG4.out.rf (fun _ h => h))).mono ?_
      rintro e w5 ⟨rfl, hb5⟩
      have HB5 : Hid (Below w.heap.size w w5) := Lib.hid (HB4.out.trans (hb5.mono HB4.out.size))
      have HF5 := Lib.hid (HF4.out.lat hb5)
      have HBF5 := Lib.hid (HBF4.out.later hb5)
      clear g0 g1 g2 g3 gg gz hb5 HB4 HF4 HBF4 HG4
      obtain ⟨g0, g1, g2, g3, gg, gz⟩ := HBF5.out.b4
      have hcm := cmp_most (r := V) HF5.out.ok.pos
      obtain ⟨C, hC⟩ : ∃ C, cmpI V.p V.q 1000000000000001 1 = C := ⟨_, rfl⟩
      rw [hC] at hcm ⊢
      have HCM := Lib.hid hcm
      clear hcm hC
      go_wp2_with fail
      refine And.intro (by first | exact fun _ => ⟨g0, g1, g2, g3⟩ | exact ⟨g0, g1, g2, g3⟩) ?_
      have hHeld := (⟨g0, g1, g2, g3⟩ : w5.cell? ⟨gf, 0, none⟩ = some (.int .i64 f.p.s) ∧ w5.cell? ⟨gf, 1, none⟩ = some (.slice f.p.l.A f.p.l.l.length f.p.l.c) ∧ w5.cell? ⟨gf, 2, none⟩ = some (.int .i64 f.q.s) ∧ w5.cell? ⟨gf, 3, none⟩ = some (.slice f.q.l.A f.q.l.l.length f.q.l.c))
      by_cases hc : 0 ≤ C
      · have HW := Lib.hid (whF_big H0.out (by have := HNG.out; omega) (HCM.out.1 hc))
        refine wpAnyT_take2 (i := 3) (v := .bool true) rfl rfl (by kernel_rfl) (by kernel_rfl) (by kernel_rfl) (by kernel_rfl) (fun _ _ _ h => h) (Or.inl ⟨by rfl, ?_⟩) (by first | assumption | trivial) ?_
        · (intro w hSw; (try dsimp only at hSw); go_simp) <;> (first | (with_reducible rfl) | assumption | (simp; done) | (simp [*]; done) | (simp; omega))
        simp only [qsa, qsb, qsc]
        refine wpAnyT_done (by kernel_rfl) ?_ _
        clear hHeld
        go_wp2_with fail
        try simp only [Exit.inBlock, Exit.then]
        refine bodyPost_ret (v := .tuple #[.int .i64 0, .int .i64 3]) ?_ rfl ⟨by rw [HW.out], HB5.out⟩
        simp [results, Tryz.results51, go_sem, ]
      · have HW := Lib.hid (whF_ok H0.out (by have := HNG.out; omega) (fun h => hc (HCM.out.2 h)))
        have HLT : Hid (V.p < 1000000000000001 * V.q) := Lib.hid (Int.not_le.1 (fun h => hc (HCM.out.2 h)))
        refine wpAnyT_take2 (i := 3) (v := .bool false) rfl rfl (by kernel_rfl) (by kernel_rfl) (by kernel_rfl) (by kernel_rfl) (fun _ _ _ h => h) (Or.inl ⟨by rfl, ?_⟩) (by first | assumption | trivial) ?_
        · (intro w hSw; (try dsimp only at hSw); go_simp) <;> (first | (with_reducible rfl) | assumption | (simp; done) | (simp [*]; done) | (simp; omega))
        simp only [qsa, qsb, qsc]
        refine wpAnyT_done (by kernel_rfl) ?_ _
        clear hHeld hc
        go_wp2_with fail
        refine (frac_Floor f V.p V.q w5 (HF5.out.rf (fun _ h => h))).mono ?_
        rintro e w6 ⟨⟨bs, ⟨bA, bc, bl⟩⟩, rfl, hd, hr6, hb6⟩
        have HB6 : Hid (Below w.heap.size w w6) := Lib.hid (HB5.out.trans (hb6.mono HB5.out.size))
        have HD6 : Hid (Rd (· < w6.heap.size) 1 ienc w6 ⟨bA, bc, bl⟩) := Lib.hid (hr6.mono fun b hb => hb.2)
        have hbl : bl = digs (V.p / V.q).natAbs := by
          unfold Big.d bigD at hd
          injection hd
        have hq0 := HF5.out.ok.pos
        have hz0 : 0 ≤ V.p / V.q := Int.ediv_nonneg (by have := HNG.out; omega) (by omega)
        have hz1 : V.p / V.q ≤ 1000000000000000 := by
          have := Int.ediv_lt_of_lt_mul hq0 HLT.out
          omega
        have hval : val bl = V.p / V.q := by rw [hbl, digs_val]; omega
        have hok : DigOK bl := by rw [hbl]; exact (digs_norm _).1
        have hln := HD6.out.len
        obtain ⟨Z, hZ⟩ : ∃ Z, V.p / V.q = Z := ⟨_, rfl⟩
        rw [hZ] at HW hval hz0 hz1
        have HVL := Lib.hid hval
        have HOK := Lib.hid hok
        have hfl : ∀ w : World, (Instr.field 69 (Value.agg #[.int .i64 bs, .slice bA bl.length bc]) 1).run Tryz.prog w = .ok (.slice bA bl.length bc) w := fun _ => by kernel_rfl
        simp only at hln
        clear hd hr6 hb6 hbl hval hok hZ hq0 g0 g1 g2 g3 gg gz
        simp only [Big.v]
        go_wp2_with fail
        go_loopw [12, 14] (fun n i wr => ∃ (j : Nat), j ≤ bl.length ∧ n = .int .i64 (val (bl.drop j)) ∧ i = .int .i64 ((j : Int) - 1) ∧ Below w6.heap.size w6 wr) (fun n i _ => (intOf i + 1).toNat)
        case atStart => exact ⟨bl.length, Nat.le_refl _, by rw [List.drop_length]; rfl, rfl, Below.refl _ _⟩
        case round =>
          obtain ⟨j, hj, rfl, rfl, hbel⟩ := hrel
          rcases j with _ | k
          · have hv0 : val (bl.drop 0) = Z := HVL.out
            rw [hv0, show (((0 : Nat) : Int) - 1) = -1 by omega]
            clear hv0
            go_wp2_with fail
            try simp only [Exit.inBlock, Exit.then]
            refine bodyPost_ret (v := .tuple #[.int .i64 Z, .int .i64 0]) ?_ rfl ⟨by rw [HW.out], HB6.out.trans (hbel.mono HB6.out.size)⟩
            simp [results, Tryz.results51, go_sem, ]
          · have hkl : k < bl.length := by omega
            have hst := val_step hkl
            have hle := val_drop_le HOK.out k
            have hdk := HOK.out bl[k] (List.getElem_mem hkl)
            have hnn := val_nn (l := bl.drop (k + 1)) (fun d hd => HOK.out d (List.mem_of_mem_drop hd))
            rw [HVL.out] at hle
            obtain ⟨b, o, hA, _, c0⟩ := (HD6.out.later hbel).geti hkl
            simp only at hA c0
            subst hA
            rw [show (((k + 1 : Nat) : Int) - 1) = (k : Int) by omega]
            obtain ⟨N, hN⟩ : ∃ N, val (bl.drop (k + 1)) = N := ⟨_, rfl⟩
            obtain ⟨D, hD⟩ : ∃ D, bl[k] = D := ⟨_, rfl⟩
            obtain ⟨N2, hN2⟩ : ∃ N2, val (bl.drop k) = N2 := ⟨_, rfl⟩
            rw [hN] at hst hnn ⊢
            rw [hD] at hst hdk c0
            rw [hN2] at hst hle
            have HN2 := Lib.hid hN2
            clear hN hD hN2
            go_wp2_with fail
            refine ⟨⟨k, by omega, by rw [HN2.out, hst]; congr 1; omega, rfl, hbel⟩, by simp [intOf]⟩
  · have HW := Lib.hid (whF_err h0)
    clear hok hno
    go_wp2_with fail
    try simp only [Exit.inBlock, Exit.then]
    refine bodyPost_ret (v := .tuple #[.int .i64 0, .int .i64 V.e]) ?_ rfl ⟨by rw [HW.out], HB2.out.alloc HB2.out.size _⟩
    simp [results, Tryz.results51, go_sem, ]
end Go.Proofs.YtcgocdhhneckhaaGreat
