/- Walks of package frac: Of at whole numbers, quotient. -/
import Derived.Test.YtcgocdhhneckhaaGreatFnammxau
namespace Go.Proofs.YtcgocdhhneckhaaGreat
open Go.RowKit
theorem pw60_big : (9223372036854775808 : Int) < pw 60 := by
  have h := pw_mono (show 4 ≤ 60 by omega)
  rw [pw4] at h
  omega
theorem fits_i64 {n : Int} (h0 : -9223372036854775808 ≤ n) (h1 : n ≤ 9223372036854775807) : Fits n := by
  have := pw60_big
  unfold Fits; omega
theorem newI_whole (n : Int) : newI n 1 = ⟨n, 1, 0⟩ := by
  rw [newI_pos (by omega)]
  unfold shortI
  simp
theorem rd_st4' {F : Nat → Prop} {g : Nat} {w : World} {s : Sl Int} {x y z v : Value} (hr : Rd F 1 ienc w s) (h1 : ∀ b, F b → b ≠ g) : Rd F 1 ienc ((((w.setCell ⟨g, 0, none⟩ x).setCell ⟨g, 1, none⟩ y).setCell ⟨g, 2, none⟩ z).setCell ⟨g, 3, none⟩ v) s :=
  (((hr.far h1 _).far h1 _).far h1 _).far h1 _
theorem sz_st4 {g : Nat} {w : World} {x y z v : Value} : ((((w.setCell ⟨g, 0, none⟩ x).setCell ⟨g, 1, none⟩ y).setCell ⟨g, 2, none⟩ z).setCell ⟨g, 3, none⟩ v).heap.size = w.heap.size := by simp
set_option maxRecDepth 100000 in
set_option maxHeartbeats 1600000 in
theorem frac_whole (n : Int) (w : World) (h0 : -9223372036854775808 ≤ n) (h1 : n ≤ 9223372036854775807) :
    Calls Tryz.prog 124 #[.int .i64 n, .int .i64 1] w fun e w' => FrP w w' ⟨n, 1, 0⟩ e := by
  go_enter Tryz.func124, Tryz.ntmps124
  go_wp2_with fail
  refine (big_Of n _ h0 h1).mono ?_
  rintro e w1 hp
  obtain ⟨a, rfl, ha, hb1⟩ := hp.rb (fits_i64 h0 h1)
  have K_r : Blk _ (w.heap.size) 71 #[.int .i64 0, .slice none 0 0, .int .i64 0, .slice none 0 0] := qkb hb1
  obtain ⟨r0, r1, r2, r3, rf, rz⟩ := Blk.b4 K_r
  have B_r := Lib.hid K_r
  clear K_r
  have hB1 : Below w.heap.size w w1 := qbv
  have HA := Lib.hid ha
  clear ha hb1 hp
  simp only [Big.v]
  go_wp2_with fail
  refine (big_Of 1 _ (by omega) (by omega)).mono ?_
  rintro e w2 hp
  obtain ⟨b, rfl, hb, hb2⟩ := hp.rb fits_one
  clear r0 r1 r2 r3 rf rz
  have K_r : Blk _ (w.heap.size) 71 #[.int .i64 0, .slice none 0 0, .int .i64 0, .slice none 0 0] := qkc B_r hb2
  obtain ⟨r0, r1, r2, r3, rf, rz⟩ := Blk.b4 K_r
  have B_r := Lib.hid K_r
  clear K_r
  have hB2 : Below w.heap.size w w2 := qbv
  have HB := Lib.hid hb
  have HA2 := Lib.hid (HA.out.later hb2)
  clear hb hb2 hp HA
  simp only [Big.v]
  go_wp2_with fail
  refine (frac_new_pos a b n 1 _ HA2.out HB.out (by omega)).mono ?_
  rintro e w3 ⟨⟨⟨ps, pl⟩, ⟨qs, ql⟩⟩, rfl, hok, hno, hpr, hqr, hb3⟩
  have hz2 : w.heap.size < w2.heap.size := rz
  clear r0 r1 r2 r3 rf rz
  have K_r : Blk _ (w.heap.size) 71 #[.int .i64 0, .slice none 0 0, .int .i64 0, .slice none 0 0] := qkc B_r hb3
  obtain ⟨r0, r1, r2, r3, rf, rz⟩ := Blk.b4 K_r
  have B_r := Lib.hid K_r
  clear K_r
  have hB3 : Below w.heap.size w w3 := qbv
  rw [newI_whole] at hok hno
  have HOK := Lib.hid hok
  have HNO := Lib.hid hno
  have HPR := Lib.hid hpr
  have HQR := Lib.hid hqr
  clear hok hno hpr hqr hb3
  have hnw : newI n 1 = ⟨n, 1, 0⟩ := newI_whole n
  rw [hnw]
  clear hnw
  simp only [Frc.v]
  go_wp2_with fail
  have hne : ∀ b, w2.heap.size ≤ b → b ≠ w.heap.size := fun b hb => by omega
  try simp only [Exit.inBlock, Exit.then]
  refine bodyPost_ret (v := .tuple #[.agg #[.int .i64 ps, .slice pl.A pl.l.length pl.c, .int .i64 qs, .slice ql.A ql.l.length ql.c], .int .i64 0]) ?_ rfl ⟨⟨⟨ps, pl⟩, ⟨qs, ql⟩⟩, rfl, fun _ => ⟨(HOK.out trivial).1, (HOK.out trivial).2⟩, fun h => absurd rfl h, rd_st4 HPR.out hne (by omega), rd_st4 HQR.out hne (by omega), below_st4 hB3⟩
  simp [results, Tryz.results124, go_sem, r0, r1, r2, r3]
set_option maxRecDepth 100000 in
set_option maxHeartbeats 1600000 in
/-- Two results that are there. -/
theorem frac_quot_ok (a b : Big) (p q : Int) (w : World) (ha : RB w a p) (hb : RB w b q) (hq : q ≠ 0) :
    Calls Tryz.prog 178 #[a.v, .int .i64 0, b.v, .int .i64 0] w fun e w' => FrP w w' (newI p q) e := by
  have HA := Lib.hid ha
  have HB := Lib.hid hb
  clear ha hb
  simp only [Big.v]
  go_enter Tryz.func178, Tryz.ntmps178
  go_wp2_with fail
  refine (frac_new a b p q _ (HA.out.later qbl) (HB.out.later qbl) hq).mono ?_
  rintro e w3 ⟨⟨⟨ps, pl⟩, ⟨qs, ql⟩⟩, rfl, hok, hno, hpr, hqr, hb3⟩
  have hz2 : w.heap.size + 1 + 1 < w3.heap.size := by have := hb3.size; simp at this; omega
  have l0 : w.heap.size < w.heap.size + 1 + 1 := by omega
  have K_r : Blk _ (w.heap.size + 1 + 1) 71 #[.int .i64 0, .slice none 0 0, .int .i64 0, .slice none 0 0] := blk_later hb3 (by simp [hp_past, hp_at, hp_other, hp_same, hp_drew, hp_drewN, l0])
  obtain ⟨r0, r1, r2, r3, rf, rz⟩ := Blk.b4 K_r
  have B_r := Lib.hid K_r
  clear K_r
  have hB3 : Below w.heap.size w w3 := qbv
  have HOK := Lib.hid hok
  have HNO := Lib.hid hno
  have HPR := Lib.hid hpr
  have HQR := Lib.hid hqr
  clear hok hno hpr hqr hb3
  obtain ⟨R, hR⟩ : ∃ R, R = newI p q := ⟨_, rfl⟩
  rw [← hR] at HOK HNO ⊢
  have HRE := Lib.hid hR.symm
  clear hR
  simp only [Frc.v]
  go_wp2_with fail
  have hne : ∀ k, (((w.alloc (.cells #[.int .i64 a.s, .slice a.l.A a.l.l.length a.l.c] 69)).alloc (.cells #[.int .i64 b.s, .slice b.l.A b.l.l.length b.l.c] 69)).alloc (.cells #[.int .i64 0, .slice none 0 0, .int .i64 0, .slice none 0 0] 71)).heap.size ≤ k → k ≠ w.heap.size + 1 + 1 := fun k hb => by simp at hb; omega
  have hmn : w.heap.size ≤ (((w.alloc (.cells #[.int .i64 a.s, .slice a.l.A a.l.l.length a.l.c] 69)).alloc (.cells #[.int .i64 b.s, .slice b.l.A b.l.l.length b.l.c] 69)).alloc (.cells #[.int .i64 0, .slice none 0 0, .int .i64 0, .slice none 0 0] 71)).heap.size := by simp; omega
  try simp only [Exit.inBlock, Exit.then]
  refine bodyPost_ret (v := .tuple #[.agg #[.int .i64 ps, .slice pl.A pl.l.length pl.c, .int .i64 qs, .slice ql.A ql.l.length ql.c], .int .i64 R.e]) ?_ rfl (FrP.cast HRE.out ⟨⟨⟨ps, pl⟩, ⟨qs, ql⟩⟩, rfl, HOK.out, HNO.out, rd_st4 HPR.out hne hmn, rd_st4 HQR.out hne hmn, below_st4 hB3⟩)
  simp [results, Tryz.results178, go_sem, r0, r1, r2, r3]
set_option maxRecDepth 100000 in
set_option maxHeartbeats 1600000 in
/-- One of two results is an error. -/
theorem frac_quot_bad (a b : Big) (e1 e2 : Int) (w : World) (h : e1 ≠ 0 ∨ e2 ≠ 0) :
    Calls Tryz.prog 178 #[a.v, .int .i64 e1, b.v, .int .i64 e2] w fun e w' => FrP w w' (FrR.bad 6) e := by
  simp only [Big.v]
  by_cases h1 : e1 = 0
  · have h2 : ¬ e2 = 0 := by omega
    clear h
    go_enter Tryz.func178, Tryz.ntmps178
    go_wp2_with fail
    try simp only [Exit.inBlock, Exit.then]
    refine bodyPost_ret (v := .tuple #[.agg #[.int .i64 0, .slice none 0 0, .int .i64 0, .slice none 0 0], .int .i64 6]) ?_ rfl ⟨⟨⟨0, ⟨none, 0, []⟩⟩, ⟨0, ⟨none, 0, []⟩⟩⟩, rfl, fun h => absurd h (by decide), fun _ => ⟨rfl, rfl⟩, Rd.nil _ _ _ _, Rd.nil _ _ _ _, qbl⟩
    simp [results, Tryz.results178, go_sem, ]
  · clear h
    go_enter Tryz.func178, Tryz.ntmps178
    go_wp2_with fail
    try simp only [Exit.inBlock, Exit.then]
    refine bodyPost_ret (v := .tuple #[.agg #[.int .i64 0, .slice none 0 0, .int .i64 0, .slice none 0 0], .int .i64 6]) ?_ rfl ⟨⟨⟨0, ⟨none, 0, []⟩⟩, ⟨0, ⟨none, 0, []⟩⟩⟩, rfl, fun h => absurd h (by decide), fun _ => ⟨rfl, rfl⟩, Rd.nil _ _ _ _, Rd.nil _ _ _ _, qbl⟩
    simp [results, Tryz.results178, go_sem, ]
end Go.Proofs.YtcgocdhhneckhaaGreat
/- Walks of package frac: Mul, Div. -/
namespace Go.Proofs.YtcgocdhhneckhaaGreat
open Go.RowKit
theorem opI_err {z : Int} : (opI z).2 = 0 ∨ (opI z).2 = 6 := by unfold opI; split <;> simp
theorem opI_err_iff {z : Int} : (opI z).2 = 0 ↔ Fits z := by unfold opI; split <;> simp_all
theorem OpP.rb {F : Nat → Prop} {w' : World} {z : Int} {a : Big} (hd : a.d = (opI z).1) (hr : Rd F 1 ienc w' a.l) (hF : ∀ b, F b → b < w'.heap.size) (hf : Fits z) : RB w' a z :=
  RB.mk' (hr.mono hF) (by rw [hd, opI_fits hf]) hf
set_option maxRecDepth 100000 in
set_option maxHeartbeats 3200000 in
theorem frac_Mul (f g : Frc) (p q r s : Int) (w : World) (hf : RF w f p q) (hg : RF w g r s) :
    Calls Tryz.prog 151 #[f.v, g.v] w fun e w' => FrP w w' (mulF p q r s) e := by
  have HF := Lib.hid hf
  have HG := Lib.hid hg
  clear hf hg
  simp only [Frc.v]
  go_enter Tryz.func151, Tryz.ntmps151
  go_wp2_with fail
  refine (frac_right f p q _ (HF.out.later qbl)).mono ?_
  rintro e w1 ⟨rfl, hb1⟩
  have l0 : w.heap.size < w.heap.size + 1 + 1 := by omega
  have K_a : Blk _ (w.heap.size) 71 #[.int .i64 f.p.s, .slice f.p.l.A f.p.l.l.length f.p.l.c, .int .i64 f.q.s, .slice f.q.l.A f.q.l.l.length f.q.l.c] := blk_later hb1 (by simp [hp_past, hp_at, hp_other, hp_same, hp_drew, hp_drewN, l0])
  obtain ⟨a0, a1, a2, a3, af, az⟩ := Blk.b4 K_a
  have B_a := Lib.hid K_a
  clear K_a
  have K_b : Blk _ (w.heap.size + 1) 71 #[.int .i64 g.p.s, .slice g.p.l.A g.p.l.l.length g.p.l.c, .int .i64 g.q.s, .slice g.q.l.A g.q.l.l.length g.q.l.c] := blk_later hb1 (by simp [hp_past, hp_at, hp_other, hp_same, hp_drew, hp_drewN, l0])
  obtain ⟨b0, b1, b2, b3, bf, bz⟩ := Blk.b4 K_b
  have B_b := Lib.hid K_b
  clear K_b
  have K_r : Blk _ (w.heap.size + 1 + 1) 71 #[.int .i64 0, .slice none 0 0, .int .i64 0, .slice none 0 0] := blk_later hb1 (by simp [hp_past, hp_at, hp_other, hp_same, hp_drew, hp_drewN, l0])
  obtain ⟨r0, r1, r2, r3, rf, rz⟩ := Blk.b4 K_r
  have B_r := Lib.hid K_r
  clear K_r
  have hB1 : Below w.heap.size w w1 := qbv
  clear hb1
  go_wp2_with fail
  refine (frac_right g r s _ (HG.out.later hB1)).mono ?_
  rintro e w2 ⟨rfl, hb2⟩
  clear a0 a1 a2 a3 af az b0 b1 b2 b3 bf bz r0 r1 r2 r3 rf rz
  have K_a : Blk _ (w.heap.size) 71 #[.int .i64 f.p.s, .slice f.p.l.A f.p.l.l.length f.p.l.c, .int .i64 f.q.s, .slice f.q.l.A f.q.l.l.length f.q.l.c] := qkc B_a hb2
  obtain ⟨a0, a1, a2, a3, af, az⟩ := Blk.b4 K_a
  have B_a := Lib.hid K_a
  clear K_a
  have K_b : Blk _ (w.heap.size + 1) 71 #[.int .i64 g.p.s, .slice g.p.l.A g.p.l.l.length g.p.l.c, .int .i64 g.q.s, .slice g.q.l.A g.q.l.l.length g.q.l.c] := qkc B_b hb2
  obtain ⟨b0, b1, b2, b3, bf, bz⟩ := Blk.b4 K_b
  have B_b := Lib.hid K_b
  clear K_b
  have K_r : Blk _ (w.heap.size + 1 + 1) 71 #[.int .i64 0, .slice none 0 0, .int .i64 0, .slice none 0 0] := qkc B_r hb2
  obtain ⟨r0, r1, r2, r3, rf, rz⟩ := Blk.b4 K_r
  have B_r := Lib.hid K_r
  clear K_r
  have HB2 : Hid (Below w.heap.size w w2) := Lib.hid qbv
  have hz2 : w.heap.size + 1 + 1 < w2.heap.size := rz
  clear hb2
  go_wp2_with fail
  refine (big_Mul f.p g.p p r _ (HF.out.P.later HB2.out) (HG.out.P.later HB2.out)).mono ?_
  rintro e w3 ⟨x, rfl, hxd, hxr, hb3⟩
  clear a0 a1 a2 a3 af az b0 b1 b2 b3 bf bz r0 r1 r2 r3 rf rz
  have K_a : Blk _ (w.heap.size) 71 #[.int .i64 f.p.s, .slice f.p.l.A f.p.l.l.length f.p.l.c, .int .i64 f.q.s, .slice f.q.l.A f.q.l.l.length f.q.l.c] := qkc B_a hb3
  obtain ⟨a0, a1, a2, a3, af, az⟩ := Blk.b4 K_a
  have B_a := Lib.hid K_a
  clear K_a
  have K_b : Blk _ (w.heap.size + 1) 71 #[.int .i64 g.p.s, .slice g.p.l.A g.p.l.l.length g.p.l.c, .int .i64 g.q.s, .slice g.q.l.A g.q.l.l.length g.q.l.c] := qkc B_b hb3
  obtain ⟨b0, b1, b2, b3, bf, bz⟩ := Blk.b4 K_b
  have B_b := Lib.hid K_b
  clear K_b
  have K_r : Blk _ (w.heap.size + 1 + 1) 71 #[.int .i64 0, .slice none 0 0, .int .i64 0, .slice none 0 0] := qkc B_r hb3
  obtain ⟨r0, r1, r2, r3, rf, rz⟩ := Blk.b4 K_r
  have B_r := Lib.hid K_r
  clear K_r
  have HB3 : Hid (Below w.heap.size w w3) := Lib.hid (HB2.out.trans (hb3.mono HB2.out.size))
  have HXD := Lib.hid hxd
  have HXR := Lib.hid hxr.nwlt
  have hz3 : w2.heap.size ≤ w3.heap.size := hb3.size
  obtain ⟨e1, he1⟩ : ∃ e1, e1 = (opI (p * r)).2 := ⟨_, rfl⟩
  rw [← he1]
  have HE1 := Lib.hid he1
  clear hxd hxr hb3 he1
  simp only [Big.v]
  go_wp2_with fail
  have HAX := Lib.hid HF.out.Q
  have HAY := Lib.hid HG.out.Q
  refine (big_Mul f.q g.q q s _ (HAX.out.later (HB3.out.alloc (by omega) _)) (HAY.out.later (HB3.out.alloc (by omega) _))).mono ?_
  rintro e w4 ⟨y, rfl, hyd, hyr, hb4⟩
  have hz34 : w3.heap.size < w4.heap.size := by have := hb4.size; simp at this; omega
  have HW34 : Hid (Below w3.heap.size w3 w4) := Lib.hid (below_via hb4 ((Below.refl _ _).alloc (Nat.le_refl _) _))
  clear a0 a1 a2 a3 af az b0 b1 b2 b3 bf bz r0 r1 r2 r3 rf rz
  have K_r : Blk _ (w.heap.size + 1 + 1) 71 #[.int .i64 0, .slice none 0 0, .int .i64 0, .slice none 0 0] := qkc B_r hb4
  obtain ⟨r0, r1, r2, r3, rf, rz⟩ := Blk.b4 K_r
  have B_r := Lib.hid K_r
  clear K_r
  have K_x : Blk _ (w3.heap.size) 69 #[.int .i64 x.s, .slice x.l.A x.l.l.length x.l.c] := qkb hb4
  obtain ⟨x0, x1, xf, xz⟩ := Blk.b2 K_x
  have B_x := Lib.hid K_x
  clear K_x
  have HB4 : Hid (Below w.heap.size w w4) := Lib.hid (HB3.out.trans (HW34.out.mono (by omega)))
  have HYD := Lib.hid hyd
  have HYR := Lib.hid hyr.nwlt
  obtain ⟨e2, he2⟩ : ∃ e2, e2 = (opI (q * s)).2 := ⟨_, rfl⟩
  rw [← he2]
  have HE2 := Lib.hid he2
  have l5 : w.heap.size + 1 + 1 < w4.heap.size := rz
  have l6 : w3.heap.size < w4.heap.size + 1 := by omega
  clear hyd hyr hb4 he2
  simp only [Big.v]
  go_wp2_with fail
  have HQ : Hid (Calls Tryz.prog 178 #[x.v, .int .i64 e1, y.v, .int .i64 e2] (w4.alloc (.cells #[.int .i64 y.s, .slice y.l.A y.l.l.length y.l.c] 69)) fun e w' => FrP (w4.alloc (.cells #[.int .i64 y.s, .slice y.l.A y.l.l.length y.l.c] 69)) w' (mulF p q r s) e) := Lib.hid (by
    unfold mulF
    by_cases h1 : Fits (p * r)
    · by_cases h2 : Fits (q * s)
      · rw [if_pos ⟨h1, h2⟩]
        rw [HE1.out, HE2.out, opI_fits h1, opI_fits h2]
        exact frac_quot_ok x y _ _ _ ((OpP.rb HXD.out HXR.out (fun _ h => h) h1).later (HW34.out.alloc (by omega) _)) ((OpP.rb HYD.out HYR.out (fun _ h => h) h2).later ((Below.refl _ _).alloc (Nat.le_refl _) _)) (Int.ne_of_gt (Int.mul_pos HF.out.ok.pos HG.out.ok.pos))
      · rw [if_neg (fun h => h2 h.2)]
        exact frac_quot_bad x y e1 e2 _ (.inr (by rw [HE2.out, opI_full h2]; decide))
    · rw [if_neg (fun h => h1 h.1)]
      exact frac_quot_bad x y e1 e2 _ (.inl (by rw [HE1.out, opI_full h1]; decide)))
  refine HQ.out.mono ?_
  rintro e w5 ⟨⟨⟨ps, pl⟩, ⟨qs, ql⟩⟩, rfl, hok, hno, hpr, hqr, hb5⟩
  clear r0 r1 r2 r3 rf rz
  try clear x0 x1 xf xz
  have K_r : Blk _ (w.heap.size + 1 + 1) 71 #[.int .i64 0, .slice none 0 0, .int .i64 0, .slice none 0 0] := qkc B_r hb5
  obtain ⟨r0, r1, r2, r3, rf, rz⟩ := Blk.b4 K_r
  have B_r := Lib.hid K_r
  clear K_r
  have HW45 : Hid (Below w4.heap.size w4 w5) := Lib.hid (below_via hb5 ((Below.refl _ _).alloc (Nat.le_refl _) _))
  have HB5 : Hid (Below w.heap.size w w5) := Lib.hid (HB4.out.trans (HW45.out.mono (by omega)))
  have HOK := Lib.hid hok
  have HNO := Lib.hid hno
  have HPR : Hid (Rd (Nw w4.heap.size w5) 1 ienc w5 pl) := Lib.hid (hpr.mono fun k hk => hk.mono (by simp) (Nat.le_refl _))
  have HQR : Hid (Rd (Nw w4.heap.size w5) 1 ienc w5 ql) := Lib.hid (hqr.mono fun k hk => hk.mono (by simp) (Nat.le_refl _))
  clear hok hno hpr hqr hb5
  obtain ⟨R, hR⟩ : ∃ R, R = mulF p q r s := ⟨_, rfl⟩
  rw [← hR] at HOK HNO ⊢
  have HRE := Lib.hid hR.symm
  clear hR
  simp only [Frc.v]
  go_wp2_with fail
  have hne : ∀ k, w4.heap.size ≤ k → k ≠ w.heap.size + 1 + 1 := fun k hb => by omega
  try simp only [Exit.inBlock, Exit.then]
  refine bodyPost_ret (v := .tuple #[.agg #[.int .i64 ps, .slice pl.A pl.l.length pl.c, .int .i64 qs, .slice ql.A ql.l.length ql.c], .int .i64 R.e]) ?_ rfl (FrP.cast HRE.out ⟨⟨⟨ps, pl⟩, ⟨qs, ql⟩⟩, rfl, HOK.out, HNO.out, rd_st4 HPR.out hne (by omega), rd_st4 HQR.out hne (by omega), below_st4 HB5.out⟩)
  simp [results, Tryz.results151, go_sem, r0, r1, r2, r3]
set_option maxRecDepth 100000 in
set_option maxHeartbeats 3200000 in
theorem frac_Div (f g : Frc) (p q r s : Int) (w : World) (hf : RF w f p q) (hg : RF w g r s) :
    Calls Tryz.prog 152 #[f.v, g.v] w fun e w' => FrP w w' (divF p q r s) e := by
  by_cases hr : r = 0
  · have hgs : g.p.s = 0 := by rw [hg.P.s, hr]; rfl
    have HDV : Hid (divF p q r s = FrR.bad 15) := Lib.hid (by unfold divF; rw [if_pos hr])
    obtain ⟨⟨gs, gl⟩, gq⟩ := g
    simp only at hgs
    subst hgs
    clear hr
    have HF := Lib.hid hf
    have HG := Lib.hid hg
    clear hf hg
    simp only [Frc.v]
    go_enter Tryz.func152, Tryz.ntmps152
    go_wp2_with fail
    refine (frac_right f p q _ (HF.out.later qbl)).mono ?_
    rintro e w1 ⟨rfl, hb1⟩
    have l0 : w.heap.size < w.heap.size + 1 + 1 := by omega
    have K_b : Blk _ (w.heap.size + 1) 71 #[.int .i64 0, .slice gl.A gl.l.length gl.c, .int .i64 gq.s, .slice gq.l.A gq.l.l.length gq.l.c] := blk_later hb1 (by simp [hp_past, hp_at, hp_other, hp_same, hp_drew, hp_drewN, l0])
    obtain ⟨b0, b1, b2, b3, bf, bz⟩ := Blk.b4 K_b
    have B_b := Lib.hid K_b
    clear K_b
    have K_r : Blk _ (w.heap.size + 1 + 1) 71 #[.int .i64 0, .slice none 0 0, .int .i64 0, .slice none 0 0] := blk_later hb1 (by simp [hp_past, hp_at, hp_other, hp_same, hp_drew, hp_drewN, l0])
    obtain ⟨r0, r1, r2, r3, rf, rz⟩ := Blk.b4 K_r
    have B_r := Lib.hid K_r
    clear K_r
    have hB1 : Below w.heap.size w w1 := qbv
    clear hb1
    go_wp2_with fail
    refine (frac_right ⟨⟨0, gl⟩, gq⟩ r s _ (HG.out.later hB1)).mono ?_
    rintro e w2 ⟨rfl, hb2⟩
    clear b0 b1 b2 b3 bf bz r0 r1 r2 r3 rf rz
    have K_b : Blk _ (w.heap.size + 1) 71 #[.int .i64 0, .slice gl.A gl.l.length gl.c, .int .i64 gq.s, .slice gq.l.A gq.l.l.length gq.l.c] := qkc B_b hb2
    obtain ⟨b0, b1, b2, b3, bf, bz⟩ := Blk.b4 K_b
    have B_b := Lib.hid K_b
    clear K_b
    have K_r : Blk _ (w.heap.size + 1 + 1) 71 #[.int .i64 0, .slice none 0 0, .int .i64 0, .slice none 0 0] := qkc B_r hb2
    obtain ⟨r0, r1, r2, r3, rf, rz⟩ := Blk.b4 K_r
    have B_r := Lib.hid K_r
    clear K_r
    have HB2 : Hid (Below w.heap.size w w2) := Lib.hid qbv
    clear hb2
    go_wp2_with fail
    try simp only [Exit.inBlock, Exit.then]
    refine bodyPost_ret (v := .tuple #[.agg #[.int .i64 0, .slice none 0 0, .int .i64 0, .slice none 0 0], .int .i64 15]) ?_ rfl (FrP.cast HDV.out ⟨⟨⟨0, ⟨none, 0, []⟩⟩, ⟨0, ⟨none, 0, []⟩⟩⟩, rfl, fun h => absurd h (by decide), fun _ => ⟨rfl, rfl⟩, Rd.nil _ _ _ _, Rd.nil _ _ _ _, below_st4 HB2.out⟩)
    simp [results, Tryz.results152, go_sem, r0, r1, r2, r3]
  · have hgs : ¬ g.p.s = 0 := by rw [hg.P.s]; exact fun h => hr (Int.sign_eq_zero_iff_zero.1 h)
    have HR0 := Lib.hid hr
    clear hr
    have HF := Lib.hid hf
    have HG := Lib.hid hg
    clear hf hg
    simp only [Frc.v]
    go_enter Tryz.func152, Tryz.ntmps152
    go_wp2_with fail
    refine (frac_right f p q _ (HF.out.later qbl)).mono ?_
    rintro e w1 ⟨rfl, hb1⟩
    have l0 : w.heap.size < w.heap.size + 1 + 1 := by omega
    have K_a : Blk _ (w.heap.size) 71 #[.int .i64 f.p.s, .slice f.p.l.A f.p.l.l.length f.p.l.c, .int .i64 f.q.s, .slice f.q.l.A f.q.l.l.length f.q.l.c] := blk_later hb1 (by simp [hp_past, hp_at, hp_other, hp_same, hp_drew, hp_drewN, l0])
    obtain ⟨a0, a1, a2, a3, af, az⟩ := Blk.b4 K_a
    have B_a := Lib.hid K_a
    clear K_a
    have K_b : Blk _ (w.heap.size + 1) 71 #[.int .i64 g.p.s, .slice g.p.l.A g.p.l.l.length g.p.l.c, .int .i64 g.q.s, .slice g.q.l.A g.q.l.l.length g.q.l.c] := blk_later hb1 (by simp [hp_past, hp_at, hp_other, hp_same, hp_drew, hp_drewN, l0])
    obtain ⟨b0, b1, b2, b3, bf, bz⟩ := Blk.b4 K_b
    have B_b := Lib.hid K_b
    clear K_b
    have K_r : Blk _ (w.heap.size + 1 + 1) 71 #[.int .i64 0, .slice none 0 0, .int .i64 0, .slice none 0 0] := blk_later hb1 (by simp [hp_past, hp_at, hp_other, hp_same, hp_drew, hp_drewN, l0])
    obtain ⟨r0, r1, r2, r3, rf, rz⟩ := Blk.b4 K_r
    have B_r := Lib.hid K_r
    clear K_r
    have hB1 : Below w.heap.size w w1 := qbv
    clear hb1
    go_wp2_with fail
    refine (frac_right g r s _ (HG.out.later hB1)).mono ?_
    rintro e w2 ⟨rfl, hb2⟩
    clear a0 a1 a2 a3 af az b0 b1 b2 b3 bf bz r0 r1 r2 r3 rf rz
    have K_a : Blk _ (w.heap.size) 71 #[.int .i64 f.p.s, .slice f.p.l.A f.p.l.l.length f.p.l.c, .int .i64 f.q.s, .slice f.q.l.A f.q.l.l.length f.q.l.c] := qkc B_a hb2
    obtain ⟨a0, a1, a2, a3, af, az⟩ := Blk.b4 K_a
    have B_a := Lib.hid K_a
    clear K_a
    have K_b : Blk _ (w.heap.size + 1) 71 #[.int .i64 g.p.s, .slice g.p.l.A g.p.l.l.length g.p.l.c, .int .i64 g.q.s, .slice g.q.l.A g.q.l.l.length g.q.l.c] := qkc B_b hb2
    obtain ⟨b0, b1, b2, b3, bf, bz⟩ := Blk.b4 K_b
    have B_b := Lib.hid K_b
    clear K_b
    have K_r : Blk _ (w.heap.size + 1 + 1) 71 #[.int .i64 0, .slice none 0 0, .int .i64 0, .slice none 0 0] := qkc B_r hb2
    obtain ⟨r0, r1, r2, r3, rf, rz⟩ := Blk.b4 K_r
    have B_r := Lib.hid K_r
    clear K_r
    have HB2 : Hid (Below w.heap.size w w2) := Lib.hid qbv
    have hz2 : w.heap.size + 1 + 1 < w2.heap.size := rz
    clear hb2
    go_wp2_with fail
    refine (big_Mul f.p g.q p s _ (HF.out.P.later HB2.out) (HG.out.Q.later HB2.out)).mono ?_
    rintro e w3 ⟨x, rfl, hxd, hxr, hb3⟩
    clear a0 a1 a2 a3 af az b0 b1 b2 b3 bf bz r0 r1 r2 r3 rf rz
    have K_a : Blk _ (w.heap.size) 71 #[.int .i64 f.p.s, .slice f.p.l.A f.p.l.l.length f.p.l.c, .int .i64 f.q.s, .slice f.q.l.A f.q.l.l.length f.q.l.c] := qkc B_a hb3
    obtain ⟨a0, a1, a2, a3, af, az⟩ := Blk.b4 K_a
    have B_a := Lib.hid K_a
    clear K_a
    have K_b : Blk _ (w.heap.size + 1) 71 #[.int .i64 g.p.s, .slice g.p.l.A g.p.l.l.length g.p.l.c, .int .i64 g.q.s, .slice g.q.l.A g.q.l.l.length g.q.l.c] := qkc B_b hb3
    obtain ⟨b0, b1, b2, b3, bf, bz⟩ := Blk.b4 K_b
    have B_b := Lib.hid K_b
    clear K_b
    have K_r : Blk _ (w.heap.size + 1 + 1) 71 #[.int .i64 0, .slice none 0 0, .int .i64 0, .slice none 0 0] := qkc B_r hb3
    obtain ⟨r0, r1, r2, r3, rf, rz⟩ := Blk.b4 K_r
    have B_r := Lib.hid K_r
    clear K_r
    have HB3 : Hid (Below w.heap.size w w3) := Lib.hid (HB2.out.trans (hb3.mono HB2.out.size))
    have HXD := Lib.hid hxd
    have HXR := Lib.hid hxr.nwlt
    have hz3 : w2.heap.size ≤ w3.heap.size := hb3.size
    obtain ⟨e1, he1⟩ : ∃ e1, e1 = (opI (p * s)).2 := ⟨_, rfl⟩
    rw [← he1]
    have HE1 := Lib.hid he1
    clear hxd hxr hb3 he1
    simp only [Big.v]
    go_wp2_with fail
    have HAX := Lib.hid HF.out.Q
    have HAY := Lib.hid HG.out.P
    refine (big_Mul f.q g.p q r _ (HAX.out.later (HB3.out.alloc (by omega) _)) (HAY.out.later (HB3.out.alloc (by omega) _))).mono ?_
    rintro e w4 ⟨y, rfl, hyd, hyr, hb4⟩
    have hz34 : w3.heap.size < w4.heap.size := by have := hb4.size; simp at this; omega
    have HW34 : Hid (Below w3.heap.size w3 w4) := Lib.hid (below_via hb4 ((Below.refl _ _).alloc (Nat.le_refl _) _))
    clear a0 a1 a2 a3 af az b0 b1 b2 b3 bf bz r0 r1 r2 r3 rf rz
    have K_r : Blk _ (w.heap.size + 1 + 1) 71 #[.int .i64 0, .slice none 0 0, .int .i64 0, .slice none 0 0] := qkc B_r hb4
    obtain ⟨r0, r1, r2, r3, rf, rz⟩ := Blk.b4 K_r
    have B_r := Lib.hid K_r
    clear K_r
    have K_x : Blk _ (w3.heap.size) 69 #[.int .i64 x.s, .slice x.l.A x.l.l.length x.l.c] := qkb hb4
    obtain ⟨x0, x1, xf, xz⟩ := Blk.b2 K_x
    have B_x := Lib.hid K_x
    clear K_x
    have HB4 : Hid (Below w.heap.size w w4) := Lib.hid (HB3.out.trans (HW34.out.mono (by omega)))
    have HYD := Lib.hid hyd
    have HYR := Lib.hid hyr.nwlt
    obtain ⟨e2, he2⟩ : ∃ e2, e2 = (opI (q * r)).2 := ⟨_, rfl⟩
    rw [← he2]
    have HE2 := Lib.hid he2
    have l5 : w.heap.size + 1 + 1 < w4.heap.size := rz
    have l6 : w3.heap.size < w4.heap.size + 1 := by omega
    clear hyd hyr hb4 he2
    simp only [Big.v]
    go_wp2_with fail
    have HQ : Hid (Calls Tryz.prog 178 #[x.v, .int .i64 e1, y.v, .int .i64 e2] (w4.alloc (.cells #[.int .i64 y.s, .slice y.l.A y.l.l.length y.l.c] 69)) fun e w' => FrP (w4.alloc (.cells #[.int .i64 y.s, .slice y.l.A y.l.l.length y.l.c] 69)) w' (divF p q r s) e) := Lib.hid (by
      unfold divF
      rw [if_neg HR0.out]
      by_cases h1 : Fits (p * s)
      · by_cases h2 : Fits (q * r)
        · rw [if_pos ⟨h1, h2⟩]
          rw [HE1.out, HE2.out, opI_fits h1, opI_fits h2]
          exact frac_quot_ok x y _ _ _ ((OpP.rb HXD.out HXR.out (fun _ h => h) h1).later (HW34.out.alloc (by omega) _)) ((OpP.rb HYD.out HYR.out (fun _ h => h) h2).later ((Below.refl _ _).alloc (Nat.le_refl _) _)) (Int.mul_ne_zero (Int.ne_of_gt HF.out.ok.pos) HR0.out)
        · rw [if_neg (fun h => h2 h.2)]
          exact frac_quot_bad x y e1 e2 _ (.inr (by rw [HE2.out, opI_full h2]; decide))
      · rw [if_neg (fun h => h1 h.1)]
        exact frac_quot_bad x y e1 e2 _ (.inl (by rw [HE1.out, opI_full h1]; decide)))
    refine HQ.out.mono ?_
    rintro e w5 ⟨⟨⟨ps, pl⟩, ⟨qs, ql⟩⟩, rfl, hok, hno, hpr, hqr, hb5⟩
    clear r0 r1 r2 r3 rf rz
    try clear x0 x1 xf xz
    have K_r : Blk _ (w.heap.size + 1 + 1) 71 #[.int .i64 0, .slice none 0 0, .int .i64 0, .slice none 0 0] := qkc B_r hb5
    obtain ⟨r0, r1, r2, r3, rf, rz⟩ := Blk.b4 K_r
    have B_r := Lib.hid K_r
    clear K_r
    have HW45 : Hid (Below w4.heap.size w4 w5) := Lib.hid (below_via hb5 ((Below.refl _ _).alloc (Nat.le_refl _) _))
    have HB5 : Hid (Below w.heap.size w w5) := Lib.hid (HB4.out.trans (HW45.out.mono (by omega)))
    have HOK := Lib.hid hok
    have HNO := Lib.hid hno
    have HPR : Hid (Rd (Nw w4.heap.size w5) 1 ienc w5 pl) := Lib.hid (hpr.mono fun k hk => hk.mono (by simp) (Nat.le_refl _))
    have HQR : Hid (Rd (Nw w4.heap.size w5) 1 ienc w5 ql) := Lib.hid (hqr.mono fun k hk => hk.mono (by simp) (Nat.le_refl _))
    clear hok hno hpr hqr hb5
    obtain ⟨R, hR⟩ : ∃ R, R = divF p q r s := ⟨_, rfl⟩
    rw [← hR] at HOK HNO ⊢
    have HRE := Lib.hid hR.symm
    clear hR
    simp only [Frc.v]
    go_wp2_with fail
    have hne : ∀ k, w4.heap.size ≤ k → k ≠ w.heap.size + 1 + 1 := fun k hb => by omega
    try simp only [Exit.inBlock, Exit.then]
    refine bodyPost_ret (v := .tuple #[.agg #[.int .i64 ps, .slice pl.A pl.l.length pl.c, .int .i64 qs, .slice ql.A ql.l.length ql.c], .int .i64 R.e]) ?_ rfl (FrP.cast HRE.out ⟨⟨⟨ps, pl⟩, ⟨qs, ql⟩⟩, rfl, HOK.out, HNO.out, rd_st4 HPR.out hne (by omega), rd_st4 HQR.out hne (by omega), below_st4 HB5.out⟩)
    simp [results, Tryz.results152, go_sem, r0, r1, r2, r3]
end Go.Proofs.YtcgocdhhneckhaaGreat
