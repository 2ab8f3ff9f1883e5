/- Walks of package frac: sum, Add, Sub. -/
import Derived.Test.YtcgocdhhneckhaaGreatFnammxav
namespace Go.Proofs.YtcgocdhhneckhaaGreat
open Go.RowKit
theorem below_two_al {B g : Nat} {a w : World} {x y : Value} {o : Obj} (h : Below B a w) (hs : B ≤ w.heap.size) (hg : B ≤ g := by omega) : Below B a (((w.setCell ⟨g, 0, none⟩ x).setCell ⟨g, 1, none⟩ y).alloc o) := (below_two h hg).alloc (by simpa using hs) o
def sumI (x y z t : Int) : BigD × Int := if Fits (x * y) ∧ Fits (z * t) then opI (x * y + z * t) else (⟨0, []⟩, 6)
set_option maxRecDepth 100000 in
set_option maxHeartbeats 3200000 in
theorem frac_sum (a b c d : Big) (x y z t : Int) (w : World) (ha : RB w a x) (hb : RB w b y) (hc : RB w c z) (hd : RB w d t) :
    Calls Tryz.prog 176 #[a.v, b.v, c.v, d.v] w fun e w' => OpP (Nw w.heap.size w') w w' (sumI x y z t) e := by
  have HA := Lib.hid ha
  have HB := Lib.hid hb
  have HC := Lib.hid hc
  have HD := Lib.hid hd
  clear ha hb hc hd
  simp only [Big.v]
  go_enter Tryz.func176, Tryz.ntmps176
  go_wp2_with fail
  refine (big_Mul a b x y _ (HA.out.later qbl) (HB.out.later qbl)).mono ?_
  rintro e w1 ⟨p, rfl, hpd, hpr, hb1⟩
  have l0 : w.heap.size < w.heap.size + 1 + 1 := by omega
  have l1 : w.heap.size < w.heap.size + 1 + 1 + 1 := by omega
  have l2 : w.heap.size < w.heap.size + 1 + 1 + 1 + 1 := by omega
  have K_c : Blk _ (w.heap.size + 1 + 1) 69 #[.int .i64 c.s, .slice c.l.A c.l.l.length c.l.c] := blk_later hb1 (by simp [hp_past, hp_at, hp_other, hp_same, hp_drew, hp_drewN, l0, l1, l2])
  obtain ⟨c0, c1, cf, cz⟩ := Blk.b2 K_c
  have B_c := Lib.hid K_c
  clear K_c
  have K_d : Blk _ (w.heap.size + 1 + 1 + 1) 69 #[.int .i64 d.s, .slice d.l.A d.l.l.length d.l.c] := blk_later hb1 (by simp [hp_past, hp_at, hp_other, hp_same, hp_drew, hp_drewN, l0, l1, l2])
  obtain ⟨d0, d1, df, dz⟩ := Blk.b2 K_d
  have B_d := Lib.hid K_d
  clear K_d
  have K_r : Blk _ (w.heap.size + 1 + 1 + 1 + 1) 69 #[.int .i64 0, .slice none 0 0] := blk_later hb1 (by simp [hp_past, hp_at, hp_other, hp_same, hp_drew, hp_drewN, l0, l1, l2])
  obtain ⟨r0, r1, rf, rz⟩ := Blk.b2 K_r
  have B_r := Lib.hid K_r
  clear K_r
  have hB1 : Below w.heap.size w w1 := qbv
  have hz1 : w.heap.size + 1 + 1 + 1 + 1 < w1.heap.size := rz
  by_cases h1 : Fits (x * y)
  · have hop := opI_fits h1
    rw [hop] at hpd ⊢
    have HP := Lib.hid (OpP.rb (z := x * y) (by rw [hop]; exact hpd) hpr.nwlt (fun _ h => h) h1)
    have HPR : Hid (Rd (Nw w.heap.size w1) 1 ienc w1 p.l) := Lib.hid (hpr.mono fun k hk => hk.mono (by simp; omega) (Nat.le_refl _))
    clear hpd hpr hb1 hop
    have HF1 := Lib.hid h1
    clear h1
    simp only [Big.v]
    go_wp2_with fail
    refine (big_Mul c d z t _ (HC.out.later (hB1.alloc (by omega) _)) (HD.out.later (hB1.alloc (by omega) _))).mono ?_
    rintro e w2 ⟨q, rfl, hqd, hqr, hb2⟩
    have hz12 : w1.heap.size < w2.heap.size := by have := hb2.size; simp at this; omega
    have HW12 : Hid (Below w1.heap.size w1 w2) := Lib.hid (below_via hb2 ((Below.refl _ _).alloc (Nat.le_refl _) _))
    clear c0 c1 cf cz d0 d1 df dz r0 r1 rf rz
    have K_r : Blk _ (w.heap.size + 1 + 1 + 1 + 1) 69 #[.int .i64 0, .slice none 0 0] := qkc B_r hb2
    obtain ⟨r0, r1, rf, rz⟩ := Blk.b2 K_r
    have B_r := Lib.hid K_r
    clear K_r
    have K_x : Blk _ (w1.heap.size) 69 #[.int .i64 p.s, .slice p.l.A p.l.l.length p.l.c] := qkb hb2
    obtain ⟨x0, x1, xf, xz⟩ := Blk.b2 K_x
    have B_x := Lib.hid K_x
    clear K_x
    have HB2 : Hid (Below w.heap.size w w2) := Lib.hid (hB1.trans (HW12.out.mono (by omega)))
    have l5 : w1.heap.size < w2.heap.size + 1 := by omega
    have l6 : w.heap.size + 1 + 1 + 1 + 1 < w2.heap.size + 1 := by omega
    by_cases h2 : Fits (z * t)
    · have hop := opI_fits h2
      rw [hop] at hqd ⊢
      have HQ := Lib.hid (OpP.rb (z := z * t) (by rw [hop]; exact hqd) hqr.nwlt (fun _ h => h) h2)
      have HSI : Hid (sumI x y z t = opI (x * y + z * t)) := Lib.hid (by unfold sumI; rw [if_pos ⟨HF1.out, h2⟩])
      clear hqd hqr hb2 hop h2
      simp only [Big.v]
      go_wp2_with fail
      refine (big_Add p q _ _ _ (HP.out.later (HW12.out.alloc (by omega) _)) (HQ.out.later ((Below.refl _ _).alloc (Nat.le_refl _) _))).mono ?_
      rintro e w3 ⟨u, rfl, hud, hur, hb3⟩
      have HW23 : Hid (Below w2.heap.size w2 w3) := Lib.hid (below_via hb3 ((Below.refl _ _).alloc (Nat.le_refl _) _))
      have HB3 : Hid (Below w.heap.size w w3) := Lib.hid (HB2.out.trans (HW23.out.mono (by omega)))
      clear r0 r1 rf rz x0 x1 xf xz
      have K_r : Blk _ (w.heap.size + 1 + 1 + 1 + 1) 69 #[.int .i64 0, .slice none 0 0] := qkc B_r hb3
      obtain ⟨r0, r1, rf, rz⟩ := Blk.b2 K_r
      have B_r := Lib.hid K_r
      clear K_r
      have HUR : Hid (Rd (Nw w2.heap.size w3) 1 ienc w3 u.l) := Lib.hid (hur.mono fun k hk => hk.mono (by simp) (Nat.le_refl _))
      obtain ⟨OZ, hOZ⟩ : ∃ o, o = opI (x * y + z * t) := ⟨_, rfl⟩
      rw [← hOZ] at hud ⊢
      have HUD := Lib.hid hud
      have HOZ := Lib.hid (HSI.out.trans hOZ.symm)
      clear hOZ hud hur hb3
      simp only [Big.v]
      go_wp2_with fail
      have hne : ∀ k, Nw w2.heap.size w3 k → k ≠ w.heap.size + 1 + 1 + 1 + 1 := fun k hk => by have := hk.1; omega
      try simp only [Exit.inBlock, Exit.then]
      refine bodyPost_ret (v := .tuple #[.agg #[.int .i64 u.s, .slice u.l.A u.l.l.length u.l.c], .int .i64 OZ.2]) ?_ rfl (OpP.cast HOZ.out ⟨u, rfl, HUD.out, ((HUR.out.far hne _).far hne _).mono (fun k hk => Nw.of (nw_two hk (by omega) (Nat.le_refl _))), below_two HB3.out⟩)
      simp [results, Tryz.results176, go_sem, r0, r1]
    · have hop := opI_full h2
      rw [hop]
      have HSI : Hid (sumI x y z t = (⟨0, []⟩, 6)) := Lib.hid (by unfold sumI; rw [if_neg (fun h => h2 h.2)])
      clear hqd hqr hb2 hop h2
      simp only [Big.v]
      go_wp2_with fail
      try simp only [Exit.inBlock, Exit.then]
      refine bodyPost_ret (v := .tuple #[.agg #[.int .i64 0, .slice none 0 0], .int .i64 6]) ?_ rfl (OpP.cast HSI.out ⟨⟨0, ⟨none, 0, []⟩⟩, rfl, rfl, Rd.nil _ _ _ _, below_two_al HB2.out (by omega)⟩)
      simp [results, Tryz.results176, go_sem, r0, r1, rz, l6]
  · have hop := opI_full h1
    rw [hop]
    have HSI : Hid (sumI x y z t = (⟨0, []⟩, 6)) := Lib.hid (by unfold sumI; rw [if_neg (fun h => h1 h.1)])
    clear hpd hpr hb1 hop h1
    simp only [Big.v]
    go_wp2_with fail
    try simp only [Exit.inBlock, Exit.then]
    refine bodyPost_ret (v := .tuple #[.agg #[.int .i64 0, .slice none 0 0], .int .i64 6]) ?_ rfl (OpP.cast HSI.out ⟨⟨0, ⟨none, 0, []⟩⟩, rfl, rfl, Rd.nil _ _ _ _, below_two_al hB1 (by omega)⟩)
    simp [results, Tryz.results176, go_sem, r0, r1, rz]
theorem sumI_ok {x y z t : Int} : (sumI x y z t).2 = 0 ↔ Fits (x * y) ∧ Fits (z * t) ∧ Fits (x * y + z * t) := by
  unfold sumI opI
  by_cases h1 : Fits (x * y) ∧ Fits (z * t)
  · rw [if_pos h1]
    by_cases h2 : Fits (x * y + z * t)
    · rw [if_pos h2]; simp [h1, h2]
    · rw [if_neg h2]; simp [h2]
  · rw [if_neg h1]
    exact ⟨fun h => absurd h (by decide), fun h => absurd ⟨h.1, h.2.1⟩ h1⟩
theorem sumI_is {x y z t : Int} (h : (sumI x y z t).2 = 0) : sumI x y z t = (bigD (x * y + z * t), 0) := by
  obtain ⟨h1, h2, h3⟩ := sumI_ok.1 h
  unfold sumI
  rw [if_pos ⟨h1, h2⟩, opI_fits h3]
set_option maxRecDepth 100000 in
set_option maxHeartbeats 3200000 in
theorem frac_Add (f g : Frc) (p q r s : Int) (w : World) (hf : RF w f p q) (hg : RF w g r s) :
    Calls Tryz.prog 149 #[f.v, g.v] w fun e w' => FrP w w' (addF p q r s) e := by
  have HF := Lib.hid hf
  have HG := Lib.hid hg
  clear hf hg
  simp only [Frc.v]
  go_enter Tryz.func149, Tryz.ntmps149
  go_wp2_with fail
  refine (frac_right f p q _ (HF.out.later qbl)).mono ?_
  rintro e w1 ⟨rfl, hb1⟩
  have l0 : w.heap.size < w.heap.size + 1 + 1 := by omega
  have K_a : Blk _ (w.heap.size) 71 #[.int .i64 f.p.s, .slice f.p.l.A f.p.l.l.length f.p.l.c, .int .i64 f.q.s, .slice f.q.l.A f.q.l.l.length f.q.l.c] := blk_later hb1 (by simp [hp_past, hp_at, hp_other, hp_same, hp_drew, hp_drewN, l0])
  obtain ⟨a0, a1, a2, a3, af, az⟩ := Blk.b4 K_a
  have B_a := Lib.hid K_a
  clear K_a
  have K_b : Blk _ (w.heap.size + 1) 71 #[.int .i64 g.p.s, .slice g.p.l.A g.p.l.l.length g.p.l.c, .int .i64 g.q.s, .slice g.q.l.A g.q.l.l.length g.q.l.c] := blk_later hb1 (by simp [hp_past, hp_at, hp_other, hp_same, hp_drew, hp_drewN, l0])
  obtain ⟨b0, b1, b2, b3, bf, bz⟩ := Blk.b4 K_b
  have B_b := Lib.hid K_b
  clear K_b
  have K_r : Blk _ (w.heap.size + 1 + 1) 71 #[.int .i64 0, .slice none 0 0, .int .i64 0, .slice none 0 0] := blk_later hb1 (by simp [hp_past, hp_at, hp_other, hp_same, hp_drew, hp_drewN, l0])
  obtain ⟨r0, r1, r2, r3, rf, rz⟩ := Blk.b4 K_r
  have B_r := Lib.hid K_r
  clear K_r
  have hB1 : Below w.heap.size w w1 := qbv
  clear hb1
  go_wp2_with fail
  refine (frac_right g r s _ (HG.out.later hB1)).mono ?_
  rintro e w2 ⟨rfl, hb2⟩
  clear a0 a1 a2 a3 af az b0 b1 b2 b3 bf bz r0 r1 r2 r3 rf rz
  have K_a : Blk _ (w.heap.size) 71 #[.int .i64 f.p.s, .slice f.p.l.A f.p.l.l.length f.p.l.c, .int .i64 f.q.s, .slice f.q.l.A f.q.l.l.length f.q.l.c] := qkc B_a hb2
  obtain ⟨a0, a1, a2, a3, af, az⟩ := Blk.b4 K_a
  have B_a := Lib.hid K_a
  clear K_a
  have K_b : Blk _ (w.heap.size + 1) 71 #[.int .i64 g.p.s, .slice g.p.l.A g.p.l.l.length g.p.l.c, .int .i64 g.q.s, .slice g.q.l.A g.q.l.l.length g.q.l.c] := qkc B_b hb2
  obtain ⟨b0, b1, b2, b3, bf, bz⟩ := Blk.b4 K_b
  have B_b := Lib.hid K_b
  clear K_b
  have K_r : Blk _ (w.heap.size + 1 + 1) 71 #[.int .i64 0, .slice none 0 0, .int .i64 0, .slice none 0 0] := qkc B_r hb2
  obtain ⟨r0, r1, r2, r3, rf, rz⟩ := Blk.b4 K_r
  have B_r := Lib.hid K_r
  clear K_r
  have HB2 : Hid (Below w.heap.size w w2) := Lib.hid qbv
  have hz2 : w.heap.size + 1 + 1 < w2.heap.size := rz
  clear hb2
  go_wp2_with fail
  refine (frac_sum f.p g.q g.p f.q p s r q _ (HF.out.P.later HB2.out) (HG.out.Q.later HB2.out) (HG.out.P.later HB2.out) (HF.out.Q.later HB2.out)).mono ?_
  rintro e w3 ⟨x, rfl, hxd, hxr, hb3⟩
  clear a0 a1 a2 a3 af az b0 b1 b2 b3 bf bz r0 r1 r2 r3 rf rz
  have K_a : Blk _ (w.heap.size) 71 #[.int .i64 f.p.s, .slice f.p.l.A f.p.l.l.length f.p.l.c, .int .i64 f.q.s, .slice f.q.l.A f.q.l.l.length f.q.l.c] := qkc B_a hb3
  obtain ⟨a0, a1, a2, a3, af, az⟩ := Blk.b4 K_a
  have B_a := Lib.hid K_a
  clear K_a
  have K_b : Blk _ (w.heap.size + 1) 71 #[.int .i64 g.p.s, .slice g.p.l.A g.p.l.l.length g.p.l.c, .int .i64 g.q.s, .slice g.q.l.A g.q.l.l.length g.q.l.c] := qkc B_b hb3
  obtain ⟨b0, b1, b2, b3, bf, bz⟩ := Blk.b4 K_b
  have B_b := Lib.hid K_b
  clear K_b
  have K_r : Blk _ (w.heap.size + 1 + 1) 71 #[.int .i64 0, .slice none 0 0, .int .i64 0, .slice none 0 0] := qkc B_r hb3
  obtain ⟨r0, r1, r2, r3, rf, rz⟩ := Blk.b4 K_r
  have B_r := Lib.hid K_r
  clear K_r
  have HB3 : Hid (Below w.heap.size w w3) := Lib.hid (HB2.out.trans (hb3.mono HB2.out.size))
  have HXD := Lib.hid hxd
  have HXR := Lib.hid hxr.nwlt
  have hz3 : w2.heap.size ≤ w3.heap.size := hb3.size
  obtain ⟨e1, he1⟩ : ∃ e1, e1 = (sumI p s r q).2 := ⟨_, rfl⟩
  rw [← he1]
  have HE1 := Lib.hid he1
  clear hxd hxr hb3 he1
  simp only [Big.v]
  go_wp2_with fail
  have HAX := Lib.hid HF.out.Q
  have HAY := Lib.hid HG.out.Q
  refine (big_Mul f.q g.q q s _ (HAX.out.later (HB3.out.alloc (by omega) _)) (HAY.out.later (HB3.out.alloc (by omega) _))).mono ?_
  rintro e w4 ⟨y, rfl, hyd, hyr, hb4⟩
  have hz34 : w3.heap.size < w4.heap.size := by have := hb4.size; simp at this; omega
  have HW34 : Hid (Below w3.heap.size w3 w4) := Lib.hid (below_via hb4 ((Below.refl _ _).alloc (Nat.le_refl _) _))
  clear a0 a1 a2 a3 af az b0 b1 b2 b3 bf bz r0 r1 r2 r3 rf rz
  have K_r : Blk _ (w.heap.size + 1 + 1) 71 #[.int .i64 0, .slice none 0 0, .int .i64 0, .slice none 0 0] := qkc B_r hb4
  obtain ⟨r0, r1, r2, r3, rf, rz⟩ := Blk.b4 K_r
  have B_r := Lib.hid K_r
  clear K_r
  have K_x : Blk _ (w3.heap.size) 69 #[.int .i64 x.s, .slice x.l.A x.l.l.length x.l.c] := qkb hb4
  obtain ⟨x0, x1, xf, xz⟩ := Blk.b2 K_x
  have B_x := Lib.hid K_x
  clear K_x
  have HB4 : Hid (Below w.heap.size w w4) := Lib.hid (HB3.out.trans (HW34.out.mono (by omega)))
  have HYD := Lib.hid hyd
  have HYR := Lib.hid hyr.nwlt
  obtain ⟨e2, he2⟩ : ∃ e2, e2 = (opI (q * s)).2 := ⟨_, rfl⟩
  rw [← he2]
  have HE2 := Lib.hid he2
  have l5 : w.heap.size + 1 + 1 < w4.heap.size := rz
  have l6 : w3.heap.size < w4.heap.size + 1 := by omega
  clear hyd hyr hb4 he2
  simp only [Big.v]
  go_wp2_with fail
  have HQ : Hid (Calls Tryz.prog 178 #[x.v, .int .i64 e1, y.v, .int .i64 e2] (w4.alloc (.cells #[.int .i64 y.s, .slice y.l.A y.l.l.length y.l.c] 69)) fun e w' => FrP (w4.alloc (.cells #[.int .i64 y.s, .slice y.l.A y.l.l.length y.l.c] 69)) w' (addF p q r s) e) := Lib.hid (by
    unfold addF
    by_cases h1 : (sumI p s r q).2 = 0
    · obtain ⟨g1, g2, g3⟩ := sumI_ok.1 h1
      by_cases h2 : Fits (q * s)
      · rw [if_pos ⟨g1, g2, h2, g3⟩]
        rw [HE1.out, HE2.out, h1, opI_fits h2]
        exact frac_quot_ok x y _ _ _ ((RB.mk' HXR.out (by rw [HXD.out, sumI_is h1]) g3).later (HW34.out.alloc (by omega) _)) ((OpP.rb HYD.out HYR.out (fun _ h => h) h2).later ((Below.refl _ _).alloc (Nat.le_refl _) _)) (Int.ne_of_gt (Int.mul_pos HF.out.ok.pos HG.out.ok.pos))
      · rw [if_neg (fun h => h2 h.2.2.1)]
        exact frac_quot_bad x y e1 e2 _ (.inr (by rw [HE2.out, opI_full h2]; decide))
    · rw [if_neg (fun h => h1 (sumI_ok.2 ⟨h.1, h.2.1, h.2.2.2⟩))]
      exact frac_quot_bad x y e1 e2 _ (.inl (by rw [HE1.out]; exact h1)))
  refine HQ.out.mono ?_
  rintro e w5 ⟨⟨⟨ps, pl⟩, ⟨qs, ql⟩⟩, rfl, hok, hno, hpr, hqr, hb5⟩
  clear r0 r1 r2 r3 rf rz
  try clear x0 x1 xf xz
  have K_r : Blk _ (w.heap.size + 1 + 1) 71 #[.int .i64 0, .slice none 0 0, .int .i64 0, .slice none 0 0] := qkc B_r hb5
  obtain ⟨r0, r1, r2, r3, rf, rz⟩ := Blk.b4 K_r
  have B_r := Lib.hid K_r
  clear K_r
  have HW45 : Hid (Below w4.heap.size w4 w5) := Lib.hid (below_via hb5 ((Below.refl _ _).alloc (Nat.le_refl _) _))
  have HB5 : Hid (Below w.heap.size w w5) := Lib.hid (HB4.out.trans (HW45.out.mono (by omega)))
  have HOK := Lib.hid hok
  have HNO := Lib.hid hno
  have HPR : Hid (Rd (Nw w4.heap.size w5) 1 ienc w5 pl) := Lib.hid (hpr.mono fun k hk => hk.mono (by simp) (Nat.le_refl _))
  have HQR : Hid (Rd (Nw w4.heap.size w5) 1 ienc w5 ql) := Lib.hid (hqr.mono fun k hk => hk.mono (by simp) (Nat.le_refl _))
  clear hok hno hpr hqr hb5
  obtain ⟨R, hR⟩ : ∃ R, R = addF p q r s := ⟨_, rfl⟩
  rw [← hR] at HOK HNO ⊢
  have HRE := Lib.hid hR.symm
  clear hR
  simp only [Frc.v]
  go_wp2_with fail
  have hne : ∀ k, w4.heap.size ≤ k → k ≠ w.heap.size + 1 + 1 := fun k hb => by omega
  try simp only [Exit.inBlock, Exit.then]
  refine bodyPost_ret (v := .tuple #[.agg #[.int .i64 ps, .slice pl.A pl.l.length pl.c, .int .i64 qs, .slice ql.A ql.l.length ql.c], .int .i64 R.e]) ?_ rfl (FrP.cast HRE.out ⟨⟨⟨ps, pl⟩, ⟨qs, ql⟩⟩, rfl, HOK.out, HNO.out, rd_st4 HPR.out hne (by omega), rd_st4 HQR.out hne (by omega), below_st4 HB5.out⟩)
  simp [results, Tryz.results149, go_sem, r0, r1, r2, r3]
end Go.Proofs.YtcgocdhhneckhaaGreat
/- Walks of package frac: Sub, Floor. -/
namespace Go.Proofs.YtcgocdhhneckhaaGreat
open Go.RowKit
set_option maxRecDepth 100000 in
set_option maxHeartbeats 3200000 in
theorem frac_Sub (f g : Frc) (p q r s : Int) (w : World) (hf : RF w f p q) (hg : RF w g r s) :
    Calls Tryz.prog 150 #[f.v, g.v] w fun e w' => FrP w w' (subF p q r s) e := by
  have HF := Lib.hid hf
  have HG := Lib.hid hg
  clear hf hg
  simp only [Frc.v]
  go_enter Tryz.func150, Tryz.ntmps150
  go_wp2_with fail
  refine (frac_right f p q _ (HF.out.later qbl)).mono ?_
  rintro e w1 ⟨rfl, hb1⟩
  have l0 : w.heap.size < w.heap.size + 1 + 1 := by omega
  have K_a : Blk _ (w.heap.size) 71 #[.int .i64 f.p.s, .slice f.p.l.A f.p.l.l.length f.p.l.c, .int .i64 f.q.s, .slice f.q.l.A f.q.l.l.length f.q.l.c] := blk_later hb1 (by simp [hp_past, hp_at, hp_other, hp_same, hp_drew, hp_drewN, l0])
  obtain ⟨a0, a1, a2, a3, af, az⟩ := Blk.b4 K_a
  have B_a := Lib.hid K_a
  clear K_a
  have K_b : Blk _ (w.heap.size + 1) 71 #[.int .i64 g.p.s, .slice g.p.l.A g.p.l.l.length g.p.l.c, .int .i64 g.q.s, .slice g.q.l.A g.q.l.l.length g.q.l.c] := blk_later hb1 (by simp [hp_past, hp_at, hp_other, hp_same, hp_drew, hp_drewN, l0])
  obtain ⟨b0, b1, b2, b3, bf, bz⟩ := Blk.b4 K_b
  have B_b := Lib.hid K_b
  clear K_b
  have K_r : Blk _ (w.heap.size + 1 + 1) 71 #[.int .i64 0, .slice none 0 0, .int .i64 0, .slice none 0 0] := blk_later hb1 (by simp [hp_past, hp_at, hp_other, hp_same, hp_drew, hp_drewN, l0])
  obtain ⟨r0, r1, r2, r3, rf, rz⟩ := Blk.b4 K_r
  have B_r := Lib.hid K_r
  clear K_r
  have hB1 : Below w.heap.size w w1 := qbv
  clear hb1
  go_wp2_with fail
  refine (frac_right g r s _ (HG.out.later hB1)).mono ?_
  rintro e w2 ⟨rfl, hb2⟩
  clear a0 a1 a2 a3 af az b0 b1 b2 b3 bf bz r0 r1 r2 r3 rf rz
  have K_a : Blk _ (w.heap.size) 71 #[.int .i64 f.p.s, .slice f.p.l.A f.p.l.l.length f.p.l.c, .int .i64 f.q.s, .slice f.q.l.A f.q.l.l.length f.q.l.c] := qkc B_a hb2
  obtain ⟨a0, a1, a2, a3, af, az⟩ := Blk.b4 K_a
  have B_a := Lib.hid K_a
  clear K_a
  have K_b : Blk _ (w.heap.size + 1) 71 #[.int .i64 g.p.s, .slice g.p.l.A g.p.l.l.length g.p.l.c, .int .i64 g.q.s, .slice g.q.l.A g.q.l.l.length g.q.l.c] := qkc B_b hb2
  obtain ⟨b0, b1, b2, b3, bf, bz⟩ := Blk.b4 K_b
  have B_b := Lib.hid K_b
  clear K_b
  have K_r : Blk _ (w.heap.size + 1 + 1) 71 #[.int .i64 0, .slice none 0 0, .int .i64 0, .slice none 0 0] := qkc B_r hb2
  obtain ⟨r0, r1, r2, r3, rf, rz⟩ := Blk.b4 K_r
  have B_r := Lib.hid K_r
  clear K_r
  have HB2 : Hid (Below w.heap.size w w2) := Lib.hid qbv
  have hz2 : w.heap.size + 1 + 1 < w2.heap.size := rz
  clear hb2
  go_wp2_with fail
  have HSS : Hid (∀ W : World, Below w2.heap.size w2 W → W.cell? ⟨w.heap.size, 0, none⟩ = some (.int .i64 f.p.s) ∧ W.cell? ⟨w.heap.size, 1, none⟩ = some (.slice f.p.l.A f.p.l.l.length f.p.l.c) ∧ W.cell? ⟨w.heap.size, 2, none⟩ = some (.int .i64 f.q.s) ∧ W.cell? ⟨w.heap.size, 3, none⟩ = some (.slice f.q.l.A f.q.l.l.length f.q.l.c) ∧ W.cell? ⟨w.heap.size + 1, 0, none⟩ = some (.int .i64 g.p.s) ∧ W.cell? ⟨w.heap.size + 1, 1, none⟩ = some (.slice g.p.l.A g.p.l.l.length g.p.l.c) ∧ W.cell? ⟨w.heap.size + 1, 2, none⟩ = some (.int .i64 g.q.s) ∧ W.cell? ⟨w.heap.size + 1, 3, none⟩ = some (.slice g.q.l.A g.q.l.l.length g.q.l.c)) := Lib.hid (fun W hW => ⟨keep_cell hW a0, keep_cell hW a1, keep_cell hW a2, keep_cell hW a3, keep_cell hW b0, keep_cell hW b1, keep_cell hW b2, keep_cell hW b3⟩)
  clear a0 a1 a2 a3 af az b0 b1 b2 b3 bf bz r0 r1 r2 r3 rf rz
  refine wp_region_T (fun W => W.cell? ⟨w.heap.size, 0, none⟩ = some (.int .i64 f.p.s) ∧ W.cell? ⟨w.heap.size, 1, none⟩ = some (.slice f.p.l.A f.p.l.l.length f.p.l.c) ∧ W.cell? ⟨w.heap.size, 2, none⟩ = some (.int .i64 f.q.s) ∧ W.cell? ⟨w.heap.size, 3, none⟩ = some (.slice f.q.l.A f.q.l.l.length f.q.l.c) ∧ W.cell? ⟨w.heap.size + 1, 0, none⟩ = some (.int .i64 g.p.s) ∧ W.cell? ⟨w.heap.size + 1, 1, none⟩ = some (.slice g.p.l.A g.p.l.l.length g.p.l.c) ∧ W.cell? ⟨w.heap.size + 1, 2, none⟩ = some (.int .i64 g.q.s) ∧ W.cell? ⟨w.heap.size + 1, 3, none⟩ = some (.slice g.q.l.A g.q.l.l.length g.q.l.c)) (fun i => 10 ≤ i) (by kernel_rfl) (by exact HSS.out w2 (Below.refl _ _)) (fun hHeld => ?_)
  refine qtq 0 ?_
  simp only [qsa, qsb, qsc]
  refine qtq 1 ?_
  simp only [qsa, qsb, qsc]
  refine qtq 2 ?_
  simp only [qsa, qsb, qsc]
  refine qtq 4 ?_
  simp only [qsa, qsb, qsc]
  refine qtq 5 ?_
  simp only [qsa, qsb, qsc]
  clear hHeld
  refine wpAnyT_next (i := 3) (by kernel_rfl) rfl ?_
  go_wp2_with fail
  refine (big_neg g.p r _ (HG.out.P.later (Below.drew HB2.out))).mono ?_
  rintro e w3 ⟨x, rfl, hxd, hxr, hb3⟩
  have FK3 : Hid (Below w2.heap.size w2 w3) := Lib.hid (below_via hb3 (Below.drew (Below.refl _ _)))
  have HX := Lib.hid (RB.mk' hxr.nwlt hxd (fits_neg HG.out.P.fits))
  have HB3 : Hid (Below w.heap.size w w3) := Lib.hid (HB2.out.trans (FK3.out.mono HB2.out.size))
  clear hxd hxr hb3
  simp only [Big.v]
  go_wp2_with fail
  refine And.intro (by first | exact fun _ => HSS.out _ FK3.out | exact HSS.out _ FK3.out) ?_
  have hHeld := HSS.out _ FK3.out
  refine qtq 6 ?_
  simp only [qsa, qsb, qsc]
  clear hHeld
  refine wpAnyT_next (i := 7) (by kernel_rfl) rfl ?_
  go_wp2_with fail
  refine (frac_Add f ⟨x, g.q⟩ p q (-r) s _ (HF.out.later HB3.out) ⟨HX.out, HG.out.Q.later HB3.out, HG.out.ok.neg⟩).mono ?_
  rintro e w4 ⟨⟨⟨ps, pl⟩, ⟨qs, ql⟩⟩, rfl, hok, hno, hpr, hqr, hb4⟩
  have FK4 : Hid (Below w2.heap.size w2 w4) := Lib.hid (below_via hb4 FK3.out)
  have K_r : Blk _ (w.heap.size + 1 + 1) 71 #[.int .i64 0, .slice none 0 0, .int .i64 0, .slice none 0 0] := blk_later FK4.out (by simp [hp_past, hp_at, hp_other, hp_same, hp_drew, hp_drewN, B_r.out.eq, B_r.out.lt, hp_same B_r.out.eq])
  obtain ⟨r0, r1, r2, r3, rf, rz⟩ := Blk.b4 K_r
  have B_r := Lib.hid K_r
  clear K_r
  have HB4 : Hid (Below w.heap.size w w4) := Lib.hid (HB2.out.trans (FK4.out.mono HB2.out.size))
  have HOK := Lib.hid hok
  have HNO := Lib.hid hno
  have hz23 := FK3.out.size
  have HPR : Hid (Rd (Nw w2.heap.size w4) 1 ienc w4 pl) := Lib.hid (hpr.mono fun k hk => hk.mono hz23 (Nat.le_refl _))
  have HQR : Hid (Rd (Nw w2.heap.size w4) 1 ienc w4 ql) := Lib.hid (hqr.mono fun k hk => hk.mono hz23 (Nat.le_refl _))
  clear hok hno hpr hqr hb4
  obtain ⟨R, hR⟩ : ∃ R, R = addF p q (-r) s := ⟨_, rfl⟩
  rw [← hR] at HOK HNO ⊢
  have HRE : Hid (subF p q r s = R) := Lib.hid hR.symm
  clear hR
  simp only [Frc.v]
  go_wp2_with fail
  refine And.intro (by first | exact fun _ => HSS.out _ FK4.out | exact HSS.out _ FK4.out) ?_
  have hHeld := HSS.out _ FK4.out
  refine qtq 8 ?_
  simp only [qsa, qsb, qsc]
  refine qtq 9 ?_
  simp only [qsa, qsb, qsc]
  clear hHeld
  refine wpAnyT_next (i := 10) (by kernel_rfl) rfl ?_
  go_wp2_with fail
  try simp only [QT]
  try (with_reducible refine And.intro (fun h => by simp at h) ?_)
  refine wpAnyT_next (i := 11) (by kernel_rfl) rfl ?_
  go_wp2_with fail
  try simp only [QT]
  try (with_reducible refine And.intro (fun h => by simp at h) ?_)
  refine wpAnyT_done (by kernel_rfl) ?_ _
  go_wp2_with fail
  have hne : ∀ k, w2.heap.size ≤ k → k ≠ w.heap.size + 1 + 1 := fun k hb => by omega
  try simp only [Exit.inBlock, Exit.then]
  refine bodyPost_ret (v := .tuple #[.agg #[.int .i64 ps, .slice pl.A pl.l.length pl.c, .int .i64 qs, .slice ql.A ql.l.length ql.c], .int .i64 R.e]) ?_ rfl (FrP.cast HRE.out ⟨⟨⟨ps, pl⟩, ⟨qs, ql⟩⟩, rfl, HOK.out, HNO.out, rd_st4 HPR.out hne (by omega), rd_st4 HQR.out hne (by omega), below_st4 HB4.out⟩)
  simp [results, Tryz.results150, go_sem, r0, r1, r2, r3]
set_option maxRecDepth 100000 in
set_option maxHeartbeats 3200000 in
theorem frac_Floor (f : Frc) (p q : Int) (w : World) (hf : RF w f p q) :
    Calls Tryz.prog 86 #[f.v] w fun e w' => BigP w w' (bigD (p / q)) e := by
  have HF := Lib.hid hf
  clear hf
  simp only [Frc.v]
  go_enter Tryz.func86, Tryz.ntmps86
  go_wp2_with fail
  refine (frac_right f p q _ (HF.out.later qbl)).mono ?_
  rintro e w1 ⟨rfl, hb1⟩
  have K_a : Blk _ (w.heap.size) 71 #[.int .i64 f.p.s, .slice f.p.l.A f.p.l.l.length f.p.l.c, .int .i64 f.q.s, .slice f.q.l.A f.q.l.l.length f.q.l.c] := qkb hb1
  obtain ⟨a0, a1, a2, a3, af, az⟩ := Blk.b4 K_a
  have B_a := Lib.hid K_a
  clear K_a
  have K_r : Blk _ (w.heap.size + 1) 69 #[.int .i64 0, .slice none 0 0] := qkb hb1
  obtain ⟨r0, r1, rf, rz⟩ := Blk.b2 K_r
  have B_r := Lib.hid K_r
  clear K_r
  have hB1 : Below w.heap.size w w1 := qbv
  clear hb1
  go_wp2_with fail
  refine (big_Div f.p f.q p q _ (HF.out.P.later hB1) (HF.out.Q.later hB1) HF.out.ok.pos).mono ?_
  rintro e w2 ⟨⟨ps, pl⟩, ⟨us, ul⟩, rfl, hpd, hud, hpr, hur, hb2⟩
  have hz1 : w.heap.size + 1 < w1.heap.size := rz
  clear a0 a1 a2 a3 af az r0 r1 rf rz
  have K_r : Blk _ (w.heap.size + 1) 69 #[.int .i64 0, .slice none 0 0] := qkc B_r hb2
  obtain ⟨r0, r1, rf, rz⟩ := Blk.b2 K_r
  have B_r := Lib.hid K_r
  clear K_r
  have hB2 : Below w.heap.size w w2 := qbv
  have HPD := Lib.hid hpd
  have HPR := Lib.hid hpr
  have l5 : w.heap.size + 1 < w2.heap.size + 1 := by omega
  have l6 : w.heap.size < w2.heap.size := by omega
  clear hpd hud hpr hur hb2
  simp only [Big.v]
  go_wp2_with fail
  have hne : ∀ k, Nw w1.heap.size w2 k → k ≠ w.heap.size + 1 := fun k hk => by have := hk.1; omega
  have hle : ∀ {x y : Value}, w.heap.size ≤ ((w2.setCell ⟨w.heap.size + 1, 0, none⟩ x).setCell ⟨w.heap.size + 1, 1, none⟩ y).heap.size := by intros; simp; omega
  have hrd : ∀ {x y : Value}, Rd (Nw w1.heap.size ((w2.setCell ⟨w.heap.size + 1, 0, none⟩ x).setCell ⟨w.heap.size + 1, 1, none⟩ y)) 1 ienc ((w2.setCell ⟨w.heap.size + 1, 0, none⟩ x).setCell ⟨w.heap.size + 1, 1, none⟩ y) pl := by
    intro x y
    exact ((HPR.out.far hne _).far hne _).mono fun k hk => Nw.of ⟨hk.1, hk.2⟩
  try simp only [Exit.inBlock, Exit.then]
  refine bodyPost_ret (v := .agg #[.int .i64 ps, .slice pl.A pl.l.length pl.c]) ?_ rfl ⟨⟨ps, pl⟩, rfl, HPD.out, rd_al2 hrd (by omega) _ _, below_sa2 (below_two hB2) hle _ _⟩
  simp [results, Tryz.results86, go_sem, r0, r1, rz, l5]
end Go.Proofs.YtcgocdhhneckhaaGreat
