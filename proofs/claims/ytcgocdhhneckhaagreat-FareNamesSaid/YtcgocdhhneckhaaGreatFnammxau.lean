/- Walks of package frac: Right, New, Of. -/
import Derived.Test.YtcgocdhhneckhaaGreatFnammxaq
import Derived.Test.YtcgocdhhneckhaaGreatFnammxas
import Derived.Test.YtcgocdhhneckhaaGreatFnammxat
namespace Go.Proofs.YtcgocdhhneckhaaGreat
open Go.RowKit
structure Frc where
  p : Big
  q : Big
def Frc.v (f : Frc) : Value := .agg #[.int .i64 f.p.s, .slice f.p.l.A f.p.l.l.length f.p.l.c, .int .i64 f.q.s, .slice f.q.l.A f.q.l.l.length f.q.l.c]
/-- A right fraction in memory. -/
structure RF (w : World) (f : Frc) (p q : Int) : Prop where
  P : RB w f.p p
  Q : RB w f.q q
  ok : FracOK p q
theorem RF.later {w w' : World} {f : Frc} {p q : Int} (h : RF w f p q) (hb : Below w.heap.size w w') : RF w' f p q := ⟨h.P.later hb, h.Q.later hb, h.ok⟩
theorem opI_fits {z : Int} (h : Fits z) : opI z = (bigD z, 0) := by unfold opI; rw [if_pos h]
theorem opI_full {z : Int} (h : ¬ Fits z) : opI z = (⟨0, []⟩, 6) := by unfold opI; rw [if_neg h]
theorem opI_one : opI ((1 : Nat) : Int) = (bigD 1, 0) := opI_fits (z := 1) fits_one
set_option maxRecDepth 100000 in
set_option maxHeartbeats 1600000 in
theorem frac_right (f : Frc) (p q : Int) (w : World) (hf : RF w f p q) : Calls Tryz.prog 120 #[f.v] w fun e w' => e = .returned (.bool true) ∧ Below w.heap.size w w' := by
  obtain ⟨fp, ⟨fs, fl⟩⟩ := f
  have hs := hf.Q.s
  rw [Int.sign_eq_one_of_pos hf.ok.pos] at hs
  simp only at hs
  subst hs
  have HF := Lib.hid hf
  clear hf
  simp only [Frc.v]
  go_enter Tryz.func120, Tryz.ntmps120
  go_wp2_with fail
  refine (right_ok fp p _ (HF.out.P.later qbl)).mono ?_
  rintro e w1 ⟨rfl, hb1⟩
  have K_a : Blk _ (w.heap.size) 71 #[.int .i64 fp.s, .slice fp.l.A fp.l.l.length fp.l.c, .int .i64 1, .slice fl.A fl.l.length fl.c] := qkb hb1
  obtain ⟨a0, a1, a2, a3, af, az⟩ := Blk.b4 K_a
  have B_a := Lib.hid K_a
  clear K_a
  have hB1 : Below w.heap.size w w1 := qbv
  clear hb1
  go_wp2_with fail
  refine (right_ok ⟨1, fl⟩ q _ (HF.out.Q.later hB1)).mono ?_
  rintro e w2 ⟨rfl, hb2⟩
  clear a0 a1 a2 a3 af az
  have K_a : Blk _ (w.heap.size) 71 #[.int .i64 fp.s, .slice fp.l.A fp.l.l.length fp.l.c, .int .i64 1, .slice fl.A fl.l.length fl.c] := qkc B_a hb2
  obtain ⟨a0, a1, a2, a3, af, az⟩ := Blk.b4 K_a
  have B_a := Lib.hid K_a
  clear K_a
  have hB2 : Below w.heap.size w w2 := qbv
  clear hb2
  go_wp2_with fail
  have HG := big_Gcd fp ⟨1, fl⟩ p q w2 (HF.out.P.later hB2) (HF.out.Q.later hB2)
  rw [HF.out.ok.one, opI_one] at HG
  refine HG.mono ?_
  rintro e w3 ⟨⟨gs, ⟨gA, gc, gl⟩⟩, rfl, hgd, hgr, hb3⟩
  have HR1 : Hid (RB w3 ⟨gs, ⟨gA, gc, gl⟩⟩ 1) := Lib.hid (RB.mk' hgr.nwlt hgd fits_one)
  have hB3 : Below w.heap.size w w3 := qbv
  clear hgd hgr hb3 HG
  simp only [Big.v]
  go_wp2_with fail
  refine (frac_one ⟨gs, ⟨gA, gc, gl⟩⟩ _ (HR1.out.later qbl)).mono ?_
  rintro e w4 ⟨rfl, hb4⟩
  have hs3 := hB3.size
  have hB4 : Below w.heap.size w w4 := qbv
  clear hb4
  go_wp2_with fail
  go_ret
  exact ⟨rfl, hB4⟩
/-- A right fraction, in new memory. -/
def FrP (w w' : World) (r : FrR) (e : Ending) : Prop := ∃ f : Frc, e = .returned (.tuple #[f.v, .int .i64 r.e]) ∧ (r.e = 0 → f.p.d = bigD r.p ∧ f.q.d = bigD r.q) ∧ (r.e ≠ 0 → f.p.d = ⟨0, []⟩ ∧ f.q.d = ⟨0, []⟩) ∧ Rd (Nw w.heap.size w') 1 ienc w' f.p.l ∧ Rd (Nw w.heap.size w') 1 ienc w' f.q.l ∧ Below w.heap.size w w'
theorem FrP.cast {w w' : World} {r r' : FrR} {e : Ending} (h : r = r') (x : FrP w w' r' e) : FrP w w' r e := by rw [h]; exact x
theorem rd_st4 {m n g : Nat} {w : World} {s : Sl Int} {x y z v : Value} (hr : Rd (Nw n w) 1 ienc w s) (h1 : ∀ b, n ≤ b → b ≠ g) (hm : m ≤ n) : Rd (Nw m ((((w.setCell ⟨g, 0, none⟩ x).setCell ⟨g, 1, none⟩ y).setCell ⟨g, 2, none⟩ z).setCell ⟨g, 3, none⟩ v)) 1 ienc ((((w.setCell ⟨g, 0, none⟩ x).setCell ⟨g, 1, none⟩ y).setCell ⟨g, 2, none⟩ z).setCell ⟨g, 3, none⟩ v) s :=
  ((((hr.far (fun b hb => h1 b hb.1) _).far (fun b hb => h1 b hb.1) _).far (fun b hb => h1 b hb.1) _).far (fun b hb => h1 b hb.1) _).mono fun b hb => ⟨Nat.le_trans hm hb.1, by simpa using hb.2⟩
theorem below_st4 {B g : Nat} {a w : World} {x y z v : Value} (h : Below B a w) (hg : B ≤ g := by omega) : Below B a ((((w.setCell ⟨g, 0, none⟩ x).setCell ⟨g, 1, none⟩ y).setCell ⟨g, 2, none⟩ z).setCell ⟨g, 3, none⟩ v) := (((h.setCell hg x).setCell hg y).setCell hg z).setCell hg v
theorem below_sa2 {B : Nat} {a w : World} (h : Below B a w) (hB : B ≤ w.heap.size) (o o' : Obj) : Below B a ((w.alloc o).alloc o') := (h.alloc hB o).alloc (by simp; omega) o'
theorem rd_al2 {m n : Nat} {w : World} {s : Sl Int} (h : Rd (Nw n w) 1 ienc w s) (hm : m ≤ n) (o o' : Obj) : Rd (Nw m ((w.alloc o).alloc o')) 1 ienc ((w.alloc o).alloc o') s :=
  h.nw hm (((Below.refl _ _).alloc (Nat.le_refl _) o).alloc (by simp) o')
/-- The part of frac.New that shortens. -/
theorem gcd_fits {p q : Int} (hf : Fits q) (hq : q ≠ 0) : Fits ((Int.gcd p q : Nat) : Int) := by
  refine fits_le hf ?_
  rw [Int.natAbs_natCast]
  exact Nat.le_of_dvd (by omega) (by rw [Int.gcd]; exact Nat.gcd_dvd_right _ _)
set_option maxRecDepth 100000 in
set_option maxHeartbeats 3200000 in
theorem frac_new_pos (a b : Big) (p q : Int) (w : World) (ha : RB w a p) (hb : RB w b q) (hq : 0 < q) : Calls Tryz.prog 168 #[a.v, b.v] w fun e w' => FrP w w' (newI p q) e := by
  obtain ⟨bs, bl⟩ := b
  have hs := hb.s
  rw [Int.sign_eq_one_of_pos hq] at hs
  simp only at hs
  subst hs
  have HA := Lib.hid ha
  have HB := Lib.hid hb
  clear ha hb
  simp only [Big.v]
  go_enter Tryz.func168, Tryz.ntmps168
  go_wp2_with fail
  refine (right_ok a p _ (HA.out.later qbl)).mono ?_
  rintro e w1 ⟨rfl, hb1⟩
  have l0 : w.heap.size < w.heap.size + 1 + 1 := by omega
  have K_a : Blk _ (w.heap.size) 69 #[.int .i64 a.s, .slice a.l.A a.l.l.length a.l.c] := blk_later hb1 (by simp [hp_past, hp_at, hp_other, hp_same, hp_drew, hp_drewN, l0])
  obtain ⟨a0, a1, af, az⟩ := Blk.b2 K_a
  have B_a := Lib.hid K_a
  clear K_a
  have K_b : Blk _ (w.heap.size + 1) 69 #[.int .i64 1, .slice bl.A bl.l.length bl.c] := blk_later hb1 (by simp [hp_past, hp_at, hp_other, hp_same, hp_drew, hp_drewN, l0])
  obtain ⟨b0, b1, bf, bz⟩ := Blk.b2 K_b
  have B_b := Lib.hid K_b
  clear K_b
  have K_r : Blk _ (w.heap.size + 1 + 1) 71 #[.int .i64 0, .slice none 0 0, .int .i64 0, .slice none 0 0] := blk_later hb1 (by simp [hp_past, hp_at, hp_other, hp_same, hp_drew, hp_drewN, l0])
  obtain ⟨r0, r1, r2, r3, rf, rz⟩ := Blk.b4 K_r
  have B_r := Lib.hid K_r
  clear K_r
  have hB1 : Below w.heap.size w w1 := qbv
  clear hb1
  go_wp2_with fail
  refine (right_ok ⟨1, bl⟩ q _ (HB.out.later hB1)).mono ?_
  rintro e w2 ⟨rfl, hb2⟩
  clear a0 a1 af az b0 b1 bf bz r0 r1 r2 r3 rf rz
  have K_a : Blk _ (w.heap.size) 69 #[.int .i64 a.s, .slice a.l.A a.l.l.length a.l.c] := qkc B_a hb2
  obtain ⟨a0, a1, af, az⟩ := Blk.b2 K_a
  have B_a := Lib.hid K_a
  clear K_a
  have K_b : Blk _ (w.heap.size + 1) 69 #[.int .i64 1, .slice bl.A bl.l.length bl.c] := qkc B_b hb2
  obtain ⟨b0, b1, bf, bz⟩ := Blk.b2 K_b
  have B_b := Lib.hid K_b
  clear K_b
  have K_r : Blk _ (w.heap.size + 1 + 1) 71 #[.int .i64 0, .slice none 0 0, .int .i64 0, .slice none 0 0] := qkc B_r hb2
  obtain ⟨r0, r1, r2, r3, rf, rz⟩ := Blk.b4 K_r
  have B_r := Lib.hid K_r
  clear K_r
  have hszw2 := Below.size (hB1)
  have HBw2 : Hid (Below w.heap.size w w2) := Lib.hid qbv
  clear hb2
  go_wp2_with fail
  have HAA := Lib.hid (HA.out.later HBw2.out)
  have HBB := Lib.hid (HB.out.later HBw2.out)
  have hqp := hq
  have HG := big_Gcd (a) (⟨1, bl⟩) (p) (q) w2 HAA.out HBB.out
  rw [opI_fits (gcd_fits HBB.out.fits (Int.ne_of_gt hqp))] at HG
  refine HG.mono ?_
  rintro e w3 ⟨g, rfl, hgd, hgr, hb3⟩
  have hg0 : (0 : Int) < ((Int.gcd (p) (q) : Nat) : Int) := by have := gcd_pos (p := p) (q := q) (by omega); omega
  have HGR : Hid (RB w3 g ((Int.gcd (p) (q) : Nat) : Int)) := Lib.hid (RB.mk' hgr.nwlt hgd (gcd_fits HBB.out.fits (Int.ne_of_gt hqp)))
  clear a0 a1 af az b0 b1 bf bz r0 r1 r2 r3 rf rz
  have K_a : Blk _ (w.heap.size) 69 #[.int .i64 a.s, .slice a.l.A a.l.l.length a.l.c] := qkc B_a hb3
  obtain ⟨a0, a1, af, az⟩ := Blk.b2 K_a
  have B_a := Lib.hid K_a
  clear K_a
  have K_b : Blk _ (w.heap.size + 1) 69 #[.int .i64 1, .slice bl.A bl.l.length bl.c] := qkc B_b hb3
  obtain ⟨b0, b1, bf, bz⟩ := Blk.b2 K_b
  have B_b := Lib.hid K_b
  clear K_b
  have K_r : Blk _ (w.heap.size + 1 + 1) 71 #[.int .i64 0, .slice none 0 0, .int .i64 0, .slice none 0 0] := qkc B_r hb3
  obtain ⟨r0, r1, r2, r3, rf, rz⟩ := Blk.b4 K_r
  have B_r := Lib.hid K_r
  clear K_r
  have hszw3 := Below.size (HBw2.out)
  have HBw3 : Hid (Below w.heap.size w w3) := Lib.hid (by repeat (first | (with_reducible exact HBw2.out) | (with_reducible exact Below.refl _ _) | ((with_reducible refine below_setr ?_ ?_); focus (first | (simp; done) | (simp; omega) | omega)) | ((with_reducible refine below_allocr ?_ ?_); focus (first | (simp; done) | (simp; omega) | omega)) | (with_reducible refine Below.drew ?_) | (with_reducible refine below_drewN ?_ _) | ((with_reducible apply below_via); focus (with_reducible assumption))))
  have hb3c := hb3
  clear hgd hgr hb3 HG
  simp only [Big.v]
  go_wp2_with fail
  have hs3 := HBw3.out.size
  have HB23 : Hid (Below w2.heap.size w2 w3) := Lib.hid hb3c
  have hs3b : w.heap.size + 1 + 1 < w3.heap.size := rz
  refine (big_Div (a) g (p) _ _ (HAA.out.later (HB23.out.alloc HB23.out.size _)) (HGR.out.later ((Below.refl _ _).alloc (Nat.le_refl _) _)) hg0).mono ?_
  rintro e w4 ⟨⟨ps, pl⟩, ⟨us, ul⟩, rfl, hpd, hud, hpr, hur, hb4⟩
  have hs34 : w3.heap.size < w4.heap.size := by have := hb4.size; simp at this; omega
  have HW34 : Hid (Below w3.heap.size w3 w4) := Lib.hid (below_via hb4 ((Below.refl _ _).alloc (Nat.le_refl _) _))
  clear a0 a1 af az b0 b1 bf bz r0 r1 r2 r3 rf rz
  have K_b : Blk _ (w.heap.size + 1) 69 #[.int .i64 1, .slice bl.A bl.l.length bl.c] := qkc B_b hb4
  obtain ⟨b0, b1, bf, bz⟩ := Blk.b2 K_b
  have B_b := Lib.hid K_b
  clear K_b
  have K_r : Blk _ (w.heap.size + 1 + 1) 71 #[.int .i64 0, .slice none 0 0, .int .i64 0, .slice none 0 0] := qkc B_r hb4
  obtain ⟨r0, r1, r2, r3, rf, rz⟩ := Blk.b4 K_r
  have B_r := Lib.hid K_r
  clear K_r
  have K_x : Blk _ (w3.heap.size) 69 #[.int .i64 g.s, .slice g.l.A g.l.l.length g.l.c] := qkb hb4
  obtain ⟨x0, x1, xf, xz⟩ := Blk.b2 K_x
  have B_x := Lib.hid K_x
  clear K_x
  have HPD := Lib.hid hpd
  have HPR : Hid (Rd (Nw w3.heap.size w4) 1 ienc w4 pl) := Lib.hid (hpr.mono fun b hb => hb.mono (by simp) (Nat.le_refl _))
  clear hpd hud hpr hur hb4
  have l5 : w.heap.size < w4.heap.size := by omega
  have l6 : w3.heap.size < w4.heap.size + 1 := by omega
  have l7 : w.heap.size + 1 < w4.heap.size + 1 := by omega
  simp only [Big.v]
  go_wp2_with fail
  refine (big_Div (⟨1, bl⟩) g (q) _ _ (HBB.out.later (below_sa2 (HB23.out.trans (HW34.out.mono HB23.out.size)) (Nat.le_trans HB23.out.size (Nat.le_of_lt hs34)) _ _)) (HGR.out.later ((HW34.out.alloc (by omega) _).alloc (by simp; omega) _)) hg0).mono ?_
  rintro e w5 ⟨⟨qs, ql⟩, ⟨vs, vl⟩, rfl, hqd, hvd, hqr, hvr, hb5⟩
  have hs45 : w4.heap.size + 1 < w5.heap.size := by have := hb5.size; simp at this; omega
  have HW45 : Hid (Below w4.heap.size w4 w5) := Lib.hid (below_via hb5 (((Below.refl _ _).alloc (Nat.le_refl _) _).alloc (by simp) _))
  clear b0 b1 bf bz r0 r1 r2 r3 rf rz x0 x1 xf xz
  have l4 : w.heap.size + 1 + 1 < w4.heap.size + 1 := by omega
  have K_r : Blk _ (w.heap.size + 1 + 1) 71 #[.int .i64 0, .slice none 0 0, .int .i64 0, .slice none 0 0] := blk_later hb5 (by simp [hp_past, hp_at, hp_other, hp_same, hp_drew, hp_drewN, B_r.out.eq, B_r.out.lt, hp_same B_r.out.eq, l4])
  obtain ⟨r0, r1, r2, r3, rf, rz⟩ := Blk.b4 K_r
  have B_r := Lib.hid K_r
  clear K_r
  have K_y : Blk _ (w4.heap.size) 69 #[.int .i64 ps, .slice pl.A pl.l.length pl.c] := qkb hb5
  obtain ⟨y0, y1, yf, yz⟩ := Blk.b2 K_y
  have B_y := Lib.hid K_y
  clear K_y
  have HQD := Lib.hid hqd
  have HPR5 : Hid (Rd (Nw w3.heap.size w5) 1 ienc w5 pl) := Lib.hid (HPR.out.nw (Nat.le_refl _) HW45.out)
  have HQR : Hid (Rd (Nw w3.heap.size w5) 1 ienc w5 ql) := Lib.hid (hqr.mono fun b hb => hb.mono (by simp; omega) (Nat.le_refl _))
  have HW : Hid (Below w.heap.size w w5) := Lib.hid ((HBw3.out.trans (HW34.out.mono (by omega))).trans (HW45.out.mono (by omega)))
  clear hqd hvd hqr hvr hb5 HPR
  have l8 : w.heap.size + 1 < w5.heap.size := by omega
  have l9 : w4.heap.size < w5.heap.size + 1 := by omega
  have l10 : w.heap.size + 1 + 1 < w5.heap.size + 1 := by omega
  simp only [Big.v]
  go_wp2_with fail
  have hne : ∀ b, w3.heap.size ≤ b → b ≠ w.heap.size + 1 + 1 := fun b hb => by omega
  have hrz : (⟨((p) / (Int.gcd (p) (q) : Nat)), ((q) / (Int.gcd (p) (q) : Nat)), 0⟩ : FrR) = newI p q := (newI_pos hq).symm
  have HNE := Lib.hid hrz.symm
  have hle5 : ∀ {x y z v : Value}, w.heap.size ≤ ((((w5.setCell ⟨w.heap.size + 1 + 1, 0, none⟩ x).setCell ⟨w.heap.size + 1 + 1, 1, none⟩ y).setCell ⟨w.heap.size + 1 + 1, 2, none⟩ z).setCell ⟨w.heap.size + 1 + 1, 3, none⟩ v).heap.size := by intros; simp; omega
  clear hrz
  try simp only [Exit.inBlock, Exit.then]
  refine bodyPost_ret (v := .tuple #[.agg #[.int .i64 ps, .slice pl.A pl.l.length pl.c, .int .i64 qs, .slice ql.A ql.l.length ql.c], .int .i64 0]) ?_ rfl (FrP.cast HNE.out ⟨⟨⟨ps, pl⟩, ⟨qs, ql⟩⟩, rfl, fun _ => ⟨HPD.out, HQD.out⟩, fun h => absurd rfl h, rd_al2 (rd_st4 HPR5.out hne (Nat.le_refl _)) (by omega) _ _, rd_al2 (rd_st4 HQR.out hne (Nat.le_refl _)) (by omega) _ _, below_sa2 (below_st4 HW.out) hle5 _ _⟩)
  simp [results, Tryz.results168, go_sem, r0, r1, r2, r3, rz, l10]
theorem newI_neg {p q : Int} (h : q < 0) : newI p q = ⟨(shortI (-p) (-q)).1, (shortI (-p) (-q)).2, 0⟩ := by
  unfold newI
  rw [if_neg (by omega), if_pos h]
set_option maxRecDepth 100000 in
set_option maxHeartbeats 3200000 in
theorem frac_new_neg (a b : Big) (p q : Int) (w : World) (ha : RB w a p) (hb : RB w b q) (hq : q < 0) : Calls Tryz.prog 168 #[a.v, b.v] w fun e w' => FrP w w' (newI p q) e := by
  obtain ⟨bs, bl⟩ := b
  have hs := hb.s
  rw [Int.sign_eq_neg_one_of_neg hq] at hs
  simp only at hs
  subst hs
  have HA := Lib.hid ha
  have HB := Lib.hid hb
  clear ha hb
  simp only [Big.v]
  go_enter Tryz.func168, Tryz.ntmps168
  go_wp2_with fail
  refine (right_ok a p _ (HA.out.later qbl)).mono ?_
  rintro e w1 ⟨rfl, hb1⟩
  have l0 : w.heap.size < w.heap.size + 1 + 1 := by omega
  have K_a : Blk _ (w.heap.size) 69 #[.int .i64 a.s, .slice a.l.A a.l.l.length a.l.c] := blk_later hb1 (by simp [hp_past, hp_at, hp_other, hp_same, hp_drew, hp_drewN, l0])
  obtain ⟨a0, a1, af, az⟩ := Blk.b2 K_a
  have B_a := Lib.hid K_a
  clear K_a
  have K_b : Blk _ (w.heap.size + 1) 69 #[.int .i64 (-1), .slice bl.A bl.l.length bl.c] := blk_later hb1 (by simp [hp_past, hp_at, hp_other, hp_same, hp_drew, hp_drewN, l0])
  obtain ⟨b0, b1, bf, bz⟩ := Blk.b2 K_b
  have B_b := Lib.hid K_b
  clear K_b
  have K_r : Blk _ (w.heap.size + 1 + 1) 71 #[.int .i64 0, .slice none 0 0, .int .i64 0, .slice none 0 0] := blk_later hb1 (by simp [hp_past, hp_at, hp_other, hp_same, hp_drew, hp_drewN, l0])
  obtain ⟨r0, r1, r2, r3, rf, rz⟩ := Blk.b4 K_r
  have B_r := Lib.hid K_r
  clear K_r
  have hB1 : Below w.heap.size w w1 := qbv
  clear hb1
  go_wp2_with fail
  refine (right_ok ⟨-1, bl⟩ q _ (HB.out.later hB1)).mono ?_
  rintro e w2 ⟨rfl, hb2⟩
  clear a0 a1 af az b0 b1 bf bz r0 r1 r2 r3 rf rz
  have K_a : Blk _ (w.heap.size) 69 #[.int .i64 a.s, .slice a.l.A a.l.l.length a.l.c] := qkc B_a hb2
  obtain ⟨a0, a1, af, az⟩ := Blk.b2 K_a
  have B_a := Lib.hid K_a
  clear K_a
  have K_b : Blk _ (w.heap.size + 1) 69 #[.int .i64 (-1), .slice bl.A bl.l.length bl.c] := qkc B_b hb2
  obtain ⟨b0, b1, bf, bz⟩ := Blk.b2 K_b
  have B_b := Lib.hid K_b
  clear K_b
  have K_r : Blk _ (w.heap.size + 1 + 1) 71 #[.int .i64 0, .slice none 0 0, .int .i64 0, .slice none 0 0] := qkc B_r hb2
  obtain ⟨r0, r1, r2, r3, rf, rz⟩ := Blk.b4 K_r
  have B_r := Lib.hid K_r
  clear K_r
  have hszw2 := Below.size (hB1)
  have HBw2 : Hid (Below w.heap.size w w2) := Lib.hid qbv
  have hs12 : w.heap.size + 1 + 1 < w2.heap.size := rz
  clear hb2
  go_wp2_with fail
  refine wp_region_T (fun W => W.cell? ⟨w.heap.size + 1, 0, none⟩ = some (.int .i64 (-1)) ∧ W.cell? ⟨w.heap.size + 1, 1, none⟩ = some (.slice bl.A bl.l.length bl.c)) (fun i => 5 ≤ i) (by kernel_rfl) ⟨b0, b1⟩ (fun hHeld => ?_)
  refine qtq 2 ?_
  simp only [qsa, qsb, qsc]
  clear hHeld
  refine wpAnyT_next (i := 0) (by kernel_rfl) rfl ?_
  go_wp2_with fail
  refine And.intro (by first | exact fun _ => ⟨b0, b1⟩ | exact ⟨b0, b1⟩) ?_
  refine wpAnyT_next (i := 1) (by kernel_rfl) rfl ?_
  go_wp2_with fail
  refine (big_neg a p _ (HA.out.later (Below.drew HBw2.out))).mono ?_
  rintro e w3 ⟨x, rfl, hxd, hxr, hb3⟩
  clear a0 a1 af az b0 b1 bf bz r0 r1 r2 r3 rf rz
  have K_a : Blk _ (w.heap.size) 69 #[.int .i64 a.s, .slice a.l.A a.l.l.length a.l.c] := qkc B_a hb3
  obtain ⟨a0, a1, af, az⟩ := Blk.b2 K_a
  have B_a := Lib.hid K_a
  clear K_a
  have K_b : Blk _ (w.heap.size + 1) 69 #[.int .i64 (-1), .slice bl.A bl.l.length bl.c] := qkc B_b hb3
  obtain ⟨b0, b1, bf, bz⟩ := Blk.b2 K_b
  have B_b := Lib.hid K_b
  clear K_b
  have K_r : Blk _ (w.heap.size + 1 + 1) 71 #[.int .i64 0, .slice none 0 0, .int .i64 0, .slice none 0 0] := qkc B_r hb3
  obtain ⟨r0, r1, r2, r3, rf, rz⟩ := Blk.b4 K_r
  have B_r := Lib.hid K_r
  clear K_r
  have hszw3 := Below.size (HBw2.out)
  have HBw3 : Hid (Below w.heap.size w w3) := Lib.hid (by repeat (first | (with_reducible exact HBw2.out) | (with_reducible exact Below.refl _ _) | ((with_reducible refine below_setr ?_ ?_); focus (first | (simp; done) | (simp; omega) | omega)) | ((with_reducible refine below_allocr ?_ ?_); focus (first | (simp; done) | (simp; omega) | omega)) | (with_reducible refine Below.drew ?_) | (with_reducible refine below_drewN ?_ _) | ((with_reducible apply below_via); focus (with_reducible assumption))))
  have HX := Lib.hid (RB.mk' hxr.nwlt hxd (fits_neg HA.out.fits))
  have HXR := Lib.hid hxr
  have hq23 : w2.heap.size ≤ w3.heap.size := hb3.size
  clear hxd hxr hb3
  simp only [Big.v]
  go_wp2_with fail
  refine And.intro (by first | exact fun _ => ⟨b0, b1⟩ | exact ⟨b0, b1⟩) ?_
  refine wpAnyT_next (i := 3) (by kernel_rfl) rfl ?_
  go_wp2_with fail
  refine (big_neg ⟨-1, bl⟩ q _ (HB.out.later HBw3.out)).mono ?_
  rintro e w4 ⟨y, rfl, hyd, hyr, hb4⟩
  clear a0 a1 af az b0 b1 bf bz r0 r1 r2 r3 rf rz
  have K_a : Blk _ (w.heap.size) 69 #[.int .i64 a.s, .slice a.l.A a.l.l.length a.l.c] := qkc B_a hb4
  obtain ⟨a0, a1, af, az⟩ := Blk.b2 K_a
  have B_a := Lib.hid K_a
  clear K_a
  have K_b : Blk _ (w.heap.size + 1) 69 #[.int .i64 (-1), .slice bl.A bl.l.length bl.c] := qkc B_b hb4
  obtain ⟨b0, b1, bf, bz⟩ := Blk.b2 K_b
  have B_b := Lib.hid K_b
  clear K_b
  have K_r : Blk _ (w.heap.size + 1 + 1) 71 #[.int .i64 0, .slice none 0 0, .int .i64 0, .slice none 0 0] := qkc B_r hb4
  obtain ⟨r0, r1, r2, r3, rf, rz⟩ := Blk.b4 K_r
  have B_r := Lib.hid K_r
  clear K_r
  have hszw4 := Below.size (HBw3.out)
  have HBw4 : Hid (Below w.heap.size w w4) := Lib.hid (by repeat (first | (with_reducible exact HBw3.out) | (with_reducible exact Below.refl _ _) | ((with_reducible refine below_setr ?_ ?_); focus (first | (simp; done) | (simp; omega) | omega)) | ((with_reducible refine below_allocr ?_ ?_); focus (first | (simp; done) | (simp; omega) | omega)) | (with_reducible refine Below.drew ?_) | (with_reducible refine below_drewN ?_ _) | ((with_reducible apply below_via); focus (with_reducible assumption))))
  have HY := Lib.hid (RB.mk' hyr.nwlt hyd (fits_neg HB.out.fits))
  have HX4 := Lib.hid (HX.out.later hb4)
  have HYR := Lib.hid hyr
  have HXR4 := Lib.hid (HXR.out.nw (Nat.le_refl _) hb4)
  have hq34 : w3.heap.size ≤ w4.heap.size := hb4.size
  clear hyd hyr hb4 HXR HX
  simp only [Big.v]
  go_wp2_with fail
  refine And.intro (by first | exact fun _ => ⟨b0, b1⟩ | exact ⟨b0, b1⟩) ?_
  refine wpAnyT_next (i := 4) (by kernel_rfl) rfl ?_
  go_wp2_with fail
  refine And.intro (by first | exact fun _ => ⟨two_keep b0 (by first | omega | (simp; done) | (simp; omega)), two_keep b1 (by first | omega | (simp; done) | (simp; omega))⟩ | exact ⟨two_keep b0 (by first | omega | (simp; done) | (simp; omega)), two_keep b1 (by first | omega | (simp; done) | (simp; omega))⟩) ?_
  refine wpAnyT_next (i := 5) (by kernel_rfl) rfl ?_
  go_wp2_with fail
  try simp only [QT]
  try (with_reducible refine And.intro (fun h => by simp at h) ?_)
  refine wpAnyT_done (by kernel_rfl) ?_ _
  obtain ⟨w6, hw6⟩ : ∃ W, W = ((((w4.setCell ⟨w.heap.size, 0, none⟩ (.int .i64 x.s)).setCell ⟨w.heap.size, 1, none⟩ (.slice x.l.A x.l.l.length x.l.c)).setCell ⟨w.heap.size + 1, 0, none⟩ (.int .i64 y.s)).setCell ⟨w.heap.size + 1, 1, none⟩ (.slice y.l.A y.l.l.length y.l.c)) := ⟨_, rfl⟩
  have hs14 : w2.heap.size ≤ w4.heap.size := Nat.le_trans hq23 hq34
  have hBa : Blk w6 w.heap.size 69 #[.int .i64 x.s, .slice x.l.A x.l.l.length x.l.c] := by
    rw [hw6]
    exact Blk.farr (by simp) (Blk.farr (by simp) ((B_a.out.set_ 0 _).set_ 1 _))
  have hBb : Blk w6 (w.heap.size + 1) 69 #[.int .i64 y.s, .slice y.l.A y.l.l.length y.l.c] := by
    rw [hw6]
    exact (((Blk.farr (by simp) (Blk.farr (by simp) B_b.out)) : Blk _ (w.heap.size + 1) _ _).set_ 0 _).set_ 1 _
  have hBr : Blk w6 (w.heap.size + 1 + 1) 71 #[.int .i64 0, .slice none 0 0, .int .i64 0, .slice none 0 0] := by
    rw [hw6]
    exact Blk.farr (by simp) (Blk.farr (by simp) (Blk.farr (by simp; omega) (Blk.farr (by simp; omega) B_r.out)))
  have hBw : Below w.heap.size w w6 := by
    rw [hw6]
    exact below_two (below_two HBw4.out)
  have hne : ∀ k, w2.heap.size ≤ k → k ≠ w.heap.size ∧ k ≠ w.heap.size + 1 := fun k hk => by omega
  have hXX : RB w6 x (-p) := by
    rw [hw6]
    refine ⟨?_, HX4.out.s, HX4.out.l, HX4.out.fits⟩
    exact ((((HXR4.out.far (fun k hk => (hne k hk.1).1) _).far (fun k hk => (hne k hk.1).1) _).far (fun k hk => (hne k hk.1).2) _).far (fun k hk => (hne k hk.1).2) _).mono fun k hk => by have := hk.2; simpa using this
  have hYY : RB w6 y (-q) := by
    rw [hw6]
    refine ⟨?_, HY.out.s, HY.out.l, HY.out.fits⟩
    exact ((((HYR.out.far (fun k hk => (hne k (Nat.le_trans hq23 hk.1)).1) _).far (fun k hk => (hne k (Nat.le_trans hq23 hk.1)).1) _).far (fun k hk => (hne k (Nat.le_trans hq23 hk.1)).2) _).far (fun k hk => (hne k (Nat.le_trans hq23 hk.1)).2) _).mono fun k hk => by have := hk.2; simpa using this
  rw [← hw6]
  have HAA := Lib.hid hXX
  have HBB := Lib.hid hYY
  have HBw6 := Lib.hid hBw
  clear hw6 hXX hYY hBw hne HX4 HY HXR4 HYR HBw2 HBw3 HBw4 B_a B_b B_r a0 a1 af az b0 b1 bf bz r0 r1 r2 r3 rf rz hszw2 hszw3 hszw4 hs12 hs14 hB1 hq23 hq34
  obtain ⟨a0, a1, af, az⟩ := hBa.b2
  obtain ⟨b0, b1, bf, bz⟩ := hBb.b2
  obtain ⟨r0, r1, r2, r3, rf, rz⟩ := hBr.b4
  have B_a := Lib.hid hBa
  have B_b := Lib.hid hBb
  have B_r := Lib.hid hBr
  have HBw2 := HBw6
  clear hBa hBb hBr HBw6
  obtain ⟨w2, hw2⟩ : ∃ x, x = w6 := ⟨_, rfl⟩
  subst hw2
  have hqp : 0 < -q := by omega
  go_wp2_with fail
  have HG := big_Gcd (x) (y) (-p) (-q) w2 HAA.out HBB.out
  rw [opI_fits (gcd_fits HBB.out.fits (Int.ne_of_gt hqp))] at HG
  refine HG.mono ?_
  rintro e w3 ⟨g, rfl, hgd, hgr, hb3⟩
  have hg0 : (0 : Int) < ((Int.gcd (-p) (-q) : Nat) : Int) := by have := gcd_pos (p := -p) (q := -q) (by omega); omega
  have HGR : Hid (RB w3 g ((Int.gcd (-p) (-q) : Nat) : Int)) := Lib.hid (RB.mk' hgr.nwlt hgd (gcd_fits HBB.out.fits (Int.ne_of_gt hqp)))
  clear a0 a1 af az b0 b1 bf bz r0 r1 r2 r3 rf rz
  have K_a : Blk _ (w.heap.size) 69 #[.int .i64 x.s, .slice x.l.A x.l.l.length x.l.c] := qkc B_a hb3
  obtain ⟨a0, a1, af, az⟩ := Blk.b2 K_a
  have B_a := Lib.hid K_a
  clear K_a
  have K_b : Blk _ (w.heap.size + 1) 69 #[.int .i64 y.s, .slice y.l.A y.l.l.length y.l.c] := qkc B_b hb3
  obtain ⟨b0, b1, bf, bz⟩ := Blk.b2 K_b
  have B_b := Lib.hid K_b
  clear K_b
  have K_r : Blk _ (w.heap.size + 1 + 1) 71 #[.int .i64 0, .slice none 0 0, .int .i64 0, .slice none 0 0] := qkc B_r hb3
  obtain ⟨r0, r1, r2, r3, rf, rz⟩ := Blk.b4 K_r
  have B_r := Lib.hid K_r
  clear K_r
  have hszw3 := Below.size (HBw2.out)
  have HBw3 : Hid (Below w.heap.size w w3) := Lib.hid (by repeat (first | (with_reducible exact HBw2.out) | (with_reducible exact Below.refl _ _) | ((with_reducible refine below_setr ?_ ?_); focus (first | (simp; done) | (simp; omega) | omega)) | ((with_reducible refine below_allocr ?_ ?_); focus (first | (simp; done) | (simp; omega) | omega)) | (with_reducible refine Below.drew ?_) | (with_reducible refine below_drewN ?_ _) | ((with_reducible apply below_via); focus (with_reducible assumption))))
  have hb3c := hb3
  clear hgd hgr hb3 HG
  simp only [Big.v]
  go_wp2_with fail
  have hs3 := HBw3.out.size
  have HB23 : Hid (Below w2.heap.size w2 w3) := Lib.hid hb3c
  have hs3b : w.heap.size + 1 + 1 < w3.heap.size := rz
  refine (big_Div (x) g (-p) _ _ (HAA.out.later (HB23.out.alloc HB23.out.size _)) (HGR.out.later ((Below.refl _ _).alloc (Nat.le_refl _) _)) hg0).mono ?_
  rintro e w4 ⟨⟨ps, pl⟩, ⟨us, ul⟩, rfl, hpd, hud, hpr, hur, hb4⟩
  have hs34 : w3.heap.size < w4.heap.size := by have := hb4.size; simp at this; omega
  have HW34 : Hid (Below w3.heap.size w3 w4) := Lib.hid (below_via hb4 ((Below.refl _ _).alloc (Nat.le_refl _) _))
  clear a0 a1 af az b0 b1 bf bz r0 r1 r2 r3 rf rz
  have K_b : Blk _ (w.heap.size + 1) 69 #[.int .i64 y.s, .slice y.l.A y.l.l.length y.l.c] := qkc B_b hb4
  obtain ⟨b0, b1, bf, bz⟩ := Blk.b2 K_b
  have B_b := Lib.hid K_b
  clear K_b
  have K_r : Blk _ (w.heap.size + 1 + 1) 71 #[.int .i64 0, .slice none 0 0, .int .i64 0, .slice none 0 0] := qkc B_r hb4
  obtain ⟨r0, r1, r2, r3, rf, rz⟩ := Blk.b4 K_r
  have B_r := Lib.hid K_r
  clear K_r
  have K_x : Blk _ (w3.heap.size) 69 #[.int .i64 g.s, .slice g.l.A g.l.l.length g.l.c] := qkb hb4
  obtain ⟨x0, x1, xf, xz⟩ := Blk.b2 K_x
  have B_x := Lib.hid K_x
  clear K_x
  have HPD := Lib.hid hpd
  have HPR : Hid (Rd (Nw w3.heap.size w4) 1 ienc w4 pl) := Lib.hid (hpr.mono fun b hb => hb.mono (by simp) (Nat.le_refl _))
  clear hpd hud hpr hur hb4
  have l5 : w.heap.size < w4.heap.size := by omega
  have l6 : w3.heap.size < w4.heap.size + 1 := by omega
  have l7 : w.heap.size + 1 < w4.heap.size + 1 := by omega
  simp only [Big.v]
  go_wp2_with fail
  refine (big_Div (y) g (-q) _ _ (HBB.out.later (below_sa2 (HB23.out.trans (HW34.out.mono HB23.out.size)) (Nat.le_trans HB23.out.size (Nat.le_of_lt hs34)) _ _)) (HGR.out.later ((HW34.out.alloc (by omega) _).alloc (by simp; omega) _)) hg0).mono ?_
  rintro e w5 ⟨⟨qs, ql⟩, ⟨vs, vl⟩, rfl, hqd, hvd, hqr, hvr, hb5⟩
  have hs45 : w4.heap.size + 1 < w5.heap.size := by have := hb5.size; simp at this; omega
  have HW45 : Hid (Below w4.heap.size w4 w5) := Lib.hid (below_via hb5 (((Below.refl _ _).alloc (Nat.le_refl _) _).alloc (by simp) _))
  clear b0 b1 bf bz r0 r1 r2 r3 rf rz x0 x1 xf xz
  have l4 : w.heap.size + 1 + 1 < w4.heap.size + 1 := by omega
  have K_r : Blk _ (w.heap.size + 1 + 1) 71 #[.int .i64 0, .slice none 0 0, .int .i64 0, .slice none 0 0] := blk_later hb5 (by simp [hp_past, hp_at, hp_other, hp_same, hp_drew, hp_drewN, B_r.out.eq, B_r.out.lt, hp_same B_r.out.eq, l4])
  obtain ⟨r0, r1, r2, r3, rf, rz⟩ := Blk.b4 K_r
  have B_r := Lib.hid K_r
  clear K_r
  have K_y : Blk _ (w4.heap.size) 69 #[.int .i64 ps, .slice pl.A pl.l.length pl.c] := qkb hb5
  obtain ⟨y0, y1, yf, yz⟩ := Blk.b2 K_y
  have B_y := Lib.hid K_y
  clear K_y
  have HQD := Lib.hid hqd
  have HPR5 : Hid (Rd (Nw w3.heap.size w5) 1 ienc w5 pl) := Lib.hid (HPR.out.nw (Nat.le_refl _) HW45.out)
  have HQR : Hid (Rd (Nw w3.heap.size w5) 1 ienc w5 ql) := Lib.hid (hqr.mono fun b hb => hb.mono (by simp; omega) (Nat.le_refl _))
  have HW : Hid (Below w.heap.size w w5) := Lib.hid ((HBw3.out.trans (HW34.out.mono (by omega))).trans (HW45.out.mono (by omega)))
  clear hqd hvd hqr hvr hb5 HPR
  have l8 : w.heap.size + 1 < w5.heap.size := by omega
  have l9 : w4.heap.size < w5.heap.size + 1 := by omega
  have l10 : w.heap.size + 1 + 1 < w5.heap.size + 1 := by omega
  simp only [Big.v]
  go_wp2_with fail
  have hne : ∀ b, w3.heap.size ≤ b → b ≠ w.heap.size + 1 + 1 := fun b hb => by omega
  have hrz : (⟨((-p) / (Int.gcd (-p) (-q) : Nat)), ((-q) / (Int.gcd (-p) (-q) : Nat)), 0⟩ : FrR) = newI p q := (newI_neg hq).symm
  have HNE := Lib.hid hrz.symm
  have hle5 : ∀ {x y z v : Value}, w.heap.size ≤ ((((w5.setCell ⟨w.heap.size + 1 + 1, 0, none⟩ x).setCell ⟨w.heap.size + 1 + 1, 1, none⟩ y).setCell ⟨w.heap.size + 1 + 1, 2, none⟩ z).setCell ⟨w.heap.size + 1 + 1, 3, none⟩ v).heap.size := by intros; simp; omega
  clear hrz
  try simp only [Exit.inBlock, Exit.then]
  refine bodyPost_ret (v := .tuple #[.agg #[.int .i64 ps, .slice pl.A pl.l.length pl.c, .int .i64 qs, .slice ql.A ql.l.length ql.c], .int .i64 0]) ?_ rfl (FrP.cast HNE.out ⟨⟨⟨ps, pl⟩, ⟨qs, ql⟩⟩, rfl, fun _ => ⟨HPD.out, HQD.out⟩, fun h => absurd rfl h, rd_al2 (rd_st4 HPR5.out hne (Nat.le_refl _)) (by omega) _ _, rd_al2 (rd_st4 HQR.out hne (Nat.le_refl _)) (by omega) _ _, below_sa2 (below_st4 HW.out) hle5 _ _⟩)
  simp [results, Tryz.results168, go_sem, r0, r1, r2, r3, rz, l10]
theorem frac_new (a b : Big) (p q : Int) (w : World) (ha : RB w a p) (hb : RB w b q) (hq : q ≠ 0) : Calls Tryz.prog 168 #[a.v, b.v] w fun e w' => FrP w w' (newI p q) e := by
  rcases Int.lt_or_lt_of_ne hq with h | h
  · exact frac_new_neg a b p q w ha hb h
  · exact frac_new_pos a b p q w ha hb h
end Go.Proofs.YtcgocdhhneckhaaGreat
