/- Walks: eval.apply. -/
import Derived.Test.YtcgocdhhneckhaaGreatFnammxbc
namespace Go.Proofs.YtcgocdhhneckhaaGreat
open Go.RowKit
variable {X : Nat → Prop}
theorem appF_4 (a b : FrR) : appF 4 a b = addF a.p a.q b.p b.q := by unfold appF; rw [if_pos rfl]
theorem appF_5 (a b : FrR) : appF 5 a b = subF a.p a.q b.p b.q := by unfold appF; rw [if_neg (by decide), if_pos rfl]
theorem appF_6 (a b : FrR) : appF 6 a b = mulF a.p a.q b.p b.q := by unfold appF; rw [if_neg (by decide), if_neg (by decide), if_pos rfl]
theorem appF_7 (a b : FrR) : appF 7 a b = divF a.p a.q b.p b.q := by unfold appF; rw [if_neg (by decide), if_neg (by decide), if_neg (by decide), if_pos rfl]
theorem appF_10 (a b : FrR) : appF 10 a b = truF (decide (cmpI a.p a.q b.p b.q < 0)) := by unfold appF; rw [if_neg (by decide), if_neg (by decide), if_neg (by decide), if_neg (by decide), if_pos rfl]
theorem appF_11 (a b : FrR) : appF 11 a b = truF (decide (cmpI a.p a.q b.p b.q = 0)) := by unfold appF; rw [if_neg (by decide), if_neg (by decide), if_neg (by decide), if_neg (by decide), if_neg (by decide), if_pos rfl]
theorem RG.newX {w : World} {f : Frc} {p q : Int} {n g : Nat} {x y z v : Value} (h : RG (Nw n w) w f p q) (hg : g < n) (hX : ∀ b, X b → b < n) : RG (Nm X ((((w.setCell ⟨g, 0, none⟩ x).setCell ⟨g, 1, none⟩ y).setCell ⟨g, 2, none⟩ z).setCell ⟨g, 3, none⟩ v)) ((((w.setCell ⟨g, 0, none⟩ x).setCell ⟨g, 1, none⟩ y).setCell ⟨g, 2, none⟩ z).setCell ⟨g, 3, none⟩ v) f p q :=
  (h.st4x (fun b hb => by have := hb.1; omega)).mono fun b hb => ⟨by simpa using hb.2, fun hx => by have := hX b hx; have := hb.1; omega⟩
theorem RG.oldX {w0 w : World} {f : Frc} {p q : Int} {g : Nat} {x y z v : Value} (h : RG (Nm X w0) w f p q) (hg : w0.heap.size ≤ g) (hs : w0.heap.size ≤ w.heap.size) : RG (Nm X ((((w.setCell ⟨g, 0, none⟩ x).setCell ⟨g, 1, none⟩ y).setCell ⟨g, 2, none⟩ z).setCell ⟨g, 3, none⟩ v)) ((((w.setCell ⟨g, 0, none⟩ x).setCell ⟨g, 1, none⟩ y).setCell ⟨g, 2, none⟩ z).setCell ⟨g, 3, none⟩ v) f p q :=
  (h.st4x (fun b hb => by have := hb.1; omega)).mono fun b hb => ⟨by have := hb.1; simp; omega, hb.2⟩
theorem appF_m {op : Int} (a b : FrR) (h4 : ¬ op = 4) (h5 : ¬ op = 5) (h6 : ¬ op = 6) (h7 : ¬ op = 7) (h10 : ¬ op = 10) (h11 : ¬ op = 11) : appF op a b = if decide (cmpI a.p a.q b.p b.q > 0) = decide (op = 8) then b else a := by
  unfold appF
  rw [if_neg h4, if_neg h5, if_neg h6, if_neg h7, if_neg h10, if_neg h11]
theorem truF_is (b : Bool) : truF b = ⟨(truF b).p, (truF b).q, 0⟩ := rfl
set_option maxRecDepth 100000 in
set_option maxHeartbeats 3200000 in
theorem ev_apply (X : Nat → Prop) (op : Int) (f g : Frc) (p q r s : Int) (w : World) (hX : ∀ b, X b → b < w.heap.size) (hf : RG (Nm X w) w f p q) (hg : RG (Nm X w) w g r s) :
    Calls Tryz.prog 108 #[.int .i64 op, f.v, g.v] w fun e w' => ApP X w w' (appF op ⟨p, q, 0⟩ ⟨r, s, 0⟩) e := by
  have HF := Lib.hid hf
  have HG := Lib.hid hg
  clear hf hg
  obtain ⟨V, hV⟩ : ∃ V, appF op ⟨p, q, 0⟩ ⟨r, s, 0⟩ = V := ⟨_, rfl⟩
  rw [hV]
  have HV := Lib.hid hV
  clear hV
  simp only [Frc.v]
  go_enter Tryz.func108, Tryz.ntmps108
  go_wp2_with fail
  have HB : Hid (Below w.heap.size w (((w.alloc (.cells #[.int .i64 f.p.s, .slice f.p.l.A f.p.l.l.length f.p.l.c, .int .i64 f.q.s, .slice f.q.l.A f.q.l.l.length f.q.l.c] 71)).alloc (.cells #[.int .i64 g.p.s, .slice g.p.l.A g.p.l.l.length g.p.l.c, .int .i64 g.q.s, .slice g.q.l.A g.q.l.l.length g.q.l.c] 71)).alloc (.cells #[.int .i64 0, .slice none 0 0, .int .i64 0, .slice none 0 0] 71))) := Lib.hid qbl
  have HA : Hid (Blk (((w.alloc (.cells #[.int .i64 f.p.s, .slice f.p.l.A f.p.l.l.length f.p.l.c, .int .i64 f.q.s, .slice f.q.l.A f.q.l.l.length f.q.l.c] 71)).alloc (.cells #[.int .i64 g.p.s, .slice g.p.l.A g.p.l.l.length g.p.l.c, .int .i64 g.q.s, .slice g.q.l.A g.q.l.l.length g.q.l.c] 71)).alloc (.cells #[.int .i64 0, .slice none 0 0, .int .i64 0, .slice none 0 0] 71)) w.heap.size 71 #[.int .i64 f.p.s, .slice f.p.l.A f.p.l.l.length f.p.l.c, .int .i64 f.q.s, .slice f.q.l.A f.q.l.l.length f.q.l.c]) := Lib.hid (((Blk.new _ _ _).alloc _).alloc _)
  have HC : Hid (Blk (((w.alloc (.cells #[.int .i64 f.p.s, .slice f.p.l.A f.p.l.l.length f.p.l.c, .int .i64 f.q.s, .slice f.q.l.A f.q.l.l.length f.q.l.c] 71)).alloc (.cells #[.int .i64 g.p.s, .slice g.p.l.A g.p.l.l.length g.p.l.c, .int .i64 g.q.s, .slice g.q.l.A g.q.l.l.length g.q.l.c] 71)).alloc (.cells #[.int .i64 0, .slice none 0 0, .int .i64 0, .slice none 0 0] 71)) (w.heap.size + 1) 71 #[.int .i64 g.p.s, .slice g.p.l.A g.p.l.l.length g.p.l.c, .int .i64 g.q.s, .slice g.q.l.A g.q.l.l.length g.q.l.c]) := Lib.hid ((Blk.new' (by simp)).alloc _)
  have HD : Hid (Blk (((w.alloc (.cells #[.int .i64 f.p.s, .slice f.p.l.A f.p.l.l.length f.p.l.c, .int .i64 f.q.s, .slice f.q.l.A f.q.l.l.length f.q.l.c] 71)).alloc (.cells #[.int .i64 g.p.s, .slice g.p.l.A g.p.l.l.length g.p.l.c, .int .i64 g.q.s, .slice g.q.l.A g.q.l.l.length g.q.l.c] 71)).alloc (.cells #[.int .i64 0, .slice none 0 0, .int .i64 0, .slice none 0 0] 71)) (w.heap.size + 1 + 1) 71 #[.int .i64 0, .slice none 0 0, .int .i64 0, .slice none 0 0]) := Lib.hid (Blk.new' (by simp))
  generalize ((w.alloc (.cells #[.int .i64 f.p.s, .slice f.p.l.A f.p.l.l.length f.p.l.c, .int .i64 f.q.s, .slice f.q.l.A f.q.l.l.length f.q.l.c] 71)).alloc (.cells #[.int .i64 g.p.s, .slice g.p.l.A g.p.l.l.length g.p.l.c, .int .i64 g.q.s, .slice g.q.l.A g.q.l.l.length g.q.l.c] 71)).alloc (.cells #[.int .i64 0, .slice none 0 0, .int .i64 0, .slice none 0 0] 71) = w1 at *
  have HF1 := Lib.hid (HF.out.more HB.out (Mor.refl _ _ _))
  have HG1 := Lib.hid (HG.out.more HB.out (Mor.refl _ _ _))
  refine (frac_cmp f g p q r s _ (HF1.out.rf nm_lt) (HG1.out.rf nm_lt)).mono ?_
  rintro e w2 ⟨rfl, hb2⟩
  have HB2 : Hid (Below w.heap.size w w2) := Lib.hid (HB.out.trans (hb2.mono HB.out.size))
  have HFO : Hid (RG (Nm X w) w2 f p q) := Lib.hid (HF.out.keep (fun b hb => HB2.out.block b hb.1))
  have HGO : Hid (RG (Nm X w) w2 g r s) := Lib.hid (HG.out.keep (fun b hb => HB2.out.block b hb.1))
  have HF2 := Lib.hid (HF1.out.more hb2 (Mor.refl _ _ _))
  have HG2 := Lib.hid (HG1.out.more hb2 (Mor.refl _ _ _))
  have HAA := Lib.hid (HA.out.later hb2)
  have HCC := Lib.hid (HC.out.later hb2)
  have HDD := Lib.hid (HD.out.later hb2)
  clear hb2 HF1 HG1 HA HC HD HF HG
  obtain ⟨a0, a1, a2, a3, af, az⟩ := HAA.out.b4
  obtain ⟨b0, b1, b2, b3, bf, bz⟩ := HCC.out.b4
  obtain ⟨r0, r1, r2, r3, rf, rz⟩ := HDD.out.b4
  obtain ⟨C, hC⟩ : ∃ C, cmpI p q r s = C := ⟨_, rfl⟩
  rw [hC]
  have HCM := Lib.hid hC
  clear hC
  by_cases h4 : op = 4
  · subst h4
    go_wp2_with fail
    refine (frac_Add f g p q r s _ (HF2.out.rf nm_lt) (HG2.out.rf nm_lt)).mono ?_
    rintro e w3 hp
    have hok := addF_OK HF2.out.ok HG2.out.ok
    have hv := HV.out
    rw [appF_4] at hv
    simp only at hv
    rw [hv] at hp hok
    by_cases he : V.e = 0
    · obtain ⟨x, rfl, hx, hb3⟩ := hp.yes he (hok.yes he)
      have HX := Lib.hid hx
      have HDW := Lib.hid (HDD.out.later hb3)
      have HB3 : Hid (Below w.heap.size w w3) := Lib.hid (HB2.out.trans (hb3.mono HB2.out.size))
      have hs23 : w2.heap.size ≤ w3.heap.size := hb3.size
      have HE := Lib.hid he
      clear hx hb3 hp hok hv he
      simp only [Frc.v]
      go_wp2_with fail
      refine (ev_must_ok x _).mono ?_
      rintro e w4 ⟨rfl, hb4⟩
      have HX4 := Lib.hid (HX.out.nw (Nat.le_refl _) hb4)
      have HB4 : Hid (Below w.heap.size w w4) := Lib.hid (HB3.out.trans (hb4.mono HB3.out.size))
      clear r0 r1 r2 r3 rf rz
      obtain ⟨r0, r1, r2, r3, rf, rz⟩ := (HDW.out.later hb4).b4
      have hsz : w2.heap.size ≤ w4.heap.size := Nat.le_trans hs23 hb4.size
      clear hb4
      simp only [Frc.v]
      go_wp2_with fail
      have hm2 := HB2.out.size
      try simp only [Exit.inBlock, Exit.then]
      refine bodyPost_ret (v := .agg #[.int .i64 x.p.s, .slice x.p.l.A x.p.l.l.length x.p.l.c, .int .i64 x.q.s, .slice x.q.l.A x.q.l.l.length x.q.l.c]) ?_ rfl ⟨.inl ⟨HE.out, x, rfl, HX4.out.newX HDD.out.lt (fun b hb => Nat.lt_of_lt_of_le (hX b hb) hm2)⟩, below_st4 HB4.out⟩
      simp [results, Tryz.results108, go_sem, r0, r1, r2, r3]
    · obtain ⟨x, rfl, hb3⟩ := hp.no
      have HDW := Lib.hid (HDD.out.later hb3)
      have HB3 : Hid (Below w.heap.size w w3) := Lib.hid (HB2.out.trans (hb3.mono HB2.out.size))
      have HE := Lib.hid he
      clear hb3 hp hok hv he
      simp only [Frc.v]
      go_wp2_with fail
      refine (ev_must_no x V.e _ HE.out).mono ?_
      rintro e w4 ⟨he4, hb4⟩
      unfold ErrV at he4
      subst he4
      have HB4 : Hid (Below w.heap.size w w4) := Lib.hid (HB3.out.trans (hb4.mono HB3.out.size))
      clear hb4
      go_wp2_with fail
      exact ⟨rfl, .inr ⟨HE.out, rfl⟩, HB4.out⟩
  by_cases h5 : op = 5
  · subst h5
    go_wp2_with fail
    refine (frac_Sub f g p q r s _ (HF2.out.rf nm_lt) (HG2.out.rf nm_lt)).mono ?_
    rintro e w3 hp
    have hok := subF_OK HF2.out.ok HG2.out.ok
    have hv := HV.out
    rw [appF_5] at hv
    simp only at hv
    rw [hv] at hp hok
    by_cases he : V.e = 0
    · obtain ⟨x, rfl, hx, hb3⟩ := hp.yes he (hok.yes he)
      have HX := Lib.hid hx
      have HDW := Lib.hid (HDD.out.later hb3)
      have HB3 : Hid (Below w.heap.size w w3) := Lib.hid (HB2.out.trans (hb3.mono HB2.out.size))
      have hs23 : w2.heap.size ≤ w3.heap.size := hb3.size
      have HE := Lib.hid he
      clear hx hb3 hp hok hv he
      simp only [Frc.v]
      go_wp2_with fail
      refine (ev_must_ok x _).mono ?_
      rintro e w4 ⟨rfl, hb4⟩
      have HX4 := Lib.hid (HX.out.nw (Nat.le_refl _) hb4)
      have HB4 : Hid (Below w.heap.size w w4) := Lib.hid (HB3.out.trans (hb4.mono HB3.out.size))
      clear r0 r1 r2 r3 rf rz
      obtain ⟨r0, r1, r2, r3, rf, rz⟩ := (HDW.out.later hb4).b4
      have hsz : w2.heap.size ≤ w4.heap.size := Nat.le_trans hs23 hb4.size
      clear hb4
      simp only [Frc.v]
      go_wp2_with fail
      have hm2 := HB2.out.size
      try simp only [Exit.inBlock, Exit.then]
      refine bodyPost_ret (v := .agg #[.int .i64 x.p.s, .slice x.p.l.A x.p.l.l.length x.p.l.c, .int .i64 x.q.s, .slice x.q.l.A x.q.l.l.length x.q.l.c]) ?_ rfl ⟨.inl ⟨HE.out, x, rfl, HX4.out.newX HDD.out.lt (fun b hb => Nat.lt_of_lt_of_le (hX b hb) hm2)⟩, below_st4 HB4.out⟩
      simp [results, Tryz.results108, go_sem, r0, r1, r2, r3]
    · obtain ⟨x, rfl, hb3⟩ := hp.no
      have HDW := Lib.hid (HDD.out.later hb3)
      have HB3 : Hid (Below w.heap.size w w3) := Lib.hid (HB2.out.trans (hb3.mono HB2.out.size))
      have HE := Lib.hid he
      clear hb3 hp hok hv he
      simp only [Frc.v]
      go_wp2_with fail
      refine (ev_must_no x V.e _ HE.out).mono ?_
      rintro e w4 ⟨he4, hb4⟩
      unfold ErrV at he4
      subst he4
      have HB4 : Hid (Below w.heap.size w w4) := Lib.hid (HB3.out.trans (hb4.mono HB3.out.size))
      clear hb4
      go_wp2_with fail
      exact ⟨rfl, .inr ⟨HE.out, rfl⟩, HB4.out⟩
  by_cases h6 : op = 6
  · subst h6
    go_wp2_with fail
    refine (frac_Mul f g p q r s _ (HF2.out.rf nm_lt) (HG2.out.rf nm_lt)).mono ?_
    rintro e w3 hp
    have hok := mulF_OK HF2.out.ok HG2.out.ok
    have hv := HV.out
    rw [appF_6] at hv
    simp only at hv
    rw [hv] at hp hok
    by_cases he : V.e = 0
    · obtain ⟨x, rfl, hx, hb3⟩ := hp.yes he (hok.yes he)
      have HX := Lib.hid hx
      have HDW := Lib.hid (HDD.out.later hb3)
      have HB3 : Hid (Below w.heap.size w w3) := Lib.hid (HB2.out.trans (hb3.mono HB2.out.size))
      have hs23 : w2.heap.size ≤ w3.heap.size := hb3.size
      have HE := Lib.hid he
      clear hx hb3 hp hok hv he
      simp only [Frc.v]
      go_wp2_with fail
      refine (ev_must_ok x _).mono ?_
      rintro e w4 ⟨rfl, hb4⟩
      have HX4 := Lib.hid (HX.out.nw (Nat.le_refl _) hb4)
      have HB4 : Hid (Below w.heap.size w w4) := Lib.hid (HB3.out.trans (hb4.mono HB3.out.size))
      clear r0 r1 r2 r3 rf rz
      obtain ⟨r0, r1, r2, r3, rf, rz⟩ := (HDW.out.later hb4).b4
      have hsz : w2.heap.size ≤ w4.heap.size := Nat.le_trans hs23 hb4.size
      clear hb4
      simp only [Frc.v]
      go_wp2_with fail
      have hm2 := HB2.out.size
      try simp only [Exit.inBlock, Exit.then]
      refine bodyPost_ret (v := .agg #[.int .i64 x.p.s, .slice x.p.l.A x.p.l.l.length x.p.l.c, .int .i64 x.q.s, .slice x.q.l.A x.q.l.l.length x.q.l.c]) ?_ rfl ⟨.inl ⟨HE.out, x, rfl, HX4.out.newX HDD.out.lt (fun b hb => Nat.lt_of_lt_of_le (hX b hb) hm2)⟩, below_st4 HB4.out⟩
      simp [results, Tryz.results108, go_sem, r0, r1, r2, r3]
    · obtain ⟨x, rfl, hb3⟩ := hp.no
      have HDW := Lib.hid (HDD.out.later hb3)
      have HB3 : Hid (Below w.heap.size w w3) := Lib.hid (HB2.out.trans (hb3.mono HB2.out.size))
      have HE := Lib.hid he
      clear hb3 hp hok hv he
      simp only [Frc.v]
      go_wp2_with fail
      refine (ev_must_no x V.e _ HE.out).mono ?_
      rintro e w4 ⟨he4, hb4⟩
      unfold ErrV at he4
      subst he4
      have HB4 : Hid (Below w.heap.size w w4) := Lib.hid (HB3.out.trans (hb4.mono HB3.out.size))
      clear hb4
      go_wp2_with fail
      exact ⟨rfl, .inr ⟨HE.out, rfl⟩, HB4.out⟩
  by_cases h7 : op = 7
  · subst h7
    go_wp2_with fail
    refine (frac_Div f g p q r s _ (HF2.out.rf nm_lt) (HG2.out.rf nm_lt)).mono ?_
    rintro e w3 hp
    have hok := divF_OK HF2.out.ok HG2.out.ok
    have hv := HV.out
    rw [appF_7] at hv
    simp only at hv
    rw [hv] at hp hok
    by_cases he : V.e = 0
    · obtain ⟨x, rfl, hx, hb3⟩ := hp.yes he (hok.yes he)
      have HX := Lib.hid hx
      have HDW := Lib.hid (HDD.out.later hb3)
      have HB3 : Hid (Below w.heap.size w w3) := Lib.hid (HB2.out.trans (hb3.mono HB2.out.size))
      have hs23 : w2.heap.size ≤ w3.heap.size := hb3.size
      have HE := Lib.hid he
      clear hx hb3 hp hok hv he
      simp only [Frc.v]
      go_wp2_with fail
      refine (ev_must_ok x _).mono ?_
      rintro e w4 ⟨rfl, hb4⟩
      have HX4 := Lib.hid (HX.out.nw (Nat.le_refl _) hb4)
      have HB4 : Hid (Below w.heap.size w w4) := Lib.hid (HB3.out.trans (hb4.mono HB3.out.size))
      clear r0 r1 r2 r3 rf rz
      obtain ⟨r0, r1, r2, r3, rf, rz⟩ := (HDW.out.later hb4).b4
      have hsz : w2.heap.size ≤ w4.heap.size := Nat.le_trans hs23 hb4.size
      clear hb4
      simp only [Frc.v]
      go_wp2_with fail
      have hm2 := HB2.out.size
      try simp only [Exit.inBlock, Exit.then]
      refine bodyPost_ret (v := .agg #[.int .i64 x.p.s, .slice x.p.l.A x.p.l.l.length x.p.l.c, .int .i64 x.q.s, .slice x.q.l.A x.q.l.l.length x.q.l.c]) ?_ rfl ⟨.inl ⟨HE.out, x, rfl, HX4.out.newX HDD.out.lt (fun b hb => Nat.lt_of_lt_of_le (hX b hb) hm2)⟩, below_st4 HB4.out⟩
      simp [results, Tryz.results108, go_sem, r0, r1, r2, r3]
    · obtain ⟨x, rfl, hb3⟩ := hp.no
      have HDW := Lib.hid (HDD.out.later hb3)
      have HB3 : Hid (Below w.heap.size w w3) := Lib.hid (HB2.out.trans (hb3.mono HB2.out.size))
      have HE := Lib.hid he
      clear hb3 hp hok hv he
      simp only [Frc.v]
      go_wp2_with fail
      refine (ev_must_no x V.e _ HE.out).mono ?_
      rintro e w4 ⟨he4, hb4⟩
      unfold ErrV at he4
      subst he4
      have HB4 : Hid (Below w.heap.size w w4) := Lib.hid (HB3.out.trans (hb4.mono HB3.out.size))
      clear hb4
      go_wp2_with fail
      exact ⟨rfl, .inr ⟨HE.out, rfl⟩, HB4.out⟩
  by_cases h10 : op = 10
  · subst h10
    have hv := HV.out
    rw [appF_10] at hv
    simp only [HCM.out] at hv
    go_wp2_with fail
    refine (ev_truth (decide (C < 0)) _).mono ?_
    rintro e w3 ⟨x, rfl, hx, hb3⟩
    obtain ⟨TB, hTB⟩ : ∃ TB, TB = truF (decide (C < 0)) := ⟨_, rfl⟩
    rw [← hTB] at hx
    have hVT : V = TB := by rw [hTB, ← hv]; (try congr 1)
    have h0 : TB.e = 0 := by rw [hTB]; rfl
    have HX : Hid (RG (Nw w2.heap.size w3) w3 x V.p V.q) := Lib.hid (by rw [hVT]; exact hx)
    have HE : Hid (V.e = 0) := Lib.hid (by rw [hVT]; exact h0)
    have HB3 : Hid (Below w.heap.size w w3) := Lib.hid (HB2.out.trans (hb3.mono HB2.out.size))
    clear r0 r1 r2 r3 rf rz
    obtain ⟨r0, r1, r2, r3, rf, rz⟩ := (HDD.out.later hb3).b4
    have hsz : w2.heap.size ≤ w3.heap.size := hb3.size
    clear hx hVT h0 hTB hv hb3
    simp only [Frc.v]
    go_wp2_with fail
    have hm2 := HB2.out.size
    try simp only [Exit.inBlock, Exit.then]
    refine bodyPost_ret (v := .agg #[.int .i64 x.p.s, .slice x.p.l.A x.p.l.l.length x.p.l.c, .int .i64 x.q.s, .slice x.q.l.A x.q.l.l.length x.q.l.c]) ?_ rfl ⟨.inl ⟨HE.out, x, rfl, HX.out.newX HDD.out.lt (fun b hb => Nat.lt_of_lt_of_le (hX b hb) hm2)⟩, below_st4 HB3.out⟩
    simp [results, Tryz.results108, go_sem, r0, r1, r2, r3]
  by_cases h11 : op = 11
  · subst h11
    have hv := HV.out
    rw [appF_11] at hv
    simp only [HCM.out] at hv
    go_wp2_with fail
    refine (ev_truth ((C == 0)) _).mono ?_
    rintro e w3 ⟨x, rfl, hx, hb3⟩
    obtain ⟨TB, hTB⟩ : ∃ TB, TB = truF ((C == 0)) := ⟨_, rfl⟩
    rw [← hTB] at hx
    have hVT : V = TB := by rw [hTB, ← hv]; (try congr 1)
    have h0 : TB.e = 0 := by rw [hTB]; rfl
    have HX : Hid (RG (Nw w2.heap.size w3) w3 x V.p V.q) := Lib.hid (by rw [hVT]; exact hx)
    have HE : Hid (V.e = 0) := Lib.hid (by rw [hVT]; exact h0)
    have HB3 : Hid (Below w.heap.size w w3) := Lib.hid (HB2.out.trans (hb3.mono HB2.out.size))
    clear r0 r1 r2 r3 rf rz
    obtain ⟨r0, r1, r2, r3, rf, rz⟩ := (HDD.out.later hb3).b4
    have hsz : w2.heap.size ≤ w3.heap.size := hb3.size
    clear hx hVT h0 hTB hv hb3
    simp only [Frc.v]
    go_wp2_with fail
    have hm2 := HB2.out.size
    try simp only [Exit.inBlock, Exit.then]
    refine bodyPost_ret (v := .agg #[.int .i64 x.p.s, .slice x.p.l.A x.p.l.l.length x.p.l.c, .int .i64 x.q.s, .slice x.q.l.A x.q.l.l.length x.q.l.c]) ?_ rfl ⟨.inl ⟨HE.out, x, rfl, HX.out.newX HDD.out.lt (fun b hb => Nat.lt_of_lt_of_le (hX b hb) hm2)⟩, below_st4 HB3.out⟩
    simp [results, Tryz.results108, go_sem, r0, r1, r2, r3]
  have hv := HV.out
  rw [appF_m _ _ h4 h5 h6 h7 h10 h11] at hv
  simp only [HCM.out] at hv
  have hm2 := HB2.out.size
  by_cases hmm : decide (C > 0) = decide (op = 8)
  · rw [if_pos hmm] at hv
    have HVV := Lib.hid hv.symm
    have hT : (decide (C > 0) == (op == 8)) = true := by rw [hmm]; by_cases h8 : op = 8 <;> simp [h8]
    clear hv hmm
    go_wp2_with fail
    try simp only [Exit.inBlock, Exit.then]
    refine bodyPost_ret (v := .agg #[.int .i64 g.p.s, .slice g.p.l.A g.p.l.l.length g.p.l.c, .int .i64 g.q.s, .slice g.q.l.A g.q.l.l.length g.q.l.c]) ?_ rfl (ApP.cast HVV.out ⟨.inl ⟨rfl, g, rfl, HGO.out.oldX (by omega) hm2⟩, below_st4 HB2.out⟩)
    simp [results, Tryz.results108, go_sem, r0, r1, r2, r3]
  · rw [if_neg hmm] at hv
    have HVV := Lib.hid hv.symm
    have hT : (decide (C > 0) == (op == 8)) = false := by
      cases hq : (decide (C > 0) == (op == 8)) with
      | false => rfl
      | true => exact absurd (by rw [beq_iff_eq] at hq; rw [hq]; by_cases h8 : op = 8 <;> simp [h8]) hmm
    clear hv hmm
    go_wp2_with fail
    try simp only [Exit.inBlock, Exit.then]
    refine bodyPost_ret (v := .agg #[.int .i64 f.p.s, .slice f.p.l.A f.p.l.l.length f.p.l.c, .int .i64 f.q.s, .slice f.q.l.A f.q.l.l.length f.q.l.c]) ?_ rfl (ApP.cast HVV.out ⟨.inl ⟨rfl, f, rfl, HFO.out.oldX (by omega) hm2⟩, below_st4 HB2.out⟩)
    simp [results, Tryz.results108, go_sem, r0, r1, r2, r3]

end Go.Proofs.YtcgocdhhneckhaaGreat
