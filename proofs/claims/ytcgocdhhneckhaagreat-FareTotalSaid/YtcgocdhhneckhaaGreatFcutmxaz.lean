/- Walks of package frac: Of at whole numbers, quotient. -/
import Derived.Test.YtcgocdhhneckhaaGreatFcutmxay
namespace Go.Proofs.YtcgocdhhneckhaaGreat
open Go.RowKit
theorem pw60_big : (9223372036854775808 : Int) < pw 60 := by
  have h := pw_mono (show 4 ≤ 60 by omega)
  rw [pw4] at h
  omega
theorem fits_i64 {n : Int} (h0 : -9223372036854775808 ≤ n) (h1 : n ≤ 9223372036854775807) : Fits n := by
  have := pw60_big
  unfold Fits; omega
theorem newI_whole (n : Int) : newI n 1 = ⟨n, 1, 0⟩ := by
  rw [newI_pos (by omega)]
  unfold shortI
  simp
theorem rd_st4' {F : Nat → Prop} {g : Nat} {w : World} {s : Sl Int} {x y z v : Value} (hr : Rd F 1 ienc w s) (h1 : ∀ b, F b → b ≠ g) : Rd F 1 ienc ((((w.setCell ⟨g, 0, none⟩ x).setCell ⟨g, 1, none⟩ y).setCell ⟨g, 2, none⟩ z).setCell ⟨g, 3, none⟩ v) s :=
  (((hr.far h1 _).far h1 _).far h1 _).far h1 _
theorem sz_st4 {g : Nat} {w : World} {x y z v : Value} : ((((w.setCell ⟨g, 0, none⟩ x).setCell ⟨g, 1, none⟩ y).setCell ⟨g, 2, none⟩ z).setCell ⟨g, 3, none⟩ v).heap.size = w.heap.size := by simp
set_option maxRecDepth 100000 in
set_option maxHeartbeats 1600000 in
theorem frac_whole (n : Int) (w : World) (h0 : -9223372036854775808 ≤ n) (h1 : n ≤ 9223372036854775807) :
    Calls Tryz.prog 124 #[.int .i64 n, .int .i64 1] w fun e w' => FrP w w' ⟨n, 1, 0⟩ e := by
  go_enter Tryz.func124, Tryz.ntmps124
  go_wp2_with fail
  refine (big_Of n _ h0 h1).mono ?_
  rintro e w1 hp
  obtain ⟨a, rfl, ha, hb1⟩ := hp.rb (fits_i64 h0 h1)
  have K_r : Blk _ (w.heap.size) 71 #[.int .i64 0, .slice none 0 0, .int .i64 0, .slice none 0 0] := blk_later hb1 (by simp [hp_past, hp_at, hp_other, hp_same, hp_drew, hp_drewN])
  obtain ⟨r0, r1, r2, r3, rf, rz⟩ := Blk.b4 K_r
  have B_r := Lib.hid K_r
  clear K_r
  have hB1 : Below w.heap.size w w1 := (by repeat (first | (with_reducible exact Below.refl _ _) | ((with_reducible refine below_setr ?_ ?_); focus (first | (simp; done) | (simp; omega) | omega)) | ((with_reducible refine below_allocr ?_ ?_); focus (first | (simp; done) | (simp; omega) | omega)) | (with_reducible refine Below.drew ?_) | (with_reducible refine below_drewN ?_ _) | ((with_reducible apply below_via); focus (with_reducible assumption))))
  have HA := Lib.hid ha
  clear ha hb1 hp
  simp only [Big.v]
  go_wp2_with fail
  refine (big_Of 1 _ (by omega) (by omega)).mono ?_
  rintro e w2 hp
  obtain ⟨b, rfl, hb, hb2⟩ := hp.rb fits_one
  clear r0 r1 r2 r3 rf rz
  have K_r : Blk _ (w.heap.size) 71 #[.int .i64 0, .slice none 0 0, .int .i64 0, .slice none 0 0] := blk_later hb2 (by simp [hp_past, hp_at, hp_other, hp_same, hp_drew, hp_drewN, B_r.out.eq, B_r.out.lt, hp_same B_r.out.eq])
  obtain ⟨r0, r1, r2, r3, rf, rz⟩ := Blk.b4 K_r
  have B_r := Lib.hid K_r
  clear K_r
  have hB2 : Below w.heap.size w w2 := (by repeat (first | (with_reducible exact hB1) | (with_reducible exact Below.refl _ _) | ((with_reducible refine below_setr ?_ ?_); focus (first | (simp; done) | (simp; omega) | omega)) | ((with_reducible refine below_allocr ?_ ?_); focus (first | (simp; done) | (simp; omega) | omega)) | (with_reducible refine Below.drew ?_) | (with_reducible refine below_drewN ?_ _) | ((with_reducible apply below_via); focus (with_reducible assumption))))
  have HB := Lib.hid hb
  have HA2 := Lib.hid (HA.out.later hb2)
  clear hb hb2 hp HA
  simp only [Big.v]
  go_wp2_with fail
  refine (frac_new_pos a b n 1 _ HA2.out HB.out (by omega)).mono ?_
  rintro e w3 ⟨⟨⟨ps, pl⟩, ⟨qs, ql⟩⟩, rfl, hok, hno, hpr, hqr, hb3⟩
  have hz2 : w.heap.size < w2.heap.size := rz
  clear r0 r1 r2 r3 rf rz
  have K_r : Blk _ (w.heap.size) 71 #[.int .i64 0, .slice none 0 0, .int .i64 0, .slice none 0 0] := blk_later hb3 (by simp [hp_past, hp_at, hp_other, hp_same, hp_drew, hp_drewN, B_r.out.eq, B_r.out.lt, hp_same B_r.out.eq])
  obtain ⟨r0, r1, r2, r3, rf, rz⟩ := Blk.b4 K_r
  have B_r := Lib.hid K_r
  clear K_r
  have hB3 : Below w.heap.size w w3 := (by repeat (first | (with_reducible exact hB2) | (with_reducible exact Below.refl _ _) | ((with_reducible refine below_setr ?_ ?_); focus (first | (simp; done) | (simp; omega) | omega)) | ((with_reducible refine below_allocr ?_ ?_); focus (first | (simp; done) | (simp; omega) | omega)) | (with_reducible refine Below.drew ?_) | (with_reducible refine below_drewN ?_ _) | ((with_reducible apply below_via); focus (with_reducible assumption))))
  rw [newI_whole] at hok hno
  have HOK := Lib.hid hok
  have HNO := Lib.hid hno
  have HPR := Lib.hid hpr
  have HQR := Lib.hid hqr
  clear hok hno hpr hqr hb3
  have hnw : newI n 1 = ⟨n, 1, 0⟩ := newI_whole n
  rw [hnw]
  clear hnw
  simp only [Frc.v]
  go_wp2_with fail
  have hne : ∀ b, w2.heap.size ≤ b → b ≠ w.heap.size := fun b hb => by omega
  try simp only [Exit.inBlock, Exit.then]
  refine bodyPost_ret (v := .tuple #[.agg #[.int .i64 ps, .slice pl.A pl.l.length pl.c, .int .i64 qs, .slice ql.A ql.l.length ql.c], .int .i64 0]) ?_ rfl ⟨⟨⟨ps, pl⟩, ⟨qs, ql⟩⟩, rfl, fun _ => ⟨(HOK.out trivial).1, (HOK.out trivial).2⟩, fun h => absurd rfl h, rd_st4 HPR.out hne (by omega), rd_st4 HQR.out hne (by omega), below_st4 hB3⟩
  simp [results, Tryz.results124, go_sem, r0, r1, r2, r3]
set_option maxRecDepth 100000 in
set_option maxHeartbeats 1600000 in
/-- Two results that are there. -/
theorem frac_quot_ok (a b : Big) (p q : Int) (w : World) (ha : RB w a p) (hb : RB w b q) (hq : q ≠ 0) :
    Calls Tryz.prog 178 #[a.v, .int .i64 0, b.v, .int .i64 0] w fun e w' => FrP w w' (newI p q) e := by
  have HA := Lib.hid ha
  have HB := Lib.hid hb
  clear ha hb
  simp only [Big.v]
  go_enter Tryz.func178, Tryz.ntmps178
  go_wp2_with fail
  refine (frac_new a b p q _ (HA.out.later (by repeat (first | (with_reducible exact Below.refl _ _) | ((with_reducible refine below_setr ?_ ?_); focus (first | (simp; done) | (simp; omega) | omega)) | ((with_reducible refine below_allocr ?_ ?_); focus (first | (simp; done) | (simp; omega) | omega)) | (with_reducible refine Below.drew ?_) | (with_reducible refine below_drewN ?_ _)))) (HB.out.later (by repeat (first | (with_reducible exact Below.refl _ _) | ((with_reducible refine below_setr ?_ ?_); focus (first | (simp; done) | (simp; omega) | omega)) | ((with_reducible refine below_allocr ?_ ?_); focus (first | (simp; done) | (simp; omega) | omega)) | (with_reducible refine Below.drew ?_) | (with_reducible refine below_drewN ?_ _)))) hq).mono ?_
  rintro e w3 ⟨⟨⟨ps, pl⟩, ⟨qs, ql⟩⟩, rfl, hok, hno, hpr, hqr, hb3⟩
  have hz2 : w.heap.size + 1 + 1 < w3.heap.size := by have := hb3.size; simp at this; omega
  have l0 : w.heap.size < w.heap.size + 1 + 1 := by omega
  have K_r : Blk _ (w.heap.size + 1 + 1) 71 #[.int .i64 0, .slice none 0 0, .int .i64 0, .slice none 0 0] := blk_later hb3 (by simp [hp_past, hp_at, hp_other, hp_same, hp_drew, hp_drewN, l0])
  obtain ⟨r0, r1, r2, r3, rf, rz⟩ := Blk.b4 K_r
  have B_r := Lib.hid K_r
  clear K_r
  have hB3 : Below w.heap.size w w3 := (by repeat (first | (with_reducible exact Below.refl _ _) | ((with_reducible refine below_setr ?_ ?_); focus (first | (simp; done) | (simp; omega) | omega)) | ((with_reducible refine below_allocr ?_ ?_); focus (first | (simp; done) | (simp; omega) | omega)) | (with_reducible refine Below.drew ?_) | (with_reducible refine below_drewN ?_ _) | ((with_reducible apply below_via); focus (with_reducible assumption))))
  have HOK := Lib.hid hok
  have HNO := Lib.hid hno
  have HPR := Lib.hid hpr
  have HQR := Lib.hid hqr
  clear hok hno hpr hqr hb3
  obtain ⟨R, hR⟩ : ∃ R, R = newI p q := ⟨_, rfl⟩
  rw [← hR] at HOK HNO ⊢
  have HRE := Lib.hid hR.symm
  clear hR
  simp only [Frc.v]
  go_wp2_with fail
  have hne : ∀ k, (((w.alloc (.cells #[.int .i64 a.s, .slice a.l.A a.l.l.length a.l.c] 69)).alloc (.cells #[.int .i64 b.s, .slice b.l.A b.l.l.length b.l.c] 69)).alloc (.cells #[.int .i64 0, .slice none 0 0, .int .i64 0, .slice none 0 0] 71)).heap.size ≤ k → k ≠ w.heap.size + 1 + 1 := fun k hb => by simp at hb; omega
  have hmn : w.heap.size ≤ (((w.alloc (.cells #[.int .i64 a.s, .slice a.l.A a.l.l.length a.l.c] 69)).alloc (.cells #[.int .i64 b.s, .slice b.l.A b.l.l.length b.l.c] 69)).alloc (.cells #[.int .i64 0, .slice none 0 0, .int .i64 0, .slice none 0 0] 71)).heap.size := by simp; omega
  try simp only [Exit.inBlock, Exit.then]
  refine bodyPost_ret (v := .tuple #[.agg #[.int .i64 ps, .slice pl.A pl.l.length pl.c, .int .i64 qs, .slice ql.A ql.l.length ql.c], .int .i64 R.e]) ?_ rfl (FrP.cast HRE.out ⟨⟨⟨ps, pl⟩, ⟨qs, ql⟩⟩, rfl, HOK.out, HNO.out, rd_st4 HPR.out hne hmn, rd_st4 HQR.out hne hmn, below_st4 hB3⟩)
  simp [results, Tryz.results178, go_sem, r0, r1, r2, r3]
set_option maxRecDepth 100000 in
set_option maxHeartbeats 1600000 in
/-- One of two results is an error. -/
theorem frac_quot_bad (a b : Big) (e1 e2 : Int) (w : World) (h : e1 ≠ 0 ∨ e2 ≠ 0) :
    Calls Tryz.prog 178 #[a.v, .int .i64 e1, b.v, .int .i64 e2] w fun e w' => FrP w w' (FrR.bad 6) e := by
  simp only [Big.v]
  by_cases h1 : e1 = 0
  · have h2 : ¬ e2 = 0 := by omega
    clear h
    go_enter Tryz.func178, Tryz.ntmps178
    go_wp2_with fail
    try simp only [Exit.inBlock, Exit.then]
    refine bodyPost_ret (v := .tuple #[.agg #[.int .i64 0, .slice none 0 0, .int .i64 0, .slice none 0 0], .int .i64 6]) ?_ rfl ⟨⟨⟨0, ⟨none, 0, []⟩⟩, ⟨0, ⟨none, 0, []⟩⟩⟩, rfl, fun h => absurd h (by decide), fun _ => ⟨rfl, rfl⟩, Rd.nil _ _ _ _, Rd.nil _ _ _ _, (by repeat (first | (with_reducible exact Below.refl _ _) | ((with_reducible refine below_setr ?_ ?_); focus (first | (simp; done) | (simp; omega) | omega)) | ((with_reducible refine below_allocr ?_ ?_); focus (first | (simp; done) | (simp; omega) | omega)) | (with_reducible refine Below.drew ?_) | (with_reducible refine below_drewN ?_ _)))⟩
    simp [results, Tryz.results178, go_sem, ]
  · clear h
    go_enter Tryz.func178, Tryz.ntmps178
    go_wp2_with fail
    try simp only [Exit.inBlock, Exit.then]
    refine bodyPost_ret (v := .tuple #[.agg #[.int .i64 0, .slice none 0 0, .int .i64 0, .slice none 0 0], .int .i64 6]) ?_ rfl ⟨⟨⟨0, ⟨none, 0, []⟩⟩, ⟨0, ⟨none, 0, []⟩⟩⟩, rfl, fun h => absurd h (by decide), fun _ => ⟨rfl, rfl⟩, Rd.nil _ _ _ _, Rd.nil _ _ _ _, (by repeat (first | (with_reducible exact Below.refl _ _) | ((with_reducible refine below_setr ?_ ?_); focus (first | (simp; done) | (simp; omega) | omega)) | ((with_reducible refine below_allocr ?_ ?_); focus (first | (simp; done) | (simp; omega) | omega)) | (with_reducible refine Below.drew ?_) | (with_reducible refine below_drewN ?_ _)))⟩
    simp [results, Tryz.results178, go_sem, ]
end Go.Proofs.YtcgocdhhneckhaaGreat
