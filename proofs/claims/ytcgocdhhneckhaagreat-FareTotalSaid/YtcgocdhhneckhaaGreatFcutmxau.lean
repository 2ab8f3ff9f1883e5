/- Walks of package big: Gcd. -/
import Derived.Test.YtcgocdhhneckhaaGreatFcutmxat
import Derived.Deep.LoopGhost
namespace Go.Proofs.YtcgocdhhneckhaaGreat
open Go.RowKit
set_option maxRecDepth 100000 in
set_option maxHeartbeats 3200000 in
theorem big_Gcd (a b : Big) (x y : Int) (w : World) (ha : RB w a x) (hb : RB w b y) :
    Calls Tryz.prog 160 #[a.v, b.v] w fun e w' => OpP (Nw w.heap.size w') w w' (opI (Int.gcd x y : Nat)) e := by
  obtain ⟨s, ⟨A, c, l⟩⟩ := a
  obtain ⟨t, ⟨B, d, m⟩⟩ := b
  have hs := ha.s
  have ht := hb.s
  have hla := ha.len
  have hlb := hb.len
  simp only at hs ht hla hlb
  have hsr := sign_range x
  have htr := sign_range y
  rw [← hs] at hsr
  rw [← ht] at htr
  have HA := Lib.hid ha
  have HB := Lib.hid hb
  have HS := Lib.hid (And.intro hs ht)
  clear ha hb hs ht
  simp only [Big.v]
  go_enter Tryz.func160, Tryz.ntmps160
  go_wp2_with fail
  refine (right_ok ⟨s, ⟨A, c, l⟩⟩ x _ (HA.out.later (by repeat (first | (with_reducible exact Below.refl _ _) | ((with_reducible refine below_setr ?_ ?_); focus (first | (simp; done) | (simp; omega) | omega)) | ((with_reducible refine below_allocr ?_ ?_); focus (first | (simp; done) | (simp; omega) | omega)) | (with_reducible refine Below.drew ?_) | (with_reducible refine below_drewN ?_ _))))).mono ?_
  rintro e w1 ⟨rfl, hb1⟩
  have l0 : w.heap.size < w.heap.size + 1 + 1 := by omega
  have K_a : Blk _ (w.heap.size) 69 #[.int .i64 s, .slice A l.length c] := blk_later hb1 (by simp [hp_past, hp_at, hp_other, hp_same, hp_drew, hp_drewN, l0])
  obtain ⟨a0, a1, af, az⟩ := Blk.b2 K_a
  have B_a := Lib.hid K_a
  clear K_a
  have K_b : Blk _ (w.heap.size + 1) 69 #[.int .i64 t, .slice B m.length d] := blk_later hb1 (by simp [hp_past, hp_at, hp_other, hp_same, hp_drew, hp_drewN])
  obtain ⟨b0, b1, bf, bz⟩ := Blk.b2 K_b
  have B_b := Lib.hid K_b
  clear K_b
  have K_r : Blk _ (w.heap.size + 1 + 1) 69 #[.int .i64 0, .slice none 0 0] := blk_later hb1 (by simp [hp_past, hp_at, hp_other, hp_same, hp_drew, hp_drewN])
  obtain ⟨r0, r1, rf, rz⟩ := Blk.b2 K_r
  have B_r := Lib.hid K_r
  clear K_r
  skip
  have hB1 : Below w.heap.size w w1 := (by repeat (first | (with_reducible exact Below.refl _ _) | ((with_reducible refine below_setr ?_ ?_); focus (first | (simp; done) | (simp; omega) | omega)) | ((with_reducible refine below_allocr ?_ ?_); focus (first | (simp; done) | (simp; omega) | omega)) | (with_reducible refine Below.drew ?_) | (with_reducible refine below_drewN ?_ _) | ((with_reducible apply below_via); focus (with_reducible assumption))))
  clear hb1
  go_wp2_with fail
  refine (right_ok ⟨t, ⟨B, d, m⟩⟩ y _ (HB.out.later hB1)).mono ?_
  rintro e w2 ⟨rfl, hb2⟩
  clear a0 a1 af az b0 b1 bf bz r0 r1 rf rz
  have K_a : Blk _ (w.heap.size) 69 #[.int .i64 s, .slice A l.length c] := blk_later hb2 (by simp [hp_past, hp_at, hp_other, hp_same, hp_drew, hp_drewN, B_a.out.eq, B_a.out.lt, hp_same B_a.out.eq])
  obtain ⟨a0, a1, af, az⟩ := Blk.b2 K_a
  have B_a := Lib.hid K_a
  clear K_a
  have K_b : Blk _ (w.heap.size + 1) 69 #[.int .i64 t, .slice B m.length d] := blk_later hb2 (by simp [hp_past, hp_at, hp_other, hp_same, hp_drew, hp_drewN, B_b.out.eq, B_b.out.lt, hp_same B_b.out.eq])
  obtain ⟨b0, b1, bf, bz⟩ := Blk.b2 K_b
  have B_b := Lib.hid K_b
  clear K_b
  have K_r : Blk _ (w.heap.size + 1 + 1) 69 #[.int .i64 0, .slice none 0 0] := blk_later hb2 (by simp [hp_past, hp_at, hp_other, hp_same, hp_drew, hp_drewN, B_r.out.eq, B_r.out.lt, hp_same B_r.out.eq])
  obtain ⟨r0, r1, rf, rz⟩ := Blk.b2 K_r
  have B_r := Lib.hid K_r
  clear K_r
  have HB2 : Hid (Below w.heap.size w w2) := Lib.hid (by repeat (first | (with_reducible exact hB1) | (with_reducible exact Below.refl _ _) | ((with_reducible refine below_setr ?_ ?_); focus (first | (simp; done) | (simp; omega) | omega)) | ((with_reducible refine below_allocr ?_ ?_); focus (first | (simp; done) | (simp; omega) | omega)) | (with_reducible refine Below.drew ?_) | (with_reducible refine below_drewN ?_ _) | ((with_reducible apply below_via); focus (with_reducible assumption))))
  have hz2 : w.heap.size + 1 + 1 < w2.heap.size := rz
  have HSS : Hid (∀ W : World, Below w2.heap.size w2 W → W.cell? ⟨w.heap.size, 0, none⟩ = some (.int .i64 s) ∧ W.cell? ⟨w.heap.size, 1, none⟩ = some (.slice A l.length c) ∧ W.cell? ⟨w.heap.size + 1, 0, none⟩ = some (.int .i64 t) ∧ W.cell? ⟨w.heap.size + 1, 1, none⟩ = some (.slice B m.length d)) := Lib.hid (fun W hW => ⟨keep_cell hW a0, keep_cell hW a1, keep_cell hW b0, keep_cell hW b1⟩)
  clear hb2 r0 r1 rf rz
  go_wp2_with fail
  refine wp_region_T (fun W => W.cell? ⟨w.heap.size, 0, none⟩ = some (.int .i64 s) ∧ W.cell? ⟨w.heap.size, 1, none⟩ = some (.slice A l.length c) ∧ W.cell? ⟨w.heap.size + 1, 0, none⟩ = some (.int .i64 t) ∧ W.cell? ⟨w.heap.size + 1, 1, none⟩ = some (.slice B m.length d)) (fun i => 7 ≤ i) (by kernel_rfl) (by exact HSS.out w2 (Below.refl _ _)) (fun hHeld => ?_)
  refine wpAnyT_take2 (i := 0) (v := ?_) rfl rfl (by kernel_rfl) (by kernel_rfl) (by kernel_rfl) (by kernel_rfl) (fun _ _ _ h => h) (Or.inl ⟨by rfl, ?_⟩) (by first | assumption | trivial) ?_
  rotate_left
  · (intro w hSw; (try dsimp only at hSw); go_simp) <;> (with_reducible rfl)
  simp only [List.setIfInBounds_toArray, List.set_cons_zero, List.set_cons_succ]
  refine wpAnyT_take2 (i := 1) (v := ?_) rfl rfl (by kernel_rfl) (by kernel_rfl) (by kernel_rfl) (by kernel_rfl) (fun _ _ _ h => h) (Or.inl ⟨by rfl, ?_⟩) (by first | assumption | trivial) ?_
  rotate_left
  · (intro w hSw; (try dsimp only at hSw); go_simp) <;> (with_reducible rfl)
  simp only [List.setIfInBounds_toArray, List.set_cons_zero, List.set_cons_succ]
  refine wpAnyT_take2 (i := 3) (v := ?_) rfl rfl (by kernel_rfl) (by kernel_rfl) (by kernel_rfl) (by kernel_rfl) (fun _ _ _ h => h) (Or.inl ⟨by rfl, ?_⟩) (by first | assumption | trivial) ?_
  rotate_left
  · (intro w hSw; (try dsimp only at hSw); go_simp) <;> (with_reducible rfl)
  simp only [List.setIfInBounds_toArray, List.set_cons_zero, List.set_cons_succ]
  refine wpAnyT_take2 (i := 4) (v := ?_) rfl rfl (by kernel_rfl) (by kernel_rfl) (by kernel_rfl) (by kernel_rfl) (fun _ _ _ h => h) (Or.inl ⟨by rfl, ?_⟩) (by first | assumption | trivial) ?_
  rotate_left
  · (intro w hSw; (try dsimp only at hSw); go_simp) <;> (with_reducible rfl)
  simp only [List.setIfInBounds_toArray, List.set_cons_zero, List.set_cons_succ]
  clear hHeld
  refine wpAnyT_next (i := 2) (by kernel_rfl) rfl ?_
  go_wp2_with fail
  refine (clone_int ⟨A, c, l⟩ _ (HA.out.later (Below.drew HB2.out)).rd (by simp only; omega)).mono ?_
  rintro e w3 ⟨A', c', rfl, hown, hb3⟩
  have FK3 : Hid (Below w2.heap.size w2 w3) := Lib.hid (below_via hb3 (Below.drew (Below.refl _ _)))
  have HRX := Lib.hid (rd_own hown)
  have HBW := Lib.hid (HB2.out.trans (FK3.out.mono HB2.out.size))
  clear hown hb3
  go_wp2_with fail
  refine And.intro (by first | exact fun _ => HSS.out _ FK3.out | exact HSS.out _ FK3.out) ?_
  have hHeld := HSS.out _ FK3.out
  refine wpAnyT_take2 (i := 5) (v := ?_) rfl rfl (by kernel_rfl) (by kernel_rfl) (by kernel_rfl) (by kernel_rfl) (fun _ _ _ h => h) (Or.inl ⟨by rfl, ?_⟩) (by first | assumption | trivial) ?_
  rotate_left
  · (intro w hSw; (try dsimp only at hSw); go_simp) <;> (with_reducible rfl)
  simp only [List.setIfInBounds_toArray, List.set_cons_zero, List.set_cons_succ]
  refine wpAnyT_take2 (i := 6) (v := ?_) rfl rfl (by kernel_rfl) (by kernel_rfl) (by kernel_rfl) (by kernel_rfl) (fun _ _ _ h => h) (Or.inl ⟨by rfl, ?_⟩) (by first | assumption | trivial) ?_
  rotate_left
  · (intro w hSw; (try dsimp only at hSw); go_simp) <;> (with_reducible rfl)
  simp only [List.setIfInBounds_toArray, List.set_cons_zero, List.set_cons_succ]
  refine wpAnyT_done (by kernel_rfl) ?_ _
  clear hHeld
  have HST : Hid (l = digs x.natAbs ∧ m = digs y.natAbs) := Lib.hid ⟨HA.out.l, HB.out.l⟩
  have HRY := Lib.hid (HB.out.later HBW.out).rd
  go_wp2_with fail
  go_loopg [6, 7] (y.natAbs) (fun k p q wr => ∃ (xA : Option Addr) (xc : Nat) (xl : List Int) (yA : Option Addr) (yc : Nat) (yl : List Int) (X : Nat), p = .slice xA xl.length xc ∧ q = .slice yA yl.length yc ∧ xl.length ≤ 60 ∧ yl.length ≤ 60 ∧ Hid (xl = digs X ∧ yl = digs k ∧ Nat.gcd X k = Int.gcd x y) ∧ Hid (Rd (· < wr.heap.size) 1 ienc wr ⟨xA, xc, xl⟩) ∧ Hid (Rd (· < wr.heap.size) 1 ienc wr ⟨yA, yc, yl⟩) ∧ Hid (Below w2.heap.size w2 wr))
  case atStart => exact ⟨A', c', l, B, d, m, x.natAbs, rfl, rfl, hla, hlb, Lib.hid ⟨HST.out.1, HST.out.2, rfl⟩, HRX, HRY, FK3⟩
  case round =>
    obtain ⟨xA, xc, xl, yA, yc, yl, X, rfl, rfl, hx60, hy60, HG, HX, HY, HBK⟩ := hrel
    by_cases hy0 : yl.length = 0
    · have hyl : yl = [] := List.eq_nil_of_length_eq_zero hy0
      have hgk : gk = 0 := digs_nil.1 (by rw [← HG.out.2.1]; exact hyl)
      have hXG : X = Int.gcd x y := by have := HG.out.2.2; rw [hgk, Nat.gcd_zero_right] at this; exact this
      have HXG : Hid (xl = digs (Int.gcd x y)) := Lib.hid (by rw [HG.out.1, hXG])
      clear hyl hXG hgk HG HRX HRY HST HBW FK3
      go_wp2_with fail
      refine (clone_int ⟨xA, xc, xl⟩ _ HX.out (by simp only; omega)).mono ?_
      rintro e w3 ⟨pA, pc, rfl, hown, hb3⟩
      have FK3 : Hid (Below w2.heap.size w2 w3) := Lib.hid (HBK.out.trans (hb3.mono HBK.out.size))
      have HPN : Hid (Rd (Nw w2.heap.size w3) 1 ienc w3 ⟨pA, pc, xl⟩) := Lib.hid (hown.nw.mono fun b hb => hb.mono HBK.out.size (Nat.le_refl _))
      clear hown hb3
      go_wp2_with fail
      refine (big_signed 1 ⟨pA, pc, xl⟩ _ HPN.out (fun _ h => h.lt)).mono ?_
      rintro e w4 ⟨⟨rs, ⟨rA, rc, rl⟩⟩, rfl, hrd, hrr, hb4⟩
      have FK4 := Lib.hid (below_via hb4 FK3.out)
      have HRD := Lib.hid (hrd.trans (signed_is (z := (Int.gcd x y : Nat)) (by rw [HXG.out]; exact (digs_norm _).ok) (by rw [HXG.out, digs_val]; simp) (fun h0 => by rw [Int.sign_eq_one_of_pos (by omega)])))
      have HRR := Lib.hid hrr
      have hz4 := hb4.size
      clear hrd hrr hb4
      simp only [Big.v]
      go_wp2_with fail
      refine (big_checked ⟨rs, ⟨rA, rc, rl⟩⟩ ((Int.gcd x y : Nat) : Int) _ HRR.out (fun _ h => Nat.lt_of_lt_of_le h.2 hz4) HRD.out).mono ?_
      rintro e w5 ⟨⟨qs, ⟨qA, qc, ql⟩⟩, rfl, hqd, hqr, hb5⟩
      obtain ⟨OZ, hOZ⟩ : ∃ o, o = opI ((Int.gcd x y : Nat) : Int) := ⟨_, rfl⟩
      rw [← hOZ] at hqd ⊢
      have HOZ := Lib.hid hOZ.symm
      clear hOZ
      have FK5 := Lib.hid (below_via hb5 FK4.out)
      have HQD := Lib.hid hqd
      have HQR := Lib.hid hqr
      have hz5 : w3.heap.size ≤ w5.heap.size := Nat.le_trans hz4 hb5.size
      have hbz := Below.mono FK5.out (show w.heap.size ≤ w2.heap.size by omega)
      have HBW := Lib.hid (HB2.out.trans hbz)
      clear hqd hqr hb5 hbz
      have K_r : Blk _ (w.heap.size + 1 + 1) 69 #[.int .i64 0, .slice none 0 0] := blk_later FK5.out (by simp [hp_past, hp_at, hp_other, hp_same, hp_drew, hp_drewN, B_r.out.eq, B_r.out.lt, hp_same B_r.out.eq])
      obtain ⟨r0, r1, rf, rz⟩ := Blk.b2 K_r
      have B_r := Lib.hid K_r
      clear K_r
      simp only [Big.v]
      go_wp2_with fail
      have hne : ∀ b, Nw w2.heap.size w3 b → b ≠ w.heap.size + 1 + 1 := fun b hb => by have := hb.1; omega
      try simp only [Exit.inBlock, Exit.then]
      refine bodyPost_ret (v := .tuple #[.agg #[.int .i64 qs, .slice qA ql.length qc], .int .i64 OZ.2]) ?_ rfl (OpP.cast HOZ.out ⟨⟨qs, ⟨qA, qc, ql⟩⟩, rfl, HQD.out, ((HQR.out.far (fun b hb => hne b hb) _).far (fun b hb => hne b hb) _).mono (fun b hb => Nw.of (nw_two hb (by omega) hz5)), below_two HBW.out⟩)
      simp [results, Tryz.results160, go_sem, r0, r1]
    · have hyne : yl ≠ [] := fun h0 => hy0 (by rw [h0]; rfl)
      have hgk : 0 < gk := by
        rcases Nat.eq_zero_or_pos gk with h0 | h0
        · exact absurd (by rw [HG.out.2.1, h0, digs_zero]) hyne
        · exact h0
      have HYN := Lib.hid hyne
      clear hyne
      go_wp2_with fail
      refine (big_div ⟨xA, xc, xl⟩ ⟨yA, yc, yl⟩ _ HX.out HY.out (by simp only; rw [HG.out.1]; exact digs_norm _) (by simp only; rw [HG.out.2.1]; exact digs_norm _) (by simp only; omega) HYN.out).mono ?_
      rintro e w4 ⟨⟨qA, qc, ql⟩, ⟨rA, rc, rl⟩, rfl, hql, hrl, hqr, hrr, hb4⟩
      have HG2 : Hid (rl = digs (X % gk) ∧ Nat.gcd gk (X % gk) = Int.gcd x y) := Lib.hid (by
        refine ⟨?_, ?_⟩
        · simp only at hrl
          rw [hrl, HG.out.1, HG.out.2.1, digs_val, digs_val]
          congr 1
        · rw [← HG.out.2.2, Nat.gcd_comm X gk, Nat.gcd_rec gk X, Nat.gcd_comm])
      have HRR := Lib.hid hrr.nwlt
      have HY4 := Lib.hid (HY.out.later hb4)
      have HBK4 := Lib.hid (HBK.out.trans (hb4.mono HBK.out.size))
      have hrl60 : rl.length ≤ 60 := by
        rw [HG2.out.1]
        refine Nat.le_trans (digs_mono (Nat.le_of_lt (Nat.mod_lt X hgk))) ?_
        rw [← HG.out.2.1]; exact hy60
      clear hql hrl hqr hrr hb4
      simp only [Sl.v]
      go_wp2_with fail
      go_roundg (X % gk)
      case measure => exact Nat.mod_lt X hgk
      case rel => exact ⟨yA, yc, yl, rA, rc, rl, gk, rfl, rfl, hy60, hrl60, Lib.hid ⟨HG.out.2.1, HG2.out.1, HG2.out.2⟩, HY4, HRR, HBK4⟩
end Go.Proofs.YtcgocdhhneckhaaGreat
