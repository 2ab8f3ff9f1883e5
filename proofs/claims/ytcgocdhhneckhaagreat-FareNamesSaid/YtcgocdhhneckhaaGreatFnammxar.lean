/- Walks of package big: cmp.Or, Add, Sub. -/
import Derived.Test.YtcgocdhhneckhaaGreatFnammxaq
namespace Go.Proofs.YtcgocdhhneckhaaGreat
open Go.RowKit
set_option maxHeartbeats 800000 in
theorem or_two (s t : Int) {B g : Nat} (w : World) (h : OI B w g 2 [s, t]) :
    Calls Tryz.prog 190 #[.slice (some ⟨g, 0, none⟩) 2 2] w fun e w' => e = .returned (.int .i64 (if s ≠ 0 then s else t)) ∧ w = w' := by
  have h0 := h.get (i := 0) (x := s) rfl
  have h1 := h.get (i := 1) (x := t) rfl
  clear h
  go_enter Tryz.func190, Tryz.ntmps190
  go_wp2_with fail
  go_loopw [8] (fun v wr => ∃ (k : Nat), k ≤ 2 ∧ v = .int .i64 k ∧ (1 ≤ k → s = 0) ∧ (2 ≤ k → t = 0) ∧ w = wr) (fun v _ => 2 - (intOf v).toNat)
  case atStart => exact ⟨0, by omega, rfl, by omega, by omega, rfl⟩
  case round =>
    obtain ⟨k, hk, rfl, hs, ht, rfl⟩ := hrel
    rcases (by omega : k = 0 ∨ k = 1 ∨ k = 2) with rfl | rfl | rfl
    · clear hs ht
      by_cases hz : s = 0
      · subst hz
        go_wp2_with fail
        go_roundw
        case rel => exact ⟨1, by omega, rfl, by first | omega | simp, by first | omega | simp, trivial⟩
        case measure => simp [intOf]
      · have HZ := Lib.hid hz
        go_wp2_with fail
        go_ret
        exact ⟨ret_int (by first | rfl | rw [if_pos HZ.out]), rfl⟩
    · have hz := hs (by omega)
      subst hz
      clear hs ht
      by_cases hz : t = 0
      · subst hz
        go_wp2_with fail
        go_roundw
        case rel => exact ⟨2, by omega, rfl, by first | omega | simp, by first | omega | simp, trivial⟩
        case measure => simp [intOf]
      · go_wp2_with fail
        go_ret
        exact ⟨ret_int (by simp), rfl⟩
    · have hz := hs (by omega)
      have hy := ht (by omega)
      subst hz hy
      clear hs ht
      go_wp2_with fail
      go_ret
      exact ⟨ret_int (by simp), rfl⟩
theorem sign_neg_iff {x : Int} : x.sign = -1 ↔ x < 0 := Int.sign_eq_neg_one_iff_neg
theorem sign_pos_iff {x : Int} : x.sign = 1 ↔ 0 < x := Int.sign_eq_one_iff_pos
theorem sign_cases (x : Int) : (x.sign = -1 ∧ x < 0) ∨ (x.sign = 0 ∧ x = 0) ∨ (x.sign = 1 ∧ 0 < x) := by
  rcases Int.lt_trichotomy x 0 with h | h | h
  · exact .inl ⟨Int.sign_eq_neg_one_of_neg h, h⟩
  · exact .inr (.inl ⟨by rw [h]; rfl, h⟩)
  · exact .inr (.inr ⟨Int.sign_eq_one_of_pos h, h⟩)
theorem add_same {x y : Int} (h : 0 ≤ x.sign * y.sign) : (x.natAbs : Int) + y.natAbs = ((x + y).natAbs : Nat) ∧ (x + y ≠ 0 → (if x.sign ≠ 0 then x.sign else y.sign) = (x + y).sign) := by
  rcases sign_cases x with ⟨h1, h2⟩ | ⟨h1, h2⟩ | ⟨h1, h2⟩ <;> rcases sign_cases y with ⟨h3, h4⟩ | ⟨h3, h4⟩ | ⟨h3, h4⟩ <;> rw [h1, h3] at h <;> first | (simp at h; done) | skip
  · exact ⟨by omega, fun _ => by rw [h1, if_pos (by decide), Int.sign_eq_neg_one_of_neg (by omega)]⟩
  · exact ⟨by omega, fun _ => by rw [h1, if_pos (by decide), Int.sign_eq_neg_one_of_neg (by omega)]⟩
  · exact ⟨by omega, fun _ => by rw [h1, h3, if_neg (by decide), Int.sign_eq_neg_one_of_neg (by omega)]⟩
  · exact ⟨by omega, fun h0 => absurd (by omega) h0⟩
  · exact ⟨by omega, fun _ => by rw [h1, h3, if_neg (by decide), Int.sign_eq_one_of_pos (by omega)]⟩
  · exact ⟨by omega, fun _ => by rw [h1, if_pos (by decide), Int.sign_eq_one_of_pos (by omega)]⟩
  · exact ⟨by omega, fun _ => by rw [h1, if_pos (by decide), Int.sign_eq_one_of_pos (by omega)]⟩
theorem add_diff {x y : Int} (h : x.sign * y.sign < 0) (hle : y.natAbs ≤ x.natAbs) : (x.natAbs : Int) - y.natAbs = ((x + y).natAbs : Nat) ∧ (x + y ≠ 0 → x.sign = (x + y).sign) := by
  rcases sign_cases x with ⟨h1, h2⟩ | ⟨h1, h2⟩ | ⟨h1, h2⟩ <;> rcases sign_cases y with ⟨h3, h4⟩ | ⟨h3, h4⟩ | ⟨h3, h4⟩ <;> rw [h1, h3] at h <;> first | (simp at h; done) | skip
  · exact ⟨by omega, fun h0 => by rw [h1, Int.sign_eq_neg_one_of_neg (by omega)]⟩
  · exact ⟨by omega, fun h0 => by rw [h1, Int.sign_eq_one_of_pos (by omega)]⟩
set_option maxRecDepth 100000 in
set_option maxHeartbeats 3200000 in
theorem big_Add_same (a b : Big) (x y : Int) (w : World) (ha : RB w a x) (hb : RB w b y) (hxy : 0 ≤ x.sign * y.sign) :
    Calls Tryz.prog 188 #[a.v, b.v] w fun e w' => OpP (Nw w.heap.size w') w w' (opI (x + y)) e := by
  obtain ⟨s, ⟨A, c, l⟩⟩ := a
  obtain ⟨t, ⟨B, d, m⟩⟩ := b
  have hs := ha.s
  have ht := hb.s
  have hla := ha.len
  have hlb := hb.len
  simp only at hs ht hla hlb
  have hsr := sign_range x
  have htr := sign_range y
  rw [← hs] at hsr
  rw [← ht] at htr
  have HA := Lib.hid ha
  have HB := Lib.hid hb
  have HS := Lib.hid (And.intro hs ht)
  clear ha hb hs ht
  simp only [Big.v]
  go_enter Tryz.func188, Tryz.ntmps188
  go_wp2_with fail
  refine (right_ok ⟨s, ⟨A, c, l⟩⟩ x _ (HA.out.later qbl)).mono ?_
  rintro e w1 ⟨rfl, hb1⟩
  have l0 : w.heap.size < w.heap.size + 1 + 1 := by omega
  have K_a : Blk _ (w.heap.size) 69 #[.int .i64 s, .slice A l.length c] := blk_later hb1 (by simp [hp_past, hp_at, hp_other, hp_same, hp_drew, hp_drewN, l0])
  obtain ⟨a0, a1, af, az⟩ := Blk.b2 K_a
  have B_a := Lib.hid K_a
  clear K_a
  have K_b : Blk _ (w.heap.size + 1) 69 #[.int .i64 t, .slice B m.length d] := qkb hb1
  obtain ⟨b0, b1, bf, bz⟩ := Blk.b2 K_b
  have B_b := Lib.hid K_b
  clear K_b
  have K_r : Blk _ (w.heap.size + 1 + 1) 69 #[.int .i64 0, .slice none 0 0] := qkb hb1
  obtain ⟨r0, r1, rf, rz⟩ := Blk.b2 K_r
  have B_r := Lib.hid K_r
  clear K_r
  skip
  have hB1 : Below w.heap.size w w1 := qbv
  clear hb1
  go_wp2_with fail
  refine (right_ok ⟨t, ⟨B, d, m⟩⟩ y _ (HB.out.later hB1)).mono ?_
  rintro e w2 ⟨rfl, hb2⟩
  clear a0 a1 af az b0 b1 bf bz r0 r1 rf rz
  have K_a : Blk _ (w.heap.size) 69 #[.int .i64 s, .slice A l.length c] := qkc B_a hb2
  obtain ⟨a0, a1, af, az⟩ := Blk.b2 K_a
  have B_a := Lib.hid K_a
  clear K_a
  have K_b : Blk _ (w.heap.size + 1) 69 #[.int .i64 t, .slice B m.length d] := qkc B_b hb2
  obtain ⟨b0, b1, bf, bz⟩ := Blk.b2 K_b
  have B_b := Lib.hid K_b
  clear K_b
  have K_r : Blk _ (w.heap.size + 1 + 1) 69 #[.int .i64 0, .slice none 0 0] := qkc B_r hb2
  obtain ⟨r0, r1, rf, rz⟩ := Blk.b2 K_r
  have B_r := Lib.hid K_r
  clear K_r
  have HB2 : Hid (Below w.heap.size w w2) := Lib.hid qbv
  have hz2 : w.heap.size + 1 + 1 < w2.heap.size := rz
  have HSS : Hid (∀ W : World, Below w2.heap.size w2 W → W.cell? ⟨w.heap.size, 0, none⟩ = some (.int .i64 s) ∧ W.cell? ⟨w.heap.size, 1, none⟩ = some (.slice A l.length c) ∧ W.cell? ⟨w.heap.size + 1, 0, none⟩ = some (.int .i64 t) ∧ W.cell? ⟨w.heap.size + 1, 1, none⟩ = some (.slice B m.length d)) := Lib.hid (fun W hW => ⟨keep_cell hW a0, keep_cell hW a1, keep_cell hW b0, keep_cell hW b1⟩)
  clear hb2 r0 r1 rf rz
  have hst := mul_small hsr.1 hsr.2 htr.1 htr.2
  have hwr : IntKind.i64.wrap (s * t) = s * t := wr64 (by omega) (by omega)
  have hge : 0 ≤ s * t := by rw [HS.out.1, HS.out.2]; exact hxy
  go_wp2_with fail
  refine wp_region_T (fun W => W.cell? ⟨w.heap.size, 0, none⟩ = some (.int .i64 s) ∧ W.cell? ⟨w.heap.size, 1, none⟩ = some (.slice A l.length c) ∧ W.cell? ⟨w.heap.size + 1, 0, none⟩ = some (.int .i64 t) ∧ W.cell? ⟨w.heap.size + 1, 1, none⟩ = some (.slice B m.length d)) (fun i => 15 ≤ i) (by kernel_rfl) (by exact HSS.out w2 (Below.refl _ _)) (fun hHeld => ?_)
  refine qtq 0 ?_
  simp only [qsa, qsb, qsc]
  refine qtq 1 ?_
  simp only [qsa, qsb, qsc]
  refine qtq 2 ?_
  simp only [qsa, qsb, qsc]
  refine qtq 3 ?_
  simp only [qsa, qsb, qsc]
  refine qtq 6 ?_
  simp only [qsa, qsb, qsc]
  refine qtq 7 ?_
  simp only [qsa, qsb, qsc]
  refine qtq 8 ?_
  simp only [qsa, qsb, qsc]
  refine qtq 9 ?_
  simp only [qsa, qsb, qsc]
  clear hHeld
  refine wpAnyT_next (i := 4) (by kernel_rfl) rfl ?_
  go_wp2_with fail
  have hol := OI.new w2.drew [s, t] (by simp [maxLen])
  have hbl : Below w2.heap.size w2 (w2.drew.alloc (.cells (ints [s, t]) 3)) := (Below.drew (Below.refl _ _)).alloc (Nat.le_refl _) _
  have HOL := Lib.hid hol
  have HBL := Lib.hid hbl
  clear hol hbl
  refine And.intro (by first | exact fun _ => HSS.out _ HBL.out | exact HSS.out _ HBL.out) ?_
  refine wpAnyT_next (i := 5) (by kernel_rfl) rfl ?_
  go_wp2_with fail
  refine (or_two s t _ HOL.out).mono ?_
  rintro e w' ⟨rfl, rfl⟩
  have HSO : Hid ((if s ≠ 0 then s else t) = if x.sign ≠ 0 then x.sign else y.sign) := Lib.hid (by rw [HS.out.1, HS.out.2])
  generalize (if s ≠ 0 then s else t) = so at *
  go_wp2_with fail
  refine And.intro (by first | exact fun _ => HSS.out _ HBL.out | exact HSS.out _ HBL.out) ?_
  refine wpAnyT_next (i := 10) (by kernel_rfl) rfl ?_
  go_wp2_with fail
  have HP : Hid (val l + val m = ((x + y).natAbs : Nat)) := Lib.hid (by
    have h1 := HA.out.val
    have h2 := HB.out.val
    simp only at h1 h2
    rw [h1, h2]
    exact (add_same hxy).1)
  refine (big_add ⟨A, c, l⟩ ⟨B, d, m⟩ _ (HA.out.later (HB2.out.trans (HBL.out.mono HB2.out.size))).rd (HB.out.later (HB2.out.trans (HBL.out.mono HB2.out.size))).rd HA.out.norm.ok HB.out.norm.ok (by simp only; omega) (by simp only; omega) HP.out).mono ?_
  rintro e w3 ⟨⟨pA, pc, pl⟩, rfl, hpl, hown, hb3⟩
  simp only at hpl
  have hfk0 : Below w2.heap.size w2 _ := HBL.out
  have FK3 : Hid (Below w2.heap.size w2 w3) := Lib.hid (below_via hb3 hfk0)
  have HPL := Lib.hid hpl
  have HPN : Hid (Rd (Nw w2.heap.size w3) 1 ienc w3 ⟨pA, pc, pl⟩) := Lib.hid (hown.nw.mono fun b hb => hb.mono hfk0.size (Nat.le_refl _))
  clear hfk0
  clear hpl hown hb3
  simp only [Sl.v]
  go_wp2_with fail
  refine And.intro (by first | exact fun _ => HSS.out _ FK3.out | exact HSS.out _ FK3.out) ?_
  have HSG : Hid (signedD so pl = bigD (x + y)) := Lib.hid (signed_is (by rw [HPL.out]; exact (digs_norm _).ok) (by rw [HPL.out, digs_val]) (fun h0 => by rw [HSO.out]; exact (add_same hxy).2 h0))
  refine wpAnyT_next (i := 11) (by kernel_rfl) rfl ?_
  go_wp2_with fail
  refine (big_signed so ⟨pA, pc, pl⟩ _ HPN.out (fun _ h => h.lt)).mono ?_
  rintro e w4 ⟨⟨rs, ⟨rA, rc, rl⟩⟩, rfl, hrd, hrr, hb4⟩
  have FK4 := Lib.hid (below_via hb4 FK3.out)
  have HRD := Lib.hid (hrd.trans HSG.out)
  have HRR := Lib.hid hrr
  have hz4 := hb4.size
  clear hrd hrr hb4
  simp only [Big.v]
  go_wp2_with fail
  refine And.intro (by first | exact fun _ => HSS.out _ FK4.out | exact HSS.out _ FK4.out) ?_
  refine wpAnyT_next (i := 12) (by kernel_rfl) rfl ?_
  go_wp2_with fail
  refine (big_checked ⟨rs, ⟨rA, rc, rl⟩⟩ (x + y) _ HRR.out (fun _ h => Nat.lt_of_lt_of_le h.2 hz4) HRD.out).mono ?_
  rintro e w5 ⟨⟨qs, ⟨qA, qc, ql⟩⟩, rfl, hqd, hqr, hb5⟩
  obtain ⟨OZ, hOZ⟩ : ∃ o, o = opI (x + y) := ⟨_, rfl⟩
  rw [← hOZ] at hqd ⊢
  have HOZ := Lib.hid hOZ.symm
  clear hOZ
  have FK5 := Lib.hid (below_via hb5 FK4.out)
  have HQD := Lib.hid hqd
  have HQR := Lib.hid hqr
  have hz5 : w3.heap.size ≤ w5.heap.size := Nat.le_trans hz4 hb5.size
  have hbz := Below.mono FK5.out (show w.heap.size ≤ w2.heap.size by omega)
  have HBW := Lib.hid (HB2.out.trans hbz)
  clear hqd hqr hb5 hbz
  have K_r : Blk _ (w.heap.size + 1 + 1) 69 #[.int .i64 0, .slice none 0 0] := blk_later FK5.out (by simp [hp_past, hp_at, hp_other, hp_same, hp_drew, hp_drewN, B_r.out.eq, B_r.out.lt, hp_same B_r.out.eq])
  obtain ⟨r0, r1, rf, rz⟩ := Blk.b2 K_r
  have B_r := Lib.hid K_r
  clear K_r
  simp only [Big.v]
  go_wp2_with fail
  refine And.intro (by first | exact fun _ => HSS.out _ FK5.out | exact HSS.out _ FK5.out) ?_
  have hHeld := HSS.out _ FK5.out
  refine qtq 13 ?_
  simp only [qsa, qsb, qsc]
  refine qtq 14 ?_
  simp only [qsa, qsb, qsc]
  clear hHeld
  refine wpAnyT_next (i := 15) (by kernel_rfl) rfl ?_
  go_wp2_with fail
  try simp only [QT]
  try (with_reducible refine And.intro (fun h => by simp at h) ?_)
  refine wpAnyT_next (i := 16) (by kernel_rfl) rfl ?_
  go_wp2_with fail
  try simp only [QT]
  try (with_reducible refine And.intro (fun h => by simp at h) ?_)
  refine wpAnyT_done (by kernel_rfl) ?_ _
  go_wp2_with fail
  have hne : ∀ b, Nw w2.heap.size w3 b → b ≠ w.heap.size + 1 + 1 := fun b hb => by have := hb.1; omega
  try simp only [Exit.inBlock, Exit.then]
  refine bodyPost_ret (v := .tuple #[.agg #[.int .i64 qs, .slice qA ql.length qc], .int .i64 OZ.2]) ?_ rfl (OpP.cast HOZ.out ⟨⟨qs, ⟨qA, qc, ql⟩⟩, rfl, HQD.out, ((HQR.out.far (fun b hb => hne b hb) _).far (fun b hb => hne b hb) _).mono (fun b hb => Nw.of (nw_two hb (by omega) hz5)), below_two HBW.out⟩)
  simp [results, Tryz.results188, go_sem, r0, r1]
set_option maxRecDepth 100000 in
set_option maxHeartbeats 3200000 in
theorem big_Add_less (a b : Big) (x y : Int) (w : World) (ha : RB w a x) (hb : RB w b y) (hxy : x.sign * y.sign < 0) (hab : x.natAbs < y.natAbs) :
    Calls Tryz.prog 188 #[a.v, b.v] w fun e w' => OpP (Nw w.heap.size w') w w' (opI (x + y)) e := by
  obtain ⟨s, ⟨A, c, l⟩⟩ := a
  obtain ⟨t, ⟨B, d, m⟩⟩ := b
  have hs := ha.s
  have ht := hb.s
  have hla := ha.len
  have hlb := hb.len
  simp only at hs ht hla hlb
  have hsr := sign_range x
  have htr := sign_range y
  rw [← hs] at hsr
  rw [← ht] at htr
  have HA := Lib.hid ha
  have HB := Lib.hid hb
  have HS := Lib.hid (And.intro hs ht)
  clear ha hb hs ht
  simp only [Big.v]
  go_enter Tryz.func188, Tryz.ntmps188
  go_wp2_with fail
  refine (right_ok ⟨s, ⟨A, c, l⟩⟩ x _ (HA.out.later qbl)).mono ?_
  rintro e w1 ⟨rfl, hb1⟩
  have l0 : w.heap.size < w.heap.size + 1 + 1 := by omega
  have K_a : Blk _ (w.heap.size) 69 #[.int .i64 s, .slice A l.length c] := blk_later hb1 (by simp [hp_past, hp_at, hp_other, hp_same, hp_drew, hp_drewN, l0])
  obtain ⟨a0, a1, af, az⟩ := Blk.b2 K_a
  have B_a := Lib.hid K_a
  clear K_a
  have K_b : Blk _ (w.heap.size + 1) 69 #[.int .i64 t, .slice B m.length d] := qkb hb1
  obtain ⟨b0, b1, bf, bz⟩ := Blk.b2 K_b
  have B_b := Lib.hid K_b
  clear K_b
  have K_r : Blk _ (w.heap.size + 1 + 1) 69 #[.int .i64 0, .slice none 0 0] := qkb hb1
  obtain ⟨r0, r1, rf, rz⟩ := Blk.b2 K_r
  have B_r := Lib.hid K_r
  clear K_r
  skip
  have hB1 : Below w.heap.size w w1 := qbv
  clear hb1
  go_wp2_with fail
  refine (right_ok ⟨t, ⟨B, d, m⟩⟩ y _ (HB.out.later hB1)).mono ?_
  rintro e w2 ⟨rfl, hb2⟩
  clear a0 a1 af az b0 b1 bf bz r0 r1 rf rz
  have K_a : Blk _ (w.heap.size) 69 #[.int .i64 s, .slice A l.length c] := qkc B_a hb2
  obtain ⟨a0, a1, af, az⟩ := Blk.b2 K_a
  have B_a := Lib.hid K_a
  clear K_a
  have K_b : Blk _ (w.heap.size + 1) 69 #[.int .i64 t, .slice B m.length d] := qkc B_b hb2
  obtain ⟨b0, b1, bf, bz⟩ := Blk.b2 K_b
  have B_b := Lib.hid K_b
  clear K_b
  have K_r : Blk _ (w.heap.size + 1 + 1) 69 #[.int .i64 0, .slice none 0 0] := qkc B_r hb2
  obtain ⟨r0, r1, rf, rz⟩ := Blk.b2 K_r
  have B_r := Lib.hid K_r
  clear K_r
  have HB2 : Hid (Below w.heap.size w w2) := Lib.hid qbv
  have hz2 : w.heap.size + 1 + 1 < w2.heap.size := rz
  have HSS : Hid (∀ W : World, Below w2.heap.size w2 W → W.cell? ⟨w.heap.size, 0, none⟩ = some (.int .i64 s) ∧ W.cell? ⟨w.heap.size, 1, none⟩ = some (.slice A l.length c) ∧ W.cell? ⟨w.heap.size + 1, 0, none⟩ = some (.int .i64 t) ∧ W.cell? ⟨w.heap.size + 1, 1, none⟩ = some (.slice B m.length d)) := Lib.hid (fun W hW => ⟨keep_cell hW a0, keep_cell hW a1, keep_cell hW b0, keep_cell hW b1⟩)
  clear hb2 r0 r1 rf rz
  have hst := mul_small hsr.1 hsr.2 htr.1 htr.2
  have hwr : IntKind.i64.wrap (s * t) = s * t := wr64 (by omega) (by omega)
  have hge : s * t < 0 := by rw [HS.out.1, HS.out.2]; exact hxy
  have hs0 := HSS.out w2 (Below.refl _ _)
  obtain ⟨a0, a1, b0, b1⟩ := hs0
  go_wp2_with fail
  refine (big_compare ⟨A, c, l⟩ ⟨B, d, m⟩ _ (HA.out.later HB2.out).rd (HB.out.later HB2.out).rd HA.out.norm HB.out.norm).mono ?_
  rintro e wc ⟨rfl, hbc⟩
  have HBC := Lib.hid hbc
  have hul := HA.out.val
  have hum := HB.out.val
  simp only at hul hum
  rw [hul, hum]
  have hcs : ucmp (x.natAbs : Int) (y.natAbs : Int) = -1 ∨ 0 ≤ ucmp (x.natAbs : Int) (y.natAbs : Int) := by have := ucmp_range x.natAbs y.natAbs; omega
  have hcc : (ucmp (x.natAbs : Int) (y.natAbs : Int) = -1) ↔ x.natAbs < y.natAbs := by
    constructor
    · intro h0
      refine Decidable.byContradiction fun hn => ?_
      rcases (by omega : (y.natAbs : Int) < x.natAbs ∨ (x.natAbs : Int) = y.natAbs) with h1 | h1
      · rw [ucmp_gt h1] at h0; omega
      · rw [ucmp_eq h1] at h0; omega
    · intro h0; exact ucmp_lt (by omega)
  generalize ucmp (x.natAbs : Int) (y.natAbs : Int) = cm at *
  have hcd : cm < 0 := by have := hcc.2 hab; omega
  clear a0 a1 b0 b1 hbc hul hum hcs hcc
  go_wp2_with fail
  refine wp_region_T (fun W => W.cell? ⟨w.heap.size, 0, none⟩ = some (.int .i64 s) ∧ W.cell? ⟨w.heap.size, 1, none⟩ = some (.slice A l.length c) ∧ W.cell? ⟨w.heap.size + 1, 0, none⟩ = some (.int .i64 t) ∧ W.cell? ⟨w.heap.size + 1, 1, none⟩ = some (.slice B m.length d)) (fun i => 11 ≤ i) (by kernel_rfl) (by exact HSS.out wc HBC.out) (fun hHeld => ?_)
  refine qtq 0 ?_
  simp only [qsa, qsb, qsc]
  refine qtq 1 ?_
  simp only [qsa, qsb, qsc]
  refine qtq 2 ?_
  simp only [qsa, qsb, qsc]
  refine qtq 3 ?_
  simp only [qsa, qsb, qsc]
  refine qtq 4 ?_
  simp only [qsa, qsb, qsc]
  refine qtq 5 ?_
  simp only [qsa, qsb, qsc]
  clear hHeld
  refine wpAnyT_next (i := 6) (by kernel_rfl) rfl ?_
  go_wp2_with fail
  have HP : Hid ((y.natAbs : Int) - x.natAbs = ((y + x).natAbs : Nat)) := Lib.hid (add_diff (by first | exact hxy | (rw [Int.mul_comm]; exact hxy)) (by omega)).1
  have HSGN : Hid (y + x ≠ 0 → y.sign = (y + x).sign) := Lib.hid (add_diff (by first | exact hxy | (rw [Int.mul_comm]; exact hxy)) (by omega)).2
  refine (big_sub ⟨B, d, m⟩ ⟨A, c, l⟩ _ (HB.out.later (HB2.out.trans ((Below.drew HBC.out).mono HB2.out.size))).rd (HA.out.later (HB2.out.trans ((Below.drew HBC.out).mono HB2.out.size))).rd HB.out.norm HA.out.norm (by simp only; omega) (by have h1 := HB.out.val; have h2 := HA.out.val; simp only at h1 h2 ⊢; rw [h1, h2]; omega) (n := (y + x).natAbs) (by have h1 := HB.out.val; have h2 := HA.out.val; simp only at h1 h2 ⊢; rw [h1, h2]; exact HP.out)).mono ?_
  rintro e w3 ⟨⟨pA, pc, pl⟩, rfl, hpl, hown, hb3⟩
  simp only at hpl
  have hfk0 : Below w2.heap.size w2 _ := Below.drew HBC.out
  have FK3 : Hid (Below w2.heap.size w2 w3) := Lib.hid (below_via hb3 hfk0)
  have HPL := Lib.hid hpl
  have HPN : Hid (Rd (Nw w2.heap.size w3) 1 ienc w3 ⟨pA, pc, pl⟩) := Lib.hid (hown.nw.mono fun b hb => hb.mono hfk0.size (Nat.le_refl _))
  clear hfk0
  clear hpl hown hb3
  simp only [Sl.v]
  go_wp2_with fail
  refine And.intro (by first | exact fun _ => HSS.out _ FK3.out | exact HSS.out _ FK3.out) ?_
  have HCO : Hid (x + y = y + x) := Lib.hid (by omega)
  have HSG : Hid (signedD t pl = bigD (x + y)) := Lib.hid (by
    rw [HCO.out]
    refine signed_is (by rw [HPL.out]; exact (digs_norm _).ok) (by rw [HPL.out, digs_val]) (fun h0 => ?_)
    rw [← HSGN.out h0]
    first | exact HS.out.1 | exact HS.out.2)
  refine wpAnyT_next (i := 7) (by kernel_rfl) rfl ?_
  go_wp2_with fail
  refine (big_signed t ⟨pA, pc, pl⟩ _ HPN.out (fun _ h => h.lt)).mono ?_
  rintro e w4 ⟨⟨rs, ⟨rA, rc, rl⟩⟩, rfl, hrd, hrr, hb4⟩
  have FK4 := Lib.hid (below_via hb4 FK3.out)
  have HRD := Lib.hid (hrd.trans HSG.out)
  have HRR := Lib.hid hrr
  have hz4 := hb4.size
  clear hrd hrr hb4
  simp only [Big.v]
  go_wp2_with fail
  refine And.intro (by first | exact fun _ => HSS.out _ FK4.out | exact HSS.out _ FK4.out) ?_
  refine wpAnyT_next (i := 8) (by kernel_rfl) rfl ?_
  go_wp2_with fail
  refine (big_checked ⟨rs, ⟨rA, rc, rl⟩⟩ (x + y) _ HRR.out (fun _ h => Nat.lt_of_lt_of_le h.2 hz4) HRD.out).mono ?_
  rintro e w5 ⟨⟨qs, ⟨qA, qc, ql⟩⟩, rfl, hqd, hqr, hb5⟩
  obtain ⟨OZ, hOZ⟩ : ∃ o, o = opI (x + y) := ⟨_, rfl⟩
  rw [← hOZ] at hqd ⊢
  have HOZ := Lib.hid hOZ.symm
  clear hOZ
  have FK5 := Lib.hid (below_via hb5 FK4.out)
  have HQD := Lib.hid hqd
  have HQR := Lib.hid hqr
  have hz5 : w3.heap.size ≤ w5.heap.size := Nat.le_trans hz4 hb5.size
  have hbz := Below.mono FK5.out (show w.heap.size ≤ w2.heap.size by omega)
  have HBW := Lib.hid (HB2.out.trans hbz)
  clear hqd hqr hb5 hbz
  have K_r : Blk _ (w.heap.size + 1 + 1) 69 #[.int .i64 0, .slice none 0 0] := blk_later FK5.out (by simp [hp_past, hp_at, hp_other, hp_same, hp_drew, hp_drewN, B_r.out.eq, B_r.out.lt, hp_same B_r.out.eq])
  obtain ⟨r0, r1, rf, rz⟩ := Blk.b2 K_r
  have B_r := Lib.hid K_r
  clear K_r
  simp only [Big.v]
  go_wp2_with fail
  refine And.intro (by first | exact fun _ => HSS.out _ FK5.out | exact HSS.out _ FK5.out) ?_
  have hHeld := HSS.out _ FK5.out
  refine qtq 9 ?_
  simp only [qsa, qsb, qsc]
  refine qtq 10 ?_
  simp only [qsa, qsb, qsc]
  clear hHeld
  refine wpAnyT_next (i := 11) (by kernel_rfl) rfl ?_
  go_wp2_with fail
  try simp only [QT]
  try (with_reducible refine And.intro (fun h => by simp at h) ?_)
  refine wpAnyT_next (i := 12) (by kernel_rfl) rfl ?_
  go_wp2_with fail
  try simp only [QT]
  try (with_reducible refine And.intro (fun h => by simp at h) ?_)
  refine wpAnyT_done (by kernel_rfl) ?_ _
  go_wp2_with fail
  have hne : ∀ b, Nw w2.heap.size w3 b → b ≠ w.heap.size + 1 + 1 := fun b hb => by have := hb.1; omega
  try simp only [Exit.inBlock, Exit.then]
  refine bodyPost_ret (v := .tuple #[.agg #[.int .i64 qs, .slice qA ql.length qc], .int .i64 OZ.2]) ?_ rfl (OpP.cast HOZ.out ⟨⟨qs, ⟨qA, qc, ql⟩⟩, rfl, HQD.out, ((HQR.out.far (fun b hb => hne b hb) _).far (fun b hb => hne b hb) _).mono (fun b hb => Nw.of (nw_two hb (by omega) hz5)), below_two HBW.out⟩)
  simp [results, Tryz.results188, go_sem, r0, r1]
set_option maxRecDepth 100000 in
set_option maxHeartbeats 3200000 in
theorem big_Add_more (a b : Big) (x y : Int) (w : World) (ha : RB w a x) (hb : RB w b y) (hxy : x.sign * y.sign < 0) (hab : y.natAbs ≤ x.natAbs) :
    Calls Tryz.prog 188 #[a.v, b.v] w fun e w' => OpP (Nw w.heap.size w') w w' (opI (x + y)) e := by
  obtain ⟨s, ⟨A, c, l⟩⟩ := a
  obtain ⟨t, ⟨B, d, m⟩⟩ := b
  have hs := ha.s
  have ht := hb.s
  have hla := ha.len
  have hlb := hb.len
  simp only at hs ht hla hlb
  have hsr := sign_range x
  have htr := sign_range y
  rw [← hs] at hsr
  rw [← ht] at htr
  have HA := Lib.hid ha
  have HB := Lib.hid hb
  have HS := Lib.hid (And.intro hs ht)
  clear ha hb hs ht
  simp only [Big.v]
  go_enter Tryz.func188, Tryz.ntmps188
  go_wp2_with fail
  refine (right_ok ⟨s, ⟨A, c, l⟩⟩ x _ (HA.out.later qbl)).mono ?_
  rintro e w1 ⟨rfl, hb1⟩
  have l0 : w.heap.size < w.heap.size + 1 + 1 := by omega
  have K_a : Blk _ (w.heap.size) 69 #[.int .i64 s, .slice A l.length c] := blk_later hb1 (by simp [hp_past, hp_at, hp_other, hp_same, hp_drew, hp_drewN, l0])
  obtain ⟨a0, a1, af, az⟩ := Blk.b2 K_a
  have B_a := Lib.hid K_a
  clear K_a
  have K_b : Blk _ (w.heap.size + 1) 69 #[.int .i64 t, .slice B m.length d] := qkb hb1
  obtain ⟨b0, b1, bf, bz⟩ := Blk.b2 K_b
  have B_b := Lib.hid K_b
  clear K_b
  have K_r : Blk _ (w.heap.size + 1 + 1) 69 #[.int .i64 0, .slice none 0 0] := qkb hb1
  obtain ⟨r0, r1, rf, rz⟩ := Blk.b2 K_r
  have B_r := Lib.hid K_r
  clear K_r
  skip
  have hB1 : Below w.heap.size w w1 := qbv
  clear hb1
  go_wp2_with fail
  refine (right_ok ⟨t, ⟨B, d, m⟩⟩ y _ (HB.out.later hB1)).mono ?_
  rintro e w2 ⟨rfl, hb2⟩
  clear a0 a1 af az b0 b1 bf bz r0 r1 rf rz
  have K_a : Blk _ (w.heap.size) 69 #[.int .i64 s, .slice A l.length c] := qkc B_a hb2
  obtain ⟨a0, a1, af, az⟩ := Blk.b2 K_a
  have B_a := Lib.hid K_a
  clear K_a
  have K_b : Blk _ (w.heap.size + 1) 69 #[.int .i64 t, .slice B m.length d] := qkc B_b hb2
  obtain ⟨b0, b1, bf, bz⟩ := Blk.b2 K_b
  have B_b := Lib.hid K_b
  clear K_b
  have K_r : Blk _ (w.heap.size + 1 + 1) 69 #[.int .i64 0, .slice none 0 0] := qkc B_r hb2
  obtain ⟨r0, r1, rf, rz⟩ := Blk.b2 K_r
  have B_r := Lib.hid K_r
  clear K_r
  have HB2 : Hid (Below w.heap.size w w2) := Lib.hid qbv
  have hz2 : w.heap.size + 1 + 1 < w2.heap.size := rz
  have HSS : Hid (∀ W : World, Below w2.heap.size w2 W → W.cell? ⟨w.heap.size, 0, none⟩ = some (.int .i64 s) ∧ W.cell? ⟨w.heap.size, 1, none⟩ = some (.slice A l.length c) ∧ W.cell? ⟨w.heap.size + 1, 0, none⟩ = some (.int .i64 t) ∧ W.cell? ⟨w.heap.size + 1, 1, none⟩ = some (.slice B m.length d)) := Lib.hid (fun W hW => ⟨keep_cell hW a0, keep_cell hW a1, keep_cell hW b0, keep_cell hW b1⟩)
  clear hb2 r0 r1 rf rz
  have hst := mul_small hsr.1 hsr.2 htr.1 htr.2
  have hwr : IntKind.i64.wrap (s * t) = s * t := wr64 (by omega) (by omega)
  have hge : s * t < 0 := by rw [HS.out.1, HS.out.2]; exact hxy
  have hs0 := HSS.out w2 (Below.refl _ _)
  obtain ⟨a0, a1, b0, b1⟩ := hs0
  go_wp2_with fail
  refine (big_compare ⟨A, c, l⟩ ⟨B, d, m⟩ _ (HA.out.later HB2.out).rd (HB.out.later HB2.out).rd HA.out.norm HB.out.norm).mono ?_
  rintro e wc ⟨rfl, hbc⟩
  have HBC := Lib.hid hbc
  have hul := HA.out.val
  have hum := HB.out.val
  simp only at hul hum
  rw [hul, hum]
  have hcs : ucmp (x.natAbs : Int) (y.natAbs : Int) = -1 ∨ 0 ≤ ucmp (x.natAbs : Int) (y.natAbs : Int) := by have := ucmp_range x.natAbs y.natAbs; omega
  have hcc : (ucmp (x.natAbs : Int) (y.natAbs : Int) = -1) ↔ x.natAbs < y.natAbs := by
    constructor
    · intro h0
      refine Decidable.byContradiction fun hn => ?_
      rcases (by omega : (y.natAbs : Int) < x.natAbs ∨ (x.natAbs : Int) = y.natAbs) with h1 | h1
      · rw [ucmp_gt h1] at h0; omega
      · rw [ucmp_eq h1] at h0; omega
    · intro h0; exact ucmp_lt (by omega)
  generalize ucmp (x.natAbs : Int) (y.natAbs : Int) = cm at *
  have hcd : 0 ≤ cm := hcs.resolve_left (fun h => by have := hcc.1 h; omega)
  clear a0 a1 b0 b1 hbc hul hum hcs hcc
  go_wp2_with fail
  refine wp_region_T (fun W => W.cell? ⟨w.heap.size, 0, none⟩ = some (.int .i64 s) ∧ W.cell? ⟨w.heap.size, 1, none⟩ = some (.slice A l.length c) ∧ W.cell? ⟨w.heap.size + 1, 0, none⟩ = some (.int .i64 t) ∧ W.cell? ⟨w.heap.size + 1, 1, none⟩ = some (.slice B m.length d)) (fun i => 11 ≤ i) (by kernel_rfl) (by exact HSS.out wc HBC.out) (fun hHeld => ?_)
  refine qtq 0 ?_
  simp only [qsa, qsb, qsc]
  refine qtq 1 ?_
  simp only [qsa, qsb, qsc]
  refine qtq 2 ?_
  simp only [qsa, qsb, qsc]
  refine qtq 3 ?_
  simp only [qsa, qsb, qsc]
  refine qtq 4 ?_
  simp only [qsa, qsb, qsc]
  refine qtq 5 ?_
  simp only [qsa, qsb, qsc]
  clear hHeld
  refine wpAnyT_next (i := 6) (by kernel_rfl) rfl ?_
  go_wp2_with fail
  have HP : Hid ((x.natAbs : Int) - y.natAbs = ((x + y).natAbs : Nat)) := Lib.hid (add_diff (by first | exact hxy | (rw [Int.mul_comm]; exact hxy)) (by omega)).1
  have HSGN : Hid (x + y ≠ 0 → x.sign = (x + y).sign) := Lib.hid (add_diff (by first | exact hxy | (rw [Int.mul_comm]; exact hxy)) (by omega)).2
  refine (big_sub ⟨A, c, l⟩ ⟨B, d, m⟩ _ (HA.out.later (HB2.out.trans ((Below.drew HBC.out).mono HB2.out.size))).rd (HB.out.later (HB2.out.trans ((Below.drew HBC.out).mono HB2.out.size))).rd HA.out.norm HB.out.norm (by simp only; omega) (by have h1 := HA.out.val; have h2 := HB.out.val; simp only at h1 h2 ⊢; rw [h1, h2]; omega) (n := (x + y).natAbs) (by have h1 := HA.out.val; have h2 := HB.out.val; simp only at h1 h2 ⊢; rw [h1, h2]; exact HP.out)).mono ?_
  rintro e w3 ⟨⟨pA, pc, pl⟩, rfl, hpl, hown, hb3⟩
  simp only at hpl
  have hfk0 : Below w2.heap.size w2 _ := Below.drew HBC.out
  have FK3 : Hid (Below w2.heap.size w2 w3) := Lib.hid (below_via hb3 hfk0)
  have HPL := Lib.hid hpl
  have HPN : Hid (Rd (Nw w2.heap.size w3) 1 ienc w3 ⟨pA, pc, pl⟩) := Lib.hid (hown.nw.mono fun b hb => hb.mono hfk0.size (Nat.le_refl _))
  clear hfk0
  clear hpl hown hb3
  simp only [Sl.v]
  go_wp2_with fail
  refine And.intro (by first | exact fun _ => HSS.out _ FK3.out | exact HSS.out _ FK3.out) ?_
  have HCO : Hid (x + y = x + y) := Lib.hid (by omega)
  have HSG : Hid (signedD s pl = bigD (x + y)) := Lib.hid (by
    rw [HCO.out]
    refine signed_is (by rw [HPL.out]; exact (digs_norm _).ok) (by rw [HPL.out, digs_val]) (fun h0 => ?_)
    rw [← HSGN.out h0]
    first | exact HS.out.1 | exact HS.out.2)
  refine wpAnyT_next (i := 7) (by kernel_rfl) rfl ?_
  go_wp2_with fail
  refine (big_signed s ⟨pA, pc, pl⟩ _ HPN.out (fun _ h => h.lt)).mono ?_
  rintro e w4 ⟨⟨rs, ⟨rA, rc, rl⟩⟩, rfl, hrd, hrr, hb4⟩
  have FK4 := Lib.hid (below_via hb4 FK3.out)
  have HRD := Lib.hid (hrd.trans HSG.out)
  have HRR := Lib.hid hrr
  have hz4 := hb4.size
  clear hrd hrr hb4
  simp only [Big.v]
  go_wp2_with fail
  refine And.intro (by first | exact fun _ => HSS.out _ FK4.out | exact HSS.out _ FK4.out) ?_
  refine wpAnyT_next (i := 8) (by kernel_rfl) rfl ?_
  go_wp2_with fail
  refine (big_checked ⟨rs, ⟨rA, rc, rl⟩⟩ (x + y) _ HRR.out (fun _ h => Nat.lt_of_lt_of_le h.2 hz4) HRD.out).mono ?_
  rintro e w5 ⟨⟨qs, ⟨qA, qc, ql⟩⟩, rfl, hqd, hqr, hb5⟩
  obtain ⟨OZ, hOZ⟩ : ∃ o, o = opI (x + y) := ⟨_, rfl⟩
  rw [← hOZ] at hqd ⊢
  have HOZ := Lib.hid hOZ.symm
  clear hOZ
  have FK5 := Lib.hid (below_via hb5 FK4.out)
  have HQD := Lib.hid hqd
  have HQR := Lib.hid hqr
  have hz5 : w3.heap.size ≤ w5.heap.size := Nat.le_trans hz4 hb5.size
  have hbz := Below.mono FK5.out (show w.heap.size ≤ w2.heap.size by omega)
  have HBW := Lib.hid (HB2.out.trans hbz)
  clear hqd hqr hb5 hbz
  have K_r : Blk _ (w.heap.size + 1 + 1) 69 #[.int .i64 0, .slice none 0 0] := blk_later FK5.out (by simp [hp_past, hp_at, hp_other, hp_same, hp_drew, hp_drewN, B_r.out.eq, B_r.out.lt, hp_same B_r.out.eq])
  obtain ⟨r0, r1, rf, rz⟩ := Blk.b2 K_r
  have B_r := Lib.hid K_r
  clear K_r
  simp only [Big.v]
  go_wp2_with fail
  refine And.intro (by first | exact fun _ => HSS.out _ FK5.out | exact HSS.out _ FK5.out) ?_
  have hHeld := HSS.out _ FK5.out
  refine qtq 9 ?_
  simp only [qsa, qsb, qsc]
  refine qtq 10 ?_
  simp only [qsa, qsb, qsc]
  clear hHeld
  refine wpAnyT_next (i := 11) (by kernel_rfl) rfl ?_
  go_wp2_with fail
  try simp only [QT]
  try (with_reducible refine And.intro (fun h => by simp at h) ?_)
  refine wpAnyT_next (i := 12) (by kernel_rfl) rfl ?_
  go_wp2_with fail
  try simp only [QT]
  try (with_reducible refine And.intro (fun h => by simp at h) ?_)
  refine wpAnyT_done (by kernel_rfl) ?_ _
  go_wp2_with fail
  have hne : ∀ b, Nw w2.heap.size w3 b → b ≠ w.heap.size + 1 + 1 := fun b hb => by have := hb.1; omega
  try simp only [Exit.inBlock, Exit.then]
  refine bodyPost_ret (v := .tuple #[.agg #[.int .i64 qs, .slice qA ql.length qc], .int .i64 OZ.2]) ?_ rfl (OpP.cast HOZ.out ⟨⟨qs, ⟨qA, qc, ql⟩⟩, rfl, HQD.out, ((HQR.out.far (fun b hb => hne b hb) _).far (fun b hb => hne b hb) _).mono (fun b hb => Nw.of (nw_two hb (by omega) hz5)), below_two HBW.out⟩)
  simp [results, Tryz.results188, go_sem, r0, r1]
theorem big_Add (a b : Big) (x y : Int) (w : World) (ha : RB w a x) (hb : RB w b y) :
    Calls Tryz.prog 188 #[a.v, b.v] w fun e w' => OpP (Nw w.heap.size w') w w' (opI (x + y)) e := by
  rcases Int.lt_or_le (x.sign * y.sign) 0 with h | h
  · rcases Nat.lt_or_ge x.natAbs y.natAbs with h1 | h1
    · exact big_Add_less a b x y w ha hb h h1
    · exact big_Add_more a b x y w ha hb h h1
  · exact big_Add_same a b x y w ha hb h
end Go.Proofs.YtcgocdhhneckhaaGreat
