/- Walks of package big: Div, by what is positive. -/
import Derived.Test.YtcgocdhhneckhaaGreatFnammxar
namespace Go.Proofs.YtcgocdhhneckhaaGreat
open Go.RowKit
/-- Quotient and remainder of integers. -/
def QrP (w w' : World) (x y : Int) (e : Ending) : Prop := ∃ q r : Big, e = .returned (.tuple #[q.v, r.v, .int .i64 0]) ∧ q.d = bigD (x / y) ∧ r.d = bigD (x % y) ∧ Rd (Nw w.heap.size w') 1 ienc w' q.l ∧ Rd (Nw w.heap.size w') 1 ienc w' r.l ∧ Below w.heap.size w w'
theorem two_keep {W : World} {p : Addr} {v : Value} {g : Nat} {x y : Value} (h : W.cell? p = some v) (hne : p.block ≠ g) : ((W.setCell ⟨g, 0, none⟩ x).setCell ⟨g, 1, none⟩ y).cell? p = some v := by
  rw [World.cell?_of_block (Below.heap_setCell _ _ _ _ hne), World.cell?_of_block (Below.heap_setCell _ _ _ _ hne)]
  exact h
theorem div_neg {x y : Int} (hy : 0 < y) (hx : x < 0) (hr : (x.natAbs : Int) % y ≠ 0) : x / y = -((x.natAbs : Int) / y + 1) ∧ x % y = y - (x.natAbs : Int) % y := by
  have e1 := Int.mul_ediv_add_emod (x.natAbs : Int) y
  have e2 := Int.emod_nonneg (x.natAbs : Int) (show y ≠ 0 by omega)
  have e3 := Int.emod_lt_of_pos (x.natAbs : Int) hy
  generalize (x.natAbs : Int) / y = q at *
  generalize hrr : (x.natAbs : Int) % y = r at *
  have hX : x = -(y * q + r) := by omega
  have hq : x / y = -(q + 1) := quo_is hy (by rw [hX, Int.neg_mul, Int.add_mul, Int.one_mul, Int.mul_comm q y]; omega) (by rw [hX, show -(q + 1) + 1 = -q by omega, Int.neg_mul, Int.mul_comm q y]; omega)
  refine ⟨hq, ?_⟩
  have := Int.mul_ediv_add_emod x y
  rw [hq, Int.mul_neg, Int.mul_add, Int.mul_one] at this
  omega
theorem div_plain {x y : Int} (hy : 0 < y) (h : 0 ≤ x ∨ (x.natAbs : Int) % y = 0) : x / y = x.sign * ((x.natAbs : Int) / y) ∧ x % y = (x.natAbs : Int) % y := by
  rcases Int.lt_or_le x 0 with hx | hx
  · have hr := h.resolve_left (by omega)
    have e1 := Int.mul_ediv_add_emod (x.natAbs : Int) y
    rw [hr] at e1 ⊢
    rw [Int.sign_eq_neg_one_of_neg hx]
    generalize (x.natAbs : Int) / y = q at *
    have hX : x = y * -q := by rw [Int.mul_neg]; omega
    refine ⟨by rw [hX, Int.mul_ediv_cancel_left _ (by omega)]; omega, by rw [hX, Int.mul_emod_right]⟩
  · have e : (x.natAbs : Int) = x := by omega
    rw [e]
    rcases (by omega : x = 0 ∨ 0 < x) with rfl | h0
    · simp
    · rw [Int.sign_eq_one_of_pos h0, Int.one_mul]; exact ⟨rfl, rfl⟩
theorem plain_abs {x y : Int} (h : x / y = x.sign * ((x.natAbs : Int) / y)) (hy : 0 < y) : ((((x.natAbs : Int) / y).toNat : Nat) : Int) = ((x / y).natAbs : Nat) := by
  have hq : 0 ≤ (x.natAbs : Int) / y := Int.ediv_nonneg (by omega) (by omega)
  rcases sign_cases x with ⟨h1, h2⟩ | ⟨h1, h2⟩ | ⟨h1, h2⟩
  · rw [h1] at h; omega
  · subst h2; simp
  · rw [h1] at h; omega
theorem plain_sign {x y s : Int} (h : x / y = x.sign * ((x.natAbs : Int) / y)) (hy : 0 < y) (hs : s = x.sign) (h0 : x / y ≠ 0) : s = (x / y).sign := by
  have hq : 0 ≤ (x.natAbs : Int) / y := Int.ediv_nonneg (by omega) (by omega)
  rcases (by omega : (x.natAbs : Int) / y = 0 ∨ 0 < (x.natAbs : Int) / y) with h1 | h1
  · rw [h1, Int.mul_zero] at h; exact absurd h h0
  · rw [h, sign_mul_pos h1, Int.sign_sign, hs]
theorem plain_rem {x y s : Int} (h : x % y = (x.natAbs : Int) % y) (hy : 0 < y) (hs : s = x.sign) (hc : 0 ≤ x ∨ (x.natAbs : Int) % y = 0) (h0 : x % y ≠ 0) : s = (x % y).sign := by
  have h1 := Int.emod_nonneg x (show y ≠ 0 by omega)
  have hx : 0 ≤ x := by
    rcases hc with h2 | h2
    · exact h2
    · rw [h2] at h; exact absurd h h0
  rw [hs, Int.sign_eq_one_of_pos (show 0 < x % y by omega)]
  rcases (by omega : x = 0 ∨ 0 < x) with rfl | h2
  · simp at h0
  · exact Int.sign_eq_one_of_pos h2
theorem rd_four {m n g h : Nat} {w : World} {s : Sl Int} {x y z v : Value} (hr : Rd (Nw n w) 1 ienc w s) (h1 : ∀ b, n ≤ b → b ≠ g) (h2 : ∀ b, n ≤ b → b ≠ h) (hm : m ≤ n) : Rd (Nw m ((((w.setCell ⟨g, 0, none⟩ x).setCell ⟨g, 1, none⟩ y).setCell ⟨h, 0, none⟩ z).setCell ⟨h, 1, none⟩ v)) 1 ienc ((((w.setCell ⟨g, 0, none⟩ x).setCell ⟨g, 1, none⟩ y).setCell ⟨h, 0, none⟩ z).setCell ⟨h, 1, none⟩ v) s :=
  ((((hr.far (fun b hb => h1 b hb.1) _).far (fun b hb => h1 b hb.1) _).far (fun b hb => h2 b hb.1) _).far (fun b hb => h2 b hb.1) _).mono fun b hb => ⟨Nat.le_trans hm hb.1, by simpa using hb.2⟩
set_option maxRecDepth 100000 in
set_option maxHeartbeats 3200000 in
theorem big_Div_plain (a b : Big) (x y : Int) (w : World) (ha : RB w a x) (hb : RB w b y) (hy : 0 < y) (hc : 0 ≤ x ∨ (x.natAbs : Int) % y = 0) :
    Calls Tryz.prog 121 #[a.v, b.v] w fun e w' => QrP w w' x y e := by
  obtain ⟨s, ⟨A, c, l⟩⟩ := a
  obtain ⟨t, ⟨B, d, m⟩⟩ := b
  have hs := ha.s
  have ht := hb.s
  rw [Int.sign_eq_one_of_pos hy] at ht
  have hla := ha.len
  have hlb := hb.len
  simp only at hs ht hla hlb
  subst ht
  have hsr := sign_range x
  rw [← hs] at hsr
  have HA := Lib.hid ha
  have HB := Lib.hid hb
  have HS := Lib.hid hs
  clear ha hb hs
  simp only [Big.v]
  go_enter Tryz.func121, Tryz.ntmps121
  go_wp2_with fail
  refine (right_ok ⟨s, ⟨A, c, l⟩⟩ x _ (HA.out.later qbl)).mono ?_
  rintro e w1 ⟨rfl, hb1⟩
  have l0 : w.heap.size < w.heap.size + 1 + 1 := by omega
  have l1 : w.heap.size < w.heap.size + 1 + 1 + 1 := by omega
  have l2 : w.heap.size + 1 < w.heap.size + 1 + 1 + 1 := by omega
  have K_a : Blk _ (w.heap.size) 69 #[.int .i64 s, .slice A l.length c] := blk_later hb1 (by simp [hp_past, hp_at, hp_other, hp_same, hp_drew, hp_drewN, l0, l1])
  obtain ⟨a0, a1, af, az⟩ := Blk.b2 K_a
  have B_a := Lib.hid K_a
  clear K_a
  have K_b : Blk _ (w.heap.size + 1) 69 #[.int .i64 1, .slice B m.length d] := blk_later hb1 (by simp [hp_past, hp_at, hp_other, hp_same, hp_drew, hp_drewN, l0, l1, l2])
  obtain ⟨b0, b1, bf, bz⟩ := Blk.b2 K_b
  have B_b := Lib.hid K_b
  clear K_b
  have K_r : Blk _ (w.heap.size + 1 + 1) 69 #[.int .i64 0, .slice none 0 0] := blk_later hb1 (by simp [hp_past, hp_at, hp_other, hp_same, hp_drew, hp_drewN, l0, l1, l2])
  obtain ⟨r0, r1, rf, rz⟩ := Blk.b2 K_r
  have B_r := Lib.hid K_r
  clear K_r
  have K_u : Blk _ (w.heap.size + 1 + 1 + 1) 69 #[.int .i64 0, .slice none 0 0] := blk_later hb1 (by simp [hp_past, hp_at, hp_other, hp_same, hp_drew, hp_drewN, l0, l1, l2])
  obtain ⟨u0, u1, uf, uz⟩ := Blk.b2 K_u
  have B_u := Lib.hid K_u
  clear K_u
  have hB1 : Below w.heap.size w w1 := qbv
  clear hb1
  go_wp2_with fail
  refine (right_ok ⟨1, ⟨B, d, m⟩⟩ y _ (HB.out.later hB1)).mono ?_
  rintro e w2 ⟨rfl, hb2⟩
  clear a0 a1 af az b0 b1 bf bz r0 r1 rf rz u0 u1 uf uz
  have K_a : Blk _ (w.heap.size) 69 #[.int .i64 s, .slice A l.length c] := qkc B_a hb2
  obtain ⟨a0, a1, af, az⟩ := Blk.b2 K_a
  have B_a := Lib.hid K_a
  clear K_a
  have K_b : Blk _ (w.heap.size + 1) 69 #[.int .i64 1, .slice B m.length d] := qkc B_b hb2
  obtain ⟨b0, b1, bf, bz⟩ := Blk.b2 K_b
  have B_b := Lib.hid K_b
  clear K_b
  have K_r : Blk _ (w.heap.size + 1 + 1) 69 #[.int .i64 0, .slice none 0 0] := qkc B_r hb2
  obtain ⟨r0, r1, rf, rz⟩ := Blk.b2 K_r
  have B_r := Lib.hid K_r
  clear K_r
  have K_u : Blk _ (w.heap.size + 1 + 1 + 1) 69 #[.int .i64 0, .slice none 0 0] := qkc B_u hb2
  obtain ⟨u0, u1, uf, uz⟩ := Blk.b2 K_u
  have B_u := Lib.hid K_u
  clear K_u
  have HB2 : Hid (Below w.heap.size w w2) := Lib.hid qbv
  have hz2 : w.heap.size + 1 + 1 + 1 < w2.heap.size := uz
  have HSS : Hid (∀ W : World, Below w2.heap.size w2 W → W.cell? ⟨w.heap.size, 0, none⟩ = some (.int .i64 s) ∧ W.cell? ⟨w.heap.size, 1, none⟩ = some (.slice A l.length c) ∧ W.cell? ⟨w.heap.size + 1, 0, none⟩ = some (.int .i64 1) ∧ W.cell? ⟨w.heap.size + 1, 1, none⟩ = some (.slice B m.length d)) := Lib.hid (fun W hW => ⟨keep_cell hW a0, keep_cell hW a1, keep_cell hW b0, keep_cell hW b1⟩)
  clear hb2 r0 r1 rf rz u0 u1 uf uz
  have HMN : Hid (m ≠ []) := Lib.hid (by
    intro h0
    have := HB.out.l
    simp only at this
    rw [h0] at this
    have := digs_nil.1 this.symm
    omega)
  have HVV : Hid (val l = (x.natAbs : Int) ∧ val m = y) := Lib.hid (by
    have h1 := HA.out.val
    have h2 := HB.out.val
    simp only at h1 h2
    exact ⟨h1, by rw [h2]; omega⟩)
  go_wp2_with fail
  refine (big_div ⟨A, c, l⟩ ⟨B, d, m⟩ _ (HA.out.later HB2.out).rd (HB.out.later HB2.out).rd HA.out.norm HB.out.norm (by simp only; omega) HMN.out).mono ?_
  rintro e w3 ⟨⟨qA, qc, ql⟩, ⟨rA, rc, rl⟩, rfl, hql, hrl, hqr, hrr, hb3⟩
  have hr0 := Int.emod_nonneg (x.natAbs : Int) (show y ≠ 0 by omega)
  have hr1 := Int.emod_lt_of_pos (x.natAbs : Int) hy
  have hq0 : 0 ≤ (x.natAbs : Int) / y := Int.ediv_nonneg (by omega) (by omega)
  have hq1 : (x.natAbs : Int) / y ≤ x.natAbs := Int.ediv_le_self _ (by omega)
  simp only at hql hrl
  rw [HVV.out.1, HVV.out.2] at hql hrl
  have hql60 : ql.length ≤ 60 := by
    rw [hql]
    refine Nat.le_trans (digs_mono (show ((x.natAbs : Int) / y).toNat ≤ x.natAbs by omega)) ?_
    have := HA.out.l
    simp only at this
    rw [← this]; exact hla
  have hrl0 : (rl.length = 0) ↔ (x.natAbs : Int) % y = 0 := by
    rw [hrl]
    constructor
    · intro h0
      have := digs_nil.1 (List.eq_nil_of_length_eq_zero h0)
      omega
    · intro h0
      rw [h0]; simp [digs_zero]
  have hrl60 : rl.length ≤ 60 := by
    rw [hrl]
    refine Nat.le_trans (digs_mono (show ((x.natAbs : Int) % y).toNat ≤ y.natAbs by omega)) ?_
    have := HB.out.l
    simp only at this
    rw [← this]; exact hlb
  have FK3 : Hid (Below w2.heap.size w2 w3) := Lib.hid hb3
  have HQL := Lib.hid hql
  have HRL := Lib.hid hrl
  have HQR := Lib.hid hqr
  have HRR := Lib.hid hrr
  have hz3 := hb3.size
  obtain ⟨a0, a1, b0, b1⟩ := HSS.out w3 hb3
  clear hql hrl hqr hrr hb3
  simp only [Sl.v]
  have hneg : ¬ (s < 0 ∧ 0 < rl.length) := by
    rintro ⟨h1, h2⟩
    rcases hc with h3 | h3
    · rw [HS.out] at h1
      rcases sign_cases x with ⟨g1, g2⟩ | ⟨g1, g2⟩ | ⟨g1, g2⟩ <;> omega
    · have := hrl0.2 h3; omega
  have HDP := Lib.hid (div_plain hy hc)
  have HCC := Lib.hid hc
  clear hc hrl0 hr0 hr1 hq0 hq1
  by_cases hsn : s < 0
  · have hrz : rl = [] := List.eq_nil_of_length_eq_zero (by omega)
    subst hrz
    clear hneg
    have hws : IntKind.i64.wrap s = s := wr64 (by omega) (by omega)
    go_wp2_with fail
    refine wp_region_T (fun W => W.cell? ⟨w.heap.size, 0, none⟩ = some (.int .i64 s) ∧ W.cell? ⟨w.heap.size + 1, 0, none⟩ = some (.int .i64 1)) (fun i => 12 ≤ i) (by kernel_rfl) ⟨a0, b0⟩ (fun hHeld => ?_)
    refine qtq 0 ?_
    simp only [qsa, qsb, qsc]
    refine qtq 1 ?_
    simp only [qsa, qsb, qsc]
    refine qtq 2 ?_
    simp only [qsa, qsb, qsc]
    refine qtq 3 ?_
    simp only [qsa, qsb, qsc]
    refine qtq 4 ?_
    simp only [qsa, qsb, qsc]
    refine qtq 5 ?_
    simp only [qsa, qsb, qsc]
    refine qtq 7 ?_
    simp only [qsa, qsb, qsc]
    refine qtq 8 ?_
    simp only [qsa, qsb, qsc]
    refine qtq 9 ?_
    simp only [qsa, qsb, qsc]
    clear hHeld
    refine wpAnyT_next (i := 6) (by kernel_rfl) rfl ?_
    go_wp2_with fail
    refine (big_signed s ⟨qA, qc, ql⟩ w3.drew (show Rd (Nw w2.heap.size w3) 1 ienc w3.drew ⟨qA, qc, ql⟩ from HQR.out) (fun _ h => h.lt)).mono ?_
    rintro e w4 ⟨⟨es, ⟨eA, ec, el⟩⟩, rfl, hed, her, hb4⟩
    have FK4 := Lib.hid (below_via hb4 (Below.drew FK3.out))
    have HED := Lib.hid (hed.trans (signed_is (z := x / y) (by simp only; rw [HQL.out]; exact (digs_norm _).ok) (by simp only; rw [HQL.out, digs_val]; exact plain_abs HDP.out.1 hy) (fun h0 => plain_sign HDP.out.1 hy HS.out h0)))
    have HER4 := Lib.hid her
    have hz34 : w3.heap.size ≤ w4.heap.size := hb4.size
    have hb34 : Below w3.heap.size w3 w4 := below_via hb4 (Below.drew (Below.refl _ _))
    have HRR4 := Lib.hid (HRR.out.up (fun _ h => h.lt) hb34)
    clear hed her hb4 hb34
    simp only [Big.v]
    go_wp2_with fail
    refine And.intro (by first | exact fun _ => ⟨(HSS.out _ FK4.out).1, (HSS.out _ FK4.out).2.2.1⟩ | exact ⟨(HSS.out _ FK4.out).1, (HSS.out _ FK4.out).2.2.1⟩) ?_
    refine wpAnyT_next (i := 10) (by kernel_rfl) rfl ?_
    go_wp2_with fail
    refine (big_signed s ⟨rA, rc, []⟩ _ HRR4.out (fun _ h => Nat.lt_of_lt_of_le h.2 hz34)).mono ?_
    rintro e w5 ⟨⟨gs, ⟨gA, gc, gl⟩⟩, rfl, hgd, hgr, hb5⟩
    have FK5 := Lib.hid (below_via hb5 FK4.out)
    have HGD := Lib.hid (hgd.trans (signed_is (z := x % y) (by simp only; rw [HRL.out]; exact (digs_norm _).ok) (by simp only; rw [HRL.out, digs_val]; have := Int.emod_nonneg x (show y ≠ 0 by omega); rw [HDP.out.2] at this ⊢; omega) (fun h0 => plain_rem HDP.out.2 hy HS.out HCC.out h0)))
    have hz5 : w3.heap.size ≤ w5.heap.size := Nat.le_trans hz34 hb5.size
    have HER : Hid (Rd (Nw w2.heap.size w5) 1 ienc w5 ⟨eA, ec, el⟩) := Lib.hid ((HER4.out.up (fun b h => Nat.lt_of_lt_of_le h.2 hz34) hb5).mono fun b h => nw_two h (Nat.le_refl _) hz5)
    have HGR : Hid (Rd (Nw w2.heap.size w5) 1 ienc w5 ⟨gA, gc, gl⟩) := Lib.hid (hgr.mono fun b h => nw_two h (Nat.le_refl _) hz5)
    have hbz := Below.mono FK5.out (show w.heap.size ≤ w2.heap.size by omega)
    have HBW := Lib.hid (HB2.out.trans hbz)
    clear hgd hgr hb5 hbz HER4 HRR4
    have K_r : Blk _ (w.heap.size + 1 + 1) 69 #[.int .i64 0, .slice none 0 0] := blk_later FK5.out (by simp [hp_past, hp_at, hp_other, hp_same, hp_drew, hp_drewN, B_r.out.eq, B_r.out.lt, hp_same B_r.out.eq])
    obtain ⟨r0, r1, rf, rz⟩ := Blk.b2 K_r
    have B_r := Lib.hid K_r
    clear K_r
    have K_u : Blk _ (w.heap.size + 1 + 1 + 1) 69 #[.int .i64 0, .slice none 0 0] := blk_later FK5.out (by simp [hp_past, hp_at, hp_other, hp_same, hp_drew, hp_drewN, B_u.out.eq, B_u.out.lt, hp_same B_u.out.eq])
    obtain ⟨u0, u1, uf, uz⟩ := Blk.b2 K_u
    have B_u := Lib.hid K_u
    clear K_u
    obtain ⟨c0, _, c1, _⟩ := HSS.out w5 FK5.out
    simp only [Big.v]
    go_wp2_with fail
    refine And.intro (by first | exact fun _ => ⟨c0, c1⟩ | exact ⟨c0, c1⟩) ?_
    refine wpAnyT_next (i := 11) (by kernel_rfl) rfl ?_
    go_wp2_with fail
    refine And.intro (by first | exact fun _ => ⟨two_keep c0 (by first | omega | (simp; done) | (simp; omega)), two_keep c1 (by first | omega | (simp; done) | (simp; omega))⟩ | exact ⟨two_keep c0 (by first | omega | (simp; done) | (simp; omega)), two_keep c1 (by first | omega | (simp; done) | (simp; omega))⟩) ?_
    refine wpAnyT_next (i := 12) (by kernel_rfl) rfl ?_
    go_wp2_with fail
    try simp only [QT]
    try (with_reducible refine And.intro (fun h => by simp at h) ?_)
    refine wpAnyT_next (i := 13) (by kernel_rfl) rfl ?_
    go_wp2_with fail
    try simp only [QT]
    try (with_reducible refine And.intro (fun h => by simp at h) ?_)
    refine wpAnyT_done (by kernel_rfl) ?_ _
    go_wp2_with fail
    have hne1 : ∀ b, w2.heap.size ≤ b → b ≠ w.heap.size + 1 + 1 := fun b hb => by omega
    have hne2 : ∀ b, w2.heap.size ≤ b → b ≠ w.heap.size + 1 + 1 + 1 := fun b hb => by omega
    try simp only [Exit.inBlock, Exit.then]
    refine bodyPost_ret (v := .tuple #[.agg #[.int .i64 es, .slice eA el.length ec], .agg #[.int .i64 gs, .slice gA gl.length gc], .int .i64 0]) ?_ rfl ⟨⟨es, ⟨eA, ec, el⟩⟩, ⟨gs, ⟨gA, gc, gl⟩⟩, rfl, HED.out, HGD.out, rd_four HER.out hne1 hne2 (by omega), rd_four HGR.out hne1 hne2 (by omega), below_two (below_two HBW.out)⟩
    simp [results, Tryz.results121, go_sem, r0, r1, u0, u1]
  · clear hneg
    have hws : IntKind.i64.wrap s = s := wr64 (by omega) (by omega)
    go_wp2_with fail
    refine wp_region_T (fun W => W.cell? ⟨w.heap.size, 0, none⟩ = some (.int .i64 s) ∧ W.cell? ⟨w.heap.size + 1, 0, none⟩ = some (.int .i64 1)) (fun i => 12 ≤ i) (by kernel_rfl) ⟨a0, b0⟩ (fun hHeld => ?_)
    refine qtq 0 ?_
    simp only [qsa, qsb, qsc]
    refine qtq 1 ?_
    simp only [qsa, qsb, qsc]
    refine qtq 2 ?_
    simp only [qsa, qsb, qsc]
    refine qtq 3 ?_
    simp only [qsa, qsb, qsc]
    refine qtq 4 ?_
    simp only [qsa, qsb, qsc]
    refine qtq 5 ?_
    simp only [qsa, qsb, qsc]
    refine qtq 7 ?_
    simp only [qsa, qsb, qsc]
    refine qtq 8 ?_
    simp only [qsa, qsb, qsc]
    refine qtq 9 ?_
    simp only [qsa, qsb, qsc]
    clear hHeld
    refine wpAnyT_next (i := 6) (by kernel_rfl) rfl ?_
    go_wp2_with fail
    refine (big_signed s ⟨qA, qc, ql⟩ w3.drew (show Rd (Nw w2.heap.size w3) 1 ienc w3.drew ⟨qA, qc, ql⟩ from HQR.out) (fun _ h => h.lt)).mono ?_
    rintro e w4 ⟨⟨es, ⟨eA, ec, el⟩⟩, rfl, hed, her, hb4⟩
    have FK4 := Lib.hid (below_via hb4 (Below.drew FK3.out))
    have HED := Lib.hid (hed.trans (signed_is (z := x / y) (by simp only; rw [HQL.out]; exact (digs_norm _).ok) (by simp only; rw [HQL.out, digs_val]; exact plain_abs HDP.out.1 hy) (fun h0 => plain_sign HDP.out.1 hy HS.out h0)))
    have HER4 := Lib.hid her
    have hz34 : w3.heap.size ≤ w4.heap.size := hb4.size
    have hb34 : Below w3.heap.size w3 w4 := below_via hb4 (Below.drew (Below.refl _ _))
    have HRR4 := Lib.hid (HRR.out.up (fun _ h => h.lt) hb34)
    clear hed her hb4 hb34
    simp only [Big.v]
    go_wp2_with fail
    refine And.intro (by first | exact fun _ => ⟨(HSS.out _ FK4.out).1, (HSS.out _ FK4.out).2.2.1⟩ | exact ⟨(HSS.out _ FK4.out).1, (HSS.out _ FK4.out).2.2.1⟩) ?_
    refine wpAnyT_next (i := 10) (by kernel_rfl) rfl ?_
    go_wp2_with fail
    refine (big_signed s ⟨rA, rc, rl⟩ _ HRR4.out (fun _ h => Nat.lt_of_lt_of_le h.2 hz34)).mono ?_
    rintro e w5 ⟨⟨gs, ⟨gA, gc, gl⟩⟩, rfl, hgd, hgr, hb5⟩
    have FK5 := Lib.hid (below_via hb5 FK4.out)
    have HGD := Lib.hid (hgd.trans (signed_is (z := x % y) (by simp only; rw [HRL.out]; exact (digs_norm _).ok) (by simp only; rw [HRL.out, digs_val]; have := Int.emod_nonneg x (show y ≠ 0 by omega); rw [HDP.out.2] at this ⊢; omega) (fun h0 => plain_rem HDP.out.2 hy HS.out HCC.out h0)))
    have hz5 : w3.heap.size ≤ w5.heap.size := Nat.le_trans hz34 hb5.size
    have HER : Hid (Rd (Nw w2.heap.size w5) 1 ienc w5 ⟨eA, ec, el⟩) := Lib.hid ((HER4.out.up (fun b h => Nat.lt_of_lt_of_le h.2 hz34) hb5).mono fun b h => nw_two h (Nat.le_refl _) hz5)
    have HGR : Hid (Rd (Nw w2.heap.size w5) 1 ienc w5 ⟨gA, gc, gl⟩) := Lib.hid (hgr.mono fun b h => nw_two h (Nat.le_refl _) hz5)
    have hbz := Below.mono FK5.out (show w.heap.size ≤ w2.heap.size by omega)
    have HBW := Lib.hid (HB2.out.trans hbz)
    clear hgd hgr hb5 hbz HER4 HRR4
    have K_r : Blk _ (w.heap.size + 1 + 1) 69 #[.int .i64 0, .slice none 0 0] := blk_later FK5.out (by simp [hp_past, hp_at, hp_other, hp_same, hp_drew, hp_drewN, B_r.out.eq, B_r.out.lt, hp_same B_r.out.eq])
    obtain ⟨r0, r1, rf, rz⟩ := Blk.b2 K_r
    have B_r := Lib.hid K_r
    clear K_r
    have K_u : Blk _ (w.heap.size + 1 + 1 + 1) 69 #[.int .i64 0, .slice none 0 0] := blk_later FK5.out (by simp [hp_past, hp_at, hp_other, hp_same, hp_drew, hp_drewN, B_u.out.eq, B_u.out.lt, hp_same B_u.out.eq])
    obtain ⟨u0, u1, uf, uz⟩ := Blk.b2 K_u
    have B_u := Lib.hid K_u
    clear K_u
    obtain ⟨c0, _, c1, _⟩ := HSS.out w5 FK5.out
    simp only [Big.v]
    go_wp2_with fail
    refine And.intro (by first | exact fun _ => ⟨c0, c1⟩ | exact ⟨c0, c1⟩) ?_
    refine wpAnyT_next (i := 11) (by kernel_rfl) rfl ?_
    go_wp2_with fail
    refine And.intro (by first | exact fun _ => ⟨two_keep c0 (by first | omega | (simp; done) | (simp; omega)), two_keep c1 (by first | omega | (simp; done) | (simp; omega))⟩ | exact ⟨two_keep c0 (by first | omega | (simp; done) | (simp; omega)), two_keep c1 (by first | omega | (simp; done) | (simp; omega))⟩) ?_
    refine wpAnyT_next (i := 12) (by kernel_rfl) rfl ?_
    go_wp2_with fail
    try simp only [QT]
    try (with_reducible refine And.intro (fun h => by simp at h) ?_)
    refine wpAnyT_next (i := 13) (by kernel_rfl) rfl ?_
    go_wp2_with fail
    try simp only [QT]
    try (with_reducible refine And.intro (fun h => by simp at h) ?_)
    refine wpAnyT_done (by kernel_rfl) ?_ _
    go_wp2_with fail
    have hne1 : ∀ b, w2.heap.size ≤ b → b ≠ w.heap.size + 1 + 1 := fun b hb => by omega
    have hne2 : ∀ b, w2.heap.size ≤ b → b ≠ w.heap.size + 1 + 1 + 1 := fun b hb => by omega
    try simp only [Exit.inBlock, Exit.then]
    refine bodyPost_ret (v := .tuple #[.agg #[.int .i64 es, .slice eA el.length ec], .agg #[.int .i64 gs, .slice gA gl.length gc], .int .i64 0]) ?_ rfl ⟨⟨es, ⟨eA, ec, el⟩⟩, ⟨gs, ⟨gA, gc, gl⟩⟩, rfl, HED.out, HGD.out, rd_four HER.out hne1 hne2 (by omega), rd_four HGR.out hne1 hne2 (by omega), below_two (below_two HBW.out)⟩
    simp [results, Tryz.results121, go_sem, r0, r1, u0, u1]
set_option maxRecDepth 100000 in
set_option maxHeartbeats 3200000 in
theorem big_Div_neg (a b : Big) (x y : Int) (w : World) (ha : RB w a x) (hb : RB w b y) (hy : 0 < y) (hx : x < 0) (hc : (x.natAbs : Int) % y ≠ 0) :
    Calls Tryz.prog 121 #[a.v, b.v] w fun e w' => QrP w w' x y e := by
  obtain ⟨s, ⟨A, c, l⟩⟩ := a
  obtain ⟨t, ⟨B, d, m⟩⟩ := b
  have hs := ha.s
  have ht := hb.s
  rw [Int.sign_eq_one_of_pos hy] at ht
  have hla := ha.len
  have hlb := hb.len
  simp only at hs ht hla hlb
  subst ht
  have hsr := sign_range x
  rw [← hs] at hsr
  have HA := Lib.hid ha
  have HB := Lib.hid hb
  have HS := Lib.hid hs
  clear ha hb hs
  simp only [Big.v]
  go_enter Tryz.func121, Tryz.ntmps121
  go_wp2_with fail
  refine (right_ok ⟨s, ⟨A, c, l⟩⟩ x _ (HA.out.later qbl)).mono ?_
  rintro e w1 ⟨rfl, hb1⟩
  have l0 : w.heap.size < w.heap.size + 1 + 1 := by omega
  have l1 : w.heap.size < w.heap.size + 1 + 1 + 1 := by omega
  have l2 : w.heap.size + 1 < w.heap.size + 1 + 1 + 1 := by omega
  have K_a : Blk _ (w.heap.size) 69 #[.int .i64 s, .slice A l.length c] := blk_later hb1 (by simp [hp_past, hp_at, hp_other, hp_same, hp_drew, hp_drewN, l0, l1])
  obtain ⟨a0, a1, af, az⟩ := Blk.b2 K_a
  have B_a := Lib.hid K_a
  clear K_a
  have K_b : Blk _ (w.heap.size + 1) 69 #[.int .i64 1, .slice B m.length d] := blk_later hb1 (by simp [hp_past, hp_at, hp_other, hp_same, hp_drew, hp_drewN, l0, l1, l2])
  obtain ⟨b0, b1, bf, bz⟩ := Blk.b2 K_b
  have B_b := Lib.hid K_b
  clear K_b
  have K_r : Blk _ (w.heap.size + 1 + 1) 69 #[.int .i64 0, .slice none 0 0] := blk_later hb1 (by simp [hp_past, hp_at, hp_other, hp_same, hp_drew, hp_drewN, l0, l1, l2])
  obtain ⟨r0, r1, rf, rz⟩ := Blk.b2 K_r
  have B_r := Lib.hid K_r
  clear K_r
  have K_u : Blk _ (w.heap.size + 1 + 1 + 1) 69 #[.int .i64 0, .slice none 0 0] := blk_later hb1 (by simp [hp_past, hp_at, hp_other, hp_same, hp_drew, hp_drewN, l0, l1, l2])
  obtain ⟨u0, u1, uf, uz⟩ := Blk.b2 K_u
  have B_u := Lib.hid K_u
  clear K_u
  have hB1 : Below w.heap.size w w1 := qbv
  clear hb1
  go_wp2_with fail
  refine (right_ok ⟨1, ⟨B, d, m⟩⟩ y _ (HB.out.later hB1)).mono ?_
  rintro e w2 ⟨rfl, hb2⟩
  clear a0 a1 af az b0 b1 bf bz r0 r1 rf rz u0 u1 uf uz
  have K_a : Blk _ (w.heap.size) 69 #[.int .i64 s, .slice A l.length c] := qkc B_a hb2
  obtain ⟨a0, a1, af, az⟩ := Blk.b2 K_a
  have B_a := Lib.hid K_a
  clear K_a
  have K_b : Blk _ (w.heap.size + 1) 69 #[.int .i64 1, .slice B m.length d] := qkc B_b hb2
  obtain ⟨b0, b1, bf, bz⟩ := Blk.b2 K_b
  have B_b := Lib.hid K_b
  clear K_b
  have K_r : Blk _ (w.heap.size + 1 + 1) 69 #[.int .i64 0, .slice none 0 0] := qkc B_r hb2
  obtain ⟨r0, r1, rf, rz⟩ := Blk.b2 K_r
  have B_r := Lib.hid K_r
  clear K_r
  have K_u : Blk _ (w.heap.size + 1 + 1 + 1) 69 #[.int .i64 0, .slice none 0 0] := qkc B_u hb2
  obtain ⟨u0, u1, uf, uz⟩ := Blk.b2 K_u
  have B_u := Lib.hid K_u
  clear K_u
  have HB2 : Hid (Below w.heap.size w w2) := Lib.hid qbv
  have hz2 : w.heap.size + 1 + 1 + 1 < w2.heap.size := uz
  have HSS : Hid (∀ W : World, Below w2.heap.size w2 W → W.cell? ⟨w.heap.size, 0, none⟩ = some (.int .i64 s) ∧ W.cell? ⟨w.heap.size, 1, none⟩ = some (.slice A l.length c) ∧ W.cell? ⟨w.heap.size + 1, 0, none⟩ = some (.int .i64 1) ∧ W.cell? ⟨w.heap.size + 1, 1, none⟩ = some (.slice B m.length d)) := Lib.hid (fun W hW => ⟨keep_cell hW a0, keep_cell hW a1, keep_cell hW b0, keep_cell hW b1⟩)
  clear hb2 r0 r1 rf rz u0 u1 uf uz
  have HMN : Hid (m ≠ []) := Lib.hid (by
    intro h0
    have := HB.out.l
    simp only at this
    rw [h0] at this
    have := digs_nil.1 this.symm
    omega)
  have HVV : Hid (val l = (x.natAbs : Int) ∧ val m = y) := Lib.hid (by
    have h1 := HA.out.val
    have h2 := HB.out.val
    simp only at h1 h2
    exact ⟨h1, by rw [h2]; omega⟩)
  go_wp2_with fail
  refine (big_div ⟨A, c, l⟩ ⟨B, d, m⟩ _ (HA.out.later HB2.out).rd (HB.out.later HB2.out).rd HA.out.norm HB.out.norm (by simp only; omega) HMN.out).mono ?_
  rintro e w3 ⟨⟨qA, qc, ql⟩, ⟨rA, rc, rl⟩, rfl, hql, hrl, hqr, hrr, hb3⟩
  have hr0 := Int.emod_nonneg (x.natAbs : Int) (show y ≠ 0 by omega)
  have hr1 := Int.emod_lt_of_pos (x.natAbs : Int) hy
  have hq0 : 0 ≤ (x.natAbs : Int) / y := Int.ediv_nonneg (by omega) (by omega)
  have hq1 : (x.natAbs : Int) / y ≤ x.natAbs := Int.ediv_le_self _ (by omega)
  simp only at hql hrl
  rw [HVV.out.1, HVV.out.2] at hql hrl
  have hql60 : ql.length ≤ 60 := by
    rw [hql]
    refine Nat.le_trans (digs_mono (show ((x.natAbs : Int) / y).toNat ≤ x.natAbs by omega)) ?_
    have := HA.out.l
    simp only at this
    rw [← this]; exact hla
  have hrl0 : (rl.length = 0) ↔ (x.natAbs : Int) % y = 0 := by
    rw [hrl]
    constructor
    · intro h0
      have := digs_nil.1 (List.eq_nil_of_length_eq_zero h0)
      omega
    · intro h0
      rw [h0]; simp [digs_zero]
  have hrl60 : rl.length ≤ 60 := by
    rw [hrl]
    refine Nat.le_trans (digs_mono (show ((x.natAbs : Int) % y).toNat ≤ y.natAbs by omega)) ?_
    have := HB.out.l
    simp only at this
    rw [← this]; exact hlb
  have FK3 : Hid (Below w2.heap.size w2 w3) := Lib.hid hb3
  have HQL := Lib.hid hql
  have HRL := Lib.hid hrl
  have HQR := Lib.hid hqr
  have HRR := Lib.hid hrr
  have hz3 := hb3.size
  obtain ⟨a0, a1, b0, b1⟩ := HSS.out w3 hb3
  clear hql hrl hqr hrr hb3
  simp only [Sl.v]
  have hsn : s < 0 := by rw [HS.out, Int.sign_eq_neg_one_of_neg hx]; omega
  have hrp : 0 < rl.length := by
    rcases Nat.eq_zero_or_pos rl.length with h0 | h0
    · exact absurd (hrl0.1 h0) hc
    · exact h0
  have HDP := Lib.hid (div_neg hy hx hc)
  have HHC := Lib.hid (And.intro hr0 hr1)
  have HH0 := Lib.hid (And.intro hq0 hq1)
  clear hc hrl0 hr0 hr1 hq0 hq1
  go_wp2_with fail
  refine wp_region_T (fun W => W.cell? ⟨w.heap.size + 1, 0, none⟩ = some (.int .i64 1) ∧ W.cell? ⟨w.heap.size + 1, 1, none⟩ = some (.slice B m.length d)) (fun i => 12 ≤ i) (by kernel_rfl) ⟨b0, b1⟩ (fun hHeld => ?_)
  refine qtq 0 ?_
  simp only [qsa, qsb, qsc]
  refine qtq 4 ?_
  simp only [qsa, qsb, qsc]
  refine qtq 5 ?_
  simp only [qsa, qsb, qsc]
  refine qtq 6 ?_
  simp only [qsa, qsb, qsc]
  refine qtq 7 ?_
  simp only [qsa, qsb, qsc]
  refine qtq 8 ?_
  simp only [qsa, qsb, qsc]
  clear hHeld
  refine wpAnyT_next (i := 1) (by kernel_rfl) rfl ?_
  go_wp2_with fail
  have hol := OI.new w3.drew [1] (by simp [maxLen])
  have hbl : Below w3.heap.size w3 (w3.drew.alloc (.cells (ints [1]) 3)) := (Below.drew (Below.refl _ _)).alloc (Nat.le_refl _) _
  have HOL := Lib.hid hol
  have HBL := Lib.hid hbl
  have FKL := Lib.hid (FK3.out.trans (hbl.mono FK3.out.size))
  clear hol hbl
  refine And.intro (by first | exact fun _ => ⟨(HSS.out _ FKL.out).2.2.1, (HSS.out _ FKL.out).2.2.2⟩ | exact ⟨(HSS.out _ FKL.out).2.2.1, (HSS.out _ FKL.out).2.2.2⟩) ?_
  refine wpAnyT_next (i := 2) (by kernel_rfl) rfl ?_
  go_wp2_with fail
  refine (big_add ⟨qA, qc, ql⟩ ⟨some ⟨w3.heap.size, 0, none⟩, 1, [1]⟩ _ (HQR.out.nwlt.later HBL.out) HOL.out.rdlt (by simp only; rw [HQL.out]; exact (digs_norm _).ok) (digOK_cons.2 ⟨by omega, DigOK.nil⟩) (by simp only; omega) (by simp) (n := ((x.natAbs : Int) / y + 1).toNat) (by simp only [val]; rw [HQL.out, digs_val]; have := HH0.out.1; omega)).mono ?_
  rintro e w4 ⟨⟨pA, pc, pl⟩, rfl, hpl, hown, hb4⟩
  have FK4 : Hid (Below w2.heap.size w2 w4) := Lib.hid (FKL.out.trans (hb4.mono FKL.out.size))
  have G4 := Lib.hid (HBL.out.trans (hb4.mono HBL.out.size))
  have HPL := Lib.hid hpl
  have HPN : Hid (Rd (Nw w2.heap.size w4) 1 ienc w4 ⟨pA, pc, pl⟩) := Lib.hid (hown.nw.mono fun b hb => hb.mono FKL.out.size (Nat.le_refl _))
  clear hpl hown hb4
  simp only [Sl.v]
  go_wp2_with fail
  refine And.intro (by first | exact fun _ => ⟨(HSS.out _ FK4.out).2.2.1, (HSS.out _ FK4.out).2.2.2⟩ | exact ⟨(HSS.out _ FK4.out).2.2.1, (HSS.out _ FK4.out).2.2.2⟩) ?_
  refine wpAnyT_next (i := 3) (by kernel_rfl) rfl ?_
  go_wp2_with fail
  refine (big_signed (-1) ⟨pA, pc, pl⟩ _ HPN.out (fun _ h => h.lt)).mono ?_
  rintro e w5 ⟨⟨es, ⟨eA, ec, el⟩⟩, rfl, hed, her, hb5⟩
  have FK5 := Lib.hid (below_via hb5 FK4.out)
  have HED := Lib.hid (hed.trans (signed_is (z := x / y) (by simp only; rw [HPL.out]; exact (digs_norm _).ok) (by simp only; rw [HPL.out, digs_val, HDP.out.1]; have := HH0.out.1; omega) (fun h0 => by rw [Int.sign_eq_neg_one_of_neg (by rw [HDP.out.1]; have := HH0.out.1; omega)])))
  have HER5 := Lib.hid her
  have G5 := Lib.hid (below_via hb5 G4.out)
  have hz45 := hb5.size
  have hz24 := FK4.out.size
  clear hed her hb5
  simp only [Big.v]
  go_wp2_with fail
  refine And.intro (by first | exact fun _ => ⟨(HSS.out _ FK5.out).2.2.1, (HSS.out _ FK5.out).2.2.2⟩ | exact ⟨(HSS.out _ FK5.out).2.2.1, (HSS.out _ FK5.out).2.2.2⟩) ?_
  refine wpAnyT_next (i := 9) (by kernel_rfl) rfl ?_
  go_wp2_with fail
  have HRN : Hid (Norm rl ∧ val rl = (x.natAbs : Int) % y) := Lib.hid (by
    have h1 := HHC.out.1
    exact ⟨by rw [HRL.out]; exact digs_norm _, by rw [HRL.out, digs_val]; omega⟩)
  refine (big_sub ⟨B, d, m⟩ ⟨rA, rc, rl⟩ _ (HB.out.later (HB2.out.trans (FK5.out.mono HB2.out.size))).rd (HRR.out.nwlt.later G5.out) HB.out.norm HRN.out.1 (by simp only; omega) (by simp only; rw [HRN.out.2, HVV.out.2]; have := HHC.out.2; omega) (n := (y - (x.natAbs : Int) % y).toNat) (by simp only; rw [HRN.out.2, HVV.out.2]; have := HHC.out.2; omega)).mono ?_
  rintro e w6 ⟨⟨pB, pd, pm⟩, rfl, hpm, hown, hb6⟩
  have FK6 := Lib.hid (FK5.out.trans (hb6.mono FK5.out.size))
  have HPM := Lib.hid hpm
  have HPN6 : Hid (Rd (Nw w2.heap.size w6) 1 ienc w6 ⟨pB, pd, pm⟩) := Lib.hid (hown.nw.mono fun b hb => hb.mono FK5.out.size (Nat.le_refl _))
  have HER6 : Hid (Rd (Nw w2.heap.size w6) 1 ienc w6 ⟨eA, ec, el⟩) := Lib.hid ((HER5.out.up (fun b h => Nat.lt_of_lt_of_le h.2 hz45) hb6).mono fun b h => nw_two h (Nat.le_refl _) (Nat.le_trans hz45 hb6.size))
  clear hpm hown hb6 HPL HPN HER5
  simp only [Sl.v]
  go_wp2_with fail
  refine And.intro (by first | exact fun _ => ⟨(HSS.out _ FK6.out).2.2.1, (HSS.out _ FK6.out).2.2.2⟩ | exact ⟨(HSS.out _ FK6.out).2.2.1, (HSS.out _ FK6.out).2.2.2⟩) ?_
  refine wpAnyT_next (i := 10) (by kernel_rfl) rfl ?_
  go_wp2_with fail
  refine (big_signed 1 ⟨pB, pd, pm⟩ _ HPN6.out (fun _ h => h.lt)).mono ?_
  rintro e w7 ⟨⟨gs, ⟨gA, gc, gl⟩⟩, rfl, hgd, hgr, hb7⟩
  have FK7 := Lib.hid (below_via hb7 FK6.out)
  have HGD := Lib.hid (hgd.trans (signed_is (z := x % y) (by simp only; rw [HPM.out]; exact (digs_norm _).ok) (by simp only; rw [HPM.out, digs_val, HDP.out.2]; have := HHC.out.2; omega) (fun h0 => by rw [Int.sign_eq_one_of_pos (by rw [HDP.out.2]; have := HHC.out.2; omega)])))
  have HGR : Hid (Rd (Nw w2.heap.size w7) 1 ienc w7 ⟨gA, gc, gl⟩) := Lib.hid (hgr.mono fun b h => nw_two h (Nat.le_refl _) hb7.size)
  have HER : Hid (Rd (Nw w2.heap.size w7) 1 ienc w7 ⟨eA, ec, el⟩) := Lib.hid ((HER6.out.up (fun b h => h.lt) hb7).mono fun b h => nw_two h (Nat.le_refl _) hb7.size)
  have hbz := Below.mono FK7.out (show w.heap.size ≤ w2.heap.size by omega)
  have HBW := Lib.hid (HB2.out.trans hbz)
  clear hgd hgr hb7 hbz HER6 HPN6
  have K_r : Blk _ (w.heap.size + 1 + 1) 69 #[.int .i64 0, .slice none 0 0] := blk_later FK7.out (by simp [hp_past, hp_at, hp_other, hp_same, hp_drew, hp_drewN, B_r.out.eq, B_r.out.lt, hp_same B_r.out.eq])
  obtain ⟨r0, r1, rf, rz⟩ := Blk.b2 K_r
  have B_r := Lib.hid K_r
  clear K_r
  have K_u : Blk _ (w.heap.size + 1 + 1 + 1) 69 #[.int .i64 0, .slice none 0 0] := blk_later FK7.out (by simp [hp_past, hp_at, hp_other, hp_same, hp_drew, hp_drewN, B_u.out.eq, B_u.out.lt, hp_same B_u.out.eq])
  obtain ⟨u0, u1, uf, uz⟩ := Blk.b2 K_u
  have B_u := Lib.hid K_u
  clear K_u
  obtain ⟨_, _, c0, c1⟩ := HSS.out w7 FK7.out
  simp only [Big.v]
  go_wp2_with fail
  refine And.intro (by first | exact fun _ => ⟨c0, c1⟩ | exact ⟨c0, c1⟩) ?_
  refine wpAnyT_next (i := 11) (by kernel_rfl) rfl ?_
  go_wp2_with fail
  refine And.intro (by first | exact fun _ => ⟨two_keep c0 (by first | omega | (simp; done) | (simp; omega)), two_keep c1 (by first | omega | (simp; done) | (simp; omega))⟩ | exact ⟨two_keep c0 (by first | omega | (simp; done) | (simp; omega)), two_keep c1 (by first | omega | (simp; done) | (simp; omega))⟩) ?_
  refine wpAnyT_next (i := 12) (by kernel_rfl) rfl ?_
  go_wp2_with fail
  try simp only [QT]
  try (with_reducible refine And.intro (fun h => by simp at h) ?_)
  refine wpAnyT_next (i := 13) (by kernel_rfl) rfl ?_
  go_wp2_with fail
  try simp only [QT]
  try (with_reducible refine And.intro (fun h => by simp at h) ?_)
  refine wpAnyT_done (by kernel_rfl) ?_ _
  go_wp2_with fail
  have hne1 : ∀ b, w2.heap.size ≤ b → b ≠ w.heap.size + 1 + 1 := fun b hb => by omega
  have hne2 : ∀ b, w2.heap.size ≤ b → b ≠ w.heap.size + 1 + 1 + 1 := fun b hb => by omega
  try simp only [Exit.inBlock, Exit.then]
  refine bodyPost_ret (v := .tuple #[.agg #[.int .i64 es, .slice eA el.length ec], .agg #[.int .i64 gs, .slice gA gl.length gc], .int .i64 0]) ?_ rfl ⟨⟨es, ⟨eA, ec, el⟩⟩, ⟨gs, ⟨gA, gc, gl⟩⟩, rfl, HED.out, HGD.out, rd_four HER.out hne1 hne2 (by omega), rd_four HGR.out hne1 hne2 (by omega), below_two (below_two HBW.out)⟩
  simp [results, Tryz.results121, go_sem, r0, r1, u0, u1]
theorem big_Div (a b : Big) (x y : Int) (w : World) (ha : RB w a x) (hb : RB w b y) (hy : 0 < y) :
    Calls Tryz.prog 121 #[a.v, b.v] w fun e w' => QrP w w' x y e := by
  by_cases hc : 0 ≤ x ∨ (x.natAbs : Int) % y = 0
  · exact big_Div_plain a b x y w ha hb hy hc
  · exact big_Div_neg a b x y w ha hb hy (by omega) (by omega)
end Go.Proofs.YtcgocdhhneckhaaGreat
