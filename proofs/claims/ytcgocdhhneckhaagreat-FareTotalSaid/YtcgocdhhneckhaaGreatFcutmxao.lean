/- Walks of package big: Compare, Neg. Right integers in memory. -/
import Derived.Test.YtcgocdhhneckhaaGreatFcutmxan
namespace Go.Proofs.YtcgocdhhneckhaaGreat
open Go.RowKit
/-- A right integer in memory. -/
structure RB (w : World) (a : Big) (x : Int) : Prop where
  rd : Rd (· < w.heap.size) 1 ienc w a.l
  s : a.s = x.sign
  l : a.l.l = digs x.natAbs
  fits : Fits x
section
variable {w w' : World} {a : Big} {x : Int}
theorem RB.d (h : RB w a x) : a.d = bigD x := by unfold Big.d bigD; rw [h.s, h.l]
theorem RB.norm (h : RB w a x) : Norm a.l.l := by rw [h.l]; exact digs_norm _
theorem RB.val (h : RB w a x) : val a.l.l = x.natAbs := by rw [h.l, digs_val]
theorem RB.len (h : RB w a x) : a.l.l.length ≤ 60 := by rw [h.l]; exact fits_iff.1 h.fits
theorem RB.later (h : RB w a x) (hb : Below w.heap.size w w') : RB w' a x := ⟨h.rd.later hb, h.s, h.l, h.fits⟩
theorem RB.mk' (hr : Rd (· < w.heap.size) 1 ienc w a.l) (hd : a.d = bigD x) (hf : Fits x) : RB w a x := by
  unfold Big.d bigD at hd
  injection hd with h1 h2
  exact ⟨hr, h1, h2, hf⟩
theorem BigP.rb {e : Ending} (h : BigP w w' (bigD x) e) (hf : Fits x) : ∃ a : Big, e = .returned a.v ∧ RB w' a x ∧ Below w.heap.size w w' := by
  obtain ⟨a, rfl, hd, hr, hb⟩ := h
  exact ⟨a, rfl, RB.mk' hr.nwlt hd hf, hb⟩
end
theorem right_ok (a : Big) (x : Int) (w : World) (ha : RB w a x) : Calls Tryz.prog 159 #[a.v] w fun e w' => e = .returned (.bool true) ∧ Below w.heap.size w w' := by
  refine (big_right a w ha.rd).mono ?_
  rintro e w' ⟨rfl, hb⟩
  exact ⟨by rw [ha.d, bigD_right.2 ha.fits], hb⟩
theorem ucmp_signs {x y : Int} (h : x.sign ≠ y.sign) : ucmp x.sign y.sign = ucmp x y := by
  rcases Int.lt_trichotomy x 0 with hx | hx | hx <;> rcases Int.lt_trichotomy y 0 with hy | hy | hy <;>
    first
    | (subst hx; subst hy; exact absurd rfl h)
    | (rw [Int.sign_eq_neg_one_of_neg hx, Int.sign_eq_neg_one_of_neg hy] at h; exact absurd rfl h)
    | (rw [Int.sign_eq_one_of_pos hx, Int.sign_eq_one_of_pos hy] at h; exact absurd rfl h)
    | (rw [Int.sign_eq_neg_one_of_neg hx, Int.sign_eq_one_of_pos hy, ucmp_lt (by omega), ucmp_lt (by omega)])
    | (rw [Int.sign_eq_one_of_pos hx, Int.sign_eq_neg_one_of_neg hy, ucmp_gt (by omega), ucmp_gt (by omega)])
    | (subst hx; rw [Int.sign_eq_one_of_pos hy, Int.sign_zero, ucmp_lt (by omega), ucmp_lt (by omega)])
    | (subst hx; rw [Int.sign_eq_neg_one_of_neg hy, Int.sign_zero, ucmp_gt (by omega), ucmp_gt (by omega)])
    | (subst hy; rw [Int.sign_eq_one_of_pos hx, Int.sign_zero, ucmp_gt (by omega), ucmp_gt (by omega)])
    | (subst hy; rw [Int.sign_eq_neg_one_of_neg hx, Int.sign_zero, ucmp_lt (by omega), ucmp_lt (by omega)])
theorem ucmp_abs {x y : Int} (h : x.sign = y.sign) : x.sign * ucmp (x.natAbs : Int) (y.natAbs : Int) = ucmp x y := by
  rcases Int.lt_trichotomy x 0 with hx | hx | hx
  · have hy : y < 0 := by
      rw [Int.sign_eq_neg_one_of_neg hx] at h
      exact Int.sign_eq_neg_one_iff_neg.1 h.symm
    rw [Int.sign_eq_neg_one_of_neg hx]
    rcases Int.lt_trichotomy x y with g | g | g
    · rw [ucmp_lt g, ucmp_gt (by omega)]; rfl
    · rw [ucmp_eq g, ucmp_eq (by omega)]; rfl
    · rw [ucmp_gt g, ucmp_lt (by omega)]; rfl
  · subst hx
    rw [Int.sign_zero] at h
    have hy : y = 0 := Int.sign_eq_zero_iff_zero.1 h.symm
    subst hy; rfl
  · have hy : 0 < y := by
      rw [Int.sign_eq_one_of_pos hx] at h
      exact Int.sign_eq_one_iff_pos.1 h.symm
    rw [Int.sign_eq_one_of_pos hx, Int.one_mul, show (x.natAbs : Int) = x by omega, show (y.natAbs : Int) = y by omega]
theorem sign_range (x : Int) : -1 ≤ x.sign ∧ x.sign ≤ 1 := by
  rcases Int.lt_trichotomy x 0 with h | h | h
  · rw [Int.sign_eq_neg_one_of_neg h]; omega
  · rw [h]; simp
  · rw [Int.sign_eq_one_of_pos h]; omega
theorem ucmp_range (x y : Int) : -1 ≤ ucmp x y ∧ ucmp x y ≤ 1 := by rw [ucmp_sign]; exact sign_range _
theorem mul_small {a b : Int} (h1 : -1 ≤ a) (h2 : a ≤ 1) (h3 : -1 ≤ b) (h4 : b ≤ 1) : -1 ≤ a * b ∧ a * b ≤ 1 := by
  rcases (by omega : a = -1 ∨ a = 0 ∨ a = 1) with rfl | rfl | rfl <;> omega
theorem Nw.of {m b g h : Nat} {w : World} {x y : Value} (hb : m ≤ b ∧ b < w.heap.size) : Nw m ((w.setCell ⟨g, 0, none⟩ x).setCell ⟨h, 1, none⟩ y) b := ⟨hb.1, by simpa using hb.2⟩
theorem wr64 {z : Int} (h1 : -9223372036854775808 ≤ z) (h2 : z ≤ 9223372036854775807) : IntKind.i64.wrap z = z := by rw [IntKind.wrap_i64]; omega
set_option maxHeartbeats 800000 in
theorem big_cmp (a b : Big) (x y : Int) (w : World) (ha : RB w a x) (hb : RB w b y) :
    Calls Tryz.prog 122 #[a.v, b.v] w fun e w' => e = .returned (.int .i64 (ucmp x y)) ∧ Below w.heap.size w w' := by
  obtain ⟨s, ⟨A, c, l⟩⟩ := a
  obtain ⟨t, ⟨B, d, m⟩⟩ := b
  have hs := ha.s
  have ht := hb.s
  simp only at hs ht
  have hsr := sign_range x
  have htr := sign_range y
  rw [← hs] at hsr
  rw [← ht] at htr
  have HA := Lib.hid ha
  have HB := Lib.hid hb
  have HS := Lib.hid (And.intro hs ht)
  clear ha hb hs ht
  simp only [Big.v]
  go_enter Tryz.func122, Tryz.ntmps122
  go_wp2_with fail
  refine (right_ok ⟨s, ⟨A, c, l⟩⟩ x _ (HA.out.later (by repeat (first | (with_reducible exact Below.refl _ _) | ((with_reducible refine below_setr ?_ ?_); focus (first | (simp; done) | (simp; omega) | omega)) | ((with_reducible refine below_allocr ?_ ?_); focus (first | (simp; done) | (simp; omega) | omega)) | (with_reducible refine Below.drew ?_) | (with_reducible refine below_drewN ?_ _))))).mono ?_
  rintro e w1 ⟨rfl, hb1⟩
  have K_a : Blk _ (w.heap.size) 69 #[.int .i64 s, .slice A l.length c] := blk_later hb1 (by simp [hp_past, hp_at, hp_other, hp_same, hp_drew, hp_drewN])
  obtain ⟨a0, a1, af, az⟩ := Blk.b2 K_a
  have B_a := Lib.hid K_a
  clear K_a
  have K_b : Blk _ (w.heap.size + 1) 69 #[.int .i64 t, .slice B m.length d] := blk_later hb1 (by simp [hp_past, hp_at, hp_other, hp_same, hp_drew, hp_drewN])
  obtain ⟨b0, b1, bf, bz⟩ := Blk.b2 K_b
  have B_b := Lib.hid K_b
  clear K_b
  have hB1 : Below w.heap.size w w1 := (by repeat (first | (with_reducible exact Below.refl _ _) | ((with_reducible refine below_setr ?_ ?_); focus (first | (simp; done) | (simp; omega) | omega)) | ((with_reducible refine below_allocr ?_ ?_); focus (first | (simp; done) | (simp; omega) | omega)) | (with_reducible refine Below.drew ?_) | (with_reducible refine below_drewN ?_ _) | ((with_reducible apply below_via); focus (with_reducible assumption))))
  clear hb1
  go_wp2_with fail
  refine (right_ok ⟨t, ⟨B, d, m⟩⟩ y _ (HB.out.later hB1)).mono ?_
  rintro e w2 ⟨rfl, hb2⟩
  clear a0 a1 af b0 b1 bf
  have K_a : Blk _ (w.heap.size) 69 #[.int .i64 s, .slice A l.length c] := blk_later hb2 (by simp [hp_past, hp_at, hp_other, hp_same, hp_drew, hp_drewN, B_a.out.eq, B_a.out.lt, hp_same B_a.out.eq])
  obtain ⟨a0, a1, af, az⟩ := Blk.b2 K_a
  have B_a := Lib.hid K_a
  clear K_a
  have K_b : Blk _ (w.heap.size + 1) 69 #[.int .i64 t, .slice B m.length d] := blk_later hb2 (by simp [hp_past, hp_at, hp_other, hp_same, hp_drew, hp_drewN, B_b.out.eq, B_b.out.lt, hp_same B_b.out.eq])
  obtain ⟨b0, b1, bf, bz⟩ := Blk.b2 K_b
  have B_b := Lib.hid K_b
  clear K_b
  have hB2 : Below w.heap.size w w2 := (by repeat (first | (with_reducible exact hB1) | (with_reducible exact Below.refl _ _) | ((with_reducible refine below_setr ?_ ?_); focus (first | (simp; done) | (simp; omega) | omega)) | ((with_reducible refine below_allocr ?_ ?_); focus (first | (simp; done) | (simp; omega) | omega)) | (with_reducible refine Below.drew ?_) | (with_reducible refine below_drewN ?_ _) | ((with_reducible apply below_via); focus (with_reducible assumption))))
  clear hb2
  by_cases hst : s = t
  · subst hst
    go_wp2_with fail
    refine wp_region_T (fun W => W.cell? ⟨w.heap.size, 0, none⟩ = some (.int .i64 s) ∧ W.cell? ⟨w.heap.size, 1, none⟩ = some (.slice A l.length c) ∧ W.cell? ⟨w.heap.size + 1, 1, none⟩ = some (.slice B m.length d)) (fun _ => false) (by kernel_rfl) ⟨a0, a1, b1⟩ (fun hHeld => ?_)
    refine wpAnyT_take2 (i := 0) (v := ?_) rfl rfl (by kernel_rfl) (by kernel_rfl) (by kernel_rfl) (by kernel_rfl) (fun _ _ _ h => h) (Or.inl ⟨by rfl, ?_⟩) (by first | assumption | trivial) ?_
    rotate_left
    · (intro w hSw; (try dsimp only at hSw); go_simp) <;> (with_reducible rfl)
    simp only [List.setIfInBounds_toArray, List.set_cons_zero, List.set_cons_succ]
    refine wpAnyT_take2 (i := 1) (v := ?_) rfl rfl (by kernel_rfl) (by kernel_rfl) (by kernel_rfl) (by kernel_rfl) (fun _ _ _ h => h) (Or.inl ⟨by rfl, ?_⟩) (by first | assumption | trivial) ?_
    rotate_left
    · (intro w hSw; (try dsimp only at hSw); go_simp) <;> (with_reducible rfl)
    simp only [List.setIfInBounds_toArray, List.set_cons_zero, List.set_cons_succ]
    refine wpAnyT_take2 (i := 2) (v := ?_) rfl rfl (by kernel_rfl) (by kernel_rfl) (by kernel_rfl) (by kernel_rfl) (fun _ _ _ h => h) (Or.inl ⟨by rfl, ?_⟩) (by first | assumption | trivial) ?_
    rotate_left
    · (intro w hSw; (try dsimp only at hSw); go_simp) <;> (with_reducible rfl)
    simp only [List.setIfInBounds_toArray, List.set_cons_zero, List.set_cons_succ]
    refine wpAnyT_take2 (i := 3) (v := ?_) rfl rfl (by kernel_rfl) (by kernel_rfl) (by kernel_rfl) (by kernel_rfl) (fun _ _ _ h => h) (Or.inl ⟨by rfl, ?_⟩) (by first | assumption | trivial) ?_
    rotate_left
    · (intro w hSw; (try dsimp only at hSw); go_simp) <;> (with_reducible rfl)
    simp only [List.setIfInBounds_toArray, List.set_cons_zero, List.set_cons_succ]
    refine wpAnyT_take2 (i := 4) (v := ?_) rfl rfl (by kernel_rfl) (by kernel_rfl) (by kernel_rfl) (by kernel_rfl) (fun _ _ _ h => h) (Or.inl ⟨by rfl, ?_⟩) (by first | assumption | trivial) ?_
    rotate_left
    · (intro w hSw; (try dsimp only at hSw); go_simp) <;> (with_reducible rfl)
    simp only [List.setIfInBounds_toArray, List.set_cons_zero, List.set_cons_succ]
    refine wpAnyT_take2 (i := 5) (v := ?_) rfl rfl (by kernel_rfl) (by kernel_rfl) (by kernel_rfl) (by kernel_rfl) (fun _ _ _ h => h) (Or.inl ⟨by rfl, ?_⟩) (by first | assumption | trivial) ?_
    rotate_left
    · (intro w hSw; (try dsimp only at hSw); go_simp) <;> (with_reducible rfl)
    simp only [List.setIfInBounds_toArray, List.set_cons_zero, List.set_cons_succ]
    clear hHeld
    refine wpAnyT_next (i := 6) (by kernel_rfl) rfl ?_
    go_wp2_with fail
    refine (big_compare ⟨A, c, l⟩ ⟨B, d, m⟩ _ (HA.out.later (Below.drew hB2)).rd (HB.out.later (Below.drew hB2)).rd HA.out.norm HB.out.norm).mono ?_
    rintro e w3 ⟨rfl, hb3⟩
    have hul := HA.out.val
    have hum := HB.out.val
    simp only at hul hum
    rw [hul, hum]
    clear a0 a1 af b0 b1 bf
    have K_a : Blk _ (w.heap.size) 69 #[.int .i64 s, .slice A l.length c] := blk_later hb3 (by simp [hp_past, hp_at, hp_other, hp_same, hp_drew, hp_drewN, B_a.out.eq, B_a.out.lt, hp_same B_a.out.eq])
    obtain ⟨a0, a1, af, az⟩ := Blk.b2 K_a
    have B_a := Lib.hid K_a
    clear K_a
    have K_b : Blk _ (w.heap.size + 1) 69 #[.int .i64 s, .slice B m.length d] := blk_later hb3 (by simp [hp_past, hp_at, hp_other, hp_same, hp_drew, hp_drewN, B_b.out.eq, B_b.out.lt, hp_same B_b.out.eq])
    obtain ⟨b0, b1, bf, bz⟩ := Blk.b2 K_b
    have B_b := Lib.hid K_b
    clear K_b
    have hB3 : Below w.heap.size w w3 := (by repeat (first | (with_reducible exact hB2) | (with_reducible exact Below.refl _ _) | ((with_reducible refine below_setr ?_ ?_); focus (first | (simp; done) | (simp; omega) | omega)) | ((with_reducible refine below_allocr ?_ ?_); focus (first | (simp; done) | (simp; omega) | omega)) | (with_reducible refine Below.drew ?_) | (with_reducible refine below_drewN ?_ _) | ((with_reducible apply below_via); focus (with_reducible assumption))))
    have hu := ucmp_range x.natAbs y.natAbs
    have HU : Hid (s * ucmp x.natAbs y.natAbs = ucmp x y) := Lib.hid (by rw [HS.out.1]; exact ucmp_abs (by rw [← HS.out.1, ← HS.out.2]))
    generalize ucmp (x.natAbs : Int) (y.natAbs : Int) = u at *
    have hsu := mul_small hsr.1 hsr.2 hu.1 hu.2
    clear hb3 hul hum
    go_wp2_with fail
    refine And.intro (by first | exact fun _ => ⟨a0, a1, b1⟩ | exact ⟨a0, a1, b1⟩) ?_
    have hHeld := (⟨a0, a1, b1⟩ : w3.cell? ⟨w.heap.size, 0, none⟩ = some (.int .i64 s) ∧ w3.cell? ⟨w.heap.size, 1, none⟩ = some (.slice A l.length c) ∧ w3.cell? ⟨w.heap.size + 1, 1, none⟩ = some (.slice B m.length d))
    refine wpAnyT_take2 (i := 7) (v := ?_) rfl rfl (by kernel_rfl) (by kernel_rfl) (by kernel_rfl) (by kernel_rfl) (fun _ _ _ h => h) (Or.inl ⟨by rfl, ?_⟩) (by first | assumption | trivial) ?_
    rotate_left
    · (intro w hSw; (try dsimp only at hSw); go_simp) <;> (with_reducible rfl)
    simp only [List.setIfInBounds_toArray, List.set_cons_zero, List.set_cons_succ]
    refine wpAnyT_take2 (i := 8) (v := ?_) rfl rfl (by kernel_rfl) (by kernel_rfl) (by kernel_rfl) (by kernel_rfl) (fun _ _ _ h => h) (Or.inl ⟨by rfl, ?_⟩) (by first | assumption | trivial) ?_
    rotate_left
    · (intro w hSw; (try dsimp only at hSw); go_simp) <;> (with_reducible rfl)
    simp only [List.setIfInBounds_toArray, List.set_cons_zero, List.set_cons_succ]
    refine wpAnyT_done (by kernel_rfl) ?_ _
    clear hHeld
    go_wp2_with fail
    go_ret
    exact ⟨ret_int (by rw [wr64 (by omega) (by omega)]; exact HU.out), hB3⟩
  · go_wp2_with fail
    refine (cmp_int s t _).mono ?_
    rintro e w' ⟨rfl, rfl⟩
    go_wp2_with fail
    go_ret
    exact ⟨ret_int (by rw [HS.out.1, HS.out.2]; exact ucmp_signs (by rw [← HS.out.1, ← HS.out.2]; exact hst)), hB2⟩
set_option maxHeartbeats 800000 in
theorem big_neg (a : Big) (x : Int) (w : World) (ha : RB w a x) :
    Calls Tryz.prog 179 #[a.v] w fun e w' => BigP w w' (bigD (-x)) e := by
  obtain ⟨s, ⟨A, c, l⟩⟩ := a
  have hs := ha.s
  have hlen := ha.len
  simp only at hs hlen
  have hsr := sign_range x
  rw [← hs] at hsr
  have HA := Lib.hid ha
  have HS := Lib.hid hs
  clear ha hs
  simp only [Big.v]
  go_enter Tryz.func179, Tryz.ntmps179
  go_wp2_with fail
  refine (right_ok ⟨s, ⟨A, c, l⟩⟩ x _ (HA.out.later (by repeat (first | (with_reducible exact Below.refl _ _) | ((with_reducible refine below_setr ?_ ?_); focus (first | (simp; done) | (simp; omega) | omega)) | ((with_reducible refine below_allocr ?_ ?_); focus (first | (simp; done) | (simp; omega) | omega)) | (with_reducible refine Below.drew ?_) | (with_reducible refine below_drewN ?_ _))))).mono ?_
  rintro e w1 ⟨rfl, hb1⟩
  have K_a : Blk _ (w.heap.size) 69 #[.int .i64 s, .slice A l.length c] := blk_later hb1 (by simp [hp_past, hp_at, hp_other, hp_same, hp_drew, hp_drewN])
  obtain ⟨a0, a1, af, az⟩ := Blk.b2 K_a
  have B_a := Lib.hid K_a
  clear K_a
  have K_b : Blk _ (w.heap.size + 1) 69 #[.int .i64 0, .slice none 0 0] := blk_later hb1 (by simp [hp_past, hp_at, hp_other, hp_same, hp_drew, hp_drewN])
  obtain ⟨b0, b1, bf, bz⟩ := Blk.b2 K_b
  have B_b := Lib.hid K_b
  clear K_b
  have hB1 : Below w.heap.size w w1 := (by repeat (first | (with_reducible exact Below.refl _ _) | ((with_reducible refine below_setr ?_ ?_); focus (first | (simp; done) | (simp; omega) | omega)) | ((with_reducible refine below_allocr ?_ ?_); focus (first | (simp; done) | (simp; omega) | omega)) | (with_reducible refine Below.drew ?_) | (with_reducible refine below_drewN ?_ _) | ((with_reducible apply below_via); focus (with_reducible assumption))))
  clear hb1
  go_wp2_with fail
  refine wp_region_T (fun W => W.cell? ⟨w.heap.size, 0, none⟩ = some (.int .i64 s) ∧ W.cell? ⟨w.heap.size, 1, none⟩ = some (.slice A l.length c)) (fun i => 7 ≤ i) (by kernel_rfl) ⟨a0, a1⟩ (fun hHeld => ?_)
  refine wpAnyT_take2 (i := 0) (v := ?_) rfl rfl (by kernel_rfl) (by kernel_rfl) (by kernel_rfl) (by kernel_rfl) (fun _ _ _ h => h) (Or.inl ⟨by rfl, ?_⟩) (by first | assumption | trivial) ?_
  rotate_left
  · (intro w hSw; (try dsimp only at hSw); go_simp) <;> (with_reducible rfl)
  simp only [List.setIfInBounds_toArray, List.set_cons_zero, List.set_cons_succ]
  refine wpAnyT_take2 (i := 1) (v := ?_) rfl rfl (by kernel_rfl) (by kernel_rfl) (by kernel_rfl) (by kernel_rfl) (fun _ _ _ h => h) (Or.inl ⟨by rfl, ?_⟩) (by first | assumption | trivial) ?_
  rotate_left
  · (intro w hSw; (try dsimp only at hSw); go_simp) <;> (with_reducible rfl)
  simp only [List.setIfInBounds_toArray, List.set_cons_zero, List.set_cons_succ]
  refine wpAnyT_take2 (i := 2) (v := ?_) rfl rfl (by kernel_rfl) (by kernel_rfl) (by kernel_rfl) (by kernel_rfl) (fun _ _ _ h => h) (Or.inl ⟨by rfl, ?_⟩) (by first | assumption | trivial) ?_
  rotate_left
  · (intro w hSw; (try dsimp only at hSw); go_simp) <;> (with_reducible rfl)
  simp only [List.setIfInBounds_toArray, List.set_cons_zero, List.set_cons_succ]
  refine wpAnyT_take2 (i := 3) (v := ?_) rfl rfl (by kernel_rfl) (by kernel_rfl) (by kernel_rfl) (by kernel_rfl) (fun _ _ _ h => h) (Or.inl ⟨by rfl, ?_⟩) (by first | assumption | trivial) ?_
  rotate_left
  · (intro w hSw; (try dsimp only at hSw); go_simp) <;> (with_reducible rfl)
  simp only [List.setIfInBounds_toArray, List.set_cons_zero, List.set_cons_succ]
  refine wpAnyT_take2 (i := 4) (v := ?_) rfl rfl (by kernel_rfl) (by kernel_rfl) (by kernel_rfl) (by kernel_rfl) (fun _ _ _ h => h) (Or.inl ⟨by rfl, ?_⟩) (by first | assumption | trivial) ?_
  rotate_left
  · (intro w hSw; (try dsimp only at hSw); go_simp) <;> (with_reducible rfl)
  simp only [List.setIfInBounds_toArray, List.set_cons_zero, List.set_cons_succ]
  clear hHeld
  refine wpAnyT_next (i := 5) (by kernel_rfl) rfl ?_
  go_wp2_with fail
  refine (clone_int ⟨A, c, l⟩ _ (HA.out.later (Below.drew hB1)).rd (by simp only; omega)).mono ?_
  rintro e w2 ⟨A', c', rfl, hown, hb2⟩
  clear a0 a1 af b0 b1 bf
  have K_a : Blk _ (w.heap.size) 69 #[.int .i64 s, .slice A l.length c] := blk_later hb2 (by simp [hp_past, hp_at, hp_other, hp_same, hp_drew, hp_drewN, B_a.out.eq, B_a.out.lt, hp_same B_a.out.eq])
  obtain ⟨a0, a1, af, az⟩ := Blk.b2 K_a
  have B_a := Lib.hid K_a
  clear K_a
  have K_b : Blk _ (w.heap.size + 1) 69 #[.int .i64 0, .slice none 0 0] := blk_later hb2 (by simp [hp_past, hp_at, hp_other, hp_same, hp_drew, hp_drewN, B_b.out.eq, B_b.out.lt, hp_same B_b.out.eq])
  obtain ⟨b0, b1, bf, bz⟩ := Blk.b2 K_b
  have B_b := Lib.hid K_b
  clear K_b
  have hB2 : Below w.heap.size w w2 := (by repeat (first | (with_reducible exact hB1) | (with_reducible exact Below.refl _ _) | ((with_reducible refine below_setr ?_ ?_); focus (first | (simp; done) | (simp; omega) | omega)) | ((with_reducible refine below_allocr ?_ ?_); focus (first | (simp; done) | (simp; omega) | omega)) | (with_reducible refine Below.drew ?_) | (with_reducible refine below_drewN ?_ _) | ((with_reducible apply below_via); focus (with_reducible assumption))))
  have hs1 := hB1.size
  have hs2 : w1.heap.size ≤ w2.heap.size := hb2.size
  have HO : Hid (Rd (Nw w1.heap.size w2) 1 ienc w2 ⟨A', c', l⟩) := Lib.hid (hown.rd ienc_k)
  clear hb2 hown
  go_wp2_with fail
  refine And.intro (by first | exact fun _ => ⟨a0, a1⟩ | exact ⟨a0, a1⟩) ?_
  refine wpAnyT_next (i := 6) (by kernel_rfl) rfl ?_
  go_wp2_with fail
  refine (big_signed (-s) ⟨A', c', l⟩ _ HO.out (fun _ h => h.lt)).mono ?_
  rintro e w3 ⟨⟨rs, ⟨rA, rc, rl⟩⟩, rfl, hrd, hrr, hb3⟩
  clear a0 a1 af b0 b1 bf
  have K_a : Blk _ (w.heap.size) 69 #[.int .i64 s, .slice A l.length c] := blk_later hb3 (by simp [hp_past, hp_at, hp_other, hp_same, hp_drew, hp_drewN, B_a.out.eq, B_a.out.lt, hp_same B_a.out.eq])
  obtain ⟨a0, a1, af, az⟩ := Blk.b2 K_a
  have B_a := Lib.hid K_a
  clear K_a
  have K_b : Blk _ (w.heap.size + 1) 69 #[.int .i64 0, .slice none 0 0] := blk_later hb3 (by simp [hp_past, hp_at, hp_other, hp_same, hp_drew, hp_drewN, B_b.out.eq, B_b.out.lt, hp_same B_b.out.eq])
  obtain ⟨b0, b1, bf, bz⟩ := Blk.b2 K_b
  have B_b := Lib.hid K_b
  clear K_b
  have hB3 : Below w.heap.size w w3 := (by repeat (first | (with_reducible exact hB2) | (with_reducible exact Below.refl _ _) | ((with_reducible refine below_setr ?_ ?_); focus (first | (simp; done) | (simp; omega) | omega)) | ((with_reducible refine below_allocr ?_ ?_); focus (first | (simp; done) | (simp; omega) | omega)) | (with_reducible refine Below.drew ?_) | (with_reducible refine below_drewN ?_ _) | ((with_reducible apply below_via); focus (with_reducible assumption))))
  have HRD := Lib.hid hrd
  have HRR := Lib.hid hrr
  have HSZ := Lib.hid hb3.size
  clear hb3 hrd hrr
  simp only [Big.v]
  have hne : ∀ b, Nw w1.heap.size w2 b → b ≠ w.heap.size + 1 := fun b hb => by have := hb.1; omega
  have hnw : ∀ b, Nw w1.heap.size w2 b → w.heap.size ≤ b ∧ b < w3.heap.size := fun b hb => ⟨by have := hb.1; omega, Nat.lt_of_lt_of_le hb.2 HSZ.out⟩
  have HSG : Hid (signedD (-s) l = bigD (-x)) := Lib.hid (signed_is HA.out.norm.ok (by rw [Int.natAbs_neg]; exact HA.out.val) (fun _ => by rw [HS.out, Int.sign_neg]))
  go_wp2_with fail
  refine And.intro (by first | exact fun _ => ⟨a0, a1⟩ | exact ⟨a0, a1⟩) ?_
  refine wpAnyT_next (i := 7) (by kernel_rfl) rfl ?_
  go_wp2_with fail
  try simp only [QT]
  try (with_reducible refine And.intro (fun h => by simp at h) ?_)
  refine wpAnyT_done (by kernel_rfl) ?_ _
  go_wp2_with fail
  try simp only [Exit.inBlock, Exit.then]
  refine bodyPost_ret (v := .agg #[.int .i64 rs, .slice rA rl.length rc]) ?_ rfl ⟨⟨rs, ⟨rA, rc, rl⟩⟩, rfl, HRD.out.trans HSG.out, ((HRR.out.far (fun b hb => hne b hb) _).far (fun b hb => hne b hb) _).mono (fun b hb => Nw.of (hnw b hb)), (by repeat (first | (with_reducible exact hB3) | (with_reducible exact Below.refl _ _) | ((with_reducible refine below_setr ?_ ?_); focus (first | (simp; done) | (simp; omega) | omega)) | ((with_reducible refine below_allocr ?_ ?_); focus (first | (simp; done) | (simp; omega) | omega)) | (with_reducible refine Below.drew ?_) | (with_reducible refine below_drewN ?_ _)))⟩
  simp [results, Tryz.results179, go_sem, b0, b1]
end Go.Proofs.YtcgocdhhneckhaaGreat
