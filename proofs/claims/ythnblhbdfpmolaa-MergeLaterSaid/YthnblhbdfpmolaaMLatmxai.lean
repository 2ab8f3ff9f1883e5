/- Walks of package phone: Right, find. -/
import Derived.Test.YthnblhbdfpmolaaMLatmxah
namespace Go.Proofs.Ythnblhbdfpmolaa
open Go.RowKit
set_option maxHeartbeats 1000000 in
theorem phone_right1 (p : Phone) (w : World) (hr : RdPhone (· < w.heap.size) w p) (h1 : rngB p.id 0 11 = false) :
    Calls Try.prog 19 #[p.v] w fun e w' => e = .returned (.bool false) ∧ Below w.heap.size w w' := by
  obtain ⟨id, cut, H, N, S⟩ := p
  have HR := Lib.hid hr
  clear hr
  simp only [Phone.v]
  go_enter Try.func19, Try.ntmps19
  go_wp2_with (go_at_call 53; refine (phone_device _ _).mono ?_; rintro e w' ⟨rfl, rfl⟩)
  go_ret
  exact ⟨rfl, (by repeat (first | (with_reducible exact Below.refl _ _) | ((with_reducible refine below_setr ?_ ?_); focus (first | (simp; done) | (simp; omega) | omega)) | ((with_reducible refine below_allocr ?_ ?_); focus (first | (simp; done) | (simp; omega) | omega)) | (with_reducible refine Below.drew ?_) | (with_reducible refine below_drewN ?_ _)))⟩
set_option maxHeartbeats 1000000 in
theorem phone_right2 (p : Phone) (w : World) (hr : RdPhone (· < w.heap.size) w p) (h1 : rngB p.id 0 11 = true) (H2 : Hid (holdsR p.H.l = false)) :
    Calls Try.prog 19 #[p.v] w fun e w' => e = .returned (.bool false) ∧ Below w.heap.size w w' := by
  obtain ⟨id, cut, H, N, S⟩ := p
  have HR := Lib.hid hr
  clear hr
  simp only [Phone.v]
  go_enter Try.func19, Try.ntmps19
  go_wp2_with (go_at_call 53; refine (phone_device _ _).mono ?_; rintro e w' ⟨rfl, rfl⟩)
  refine (phone_holds H _ (HR.out.1.lt_alloc _)).mono ?_
  rintro e w1 ⟨rfl, hb1⟩
  have K_a : Blk _ (w.heap.size) 33 #[.int .i64 id, .bool cut, .slice H.A H.l.length H.c, .slice N.A N.l.length N.c, .slice S.A S.l.length S.c] := blk_later hb1 (by simp [hp_past, hp_at, hp_other, hp_same, hp_drew, hp_drewN])
  obtain ⟨a0, a1, a2, a3, a4, af, az⟩ := Blk.b5 K_a
  have B_a := Lib.hid K_a
  clear K_a
  have hB1 : Below w.heap.size w w1 := Below.trans (by repeat (first | (with_reducible exact Below.refl _ _) | ((with_reducible refine below_setr ?_ ?_); focus (first | (simp; done) | (simp; omega) | omega)) | ((with_reducible refine below_allocr ?_ ?_); focus (first | (simp; done) | (simp; omega) | omega)) | (with_reducible refine Below.drew ?_) | (with_reducible refine below_drewN ?_ _))) (hb1.mono (by first | omega | (simp; done) | (simp; omega)))
  clear hb1
  rw [H2.out]
  go_wp2_with fail
  go_ret
  exact ⟨rfl, hB1⟩
set_option maxHeartbeats 1000000 in
theorem phone_right3 (p : Phone) (w : World) (hr : RdPhone (· < w.heap.size) w p) (h1 : rngB p.id 0 11 = true) (H2 : Hid (holdsR p.H.l = true)) (H3 : Hid (notesR (p.N.l.map Note.d) = false)) :
    Calls Try.prog 19 #[p.v] w fun e w' => e = .returned (.bool false) ∧ Below w.heap.size w w' := by
  obtain ⟨id, cut, H, N, S⟩ := p
  have HR := Lib.hid hr
  clear hr
  simp only [Phone.v]
  go_enter Try.func19, Try.ntmps19
  go_wp2_with (go_at_call 53; refine (phone_device _ _).mono ?_; rintro e w' ⟨rfl, rfl⟩)
  refine (phone_holds H _ (HR.out.1.lt_alloc _)).mono ?_
  rintro e w1 ⟨rfl, hb1⟩
  have K_a : Blk _ (w.heap.size) 33 #[.int .i64 id, .bool cut, .slice H.A H.l.length H.c, .slice N.A N.l.length N.c, .slice S.A S.l.length S.c] := blk_later hb1 (by simp [hp_past, hp_at, hp_other, hp_same, hp_drew, hp_drewN])
  obtain ⟨a0, a1, a2, a3, a4, af, az⟩ := Blk.b5 K_a
  have B_a := Lib.hid K_a
  clear K_a
  have hB1 : Below w.heap.size w w1 := Below.trans (by repeat (first | (with_reducible exact Below.refl _ _) | ((with_reducible refine below_setr ?_ ?_); focus (first | (simp; done) | (simp; omega) | omega)) | ((with_reducible refine below_allocr ?_ ?_); focus (first | (simp; done) | (simp; omega) | omega)) | (with_reducible refine Below.drew ?_) | (with_reducible refine below_drewN ?_ _))) (hb1.mono (by first | omega | (simp; done) | (simp; omega)))
  clear hb1
  rw [H2.out]
  go_wp2_with fail
  refine (merge_right N _ (HR.out.2.1.later hB1 (Nat.le_refl _))).mono ?_
  rintro e w2 ⟨rfl, hb2⟩
  clear a0 a1 a2 a3 a4 af
  have K_a : Blk _ (w.heap.size) 33 #[.int .i64 id, .bool cut, .slice H.A H.l.length H.c, .slice N.A N.l.length N.c, .slice S.A S.l.length S.c] := blk_later hb2 (by simp [hp_past, hp_at, hp_other, hp_same, hp_drew, hp_drewN, B_a.out.eq, B_a.out.lt, hp_same B_a.out.eq])
  obtain ⟨a0, a1, a2, a3, a4, af, az⟩ := Blk.b5 K_a
  have B_a := Lib.hid K_a
  clear K_a
  have hB2 : Below w.heap.size w w2 := Below.trans (by repeat (first | (with_reducible exact hB1) | (with_reducible exact Below.refl _ _) | ((with_reducible refine below_setr ?_ ?_); focus (first | (simp; done) | (simp; omega) | omega)) | ((with_reducible refine below_allocr ?_ ?_); focus (first | (simp; done) | (simp; omega) | omega)) | (with_reducible refine Below.drew ?_) | (with_reducible refine below_drewN ?_ _))) (hb2.mono (by first | omega | (simp; done) | (simp; omega)))
  clear hb2
  rw [H3.out]
  go_wp2_with fail
  go_ret
  exact ⟨rfl, hB2⟩
set_option maxHeartbeats 1000000 in
theorem phone_right4 (p : Phone) (w : World) (hr : RdPhone (· < w.heap.size) w p) (h1 : rngB p.id 0 11 = true) (H2 : Hid (holdsR p.H.l = true)) (H3 : Hid (notesR (p.N.l.map Note.d) = true)) (H4 : Hid (seenR p.S.l = false)) :
    Calls Try.prog 19 #[p.v] w fun e w' => e = .returned (.bool false) ∧ Below w.heap.size w w' := by
  obtain ⟨id, cut, H, N, S⟩ := p
  have HR := Lib.hid hr
  clear hr
  simp only [Phone.v]
  go_enter Try.func19, Try.ntmps19
  go_wp2_with (go_at_call 53; refine (phone_device _ _).mono ?_; rintro e w' ⟨rfl, rfl⟩)
  refine (phone_holds H _ (HR.out.1.lt_alloc _)).mono ?_
  rintro e w1 ⟨rfl, hb1⟩
  have K_a : Blk _ (w.heap.size) 33 #[.int .i64 id, .bool cut, .slice H.A H.l.length H.c, .slice N.A N.l.length N.c, .slice S.A S.l.length S.c] := blk_later hb1 (by simp [hp_past, hp_at, hp_other, hp_same, hp_drew, hp_drewN])
  obtain ⟨a0, a1, a2, a3, a4, af, az⟩ := Blk.b5 K_a
  have B_a := Lib.hid K_a
  clear K_a
  have hB1 : Below w.heap.size w w1 := Below.trans (by repeat (first | (with_reducible exact Below.refl _ _) | ((with_reducible refine below_setr ?_ ?_); focus (first | (simp; done) | (simp; omega) | omega)) | ((with_reducible refine below_allocr ?_ ?_); focus (first | (simp; done) | (simp; omega) | omega)) | (with_reducible refine Below.drew ?_) | (with_reducible refine below_drewN ?_ _))) (hb1.mono (by first | omega | (simp; done) | (simp; omega)))
  clear hb1
  rw [H2.out]
  go_wp2_with fail
  refine (merge_right N _ (HR.out.2.1.later hB1 (Nat.le_refl _))).mono ?_
  rintro e w2 ⟨rfl, hb2⟩
  clear a0 a1 a2 a3 a4 af
  have K_a : Blk _ (w.heap.size) 33 #[.int .i64 id, .bool cut, .slice H.A H.l.length H.c, .slice N.A N.l.length N.c, .slice S.A S.l.length S.c] := blk_later hb2 (by simp [hp_past, hp_at, hp_other, hp_same, hp_drew, hp_drewN, B_a.out.eq, B_a.out.lt, hp_same B_a.out.eq])
  obtain ⟨a0, a1, a2, a3, a4, af, az⟩ := Blk.b5 K_a
  have B_a := Lib.hid K_a
  clear K_a
  have hB2 : Below w.heap.size w w2 := Below.trans (by repeat (first | (with_reducible exact hB1) | (with_reducible exact Below.refl _ _) | ((with_reducible refine below_setr ?_ ?_); focus (first | (simp; done) | (simp; omega) | omega)) | ((with_reducible refine below_allocr ?_ ?_); focus (first | (simp; done) | (simp; omega) | omega)) | (with_reducible refine Below.drew ?_) | (with_reducible refine below_drewN ?_ _))) (hb2.mono (by first | omega | (simp; done) | (simp; omega)))
  clear hb2
  rw [H3.out]
  go_wp2_with fail
  refine (phone_seen S _ (HR.out.2.2.below' hB2 (Nat.le_refl _))).mono ?_
  rintro e w3 ⟨rfl, hb3⟩
  clear a0 a1 a2 a3 a4 af
  have K_a : Blk _ (w.heap.size) 33 #[.int .i64 id, .bool cut, .slice H.A H.l.length H.c, .slice N.A N.l.length N.c, .slice S.A S.l.length S.c] := blk_later hb3 (by simp [hp_past, hp_at, hp_other, hp_same, hp_drew, hp_drewN, B_a.out.eq, B_a.out.lt, hp_same B_a.out.eq])
  obtain ⟨a0, a1, a2, a3, a4, af, az⟩ := Blk.b5 K_a
  have B_a := Lib.hid K_a
  clear K_a
  have hB3 : Below w.heap.size w w3 := Below.trans (by repeat (first | (with_reducible exact hB2) | (with_reducible exact Below.refl _ _) | ((with_reducible refine below_setr ?_ ?_); focus (first | (simp; done) | (simp; omega) | omega)) | ((with_reducible refine below_allocr ?_ ?_); focus (first | (simp; done) | (simp; omega) | omega)) | (with_reducible refine Below.drew ?_) | (with_reducible refine below_drewN ?_ _))) (hb3.mono (by first | omega | (simp; done) | (simp; omega)))
  clear hb3
  rw [H4.out]
  go_wp2_with fail
  go_ret
  exact ⟨rfl, hB3⟩
set_option maxHeartbeats 1000000 in
set_option maxRecDepth 100000 in
theorem phone_right5 (p : Phone) (w : World) (hr : RdPhone (· < w.heap.size) w p) (h1 : rngB p.id 0 11 = true) (H2 : Hid (holdsR p.H.l = true)) (H3 : Hid (notesR (p.N.l.map Note.d) = true)) (H4 : Hid (seenR p.S.l = true))
    (H5 : Hid (p.S.l[p.id.toNat]? ≠ some 0)) :
    Calls Try.prog 19 #[p.v] w fun e w' => e = .returned (.bool false) ∧ Below w.heap.size w w' := by
  obtain ⟨id, cut, H, N, S⟩ := p
  have h1' := rngB_iff.1 h1
  obtain ⟨h11, h12⟩ := h1'
  try simp only at h1 h11 h12
  obtain ⟨j, hj⟩ := Int.eq_ofNat_of_zero_le h11
  subst hj
  have hsl : S.l.length = 12 := by have := H4.out; simp only [seenR, Bool.and_eq_true] at this; exact of_decide_eq_true this.1
  have hjl : j < S.l.length := by omega
  have HSL := Lib.hid hsl
  clear hsl
  have HR := Lib.hid hr
  clear hr
  simp only [Phone.v]
  go_enter Try.func19, Try.ntmps19
  go_wp2_with (go_at_call 53; refine (phone_device _ _).mono ?_; rintro e w' ⟨rfl, rfl⟩)
  try simp only at hjl H5 h11 h12
  refine (phone_holds H _ (HR.out.1.lt_alloc _)).mono ?_
  rintro e w1 ⟨rfl, hb1⟩
  have K_a : Blk _ (w.heap.size) 33 #[.int .i64 ((j : Nat) : Int), .bool cut, .slice H.A H.l.length H.c, .slice N.A N.l.length N.c, .slice S.A S.l.length S.c] := blk_later hb1 (by simp [hp_past, hp_at, hp_other, hp_same, hp_drew, hp_drewN])
  obtain ⟨a0, a1, a2, a3, a4, af, az⟩ := Blk.b5 K_a
  have B_a := Lib.hid K_a
  clear K_a
  have hB1 : Below w.heap.size w w1 := Below.trans (by repeat (first | (with_reducible exact Below.refl _ _) | ((with_reducible refine below_setr ?_ ?_); focus (first | (simp; done) | (simp; omega) | omega)) | ((with_reducible refine below_allocr ?_ ?_); focus (first | (simp; done) | (simp; omega) | omega)) | (with_reducible refine Below.drew ?_) | (with_reducible refine below_drewN ?_ _))) (hb1.mono (by first | omega | (simp; done) | (simp; omega)))
  clear hb1
  rw [H2.out]
  go_wp2_with fail
  refine (merge_right N _ (HR.out.2.1.later hB1 (Nat.le_refl _))).mono ?_
  rintro e w2 ⟨rfl, hb2⟩
  clear a0 a1 a2 a3 a4 af
  have K_a : Blk _ (w.heap.size) 33 #[.int .i64 ((j : Nat) : Int), .bool cut, .slice H.A H.l.length H.c, .slice N.A N.l.length N.c, .slice S.A S.l.length S.c] := blk_later hb2 (by simp [hp_past, hp_at, hp_other, hp_same, hp_drew, hp_drewN, B_a.out.eq, B_a.out.lt, hp_same B_a.out.eq])
  obtain ⟨a0, a1, a2, a3, a4, af, az⟩ := Blk.b5 K_a
  have B_a := Lib.hid K_a
  clear K_a
  have hB2 : Below w.heap.size w w2 := Below.trans (by repeat (first | (with_reducible exact hB1) | (with_reducible exact Below.refl _ _) | ((with_reducible refine below_setr ?_ ?_); focus (first | (simp; done) | (simp; omega) | omega)) | ((with_reducible refine below_allocr ?_ ?_); focus (first | (simp; done) | (simp; omega) | omega)) | (with_reducible refine Below.drew ?_) | (with_reducible refine below_drewN ?_ _))) (hb2.mono (by first | omega | (simp; done) | (simp; omega)))
  clear hb2
  rw [H3.out]
  go_wp2_with fail
  refine (phone_seen S _ (HR.out.2.2.below' hB2 (Nat.le_refl _))).mono ?_
  rintro e w3 ⟨rfl, hb3⟩
  clear a0 a1 a2 a3 a4 af
  have K_a : Blk _ (w.heap.size) 33 #[.int .i64 ((j : Nat) : Int), .bool cut, .slice H.A H.l.length H.c, .slice N.A N.l.length N.c, .slice S.A S.l.length S.c] := blk_later hb3 (by simp [hp_past, hp_at, hp_other, hp_same, hp_drew, hp_drewN, B_a.out.eq, B_a.out.lt, hp_same B_a.out.eq])
  obtain ⟨a0, a1, a2, a3, a4, af, az⟩ := Blk.b5 K_a
  have B_a := Lib.hid K_a
  clear K_a
  have hB3 : Below w.heap.size w w3 := Below.trans (by repeat (first | (with_reducible exact hB2) | (with_reducible exact Below.refl _ _) | ((with_reducible refine below_setr ?_ ?_); focus (first | (simp; done) | (simp; omega) | omega)) | ((with_reducible refine below_allocr ?_ ?_); focus (first | (simp; done) | (simp; omega) | omega)) | (with_reducible refine Below.drew ?_) | (with_reducible refine below_drewN ?_ _))) (hb3.mono (by first | omega | (simp; done) | (simp; omega)))
  clear hb3
  rw [H4.out]
  obtain ⟨SA, SC, SL⟩ := S
  try simp only at hjl H5
  obtain ⟨b, o, rfl, hb, hcl⟩ := HR.out.2.2.at1 hjl
  have g0 := (hcl.keep (hB3.block b hb)).c1
  simp only [Nat.mul_one] at g0
  clear hcl
  have hne : (SL[j] != 0) = true := by
    have := H5.out; rw [Int.toNat_natCast, List.getElem?_eq_getElem hjl] at this
    simp at this ⊢; exact this
  generalize SL[j] = v0 at *
  go_wp2_with fail
  go_ret
  exact ⟨rfl, hB3⟩
set_option maxHeartbeats 1000000 in
set_option maxRecDepth 100000 in
theorem phone_right6 (p : Phone) (w : World) (hr : RdPhone (· < w.heap.size) w p) (h1 : rngB p.id 0 11 = true) (H2 : Hid (holdsR p.H.l = true)) (H3 : Hid (notesR (p.N.l.map Note.d) = true)) (H4 : Hid (seenR p.S.l = true))
    (H5 : Hid (p.S.l[p.id.toNat]? = some 0)) :
    Calls Try.prog 19 #[p.v] w fun e w' => e = .returned (.bool (notesGo p.id 0 0 (p.N.l.map Note.d))) ∧ Below w.heap.size w w' := by
  obtain ⟨id, cut, H, N, S⟩ := p
  have h1' := rngB_iff.1 h1
  obtain ⟨h11, h12⟩ := h1'
  try simp only at h1 h11 h12
  obtain ⟨j, hj⟩ := Int.eq_ofNat_of_zero_le h11
  subst hj
  have hsl : S.l.length = 12 := by have := H4.out; simp only [seenR, Bool.and_eq_true] at this; exact of_decide_eq_true this.1
  have hjl : j < S.l.length := by omega
  have HSL := Lib.hid hsl
  clear hsl
  have HR := Lib.hid hr
  clear hr
  simp only [Phone.v]
  go_enter Try.func19, Try.ntmps19
  go_wp2_with (go_at_call 53; refine (phone_device _ _).mono ?_; rintro e w' ⟨rfl, rfl⟩)
  try simp only at hjl H5 h11 h12
  refine (phone_holds H _ (HR.out.1.lt_alloc _)).mono ?_
  rintro e w1 ⟨rfl, hb1⟩
  have K_a : Blk _ (w.heap.size) 33 #[.int .i64 ((j : Nat) : Int), .bool cut, .slice H.A H.l.length H.c, .slice N.A N.l.length N.c, .slice S.A S.l.length S.c] := blk_later hb1 (by simp [hp_past, hp_at, hp_other, hp_same, hp_drew, hp_drewN])
  obtain ⟨a0, a1, a2, a3, a4, af, az⟩ := Blk.b5 K_a
  have B_a := Lib.hid K_a
  clear K_a
  have hB1 : Below w.heap.size w w1 := Below.trans (by repeat (first | (with_reducible exact Below.refl _ _) | ((with_reducible refine below_setr ?_ ?_); focus (first | (simp; done) | (simp; omega) | omega)) | ((with_reducible refine below_allocr ?_ ?_); focus (first | (simp; done) | (simp; omega) | omega)) | (with_reducible refine Below.drew ?_) | (with_reducible refine below_drewN ?_ _))) (hb1.mono (by first | omega | (simp; done) | (simp; omega)))
  clear hb1
  rw [H2.out]
  go_wp2_with fail
  refine (merge_right N _ (HR.out.2.1.later hB1 (Nat.le_refl _))).mono ?_
  rintro e w2 ⟨rfl, hb2⟩
  clear a0 a1 a2 a3 a4 af
  have K_a : Blk _ (w.heap.size) 33 #[.int .i64 ((j : Nat) : Int), .bool cut, .slice H.A H.l.length H.c, .slice N.A N.l.length N.c, .slice S.A S.l.length S.c] := blk_later hb2 (by simp [hp_past, hp_at, hp_other, hp_same, hp_drew, hp_drewN, B_a.out.eq, B_a.out.lt, hp_same B_a.out.eq])
  obtain ⟨a0, a1, a2, a3, a4, af, az⟩ := Blk.b5 K_a
  have B_a := Lib.hid K_a
  clear K_a
  have hB2 : Below w.heap.size w w2 := Below.trans (by repeat (first | (with_reducible exact hB1) | (with_reducible exact Below.refl _ _) | ((with_reducible refine below_setr ?_ ?_); focus (first | (simp; done) | (simp; omega) | omega)) | ((with_reducible refine below_allocr ?_ ?_); focus (first | (simp; done) | (simp; omega) | omega)) | (with_reducible refine Below.drew ?_) | (with_reducible refine below_drewN ?_ _))) (hb2.mono (by first | omega | (simp; done) | (simp; omega)))
  clear hb2
  rw [H3.out]
  go_wp2_with fail
  refine (phone_seen S _ (HR.out.2.2.below' hB2 (Nat.le_refl _))).mono ?_
  rintro e w3 ⟨rfl, hb3⟩
  clear a0 a1 a2 a3 a4 af
  have K_a : Blk _ (w.heap.size) 33 #[.int .i64 ((j : Nat) : Int), .bool cut, .slice H.A H.l.length H.c, .slice N.A N.l.length N.c, .slice S.A S.l.length S.c] := blk_later hb3 (by simp [hp_past, hp_at, hp_other, hp_same, hp_drew, hp_drewN, B_a.out.eq, B_a.out.lt, hp_same B_a.out.eq])
  obtain ⟨a0, a1, a2, a3, a4, af, az⟩ := Blk.b5 K_a
  have B_a := Lib.hid K_a
  clear K_a
  have hB3 : Below w.heap.size w w3 := Below.trans (by repeat (first | (with_reducible exact hB2) | (with_reducible exact Below.refl _ _) | ((with_reducible refine below_setr ?_ ?_); focus (first | (simp; done) | (simp; omega) | omega)) | ((with_reducible refine below_allocr ?_ ?_); focus (first | (simp; done) | (simp; omega) | omega)) | (with_reducible refine Below.drew ?_) | (with_reducible refine below_drewN ?_ _))) (hb3.mono (by first | omega | (simp; done) | (simp; omega)))
  clear hb3
  rw [H4.out]
  obtain ⟨SA, SC, SL⟩ := S
  try simp only at hjl H5
  obtain ⟨b, o, rfl, hb, hcl⟩ := HR.out.2.2.at1 hjl
  have g0 := (hcl.keep (hB3.block b hb)).c1
  simp only [Nat.mul_one] at g0
  clear hcl
  have hne : SL[j] = 0 := by
    have := H5.out; rw [Int.toNat_natCast, List.getElem?_eq_getElem hjl] at this
    simpa using this
  rw [hne] at g0
  clear hne
  obtain ⟨NA, NC, NL⟩ := N
  have hnn := HR.out.2.1.1.len
  simp only at hnn
  go_wp2_with fail
  go_loopw [3, 40] (fun la i wr => ∃ (k : Nat) (q : Int), k ≤ NL.length ∧ la = .int .i64 q ∧ i = .int .i64 k ∧ Blk wr w.heap.size 33 #[.int .i64 ((j : Nat) : Int), .bool cut, .slice H.A H.l.length H.c, .slice NA NL.length NC, .slice (some ⟨b, o, none⟩) SL.length SC] ∧ Below w.heap.size w wr ∧ notesGo j 0 0 (NL.map Note.d) = notesGo j k q ((NL.drop k).map Note.d)) (fun _ i _ => NL.length - (intOf i).toNat)
  case atStart => exact ⟨0, 0, by omega, rfl, rfl, B_a.out, hB3, by simp⟩
  case round =>
    clear a0 a1 a2 a3 a4 af g0
    obtain ⟨k, q, hk, rfl, rfl, hblk, hbel, heq⟩ := hrel
    obtain ⟨a0, a1, a2, a3, a4, af, az'⟩ := hblk.b5
    have HB := Lib.hid hblk
    clear hblk
    have hhe : w.heap.size ≤ wr.heap.size := hbel.size
    by_cases hlt : k < NL.length
    · obtain ⟨b', o', rfl, hb', hcl'⟩ := HR.out.2.1.1.at1 hlt
      obtain ⟨g0, g1, g2, g3, g4⟩ := Cells.c5 (hcl'.keep (hbel.block b' hb'))
      have hd : NL.drop k = NL[k] :: NL.drop (k + 1) := List.drop_eq_getElem_cons hlt
      rw [hd, List.map_cons] at heq
      have HE := Lib.hid heq
      clear hd heq hcl' HR
      generalize NL[k] = y at *
      by_cases h1 : y.dev = (j : Int)
      · by_cases h2 : y.seq = (k : Int)
        · by_cases h3 : q ≤ y.tm
          · have e1 : (y.dev != (j : Int)) = false := by simp [h1]
            have e2 : (y.seq != (k : Int)) = false := by simp [h2]
            have E1 := Lib.hid h1
            have E2 := Lib.hid h2
            clear h1 h2
            go_wp2_with fail
            go_roundw
            case rel => exact ⟨k + 1, y.tm, by omega, rfl, by go_num, HB.out.alloc _, (by repeat (first | (with_reducible exact hbel) | (with_reducible exact Below.refl _ _) | ((with_reducible refine below_setr ?_ ?_); focus (first | (simp; done) | (simp; omega) | omega)) | ((with_reducible refine below_allocr ?_ ?_); focus (first | (simp; done) | (simp; omega) | omega)) | (with_reducible refine Below.drew ?_) | (with_reducible refine below_drewN ?_ _))), by rw [HE.out, notesGo_go E1.out E2.out h3]; simp [Note.d]⟩
            case measure => simp [intOf]; omega
          · have h3' : y.tm < q := by omega
            have e1 : (y.dev != (j : Int)) = false := by simp [h1]
            have e2 : (y.seq != (k : Int)) = false := by simp [h2]
            have E1 := Lib.hid h1
            have E2 := Lib.hid h2
            clear h1 h2
            go_wp2_with fail
            go_ret
            exact ⟨ret_bool (by rw [HE.out, notesGo_no (.inr (.inr h3'))]), (by repeat (first | (with_reducible exact hbel) | (with_reducible exact Below.refl _ _) | ((with_reducible refine below_setr ?_ ?_); focus (first | (simp; done) | (simp; omega) | omega)) | ((with_reducible refine below_allocr ?_ ?_); focus (first | (simp; done) | (simp; omega) | omega)) | (with_reducible refine Below.drew ?_) | (with_reducible refine below_drewN ?_ _)))⟩
        · have e1 : (y.dev != (j : Int)) = false := by simp [h1]
          have e2 : (y.seq != (k : Int)) = true := by simp [h2]
          have E1 := Lib.hid h1
          have E2 := Lib.hid h2
          clear h1 h2
          go_wp2_with fail
          go_ret
          exact ⟨ret_bool (by rw [HE.out, notesGo_no (.inr (.inl E2.out))]), (by repeat (first | (with_reducible exact hbel) | (with_reducible exact Below.refl _ _) | ((with_reducible refine below_setr ?_ ?_); focus (first | (simp; done) | (simp; omega) | omega)) | ((with_reducible refine below_allocr ?_ ?_); focus (first | (simp; done) | (simp; omega) | omega)) | (with_reducible refine Below.drew ?_) | (with_reducible refine below_drewN ?_ _)))⟩
      · have e1 : (y.dev != (j : Int)) = true := by simp [h1]
        have E1 := Lib.hid h1
        clear h1
        go_wp2_with fail
        go_ret
        exact ⟨ret_bool (by rw [HE.out, notesGo_no (.inl E1.out)]), (by repeat (first | (with_reducible exact hbel) | (with_reducible exact Below.refl _ _) | ((with_reducible refine below_setr ?_ ?_); focus (first | (simp; done) | (simp; omega) | omega)) | ((with_reducible refine below_allocr ?_ ?_); focus (first | (simp; done) | (simp; omega) | omega)) | (with_reducible refine Below.drew ?_) | (with_reducible refine below_drewN ?_ _)))⟩
    · have hkl : NL.drop k = [] := List.drop_eq_nil_of_le (by omega)
      rw [hkl] at heq
      have HE := Lib.hid heq
      clear hkl heq HR
      go_wp2_with fail
      go_ret
      exact ⟨ret_bool (by rw [HE.out]; rfl), hbel⟩
theorem phone_right (p : Phone) (w : World) (hr : RdPhone (· < w.heap.size) w p) :
    Calls Try.prog 19 #[p.v] w fun e w' => e = .returned (.bool p.d.right) ∧ Below w.heap.size w w' := by
  unfold PhoneD.right
  simp only [Phone.d]
  rcases h1 : rngB p.id 0 11
  · exact phone_right1 p w hr h1
  · rcases h2 : holdsR p.H.l
    · exact phone_right2 p w hr h1 h2
    · rcases h3 : notesR (p.N.l.map Note.d)
      · exact phone_right3 p w hr h1 h2 h3
      · rcases h4 : seenR p.S.l
        · exact phone_right4 p w hr h1 h2 h3 h4
        · by_cases h5 : p.S.l[p.id.toNat]? = some 0
          · simp only [h5, decide_true, Bool.true_and]; exact phone_right6 p w hr h1 h2 h3 h4 h5
          · simp only [h5, decide_false, Bool.false_and, Bool.and_false]; exact phone_right5 p w hr h1 h2 h3 h4 h5
end Go.Proofs.Ythnblhbdfpmolaa
