/- Walks of the reference of layer 40: Take. -/
import Derived.Test.YthnblhbdfpmolaaR6
namespace Go.Proofs.Ythnblhbdfpmolaa
open Go.RowKit
set_option maxHeartbeats 800000 in
theorem rtake_no (s : Stock) (n : Int) (w : World) (hr : Rd (· < w.heap.size) 3 Loan.enc w s.L) (HF : Hid (s.d.fits 0 n = false)) :
    Calls Try.prog 32 #[s.v, .int .i64 n] w fun e w' => e = .returned (.tuple #[s.v, .int .i64 1]) ∧ Below w.heap.size w w' := by
  obtain ⟨T, U, L⟩ := s
  have HR := Lib.hid hr
  clear hr
  simp only [Stock.v]
  go_enter Try.func32, Try.ntmps32
  go_wp2_with fail
  refine (rfits ⟨T, U, L⟩ 0 n _ ((HR.out.lt_alloc _).lt_alloc _)).mono ?_
  rintro e w1 ⟨rfl, hb1⟩
  rw [HF.out]
  have K_a : Blk _ (w.heap.size) 66 #[.int .i64 T, .int .i64 U, .slice L.A L.l.length L.c] := blk_later hb1 (by simp [hp_past, hp_at, hp_other, hp_same, hp_drew, hp_drewN])
  obtain ⟨a0, a1, a2, af, az⟩ := Blk.b3 K_a
  have B_a := Lib.hid K_a
  clear K_a
  have K_b : Blk _ (w.heap.size + 1) 66 #[.int .i64 0, .int .i64 0, .slice none 0 0] := blk_later hb1 (by simp [hp_past, hp_at, hp_other, hp_same, hp_drew, hp_drewN])
  obtain ⟨b0, b1, b2, bf, bz⟩ := Blk.b3 K_b
  have B_b := Lib.hid K_b
  clear K_b
  have hB1 : Below w.heap.size w w1 := (by repeat (first | (with_reducible exact Below.refl _ _) | ((with_reducible refine below_setr ?_ ?_); focus (first | (simp; done) | (simp; omega) | omega)) | ((with_reducible refine below_allocr ?_ ?_); focus (first | (simp; done) | (simp; omega) | omega)) | (with_reducible refine Below.drew ?_) | (with_reducible refine below_drewN ?_ _) | ((with_reducible apply below_via); focus (with_reducible assumption))))
  clear hb1
  go_wp2_with fail
  try simp only [Exit.inBlock, Exit.then]
  refine bodyPost_ret (v := .tuple #[.agg #[.int .i64 T, .int .i64 U, .slice L.A L.l.length L.c], .int .i64 1]) ?_ rfl ⟨rfl, (by repeat (first | (with_reducible exact hB1) | (with_reducible exact Below.refl _ _) | ((with_reducible refine below_setr ?_ ?_); focus (first | (simp; done) | (simp; omega) | omega)) | ((with_reducible refine below_allocr ?_ ?_); focus (first | (simp; done) | (simp; omega) | omega)) | (with_reducible refine Below.drew ?_) | (with_reducible refine below_drewN ?_ _) | ((with_reducible apply below_via); focus (with_reducible assumption))))⟩
  simp [results, Try.results32, go_sem, a0, a1, a2, af, b0, b1, b2, bf, az, bz]
set_option maxHeartbeats 800000 in
theorem rtake_few (s : Stock) (n : Int) (w : World) (hr : Rd (· < w.heap.size) 3 Loan.enc w s.L) (HF : Hid (s.d.fits 0 n = true)) (hlt : s.d.free < n) :
    Calls Try.prog 32 #[s.v, .int .i64 n] w fun e w' => e = .returned (.tuple #[s.v, .int .i64 21]) ∧ Below w.heap.size w w' := by
  obtain ⟨T, U, L⟩ := s
  have HR := Lib.hid hr
  clear hr
  simp only [Stock.v]
  go_enter Try.func32, Try.ntmps32
  go_wp2_with fail
  refine (rfits ⟨T, U, L⟩ 0 n _ ((HR.out.lt_alloc _).lt_alloc _)).mono ?_
  rintro e w1 ⟨rfl, hb1⟩
  rw [HF.out]
  have K_a : Blk _ (w.heap.size) 66 #[.int .i64 T, .int .i64 U, .slice L.A L.l.length L.c] := blk_later hb1 (by simp [hp_past, hp_at, hp_other, hp_same, hp_drew, hp_drewN])
  obtain ⟨a0, a1, a2, af, az⟩ := Blk.b3 K_a
  have B_a := Lib.hid K_a
  clear K_a
  have K_b : Blk _ (w.heap.size + 1) 66 #[.int .i64 0, .int .i64 0, .slice none 0 0] := blk_later hb1 (by simp [hp_past, hp_at, hp_other, hp_same, hp_drew, hp_drewN])
  obtain ⟨b0, b1, b2, bf, bz⟩ := Blk.b3 K_b
  have B_b := Lib.hid K_b
  clear K_b
  have hB1 : Below w.heap.size w w1 := (by repeat (first | (with_reducible exact Below.refl _ _) | ((with_reducible refine below_setr ?_ ?_); focus (first | (simp; done) | (simp; omega) | omega)) | ((with_reducible refine below_allocr ?_ ?_); focus (first | (simp; done) | (simp; omega) | omega)) | (with_reducible refine Below.drew ?_) | (with_reducible refine below_drewN ?_ _) | ((with_reducible apply below_via); focus (with_reducible assumption))))
  clear hb1
  go_wp2_with fail
  refine (rfree ⟨T, U, L⟩ _ (HR.out.below' hB1 (Nat.le_refl _))).mono ?_
  rintro e w2 ⟨rfl, hb2⟩
  clear a0 a1 a2 af b0 b1 b2 bf
  have K_a : Blk _ (w.heap.size) 66 #[.int .i64 T, .int .i64 U, .slice L.A L.l.length L.c] := blk_later hb2 (by simp [hp_past, hp_at, hp_other, hp_same, hp_drew, hp_drewN, B_a.out.eq, B_a.out.lt, hp_same B_a.out.eq])
  obtain ⟨a0, a1, a2, af, az⟩ := Blk.b3 K_a
  have B_a := Lib.hid K_a
  clear K_a
  have K_b : Blk _ (w.heap.size + 1) 66 #[.int .i64 0, .int .i64 0, .slice none 0 0] := blk_later hb2 (by simp [hp_past, hp_at, hp_other, hp_same, hp_drew, hp_drewN, B_b.out.eq, B_b.out.lt, hp_same B_b.out.eq])
  obtain ⟨b0, b1, b2, bf, bz⟩ := Blk.b3 K_b
  have B_b := Lib.hid K_b
  clear K_b
  have hB2 : Below w.heap.size w w2 := (by repeat (first | (with_reducible exact hB1) | (with_reducible exact Below.refl _ _) | ((with_reducible refine below_setr ?_ ?_); focus (first | (simp; done) | (simp; omega) | omega)) | ((with_reducible refine below_allocr ?_ ?_); focus (first | (simp; done) | (simp; omega) | omega)) | (with_reducible refine Below.drew ?_) | (with_reducible refine below_drewN ?_ _) | ((with_reducible apply below_via); focus (with_reducible assumption))))
  clear hb2
  try simp only
  generalize hfv : StockD.free (Stock.d ⟨T, U, L⟩) = fv at *
  clear hfv
  go_wp2_with fail
  try simp only [Exit.inBlock, Exit.then]
  refine bodyPost_ret (v := .tuple #[.agg #[.int .i64 T, .int .i64 U, .slice L.A L.l.length L.c], .int .i64 21]) ?_ rfl ⟨rfl, (by repeat (first | (with_reducible exact hB2) | (with_reducible exact Below.refl _ _) | ((with_reducible refine below_setr ?_ ?_); focus (first | (simp; done) | (simp; omega) | omega)) | ((with_reducible refine below_allocr ?_ ?_); focus (first | (simp; done) | (simp; omega) | omega)) | (with_reducible refine Below.drew ?_) | (with_reducible refine below_drewN ?_ _) | ((with_reducible apply below_via); focus (with_reducible assumption))))⟩
  simp [results, Try.results32, go_sem, a0, a1, a2, af, b0, b1, b2, bf, az, bz]
set_option maxHeartbeats 800000 in
theorem rtake_ok (s : Stock) (n : Int) (w : World) (hr : Rd (· < w.heap.size) 3 Loan.enc w s.L) (hb : s.L.l.length * 24 ≤ 140737488355328) (HF : Hid (s.d.fits 0 n = true)) (hle : n ≤ s.d.free) :
    Calls Try.prog 32 #[s.v, .int .i64 n] w fun e w' => ∃ s' : Stock, e = .returned (.tuple #[s'.v, .int .i64 0]) ∧ s'.d = ⟨s.T, s.U + n, s.L.l⟩ ∧ Rd (fun b => w.heap.size ≤ b ∧ b < w'.heap.size) 3 Loan.enc w' s'.L ∧ Below w.heap.size w w' := by
  have h1 := StockD.fits_iff HF.out
  have h2 := StockD.free_le h1.1
  have hn1 : 1 ≤ n := by omega
  have hn2 : n ≤ 1000000000000000 := by omega
  have hu1 : 0 ≤ s.U := h2.2.2.2
  have hu2 : s.U ≤ 1000000000000000 := by have := h2.1; have := h2.2.1; have := h2.2.2.1; simp only [Stock.d] at *; omega
  clear h1 h2
  obtain ⟨T, U, L⟩ := s
  have HR := Lib.hid hr
  clear hr
  simp only [Stock.v]
  go_enter Try.func32, Try.ntmps32
  go_wp2_with fail
  refine (rfits ⟨T, U, L⟩ 0 n _ ((HR.out.lt_alloc _).lt_alloc _)).mono ?_
  rintro e w1 ⟨rfl, hb1⟩
  rw [HF.out]
  have K_a : Blk _ (w.heap.size) 66 #[.int .i64 T, .int .i64 U, .slice L.A L.l.length L.c] := blk_later hb1 (by simp [hp_past, hp_at, hp_other, hp_same, hp_drew, hp_drewN])
  obtain ⟨a0, a1, a2, af, az⟩ := Blk.b3 K_a
  have B_a := Lib.hid K_a
  clear K_a
  have K_b : Blk _ (w.heap.size + 1) 66 #[.int .i64 0, .int .i64 0, .slice none 0 0] := blk_later hb1 (by simp [hp_past, hp_at, hp_other, hp_same, hp_drew, hp_drewN])
  obtain ⟨b0, b1, b2, bf, bz⟩ := Blk.b3 K_b
  have B_b := Lib.hid K_b
  clear K_b
  have hB1 : Below w.heap.size w w1 := (by repeat (first | (with_reducible exact Below.refl _ _) | ((with_reducible refine below_setr ?_ ?_); focus (first | (simp; done) | (simp; omega) | omega)) | ((with_reducible refine below_allocr ?_ ?_); focus (first | (simp; done) | (simp; omega) | omega)) | (with_reducible refine Below.drew ?_) | (with_reducible refine below_drewN ?_ _) | ((with_reducible apply below_via); focus (with_reducible assumption))))
  clear hb1
  go_wp2_with fail
  try simp only at hb hu1 hu2
  refine (rfree ⟨T, U, L⟩ _ (HR.out.below' hB1 (Nat.le_refl _))).mono ?_
  rintro e w2 ⟨rfl, hb2⟩
  clear a0 a1 a2 af b0 b1 b2 bf
  have K_a : Blk _ (w.heap.size) 66 #[.int .i64 T, .int .i64 U, .slice L.A L.l.length L.c] := blk_later hb2 (by simp [hp_past, hp_at, hp_other, hp_same, hp_drew, hp_drewN, B_a.out.eq, B_a.out.lt, hp_same B_a.out.eq])
  obtain ⟨a0, a1, a2, af, az⟩ := Blk.b3 K_a
  have B_a := Lib.hid K_a
  clear K_a
  have K_b : Blk _ (w.heap.size + 1) 66 #[.int .i64 0, .int .i64 0, .slice none 0 0] := blk_later hb2 (by simp [hp_past, hp_at, hp_other, hp_same, hp_drew, hp_drewN, B_b.out.eq, B_b.out.lt, hp_same B_b.out.eq])
  obtain ⟨b0, b1, b2, bf, bz⟩ := Blk.b3 K_b
  have B_b := Lib.hid K_b
  clear K_b
  have hB2 : Below w.heap.size w w2 := (by repeat (first | (with_reducible exact hB1) | (with_reducible exact Below.refl _ _) | ((with_reducible refine below_setr ?_ ?_); focus (first | (simp; done) | (simp; omega) | omega)) | ((with_reducible refine below_allocr ?_ ?_); focus (first | (simp; done) | (simp; omega) | omega)) | (with_reducible refine Below.drew ?_) | (with_reducible refine below_drewN ?_ _) | ((with_reducible apply below_via); focus (with_reducible assumption))))
  clear hb2
  try simp only
  generalize hfv : StockD.free (Stock.d ⟨T, U, L⟩) = fv at *
  clear hfv
  go_wp2_with fail
  refine (rcopied40 ⟨T, U, L⟩ _ (HR.out.below' hB2 (Nat.le_refl _)) hb).mono ?_
  rintro e w3 ⟨A, c, rfl, hown, hb3⟩
  clear a0 a1 a2 af b0 b1 b2 bf
  have K_a : Blk _ (w.heap.size) 66 #[.int .i64 T, .int .i64 U, .slice L.A L.l.length L.c] := blk_later hb3 (by simp [hp_past, hp_at, hp_other, hp_same, hp_drew, hp_drewN, B_a.out.eq, B_a.out.lt, hp_same B_a.out.eq])
  obtain ⟨a0, a1, a2, af, az⟩ := Blk.b3 K_a
  have B_a := Lib.hid K_a
  clear K_a
  have K_b : Blk _ (w.heap.size + 1) 66 #[.int .i64 0, .int .i64 0, .slice none 0 0] := blk_later hb3 (by simp [hp_past, hp_at, hp_other, hp_same, hp_drew, hp_drewN, B_b.out.eq, B_b.out.lt, hp_same B_b.out.eq])
  obtain ⟨b0, b1, b2, bf, bz⟩ := Blk.b3 K_b
  have B_b := Lib.hid K_b
  clear K_b
  have hB3 : Below w.heap.size w w3 := (by repeat (first | (with_reducible exact hB2) | (with_reducible exact Below.refl _ _) | ((with_reducible refine below_setr ?_ ?_); focus (first | (simp; done) | (simp; omega) | omega)) | ((with_reducible refine below_allocr ?_ ?_); focus (first | (simp; done) | (simp; omega) | omega)) | (with_reducible refine Below.drew ?_) | (with_reducible refine below_drewN ?_ _) | ((with_reducible apply below_via); focus (with_reducible assumption))))
  have hRd := (hown.rd Loan.k).mono (G := fun b => w2.heap.size ≤ b ∧ b < w3.heap.size) (fun b hb => hb)
  have HRD := Lib.hid hRd
  clear hb3 hown hRd
  simp only [Stock.v]
  rename_i k2 hk2 k1 hk1
  have HK2 := Lib.hid hk2
  clear hk2
  go_wp2_with fail
  have XA := Lib.hid (((B_a.out.set_ 0 (.int .i64 T)).set_ 1 (.int .i64 U)).set_ 2 (.slice A L.l.length c))
  have n1 : w.heap.size + 1 ≠ w.heap.size := by omega
  have XB := Lib.hid (Blk.farr (p := ⟨w.heap.size, 2, none⟩) (u := .slice A L.l.length c) n1 (Blk.farr (p := ⟨w.heap.size, 1, none⟩) (u := .int .i64 U) n1 (Blk.farr (p := ⟨w.heap.size, 0, none⟩) (u := .int .i64 T) n1 B_b.out)))
  have XR := Lib.hid (Rd.setfarr (p := ⟨w.heap.size, 2, none⟩) (u := .slice A L.l.length c) (by simp; omega) (Rd.setfarr (p := ⟨w.heap.size, 1, none⟩) (u := .int .i64 U) (by simp; omega) (Rd.setfarr (p := ⟨w.heap.size, 0, none⟩) (u := .int .i64 T) (by simp; omega) HRD.out)))
  have XW : Below w.heap.size w (((w3.setCell ⟨w.heap.size, 0, none⟩ (.int .i64 T)).setCell ⟨w.heap.size, 1, none⟩ (.int .i64 U)).setCell ⟨w.heap.size, 2, none⟩ (.slice A L.l.length c)) := (by repeat (first | (with_reducible exact hB3) | (with_reducible exact Below.refl _ _) | ((with_reducible refine below_setr ?_ ?_); focus (first | (simp; done) | (simp; omega) | omega)) | ((with_reducible refine below_allocr ?_ ?_); focus (first | (simp; done) | (simp; omega) | omega)) | (with_reducible refine Below.drew ?_) | (with_reducible refine below_drewN ?_ _) | ((with_reducible apply below_via); focus (with_reducible assumption))))
  have XZ : (((w3.setCell ⟨w.heap.size, 0, none⟩ (.int .i64 T)).setCell ⟨w.heap.size, 1, none⟩ (.int .i64 U)).setCell ⟨w.heap.size, 2, none⟩ (.slice A L.l.length c)).heap.size = w3.heap.size := by simp
  generalize (((w3.setCell ⟨w.heap.size, 0, none⟩ (.int .i64 T)).setCell ⟨w.heap.size, 1, none⟩ (.int .i64 U)).setCell ⟨w.heap.size, 2, none⟩ (.slice A L.l.length c)) = w4 at *
  have hk2 := HK2.out
  clear HK2 a0 a1 a2 af b0 b1 b2 bf B_a B_b HRD hB3
  have XA' : Hid (Blk w4 w.heap.size 66 #[.int .i64 T, .int .i64 U, .slice A L.l.length c]) := Lib.hid (by simpa using XA.out)
  obtain ⟨a0, a1, a2, af, az4⟩ := XA'.out.b3
  obtain ⟨b0, b1, b2, bf, bz4⟩ := XB.out.b3
  go_wp2_with fail
  try simp only [Exit.inBlock, Exit.then]
  refine bodyPost_ret (v := .tuple #[.agg #[.int .i64 T, .int .i64 (U + n), .slice A L.l.length c], .int .i64 0]) ?_ rfl ⟨⟨T, U + n, ⟨A, c, L.l⟩⟩, rfl, rfl, ?_, (by repeat (first | (with_reducible exact XW) | (with_reducible exact Below.refl _ _) | ((with_reducible refine below_setr ?_ ?_); focus (first | (simp; done) | (simp; omega) | omega)) | ((with_reducible refine below_allocr ?_ ?_); focus (first | (simp; done) | (simp; omega) | omega)) | (with_reducible refine Below.drew ?_) | (with_reducible refine below_drewN ?_ _) | ((with_reducible apply below_via); focus (with_reducible assumption))))⟩
  simp [results, Try.results32, go_sem, a0, a1, a2, af, b0, b1, b2, bf, az4, bz4]
  refine Rd.mono (F := fun b => w2.heap.size ≤ b ∧ b < w3.heap.size) ?_ (fun b hb => by have := hb.1; have := hb.2; have := hB2.size; simp; omega)
  repeat (refine Rd.setfarr (by first | (simp; done) | (simp; omega)) ?_)
  exact XR.out
theorem rtake (s : Stock) (n : Int) (w : World) (hr : Rd (· < w.heap.size) 3 Loan.enc w s.L) (hb : s.L.l.length * 24 ≤ 140737488355328) :
    Calls Try.prog 32 #[s.v, .int .i64 n] w fun e w' => ∃ s' : Stock, e = .returned (.tuple #[s'.v, .int .i64 (s.d.take n).2]) ∧ s'.d = (s.d.take n).1 ∧ Rd (· < w'.heap.size) 3 Loan.enc w' s'.L ∧ Below w.heap.size w w' := by
  rcases hF : s.d.fits 0 n
  · have ht : s.d.take n = (s.d, 1) := by unfold StockD.take; rw [if_neg (by rw [hF]; simp)]
    rw [ht]
    refine (rtake_no s n w hr hF).mono ?_
    rintro e w' ⟨rfl, hbw⟩
    exact ⟨s, rfl, rfl, hr.below' hbw (Nat.le_refl _), hbw⟩
  · rcases Int.lt_or_le s.d.free n with h | h
    · have ht : s.d.take n = (s.d, 21) := by unfold StockD.take; rw [if_pos hF, if_pos h]
      rw [ht]
      refine (rtake_few s n w hr hF h).mono ?_
      rintro e w' ⟨rfl, hbw⟩
      exact ⟨s, rfl, rfl, hr.below' hbw (Nat.le_refl _), hbw⟩
    · have ht : s.d.take n = (⟨s.T, s.U + n, s.L.l⟩, 0) := by unfold StockD.take; rw [if_pos hF, if_neg (Int.not_lt.2 h)]; rfl
      rw [ht]
      refine (rtake_ok s n w hr hb hF h).mono ?_
      rintro e w' ⟨s', rfl, h1, h2, h3⟩
      exact ⟨s', rfl, h1, h2.mono (fun b hb' => hb'.2), h3⟩
end Go.Proofs.Ythnblhbdfpmolaa
