/- Walks of package stock: Take, find. -/
import Derived.Test.YthnblhbdfpmolaaMLatmxaj
import Derived.Test.YthnblhbdfpmolaaMLatmxad
import Derived.Test.YthnblhbdfpmolaaMLatmxal
import Derived.Test.YthnblhbdfpmolaaMLatmxam
namespace Go.Proofs.Ythnblhbdfpmolaa
open Go.RowKit
def StockD.take (x : StockD) (n : Int) : StockD × Int :=
  if x.fits 0 n then (if x.free < n then (x, 21) else ({ x with U := x.U + n }, 0)) else (x, 1)
set_option maxHeartbeats 1000000 in
theorem stock_take_no (s : Stock) (n : Int) (w : World) (hr : Rd (· < w.heap.size) 3 Loan.enc w s.L) (hb : s.L.l.length * 24 ≤ 140737488355328) (HF : Hid (s.d.fits 0 n = false)) :
    Calls Try.prog 51 #[s.v, .int .i64 n] w fun e w' => ∃ A c, e = .returned (.tuple #[.agg #[.int .i64 s.T, .int .i64 s.U, .slice A s.L.l.length c], .int .i64 1]) ∧ Own w.heap.size 136 3 Loan.enc w' ⟨A, c, s.L.l⟩ ∧ Below w.heap.size w w' := by
  obtain ⟨T, U, L⟩ := s
  have HR := Lib.hid hr
  clear hr
  simp only [Stock.v]
  simp only at hb
  go_enter Try.func51, Try.ntmps51
  go_wp2_with fail
  refine (stock_copied ⟨T, U, L⟩ _ ((HR.out.lt_alloc _).lt_alloc _) hb).mono ?_
  rintro e w1 ⟨A, c, rfl, hown, hb1⟩
  have K_a : Blk _ (w.heap.size) 66 #[.int .i64 T, .int .i64 U, .slice L.A L.l.length L.c] := blk_later hb1 (by simp [hp_past, hp_at, hp_other, hp_same, hp_drew, hp_drewN])
  obtain ⟨a0, a1, a2, af, az⟩ := Blk.b3 K_a
  have B_a := Lib.hid K_a
  clear K_a
  have K_b : Blk _ (w.heap.size + 1) 66 #[.int .i64 0, .int .i64 0, .slice none 0 0] := blk_later hb1 (by simp [hp_past, hp_at, hp_other, hp_same, hp_drew, hp_drewN])
  obtain ⟨b0, b1, b2, bf, bz⟩ := Blk.b3 K_b
  have B_b := Lib.hid K_b
  clear K_b
  have hB : Below w.heap.size w w1 := Below.trans (by repeat (first | (with_reducible exact Below.refl _ _) | ((with_reducible refine below_setr ?_ ?_); focus (first | (simp; done) | (simp; omega) | omega)) | ((with_reducible refine below_allocr ?_ ?_); focus (first | (simp; done) | (simp; omega) | omega)) | (with_reducible refine Below.drew ?_) | (with_reducible refine below_drewN ?_ _))) (hb1.mono (by first | omega | (simp; done) | (simp; omega)))
  have HO := Lib.hid (hown.mono (base' := w.heap.size + 2) (by simp))
  have HA := Lib.hid hown.bound
  clear hown hb1
  go_wp2_with fail
  refine (stock_fits ⟨T, U, L⟩ 0 n _ ((HR.out.below' hB (Nat.le_refl _)).lt_alloc _)).mono ?_
  rintro e w2 ⟨rfl, hb2⟩
  have K_a : Blk _ (w.heap.size) 66 #[.int .i64 T, .int .i64 U, .slice L.A L.l.length L.c] := blk_later hb2 (by simp [hp_past, hp_at, hp_other, hp_same, hp_drew, hp_drewN, B_a.out.eq, B_a.out.lt, hp_same B_a.out.eq])
  obtain ⟨a0, a1, a2, af, az⟩ := Blk.b3 K_a
  have B_a := Lib.hid K_a
  clear K_a
  have K_b : Blk _ (w.heap.size + 1) 66 #[.int .i64 0, .int .i64 0, .slice none 0 0] := blk_later hb2 (by simp [hp_past, hp_at, hp_other, hp_same, hp_drew, hp_drewN, B_b.out.eq, B_b.out.lt, hp_same B_b.out.eq])
  obtain ⟨b0, b1, b2, bf, bz⟩ := Blk.b3 K_b
  have B_b := Lib.hid K_b
  clear K_b
  have K_o : Blk _ (w1.heap.size) 66 #[.int .i64 T, .int .i64 U, .slice A L.l.length c] := blk_later hb2 (by simp [hp_past, hp_at, hp_other, hp_same, hp_drew, hp_drewN])
  obtain ⟨o0, o1, o2, of, oz⟩ := Blk.b3 K_o
  have B_o := Lib.hid K_o
  clear K_o
  have hB2 : Below w.heap.size w w2 := Below.trans (by repeat (first | (with_reducible exact hB) | (with_reducible exact Below.refl _ _) | ((with_reducible refine below_setr ?_ ?_); focus (first | (simp; done) | (simp; omega) | omega)) | ((with_reducible refine below_allocr ?_ ?_); focus (first | (simp; done) | (simp; omega) | omega)) | (with_reducible refine Below.drew ?_) | (with_reducible refine below_drewN ?_ _))) (hb2.mono (by first | omega | (simp; done) | (simp; omega)))
  have HO2 := Lib.hid ((HO.out.alloc _).below hb2)
  clear hb2
  rw [HF.out]
  go_wp2_with fail
  try simp only [Exit.inBlock, Exit.then]
  refine bodyPost_ret (v := .tuple #[.agg #[.int .i64 T, .int .i64 U, .slice A L.l.length c], .int .i64 1]) ?_ rfl ⟨A, c, rfl, Own.mono (base := w.heap.size + 2) (by repeat (first | (with_reducible exact HO2.out) | ((with_reducible refine Own.farr ?_ ?_); focus (first | (simp; done) | (simp; omega) | omega)) | (with_reducible refine Own.alloc ?_ _) | (with_reducible refine Own.drew ?_) | (with_reducible refine Own.drewN ?_ _))) (by omega), (by repeat (first | (with_reducible exact hB2) | (with_reducible exact Below.refl _ _) | ((with_reducible refine below_setr ?_ ?_); focus (first | (simp; done) | (simp; omega) | omega)) | ((with_reducible refine below_allocr ?_ ?_); focus (first | (simp; done) | (simp; omega) | omega)) | (with_reducible refine Below.drew ?_) | (with_reducible refine below_drewN ?_ _)))⟩
  simp [results, Try.results51, go_sem, a0, a1, a2, af, b0, b1, b2, bf, o0, o1, o2, of]
set_option maxHeartbeats 1000000 in
theorem stock_take_few (s : Stock) (n : Int) (w : World) (hr : Rd (· < w.heap.size) 3 Loan.enc w s.L) (hb : s.L.l.length * 24 ≤ 140737488355328) (HF : Hid (s.d.fits 0 n = true)) (hlt : s.d.free < n) :
    Calls Try.prog 51 #[s.v, .int .i64 n] w fun e w' => ∃ A c, e = .returned (.tuple #[.agg #[.int .i64 s.T, .int .i64 s.U, .slice A s.L.l.length c], .int .i64 21]) ∧ Own w.heap.size 136 3 Loan.enc w' ⟨A, c, s.L.l⟩ ∧ Below w.heap.size w w' := by
  obtain ⟨T, U, L⟩ := s
  have HR := Lib.hid hr
  clear hr
  simp only [Stock.v]
  simp only at hb
  go_enter Try.func51, Try.ntmps51
  go_wp2_with fail
  refine (stock_copied ⟨T, U, L⟩ _ ((HR.out.lt_alloc _).lt_alloc _) hb).mono ?_
  rintro e w1 ⟨A, c, rfl, hown, hb1⟩
  have K_a : Blk _ (w.heap.size) 66 #[.int .i64 T, .int .i64 U, .slice L.A L.l.length L.c] := blk_later hb1 (by simp [hp_past, hp_at, hp_other, hp_same, hp_drew, hp_drewN])
  obtain ⟨a0, a1, a2, af, az⟩ := Blk.b3 K_a
  have B_a := Lib.hid K_a
  clear K_a
  have K_b : Blk _ (w.heap.size + 1) 66 #[.int .i64 0, .int .i64 0, .slice none 0 0] := blk_later hb1 (by simp [hp_past, hp_at, hp_other, hp_same, hp_drew, hp_drewN])
  obtain ⟨b0, b1, b2, bf, bz⟩ := Blk.b3 K_b
  have B_b := Lib.hid K_b
  clear K_b
  have hB : Below w.heap.size w w1 := Below.trans (by repeat (first | (with_reducible exact Below.refl _ _) | ((with_reducible refine below_setr ?_ ?_); focus (first | (simp; done) | (simp; omega) | omega)) | ((with_reducible refine below_allocr ?_ ?_); focus (first | (simp; done) | (simp; omega) | omega)) | (with_reducible refine Below.drew ?_) | (with_reducible refine below_drewN ?_ _))) (hb1.mono (by first | omega | (simp; done) | (simp; omega)))
  have HO := Lib.hid (hown.mono (base' := w.heap.size + 2) (by simp))
  have HA := Lib.hid hown.bound
  clear hown hb1
  go_wp2_with fail
  refine (stock_fits ⟨T, U, L⟩ 0 n _ ((HR.out.below' hB (Nat.le_refl _)).lt_alloc _)).mono ?_
  rintro e w2 ⟨rfl, hb2⟩
  have K_a : Blk _ (w.heap.size) 66 #[.int .i64 T, .int .i64 U, .slice L.A L.l.length L.c] := blk_later hb2 (by simp [hp_past, hp_at, hp_other, hp_same, hp_drew, hp_drewN, B_a.out.eq, B_a.out.lt, hp_same B_a.out.eq])
  obtain ⟨a0, a1, a2, af, az⟩ := Blk.b3 K_a
  have B_a := Lib.hid K_a
  clear K_a
  have K_b : Blk _ (w.heap.size + 1) 66 #[.int .i64 0, .int .i64 0, .slice none 0 0] := blk_later hb2 (by simp [hp_past, hp_at, hp_other, hp_same, hp_drew, hp_drewN, B_b.out.eq, B_b.out.lt, hp_same B_b.out.eq])
  obtain ⟨b0, b1, b2, bf, bz⟩ := Blk.b3 K_b
  have B_b := Lib.hid K_b
  clear K_b
  have K_o : Blk _ (w1.heap.size) 66 #[.int .i64 T, .int .i64 U, .slice A L.l.length c] := blk_later hb2 (by simp [hp_past, hp_at, hp_other, hp_same, hp_drew, hp_drewN])
  obtain ⟨o0, o1, o2, of, oz⟩ := Blk.b3 K_o
  have B_o := Lib.hid K_o
  clear K_o
  have hB2 : Below w.heap.size w w2 := Below.trans (by repeat (first | (with_reducible exact hB) | (with_reducible exact Below.refl _ _) | ((with_reducible refine below_setr ?_ ?_); focus (first | (simp; done) | (simp; omega) | omega)) | ((with_reducible refine below_allocr ?_ ?_); focus (first | (simp; done) | (simp; omega) | omega)) | (with_reducible refine Below.drew ?_) | (with_reducible refine below_drewN ?_ _))) (hb2.mono (by first | omega | (simp; done) | (simp; omega)))
  have HO2 := Lib.hid ((HO.out.alloc _).below hb2)
  clear hb2
  rw [HF.out]
  go_wp2_with fail
  refine (stock_free ⟨T, U, L⟩ _ (HR.out.below' hB2 (Nat.le_refl _))).mono ?_
  rintro e w3 ⟨rfl, hb3⟩
  have K_a : Blk _ (w.heap.size) 66 #[.int .i64 T, .int .i64 U, .slice L.A L.l.length L.c] := blk_later hb3 (by simp [hp_past, hp_at, hp_other, hp_same, hp_drew, hp_drewN, B_a.out.eq, B_a.out.lt, hp_same B_a.out.eq])
  obtain ⟨a0, a1, a2, af, az⟩ := Blk.b3 K_a
  have B_a := Lib.hid K_a
  clear K_a
  have K_b : Blk _ (w.heap.size + 1) 66 #[.int .i64 0, .int .i64 0, .slice none 0 0] := blk_later hb3 (by simp [hp_past, hp_at, hp_other, hp_same, hp_drew, hp_drewN, B_b.out.eq, B_b.out.lt, hp_same B_b.out.eq])
  obtain ⟨b0, b1, b2, bf, bz⟩ := Blk.b3 K_b
  have B_b := Lib.hid K_b
  clear K_b
  have K_o : Blk _ (w1.heap.size) 66 #[.int .i64 T, .int .i64 U, .slice A L.l.length c] := blk_later hb3 (by simp [hp_past, hp_at, hp_other, hp_same, hp_drew, hp_drewN, B_o.out.eq, B_o.out.lt, hp_same B_o.out.eq])
  obtain ⟨o0, o1, o2, of, oz⟩ := Blk.b3 K_o
  have B_o := Lib.hid K_o
  clear K_o
  have hB3 : Below w.heap.size w w3 := Below.trans (by repeat (first | (with_reducible exact hB2) | (with_reducible exact Below.refl _ _) | ((with_reducible refine below_setr ?_ ?_); focus (first | (simp; done) | (simp; omega) | omega)) | ((with_reducible refine below_allocr ?_ ?_); focus (first | (simp; done) | (simp; omega) | omega)) | (with_reducible refine Below.drew ?_) | (with_reducible refine below_drewN ?_ _))) (hb3.mono (by first | omega | (simp; done) | (simp; omega)))
  have HO3 := Lib.hid (HO2.out.below hb3)
  clear hb3
  go_wp2_with fail
  try simp only [Exit.inBlock, Exit.then]
  refine bodyPost_ret (v := .tuple #[.agg #[.int .i64 T, .int .i64 U, .slice A L.l.length c], .int .i64 21]) ?_ rfl ⟨A, c, rfl, Own.mono (base := w.heap.size + 2) (by repeat (first | (with_reducible exact HO3.out) | ((with_reducible refine Own.farr ?_ ?_); focus (first | (simp; done) | (simp; omega) | omega)) | ((with_reducible refine Own.otherr HA.out ?_ ?_); focus (first | (simp; done) | (simp; omega) | omega)) | (with_reducible refine Own.alloc ?_ _) | (with_reducible refine Own.drew ?_) | (with_reducible refine Own.drewN ?_ _))) (by omega), (by repeat (first | (with_reducible exact hB3) | (with_reducible exact Below.refl _ _) | ((with_reducible refine below_setr ?_ ?_); focus (first | (simp; done) | (simp; omega) | omega)) | ((with_reducible refine below_allocr ?_ ?_); focus (first | (simp; done) | (simp; omega) | omega)) | (with_reducible refine Below.drew ?_) | (with_reducible refine below_drewN ?_ _)))⟩
  simp [results, Try.results51, go_sem, a0, a1, a2, af, b0, b1, b2, bf, o0, o1, o2, of]
theorem StockD.fits_iff {x : StockD} {p n : Int} (h : x.fits p n = true) : x.right = true ∧ 0 ≤ p ∧ p < 12 ∧ 1 ≤ n ∧ n ≤ 1000000000000000 := by
  simp [StockD.fits] at h
  exact ⟨h.1, by omega, by omega, by omega, by omega⟩
theorem StockD.free_le {x : StockD} (h : x.right = true) : x.U + x.free ≤ x.T ∧ 0 ≤ x.free ∧ x.T ≤ 1000000000000000 ∧ 0 ≤ x.U := by
  obtain ⟨⟨h1, h2, h3, h4⟩, hg⟩ := StockD.right_iff h
  have := rightGo_sum _ _ _ hg (by omega)
  unfold StockD.free; rw [if_pos h]; omega
set_option maxHeartbeats 1000000 in
theorem stock_take_ok (s : Stock) (n : Int) (w : World) (hr : Rd (· < w.heap.size) 3 Loan.enc w s.L) (hb : s.L.l.length * 24 ≤ 140737488355328) (HF : Hid (s.d.fits 0 n = true)) (hlt : n ≤ s.d.free) :
    Calls Try.prog 51 #[s.v, .int .i64 n] w fun e w' => ∃ A c, e = .returned (.tuple #[.agg #[.int .i64 s.T, .int .i64 (s.U + n), .slice A s.L.l.length c], .int .i64 0]) ∧ Own w.heap.size 136 3 Loan.enc w' ⟨A, c, s.L.l⟩ ∧ Below w.heap.size w w' := by
  have h1 := StockD.fits_iff HF.out
  have h2 := StockD.free_le h1.1
  have hn1 : 1 ≤ n := by omega
  have hn2 : n ≤ 1000000000000000 := by omega
  have hu1 : 0 ≤ s.U := h2.2.2.2
  have hu2 : s.U ≤ 1000000000000000 := by have := h2.1; have := h2.2.1; have := h2.2.2.1; simp only [Stock.d] at *; omega
  clear h1 h2
  obtain ⟨T, U, L⟩ := s
  have HR := Lib.hid hr
  clear hr
  simp only [Stock.v]
  simp only at hb
  go_enter Try.func51, Try.ntmps51
  go_wp2_with fail
  refine (stock_copied ⟨T, U, L⟩ _ ((HR.out.lt_alloc _).lt_alloc _) hb).mono ?_
  rintro e w1 ⟨A, c, rfl, hown, hb1⟩
  have K_a : Blk _ (w.heap.size) 66 #[.int .i64 T, .int .i64 U, .slice L.A L.l.length L.c] := blk_later hb1 (by simp [hp_past, hp_at, hp_other, hp_same, hp_drew, hp_drewN])
  obtain ⟨a0, a1, a2, af, az⟩ := Blk.b3 K_a
  have B_a := Lib.hid K_a
  clear K_a
  have K_b : Blk _ (w.heap.size + 1) 66 #[.int .i64 0, .int .i64 0, .slice none 0 0] := blk_later hb1 (by simp [hp_past, hp_at, hp_other, hp_same, hp_drew, hp_drewN])
  obtain ⟨b0, b1, b2, bf, bz⟩ := Blk.b3 K_b
  have B_b := Lib.hid K_b
  clear K_b
  have hB : Below w.heap.size w w1 := Below.trans (by repeat (first | (with_reducible exact Below.refl _ _) | ((with_reducible refine below_setr ?_ ?_); focus (first | (simp; done) | (simp; omega) | omega)) | ((with_reducible refine below_allocr ?_ ?_); focus (first | (simp; done) | (simp; omega) | omega)) | (with_reducible refine Below.drew ?_) | (with_reducible refine below_drewN ?_ _))) (hb1.mono (by first | omega | (simp; done) | (simp; omega)))
  have HO := Lib.hid (hown.mono (base' := w.heap.size + 2) (by simp))
  have HA := Lib.hid hown.bound
  clear hown hb1
  go_wp2_with fail
  refine (stock_fits ⟨T, U, L⟩ 0 n _ ((HR.out.below' hB (Nat.le_refl _)).lt_alloc _)).mono ?_
  rintro e w2 ⟨rfl, hb2⟩
  have K_a : Blk _ (w.heap.size) 66 #[.int .i64 T, .int .i64 U, .slice L.A L.l.length L.c] := blk_later hb2 (by simp [hp_past, hp_at, hp_other, hp_same, hp_drew, hp_drewN, B_a.out.eq, B_a.out.lt, hp_same B_a.out.eq])
  obtain ⟨a0, a1, a2, af, az⟩ := Blk.b3 K_a
  have B_a := Lib.hid K_a
  clear K_a
  have K_b : Blk _ (w.heap.size + 1) 66 #[.int .i64 0, .int .i64 0, .slice none 0 0] := blk_later hb2 (by simp [hp_past, hp_at, hp_other, hp_same, hp_drew, hp_drewN, B_b.out.eq, B_b.out.lt, hp_same B_b.out.eq])
  obtain ⟨b0, b1, b2, bf, bz⟩ := Blk.b3 K_b
  have B_b := Lib.hid K_b
  clear K_b
  have K_o : Blk _ (w1.heap.size) 66 #[.int .i64 T, .int .i64 U, .slice A L.l.length c] := blk_later hb2 (by simp [hp_past, hp_at, hp_other, hp_same, hp_drew, hp_drewN])
  obtain ⟨o0, o1, o2, of, oz⟩ := Blk.b3 K_o
  have B_o := Lib.hid K_o
  clear K_o
  have hB2 : Below w.heap.size w w2 := Below.trans (by repeat (first | (with_reducible exact hB) | (with_reducible exact Below.refl _ _) | ((with_reducible refine below_setr ?_ ?_); focus (first | (simp; done) | (simp; omega) | omega)) | ((with_reducible refine below_allocr ?_ ?_); focus (first | (simp; done) | (simp; omega) | omega)) | (with_reducible refine Below.drew ?_) | (with_reducible refine below_drewN ?_ _))) (hb2.mono (by first | omega | (simp; done) | (simp; omega)))
  have HO2 := Lib.hid ((HO.out.alloc _).below hb2)
  clear hb2
  rw [HF.out]
  go_wp2_with fail
  refine (stock_free ⟨T, U, L⟩ _ (HR.out.below' hB2 (Nat.le_refl _))).mono ?_
  rintro e w3 ⟨rfl, hb3⟩
  have K_a : Blk _ (w.heap.size) 66 #[.int .i64 T, .int .i64 U, .slice L.A L.l.length L.c] := blk_later hb3 (by simp [hp_past, hp_at, hp_other, hp_same, hp_drew, hp_drewN, B_a.out.eq, B_a.out.lt, hp_same B_a.out.eq])
  obtain ⟨a0, a1, a2, af, az⟩ := Blk.b3 K_a
  have B_a := Lib.hid K_a
  clear K_a
  have K_b : Blk _ (w.heap.size + 1) 66 #[.int .i64 0, .int .i64 0, .slice none 0 0] := blk_later hb3 (by simp [hp_past, hp_at, hp_other, hp_same, hp_drew, hp_drewN, B_b.out.eq, B_b.out.lt, hp_same B_b.out.eq])
  obtain ⟨b0, b1, b2, bf, bz⟩ := Blk.b3 K_b
  have B_b := Lib.hid K_b
  clear K_b
  have K_o : Blk _ (w1.heap.size) 66 #[.int .i64 T, .int .i64 U, .slice A L.l.length c] := blk_later hb3 (by simp [hp_past, hp_at, hp_other, hp_same, hp_drew, hp_drewN, B_o.out.eq, B_o.out.lt, hp_same B_o.out.eq])
  obtain ⟨o0, o1, o2, of, oz⟩ := Blk.b3 K_o
  have B_o := Lib.hid K_o
  clear K_o
  have hB3 : Below w.heap.size w w3 := Below.trans (by repeat (first | (with_reducible exact hB2) | (with_reducible exact Below.refl _ _) | ((with_reducible refine below_setr ?_ ?_); focus (first | (simp; done) | (simp; omega) | omega)) | ((with_reducible refine below_allocr ?_ ?_); focus (first | (simp; done) | (simp; omega) | omega)) | (with_reducible refine Below.drew ?_) | (with_reducible refine below_drewN ?_ _))) (hb3.mono (by first | omega | (simp; done) | (simp; omega)))
  have HO3 := Lib.hid (HO2.out.below hb3)
  clear hb3
  go_wp2_with fail
  try simp only [Exit.inBlock, Exit.then]
  refine bodyPost_ret (v := .tuple #[.agg #[.int .i64 T, .int .i64 (U + n), .slice A L.l.length c], .int .i64 0]) ?_ rfl ⟨A, c, rfl, Own.mono (base := w.heap.size + 2) (by repeat (first | (with_reducible exact HO3.out) | ((with_reducible refine Own.farr ?_ ?_); focus (first | (simp; done) | (simp; omega) | omega)) | ((with_reducible refine Own.otherr HA.out ?_ ?_); focus (first | (simp; done) | (simp; omega) | omega)) | (with_reducible refine Own.alloc ?_ _) | (with_reducible refine Own.drew ?_) | (with_reducible refine Own.drewN ?_ _))) (by omega), (by repeat (first | (with_reducible exact hB3) | (with_reducible exact Below.refl _ _) | ((with_reducible refine below_setr ?_ ?_); focus (first | (simp; done) | (simp; omega) | omega)) | ((with_reducible refine below_allocr ?_ ?_); focus (first | (simp; done) | (simp; omega) | omega)) | (with_reducible refine Below.drew ?_) | (with_reducible refine below_drewN ?_ _)))⟩
  simp [results, Try.results51, go_sem, a0, a1, a2, af, b0, b1, b2, bf, o0, o1, o2, of]
end Go.Proofs.Ythnblhbdfpmolaa
