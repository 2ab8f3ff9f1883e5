/- Walks of package stock: Use, Give. -/
import Derived.Test.YthnblhbdfpmolaaPNotemxah
namespace Go.Proofs.Ythnblhbdfpmolaa
open Go.RowKit
theorem own_ne2 {g b o n c : Nat} (h : g ≠ b) : (Value.slice (some ⟨g, o, none⟩) n c).ownBlock ≠ some b := by simp [Value.ownBlock]; exact h
def StockD.use (x : StockD) (p n : Int) : StockD × Int :=
  if x.fits p n then (match x.L[idx x.L p]? with
    | some l => if has x.L p then (if l.u - l.s < n then (x, 21) else ({ x with L := x.L.set (idx x.L p) { l with s := l.s + n } }, 0)) else (x, 4)
    | none => (x, 4)) else (x, 1)
def StockD.give (x : StockD) (p : Int) : StockD × Int :=
  if x.fits p 1 then (match x.L[idx x.L p]? with
    | some l => if has x.L p then ({ x with U := x.U + l.s, L := x.L.take (idx x.L p) ++ x.L.drop (idx x.L p + 1) }, 0) else (x, 4)
    | none => (x, 4)) else (x, 1)
set_option maxHeartbeats 1000000 in
theorem stock_use_no (s : Stock) (p n : Int) (w : World) (hr : Rd (· < w.heap.size) 3 Loan.enc w s.L) (hb : s.L.l.length * 24 ≤ 140737488355328) (HF : Hid (s.d.fits p n = false)) :
    Calls Try.prog 70 #[s.v, .int .i64 p, .int .i64 n] w fun e w' => ∃ A c, e = .returned (.tuple #[.agg #[.int .i64 s.T, .int .i64 s.U, .slice A s.L.l.length c], .int .i64 1]) ∧ Own w.heap.size 136 3 Loan.enc w' ⟨A, c, s.L.l⟩ ∧ Below w.heap.size w w' := by
  obtain ⟨T, U, L⟩ := s
  have HR := Lib.hid hr
  clear hr
  simp only [Stock.v]
  simp only at hb
  go_enter Try.func70, Try.ntmps70
  go_wp2_with fail
  refine (stock_copied ⟨T, U, L⟩ _ ((HR.out.lt_alloc _).lt_alloc _) hb).mono ?_
  rintro e w1 ⟨A, c, rfl, hown, hb1⟩
  have K_a : Blk _ (w.heap.size) 66 #[.int .i64 T, .int .i64 U, .slice L.A L.l.length L.c] := qkb hb1
  obtain ⟨a0, a1, a2, af, az⟩ := Blk.b3 K_a
  have B_a := Lib.hid K_a
  clear K_a
  have K_b : Blk _ (w.heap.size + 1) 66 #[.int .i64 0, .int .i64 0, .slice none 0 0] := qkb hb1
  obtain ⟨b0, b1, b2, bf, bz⟩ := Blk.b3 K_b
  have B_b := Lib.hid K_b
  clear K_b
  have hB : Below w.heap.size w w1 := Below.trans qbl (hb1.mono (by simp; omega))
  have HO := Lib.hid (hown.mono (base' := w.heap.size + 2) (by simp))
  have HA := Lib.hid hown.bound
  clear hown hb1
  go_wp2_with fail
  refine (stock_fits ⟨T, U, L⟩ p n _ ((HR.out.below' hB (Nat.le_refl _)).lt_alloc _)).mono ?_
  rintro e w2 ⟨rfl, hb2⟩
  clear a0 a1 a2 af b0 b1 b2 bf
  have K_a : Blk _ (w.heap.size) 66 #[.int .i64 T, .int .i64 U, .slice L.A L.l.length L.c] := qkc B_a hb2
  obtain ⟨a0, a1, a2, af, az⟩ := Blk.b3 K_a
  have B_a := Lib.hid K_a
  clear K_a
  have K_b : Blk _ (w.heap.size + 1) 66 #[.int .i64 0, .int .i64 0, .slice none 0 0] := qkc B_b hb2
  obtain ⟨b0, b1, b2, bf, bz⟩ := Blk.b3 K_b
  have B_b := Lib.hid K_b
  clear K_b
  have K_o : Blk _ (w1.heap.size) 66 #[.int .i64 T, .int .i64 U, .slice A L.l.length c] := qkb hb2
  obtain ⟨o0, o1, o2, of, oz⟩ := Blk.b3 K_o
  have B_o := Lib.hid K_o
  clear K_o
  have hB2 : Below w.heap.size w w2 := Below.trans qbh (hb2.mono (by first | omega | (simp; done) | (simp; omega)))
  have HO2 := Lib.hid ((HO.out.alloc _).below hb2)
  clear hb2
  rw [HF.out]
  go_wp2_with fail
  try simp only [Exit.inBlock, Exit.then]
  refine bodyPost_ret (v := .tuple #[.agg #[.int .i64 T, .int .i64 U, .slice A L.l.length c], .int .i64 1]) ?_ rfl ⟨A, c, rfl, Own.mono (base := w.heap.size + 2) (by repeat (first | (with_reducible exact HO2.out) | ((with_reducible refine Own.farr ?_ ?_); focus (first | (simp; done) | (simp; omega) | omega)) | (with_reducible refine Own.alloc ?_ _) | (with_reducible refine Own.drew ?_) | (with_reducible refine Own.drewN ?_ _))) (by omega), qbh⟩
  simp [results, Try.results70, go_sem, a0, a1, a2, af, b0, b1, b2, bf, o0, o1, o2, of]
set_option maxHeartbeats 1000000 in
theorem stock_use_none (s : Stock) (p n : Int) (w : World) (hr : Rd (· < w.heap.size) 3 Loan.enc w s.L) (hb : s.L.l.length * 24 ≤ 140737488355328) (HF : Hid (s.d.fits p n = true)) (HH : Hid (has s.L.l p = false)) :
    Calls Try.prog 70 #[s.v, .int .i64 p, .int .i64 n] w fun e w' => ∃ A c, e = .returned (.tuple #[.agg #[.int .i64 s.T, .int .i64 s.U, .slice A s.L.l.length c], .int .i64 4]) ∧ Own w.heap.size 136 3 Loan.enc w' ⟨A, c, s.L.l⟩ ∧ Below w.heap.size w w' := by
  have HRT := Lib.hid (StockD.fits_iff HF.out).1
  obtain ⟨T, U, L⟩ := s
  have HR := Lib.hid hr
  clear hr
  simp only [Stock.v]
  simp only at hb
  go_enter Try.func70, Try.ntmps70
  go_wp2_with fail
  refine (stock_copied ⟨T, U, L⟩ _ ((HR.out.lt_alloc _).lt_alloc _) hb).mono ?_
  rintro e w1 ⟨A, c, rfl, hown, hb1⟩
  have K_a : Blk _ (w.heap.size) 66 #[.int .i64 T, .int .i64 U, .slice L.A L.l.length L.c] := qkb hb1
  obtain ⟨a0, a1, a2, af, az⟩ := Blk.b3 K_a
  have B_a := Lib.hid K_a
  clear K_a
  have K_b : Blk _ (w.heap.size + 1) 66 #[.int .i64 0, .int .i64 0, .slice none 0 0] := qkb hb1
  obtain ⟨b0, b1, b2, bf, bz⟩ := Blk.b3 K_b
  have B_b := Lib.hid K_b
  clear K_b
  have hB : Below w.heap.size w w1 := Below.trans qbl (hb1.mono (by simp; omega))
  have HO := Lib.hid (hown.mono (base' := w.heap.size + 2) (by simp))
  have HA := Lib.hid hown.bound
  clear hown hb1
  go_wp2_with fail
  refine (stock_fits ⟨T, U, L⟩ p n _ ((HR.out.below' hB (Nat.le_refl _)).lt_alloc _)).mono ?_
  rintro e w2 ⟨rfl, hb2⟩
  clear a0 a1 a2 af b0 b1 b2 bf
  have K_a : Blk _ (w.heap.size) 66 #[.int .i64 T, .int .i64 U, .slice L.A L.l.length L.c] := qkc B_a hb2
  obtain ⟨a0, a1, a2, af, az⟩ := Blk.b3 K_a
  have B_a := Lib.hid K_a
  clear K_a
  have K_b : Blk _ (w.heap.size + 1) 66 #[.int .i64 0, .int .i64 0, .slice none 0 0] := qkc B_b hb2
  obtain ⟨b0, b1, b2, bf, bz⟩ := Blk.b3 K_b
  have B_b := Lib.hid K_b
  clear K_b
  have K_o : Blk _ (w1.heap.size) 66 #[.int .i64 T, .int .i64 U, .slice A L.l.length c] := qkb hb2
  obtain ⟨o0, o1, o2, of, oz⟩ := Blk.b3 K_o
  have B_o := Lib.hid K_o
  clear K_o
  have hB2 : Below w.heap.size w w2 := Below.trans qbh (hb2.mono (by first | omega | (simp; done) | (simp; omega)))
  have HO2 := Lib.hid ((HO.out.alloc _).below hb2)
  clear hb2
  rw [HF.out]
  go_wp2_with fail
  refine (stock_find ⟨T, U, ⟨A, c, L.l⟩⟩ p _ ((HO2.out.rd Loan.k).mono (fun b hb => hb.2)) HRT.out).mono ?_
  rintro e w4 ⟨rfl, hb4⟩
  clear a0 a1 a2 af b0 b1 b2 bf o0 o1 o2 of
  have K_a : Blk _ (w.heap.size) 66 #[.int .i64 T, .int .i64 U, .slice L.A L.l.length L.c] := qkc B_a hb4
  obtain ⟨a0, a1, a2, af, az⟩ := Blk.b3 K_a
  have B_a := Lib.hid K_a
  clear K_a
  have K_b : Blk _ (w.heap.size + 1) 66 #[.int .i64 0, .int .i64 0, .slice none 0 0] := qkc B_b hb4
  obtain ⟨b0, b1, b2, bf, bz⟩ := Blk.b3 K_b
  have B_b := Lib.hid K_b
  clear K_b
  have K_o : Blk _ (w1.heap.size) 66 #[.int .i64 T, .int .i64 U, .slice A L.l.length c] := qkc B_o hb4
  obtain ⟨o0, o1, o2, of, oz⟩ := Blk.b3 K_o
  have B_o := Lib.hid K_o
  clear K_o
  have hB4 : Below w.heap.size w w4 := Below.trans qbh (hb4.mono (by first | omega | (simp; done) | (simp; omega)))
  have HO4 := Lib.hid (HO2.out.below hb4)
  clear hb4
  simp only
  rw [HH.out]
  go_wp2_with fail
  try simp only [Exit.inBlock, Exit.then]
  refine bodyPost_ret (v := .tuple #[.agg #[.int .i64 T, .int .i64 U, .slice A L.l.length c], .int .i64 4]) ?_ rfl ⟨A, c, rfl, Own.mono (base := w.heap.size + 2) (by repeat (first | (with_reducible exact HO4.out) | ((with_reducible refine Own.farr ?_ ?_); focus (first | (simp; done) | (simp; omega) | omega)) | (with_reducible refine Own.alloc ?_ _) | (with_reducible refine Own.drew ?_) | (with_reducible refine Own.drewN ?_ _))) (by omega), qbh⟩
  simp [results, Try.results70, go_sem, a0, a1, a2, af, b0, b1, b2, bf, o0, o1, o2, of]
set_option maxHeartbeats 1000000 in
theorem stock_use_few (s : Stock) (p n : Int) (i : Nat) (x : Loan) (w : World) (hr : Rd (· < w.heap.size) 3 Loan.enc w s.L) (hb : s.L.l.length * 24 ≤ 140737488355328) (HF : Hid (s.d.fits p n = true)) (HH : Hid (has s.L.l p = true))
    (HI : Hid (idx s.L.l p = i)) (HX : Hid (s.L.l[i]? = some x)) (hlt : x.u - x.s < n) :
    Calls Try.prog 70 #[s.v, .int .i64 p, .int .i64 n] w fun e w' => ∃ A c, e = .returned (.tuple #[.agg #[.int .i64 s.T, .int .i64 s.U, .slice A s.L.l.length c], .int .i64 21]) ∧ Own w.heap.size 136 3 Loan.enc w' ⟨A, c, s.L.l⟩ ∧ Below w.heap.size w w' := by
  have h1 := StockD.fits_iff HF.out
  have HRT := Lib.hid h1.1
  have hm := rightGo_mem _ _ _ (StockD.right_iff h1.1).2 x (List.mem_of_getElem? HX.out)
  have hx1 : 1 ≤ x.u := hm.1
  have hx2 : x.u ≤ 1000000000000000 := by have := hm.2.1; have := (StockD.right_iff h1.1).1; simp only [StockD.ok0] at this; omega
  have hx3 : 0 ≤ x.s := hm.2.2.1
  have hx4 : x.s ≤ x.u := hm.2.2.2.1
  have hu1 : 0 ≤ s.U := (StockD.right_iff h1.1).1.2.2.1
  have hu2 : s.U ≤ 1000000000000000 := by have := (StockD.right_iff h1.1).1; simp only [StockD.ok0, Stock.d] at this; omega
  have hi : i < s.L.l.length := (List.getElem?_eq_some_iff.1 HX.out).1
  clear hm
  obtain ⟨T, U, L⟩ := s
  have HR := Lib.hid hr
  clear hr
  simp only [Stock.v]
  simp only at hb
  go_enter Try.func70, Try.ntmps70
  go_wp2_with fail
  refine (stock_copied ⟨T, U, L⟩ _ ((HR.out.lt_alloc _).lt_alloc _) hb).mono ?_
  rintro e w1 ⟨A, c, rfl, hown, hb1⟩
  have K_a : Blk _ (w.heap.size) 66 #[.int .i64 T, .int .i64 U, .slice L.A L.l.length L.c] := qkb hb1
  obtain ⟨a0, a1, a2, af, az⟩ := Blk.b3 K_a
  have B_a := Lib.hid K_a
  clear K_a
  have K_b : Blk _ (w.heap.size + 1) 66 #[.int .i64 0, .int .i64 0, .slice none 0 0] := qkb hb1
  obtain ⟨b0, b1, b2, bf, bz⟩ := Blk.b3 K_b
  have B_b := Lib.hid K_b
  clear K_b
  have hB : Below w.heap.size w w1 := Below.trans qbl (hb1.mono (by simp; omega))
  have HO := Lib.hid (hown.mono (base' := w.heap.size + 2) (by simp))
  have HA := Lib.hid hown.bound
  clear hown hb1
  go_wp2_with fail
  refine (stock_fits ⟨T, U, L⟩ p n _ ((HR.out.below' hB (Nat.le_refl _)).lt_alloc _)).mono ?_
  rintro e w2 ⟨rfl, hb2⟩
  clear a0 a1 a2 af b0 b1 b2 bf
  have K_a : Blk _ (w.heap.size) 66 #[.int .i64 T, .int .i64 U, .slice L.A L.l.length L.c] := qkc B_a hb2
  obtain ⟨a0, a1, a2, af, az⟩ := Blk.b3 K_a
  have B_a := Lib.hid K_a
  clear K_a
  have K_b : Blk _ (w.heap.size + 1) 66 #[.int .i64 0, .int .i64 0, .slice none 0 0] := qkc B_b hb2
  obtain ⟨b0, b1, b2, bf, bz⟩ := Blk.b3 K_b
  have B_b := Lib.hid K_b
  clear K_b
  have K_o : Blk _ (w1.heap.size) 66 #[.int .i64 T, .int .i64 U, .slice A L.l.length c] := qkb hb2
  obtain ⟨o0, o1, o2, of, oz⟩ := Blk.b3 K_o
  have B_o := Lib.hid K_o
  clear K_o
  have hB2 : Below w.heap.size w w2 := Below.trans qbh (hb2.mono (by first | omega | (simp; done) | (simp; omega)))
  have HO2 := Lib.hid ((HO.out.alloc _).below hb2)
  clear hb2
  rw [HF.out]
  go_wp2_with fail
  refine (stock_find ⟨T, U, ⟨A, c, L.l⟩⟩ p _ ((HO2.out.rd Loan.k).mono (fun b hb => hb.2)) HRT.out).mono ?_
  rintro e w4 ⟨rfl, hb4⟩
  clear a0 a1 a2 af b0 b1 b2 bf o0 o1 o2 of
  have K_a : Blk _ (w.heap.size) 66 #[.int .i64 T, .int .i64 U, .slice L.A L.l.length L.c] := qkc B_a hb4
  obtain ⟨a0, a1, a2, af, az⟩ := Blk.b3 K_a
  have B_a := Lib.hid K_a
  clear K_a
  have K_b : Blk _ (w.heap.size + 1) 66 #[.int .i64 0, .int .i64 0, .slice none 0 0] := qkc B_b hb4
  obtain ⟨b0, b1, b2, bf, bz⟩ := Blk.b3 K_b
  have B_b := Lib.hid K_b
  clear K_b
  have K_o : Blk _ (w1.heap.size) 66 #[.int .i64 T, .int .i64 U, .slice A L.l.length c] := qkc B_o hb4
  obtain ⟨o0, o1, o2, of, oz⟩ := Blk.b3 K_o
  have B_o := Lib.hid K_o
  clear K_o
  have hB4 : Below w.heap.size w w4 := Below.trans qbh (hb4.mono (by first | omega | (simp; done) | (simp; omega)))
  have HO4 := Lib.hid (HO2.out.below hb4)
  clear hb4
  simp only
  rw [HH.out]
  rw [HI.out]
  try simp only at hi
  obtain ⟨bb, oo, hA, hF, hcl⟩ := (HO4.out.rd Loan.k).2.2.2 i x HX.out
  obtain ⟨g, hg⟩ : ∃ g, A = some ⟨g, 0, none⟩ := by
    rcases HO4.out.form with ⟨h0, _⟩ | ⟨g, h0, _⟩
    · simp only at h0 hA; rw [h0] at hA; cases hA
    · exact ⟨g, h0⟩
  subst hg
  simp only at hA
  injection hA with hA
  injection hA with hA1 hA2
  subst hA1; subst hA2
  obtain ⟨g0, g1, g2⟩ := Cells.c3 hcl
  have gf := fun j => HO4.out.frozen (g := g) rfl j
  have gl := HA.out g rfl
  have gl2 : w.heap.size + 2 ≤ g := by
    rcases HO4.out.form with ⟨h0, _⟩ | ⟨g', h0, h1, _⟩
    · cases h0
    · injection h0 with h0; injection h0 with h0; omega
  simp only [Nat.zero_add] at g0 g1 g2
  clear hcl hF
  go_wp2_with fail
  go_quiet (fail)
  go_wp2_with fail
  try simp only [Exit.inBlock, Exit.then]
  refine bodyPost_ret (v := .tuple #[.agg #[.int .i64 T, .int .i64 U, .slice (some ⟨g, 0, none⟩) L.l.length c], .int .i64 21]) ?_ rfl ⟨_, c, rfl, Own.mono (base := w.heap.size + 2) (by repeat (first | (with_reducible exact HO4.out) | ((with_reducible refine Own.farr ?_ ?_); focus (first | (simp; done) | (simp; omega) | omega)) | (with_reducible refine Own.alloc ?_ _) | (with_reducible refine Own.drew ?_) | (with_reducible refine Own.drewN ?_ _))) (by omega), qbh⟩
  simp [results, Try.results70, go_sem, a0, a1, a2, af, b0, b1, b2, bf, o0, o1, o2, of]
set_option maxHeartbeats 1000000 in
theorem stock_use_ok (s : Stock) (p n : Int) (i : Nat) (x : Loan) (w : World) (hr : Rd (· < w.heap.size) 3 Loan.enc w s.L) (hb : s.L.l.length * 24 ≤ 140737488355328) (HF : Hid (s.d.fits p n = true)) (HH : Hid (has s.L.l p = true))
    (HI : Hid (idx s.L.l p = i)) (HX : Hid (s.L.l[i]? = some x)) (hlt : n ≤ x.u - x.s) :
    Calls Try.prog 70 #[s.v, .int .i64 p, .int .i64 n] w fun e w' => ∃ A c, e = .returned (.tuple #[.agg #[.int .i64 s.T, .int .i64 s.U, .slice A s.L.l.length c], .int .i64 0]) ∧ Own w.heap.size 136 3 Loan.enc w' ⟨A, c, s.L.l.set i { x with s := x.s + n }⟩ ∧ Below w.heap.size w w' := by
  have h1 := StockD.fits_iff HF.out
  have HRT := Lib.hid h1.1
  have hm := rightGo_mem _ _ _ (StockD.right_iff h1.1).2 x (List.mem_of_getElem? HX.out)
  have hx1 : 1 ≤ x.u := hm.1
  have hx2 : x.u ≤ 1000000000000000 := by have := hm.2.1; have := (StockD.right_iff h1.1).1; simp only [StockD.ok0] at this; omega
  have hx3 : 0 ≤ x.s := hm.2.2.1
  have hx4 : x.s ≤ x.u := hm.2.2.2.1
  have hu1 : 0 ≤ s.U := (StockD.right_iff h1.1).1.2.2.1
  have hu2 : s.U ≤ 1000000000000000 := by have := (StockD.right_iff h1.1).1; simp only [StockD.ok0, Stock.d] at this; omega
  have hi : i < s.L.l.length := (List.getElem?_eq_some_iff.1 HX.out).1
  clear hm
  have hn1 : 1 ≤ n := by omega
  obtain ⟨T, U, L⟩ := s
  have HR := Lib.hid hr
  clear hr
  simp only [Stock.v]
  simp only at hb
  go_enter Try.func70, Try.ntmps70
  go_wp2_with fail
  refine (stock_copied ⟨T, U, L⟩ _ ((HR.out.lt_alloc _).lt_alloc _) hb).mono ?_
  rintro e w1 ⟨A, c, rfl, hown, hb1⟩
  have K_a : Blk _ (w.heap.size) 66 #[.int .i64 T, .int .i64 U, .slice L.A L.l.length L.c] := qkb hb1
  obtain ⟨a0, a1, a2, af, az⟩ := Blk.b3 K_a
  have B_a := Lib.hid K_a
  clear K_a
  have K_b : Blk _ (w.heap.size + 1) 66 #[.int .i64 0, .int .i64 0, .slice none 0 0] := qkb hb1
  obtain ⟨b0, b1, b2, bf, bz⟩ := Blk.b3 K_b
  have B_b := Lib.hid K_b
  clear K_b
  have hB : Below w.heap.size w w1 := Below.trans qbl (hb1.mono (by simp; omega))
  have HO := Lib.hid (hown.mono (base' := w.heap.size + 2) (by simp))
  have HA := Lib.hid hown.bound
  clear hown hb1
  go_wp2_with fail
  refine (stock_fits ⟨T, U, L⟩ p n _ ((HR.out.below' hB (Nat.le_refl _)).lt_alloc _)).mono ?_
  rintro e w2 ⟨rfl, hb2⟩
  clear a0 a1 a2 af b0 b1 b2 bf
  have K_a : Blk _ (w.heap.size) 66 #[.int .i64 T, .int .i64 U, .slice L.A L.l.length L.c] := qkc B_a hb2
  obtain ⟨a0, a1, a2, af, az⟩ := Blk.b3 K_a
  have B_a := Lib.hid K_a
  clear K_a
  have K_b : Blk _ (w.heap.size + 1) 66 #[.int .i64 0, .int .i64 0, .slice none 0 0] := qkc B_b hb2
  obtain ⟨b0, b1, b2, bf, bz⟩ := Blk.b3 K_b
  have B_b := Lib.hid K_b
  clear K_b
  have K_o : Blk _ (w1.heap.size) 66 #[.int .i64 T, .int .i64 U, .slice A L.l.length c] := qkb hb2
  obtain ⟨o0, o1, o2, of, oz⟩ := Blk.b3 K_o
  have B_o := Lib.hid K_o
  clear K_o
  have hB2 : Below w.heap.size w w2 := Below.trans qbh (hb2.mono (by first | omega | (simp; done) | (simp; omega)))
  have HO2 := Lib.hid ((HO.out.alloc _).below hb2)
  clear hb2
  rw [HF.out]
  go_wp2_with fail
  refine (stock_find ⟨T, U, ⟨A, c, L.l⟩⟩ p _ ((HO2.out.rd Loan.k).mono (fun b hb => hb.2)) HRT.out).mono ?_
  rintro e w4 ⟨rfl, hb4⟩
  clear a0 a1 a2 af b0 b1 b2 bf o0 o1 o2 of
  have K_a : Blk _ (w.heap.size) 66 #[.int .i64 T, .int .i64 U, .slice L.A L.l.length L.c] := qkc B_a hb4
  obtain ⟨a0, a1, a2, af, az⟩ := Blk.b3 K_a
  have B_a := Lib.hid K_a
  clear K_a
  have K_b : Blk _ (w.heap.size + 1) 66 #[.int .i64 0, .int .i64 0, .slice none 0 0] := qkc B_b hb4
  obtain ⟨b0, b1, b2, bf, bz⟩ := Blk.b3 K_b
  have B_b := Lib.hid K_b
  clear K_b
  have K_o : Blk _ (w1.heap.size) 66 #[.int .i64 T, .int .i64 U, .slice A L.l.length c] := qkc B_o hb4
  obtain ⟨o0, o1, o2, of, oz⟩ := Blk.b3 K_o
  have B_o := Lib.hid K_o
  clear K_o
  have hB4 : Below w.heap.size w w4 := Below.trans qbh (hb4.mono (by first | omega | (simp; done) | (simp; omega)))
  have HO4 := Lib.hid (HO2.out.below hb4)
  clear hb4
  simp only
  rw [HH.out]
  rw [HI.out]
  try simp only at hi
  obtain ⟨bb, oo, hA, hF, hcl⟩ := (HO4.out.rd Loan.k).2.2.2 i x HX.out
  obtain ⟨g, hg⟩ : ∃ g, A = some ⟨g, 0, none⟩ := by
    rcases HO4.out.form with ⟨h0, _⟩ | ⟨g, h0, _⟩
    · simp only at h0 hA; rw [h0] at hA; cases hA
    · exact ⟨g, h0⟩
  subst hg
  simp only at hA
  injection hA with hA
  injection hA with hA1 hA2
  subst hA1; subst hA2
  obtain ⟨g0, g1, g2⟩ := Cells.c3 hcl
  have gf := fun j => HO4.out.frozen (g := g) rfl j
  have gl := HA.out g rfl
  have gl2 : w.heap.size + 2 ≤ g := by
    rcases HO4.out.form with ⟨h0, _⟩ | ⟨g', h0, h1, _⟩
    · cases h0
    · injection h0 with h0; injection h0 with h0; omega
  simp only [Nat.zero_add] at g0 g1 g2
  clear hcl hF
  go_wp2_with fail
  go_quiet (fail)
  go_wp2_with fail
  have HS := fun k => Lib.hid ((HO4.out.drewN k).set Loan.k rfl HX.out (j := 2) (y := { x with s := x.s + n }) (u := .int .i64 (x.s + n)) (by omega) rfl)
  try simp only [Exit.inBlock, Exit.then]
  refine bodyPost_ret (v := .tuple #[.agg #[.int .i64 T, .int .i64 U, .slice (some ⟨g, 0, none⟩) L.l.length c], .int .i64 0]) ?_ rfl ⟨_, c, rfl, Own.mono (base := w.heap.size + 2) (by repeat (first | (with_reducible exact (HS _).out) | ((with_reducible refine Own.farr ?_ ?_); focus (first | (simp; done) | (simp; omega) | omega)) | (with_reducible refine Own.alloc ?_ _) | (with_reducible refine Own.drew ?_) | (with_reducible refine Own.drewN ?_ _))) (by omega), qbh⟩
  simp [results, Try.results70, go_sem, a0, a1, a2, af, b0, b1, b2, bf, o0, o1, o2, of, g0, g1, g2, gf]
theorem stock_use (s : Stock) (p n : Int) (w : World) (hr : Rd (· < w.heap.size) 3 Loan.enc w s.L) (hb : s.L.l.length * 24 ≤ 140737488355328) :
    Calls Try.prog 70 #[s.v, .int .i64 p, .int .i64 n] w fun e w' => ∃ A c, e = .returned (.tuple #[.agg #[.int .i64 s.T, .int .i64 s.U, .slice A s.L.l.length c], .int .i64 (s.d.use p n).2]) ∧ Own w.heap.size 136 3 Loan.enc w' ⟨A, c, (s.d.use p n).1.L⟩ ∧ Below w.heap.size w w' := by
  rcases hF : s.d.fits p n
  · simp only [StockD.use, hF]; exact stock_use_no s p n w hr hb hF
  · rcases hh : has s.d.L p
    · have e : s.d.use p n = (s.d, 4) := by unfold StockD.use; rw [if_pos hF]; split <;> simp [hh]
      rw [e]; exact stock_use_none s p n w hr hb hF hh
    · obtain ⟨x, hx, _⟩ := idx_at (StockD.sorted (StockD.fits_iff hF).1) hh
      simp only [StockD.use, hF, hh, hx, if_true]
      rcases Int.lt_or_le (x.u - x.s) n with h | h
      · rw [if_pos h]; exact stock_use_few s p n _ x w hr hb hF hh (Lib.hid rfl) hx h
      · rw [if_neg (Int.not_lt.2 h)]; exact stock_use_ok s p n _ x w hr hb hF hh (Lib.hid rfl) hx h
set_option maxHeartbeats 1000000 in
theorem stock_give_no (s : Stock) (p : Int) (w : World) (hr : Rd (· < w.heap.size) 3 Loan.enc w s.L) (hb : s.L.l.length * 24 ≤ 140737488355328) (HF : Hid (s.d.fits p 1 = false)) :
    Calls Try.prog 71 #[s.v, .int .i64 p] w fun e w' => ∃ A c, e = .returned (.tuple #[.agg #[.int .i64 s.T, .int .i64 s.U, .slice A s.L.l.length c], .int .i64 1]) ∧ Own w.heap.size 136 3 Loan.enc w' ⟨A, c, s.L.l⟩ ∧ Below w.heap.size w w' := by
  obtain ⟨T, U, L⟩ := s
  have HR := Lib.hid hr
  clear hr
  simp only [Stock.v]
  simp only at hb
  go_enter Try.func71, Try.ntmps71
  go_wp2_with fail
  refine (stock_copied ⟨T, U, L⟩ _ ((HR.out.lt_alloc _).lt_alloc _) hb).mono ?_
  rintro e w1 ⟨A, c, rfl, hown, hb1⟩
  have K_a : Blk _ (w.heap.size) 66 #[.int .i64 T, .int .i64 U, .slice L.A L.l.length L.c] := qkb hb1
  obtain ⟨a0, a1, a2, af, az⟩ := Blk.b3 K_a
  have B_a := Lib.hid K_a
  clear K_a
  have K_b : Blk _ (w.heap.size + 1) 66 #[.int .i64 0, .int .i64 0, .slice none 0 0] := qkb hb1
  obtain ⟨b0, b1, b2, bf, bz⟩ := Blk.b3 K_b
  have B_b := Lib.hid K_b
  clear K_b
  have hB : Below w.heap.size w w1 := Below.trans qbl (hb1.mono (by simp; omega))
  have HO := Lib.hid (hown.mono (base' := w.heap.size + 2) (by simp))
  have HA := Lib.hid hown.bound
  clear hown hb1
  go_wp2_with fail
  refine (stock_fits ⟨T, U, L⟩ p 1 _ ((HR.out.below' hB (Nat.le_refl _)).lt_alloc _)).mono ?_
  rintro e w2 ⟨rfl, hb2⟩
  clear a0 a1 a2 af b0 b1 b2 bf
  have K_a : Blk _ (w.heap.size) 66 #[.int .i64 T, .int .i64 U, .slice L.A L.l.length L.c] := qkc B_a hb2
  obtain ⟨a0, a1, a2, af, az⟩ := Blk.b3 K_a
  have B_a := Lib.hid K_a
  clear K_a
  have K_b : Blk _ (w.heap.size + 1) 66 #[.int .i64 0, .int .i64 0, .slice none 0 0] := qkc B_b hb2
  obtain ⟨b0, b1, b2, bf, bz⟩ := Blk.b3 K_b
  have B_b := Lib.hid K_b
  clear K_b
  have K_o : Blk _ (w1.heap.size) 66 #[.int .i64 T, .int .i64 U, .slice A L.l.length c] := qkb hb2
  obtain ⟨o0, o1, o2, of, oz⟩ := Blk.b3 K_o
  have B_o := Lib.hid K_o
  clear K_o
  have hB2 : Below w.heap.size w w2 := Below.trans qbh (hb2.mono (by first | omega | (simp; done) | (simp; omega)))
  have HO2 := Lib.hid ((HO.out.alloc _).below hb2)
  clear hb2
  rw [HF.out]
  go_wp2_with fail
  try simp only [Exit.inBlock, Exit.then]
  refine bodyPost_ret (v := .tuple #[.agg #[.int .i64 T, .int .i64 U, .slice A L.l.length c], .int .i64 1]) ?_ rfl ⟨A, c, rfl, Own.mono (base := w.heap.size + 2) (by repeat (first | (with_reducible exact HO2.out) | ((with_reducible refine Own.farr ?_ ?_); focus (first | (simp; done) | (simp; omega) | omega)) | (with_reducible refine Own.alloc ?_ _) | (with_reducible refine Own.drew ?_) | (with_reducible refine Own.drewN ?_ _))) (by omega), qbh⟩
  simp [results, Try.results71, go_sem, a0, a1, a2, af, b0, b1, b2, bf, o0, o1, o2, of]
set_option maxHeartbeats 1000000 in
theorem stock_give_none (s : Stock) (p : Int) (w : World) (hr : Rd (· < w.heap.size) 3 Loan.enc w s.L) (hb : s.L.l.length * 24 ≤ 140737488355328) (HF : Hid (s.d.fits p 1 = true)) (HH : Hid (has s.L.l p = false)) :
    Calls Try.prog 71 #[s.v, .int .i64 p] w fun e w' => ∃ A c, e = .returned (.tuple #[.agg #[.int .i64 s.T, .int .i64 s.U, .slice A s.L.l.length c], .int .i64 4]) ∧ Own w.heap.size 136 3 Loan.enc w' ⟨A, c, s.L.l⟩ ∧ Below w.heap.size w w' := by
  have HRT := Lib.hid (StockD.fits_iff HF.out).1
  obtain ⟨T, U, L⟩ := s
  have HR := Lib.hid hr
  clear hr
  simp only [Stock.v]
  simp only at hb
  go_enter Try.func71, Try.ntmps71
  go_wp2_with fail
  refine (stock_copied ⟨T, U, L⟩ _ ((HR.out.lt_alloc _).lt_alloc _) hb).mono ?_
  rintro e w1 ⟨A, c, rfl, hown, hb1⟩
  have K_a : Blk _ (w.heap.size) 66 #[.int .i64 T, .int .i64 U, .slice L.A L.l.length L.c] := qkb hb1
  obtain ⟨a0, a1, a2, af, az⟩ := Blk.b3 K_a
  have B_a := Lib.hid K_a
  clear K_a
  have K_b : Blk _ (w.heap.size + 1) 66 #[.int .i64 0, .int .i64 0, .slice none 0 0] := qkb hb1
  obtain ⟨b0, b1, b2, bf, bz⟩ := Blk.b3 K_b
  have B_b := Lib.hid K_b
  clear K_b
  have hB : Below w.heap.size w w1 := Below.trans qbl (hb1.mono (by simp; omega))
  have HO := Lib.hid (hown.mono (base' := w.heap.size + 2) (by simp))
  have HA := Lib.hid hown.bound
  clear hown hb1
  go_wp2_with fail
  refine (stock_fits ⟨T, U, L⟩ p 1 _ ((HR.out.below' hB (Nat.le_refl _)).lt_alloc _)).mono ?_
  rintro e w2 ⟨rfl, hb2⟩
  clear a0 a1 a2 af b0 b1 b2 bf
  have K_a : Blk _ (w.heap.size) 66 #[.int .i64 T, .int .i64 U, .slice L.A L.l.length L.c] := qkc B_a hb2
  obtain ⟨a0, a1, a2, af, az⟩ := Blk.b3 K_a
  have B_a := Lib.hid K_a
  clear K_a
  have K_b : Blk _ (w.heap.size + 1) 66 #[.int .i64 0, .int .i64 0, .slice none 0 0] := qkc B_b hb2
  obtain ⟨b0, b1, b2, bf, bz⟩ := Blk.b3 K_b
  have B_b := Lib.hid K_b
  clear K_b
  have K_o : Blk _ (w1.heap.size) 66 #[.int .i64 T, .int .i64 U, .slice A L.l.length c] := qkb hb2
  obtain ⟨o0, o1, o2, of, oz⟩ := Blk.b3 K_o
  have B_o := Lib.hid K_o
  clear K_o
  have hB2 : Below w.heap.size w w2 := Below.trans qbh (hb2.mono (by first | omega | (simp; done) | (simp; omega)))
  have HO2 := Lib.hid ((HO.out.alloc _).below hb2)
  clear hb2
  rw [HF.out]
  go_wp2_with fail
  refine (stock_find ⟨T, U, ⟨A, c, L.l⟩⟩ p _ ((HO2.out.rd Loan.k).mono (fun b hb => hb.2)) HRT.out).mono ?_
  rintro e w4 ⟨rfl, hb4⟩
  clear a0 a1 a2 af b0 b1 b2 bf o0 o1 o2 of
  have K_a : Blk _ (w.heap.size) 66 #[.int .i64 T, .int .i64 U, .slice L.A L.l.length L.c] := qkc B_a hb4
  obtain ⟨a0, a1, a2, af, az⟩ := Blk.b3 K_a
  have B_a := Lib.hid K_a
  clear K_a
  have K_b : Blk _ (w.heap.size + 1) 66 #[.int .i64 0, .int .i64 0, .slice none 0 0] := qkc B_b hb4
  obtain ⟨b0, b1, b2, bf, bz⟩ := Blk.b3 K_b
  have B_b := Lib.hid K_b
  clear K_b
  have K_o : Blk _ (w1.heap.size) 66 #[.int .i64 T, .int .i64 U, .slice A L.l.length c] := qkc B_o hb4
  obtain ⟨o0, o1, o2, of, oz⟩ := Blk.b3 K_o
  have B_o := Lib.hid K_o
  clear K_o
  have hB4 : Below w.heap.size w w4 := Below.trans qbh (hb4.mono (by first | omega | (simp; done) | (simp; omega)))
  have HO4 := Lib.hid (HO2.out.below hb4)
  clear hb4
  simp only
  rw [HH.out]
  go_wp2_with fail
  try simp only [Exit.inBlock, Exit.then]
  refine bodyPost_ret (v := .tuple #[.agg #[.int .i64 T, .int .i64 U, .slice A L.l.length c], .int .i64 4]) ?_ rfl ⟨A, c, rfl, Own.mono (base := w.heap.size + 2) (by repeat (first | (with_reducible exact HO4.out) | ((with_reducible refine Own.farr ?_ ?_); focus (first | (simp; done) | (simp; omega) | omega)) | (with_reducible refine Own.alloc ?_ _) | (with_reducible refine Own.drew ?_) | (with_reducible refine Own.drewN ?_ _))) (by omega), qbh⟩
  simp [results, Try.results71, go_sem, a0, a1, a2, af, b0, b1, b2, bf, o0, o1, o2, of]
set_option maxHeartbeats 1000000 in
theorem stock_give_ok (s : Stock) (p : Int) (i : Nat) (x : Loan) (w : World) (hr : Rd (· < w.heap.size) 3 Loan.enc w s.L) (hb : s.L.l.length * 24 ≤ 140737488355328) (HF : Hid (s.d.fits p 1 = true)) (HH : Hid (has s.L.l p = true))
    (HI : Hid (idx s.L.l p = i)) (HX : Hid (s.L.l[i]? = some x)) :
    Calls Try.prog 71 #[s.v, .int .i64 p] w fun e w' => ∃ A c, e = .returned (.tuple #[.agg #[.int .i64 s.T, .int .i64 (s.U + x.s), .slice A (s.L.l.length - 1) c], .int .i64 0]) ∧ Own w.heap.size 136 3 Loan.enc w' ⟨A, c, s.L.l.take i ++ s.L.l.drop (i + 1)⟩ ∧ Below w.heap.size w w' := by
  have h1 := StockD.fits_iff HF.out
  have HRT := Lib.hid h1.1
  have hm := rightGo_mem _ _ _ (StockD.right_iff h1.1).2 x (List.mem_of_getElem? HX.out)
  have hx1 : 1 ≤ x.u := hm.1
  have hx2 : x.u ≤ 1000000000000000 := by have := hm.2.1; have := (StockD.right_iff h1.1).1; simp only [StockD.ok0] at this; omega
  have hx3 : 0 ≤ x.s := hm.2.2.1
  have hx4 : x.s ≤ x.u := hm.2.2.2.1
  have hu1 : 0 ≤ s.U := (StockD.right_iff h1.1).1.2.2.1
  have hu2 : s.U ≤ 1000000000000000 := by have := (StockD.right_iff h1.1).1; simp only [StockD.ok0, Stock.d] at this; omega
  have hi : i < s.L.l.length := (List.getElem?_eq_some_iff.1 HX.out).1
  clear hm
  obtain ⟨T, U, L⟩ := s
  have HR := Lib.hid hr
  clear hr
  simp only [Stock.v]
  simp only at hb
  go_enter Try.func71, Try.ntmps71
  go_wp2_with fail
  refine (stock_copied ⟨T, U, L⟩ _ ((HR.out.lt_alloc _).lt_alloc _) hb).mono ?_
  rintro e w1 ⟨A, c, rfl, hown, hb1⟩
  have K_a : Blk _ (w.heap.size) 66 #[.int .i64 T, .int .i64 U, .slice L.A L.l.length L.c] := qkb hb1
  obtain ⟨a0, a1, a2, af, az⟩ := Blk.b3 K_a
  have B_a := Lib.hid K_a
  clear K_a
  have K_b : Blk _ (w.heap.size + 1) 66 #[.int .i64 0, .int .i64 0, .slice none 0 0] := qkb hb1
  obtain ⟨b0, b1, b2, bf, bz⟩ := Blk.b3 K_b
  have B_b := Lib.hid K_b
  clear K_b
  have hB : Below w.heap.size w w1 := Below.trans qbl (hb1.mono (by simp; omega))
  have HO := Lib.hid (hown.mono (base' := w.heap.size + 2) (by simp))
  have HA := Lib.hid hown.bound
  clear hown hb1
  go_wp2_with fail
  refine (stock_fits ⟨T, U, L⟩ p 1 _ ((HR.out.below' hB (Nat.le_refl _)).lt_alloc _)).mono ?_
  rintro e w2 ⟨rfl, hb2⟩
  clear a0 a1 a2 af b0 b1 b2 bf
  have K_a : Blk _ (w.heap.size) 66 #[.int .i64 T, .int .i64 U, .slice L.A L.l.length L.c] := qkc B_a hb2
  obtain ⟨a0, a1, a2, af, az⟩ := Blk.b3 K_a
  have B_a := Lib.hid K_a
  clear K_a
  have K_b : Blk _ (w.heap.size + 1) 66 #[.int .i64 0, .int .i64 0, .slice none 0 0] := qkc B_b hb2
  obtain ⟨b0, b1, b2, bf, bz⟩ := Blk.b3 K_b
  have B_b := Lib.hid K_b
  clear K_b
  have K_o : Blk _ (w1.heap.size) 66 #[.int .i64 T, .int .i64 U, .slice A L.l.length c] := qkb hb2
  obtain ⟨o0, o1, o2, of, oz⟩ := Blk.b3 K_o
  have B_o := Lib.hid K_o
  clear K_o
  have hB2 : Below w.heap.size w w2 := Below.trans qbh (hb2.mono (by first | omega | (simp; done) | (simp; omega)))
  have HO2 := Lib.hid ((HO.out.alloc _).below hb2)
  clear hb2
  rw [HF.out]
  go_wp2_with fail
  refine (stock_find ⟨T, U, ⟨A, c, L.l⟩⟩ p _ ((HO2.out.rd Loan.k).mono (fun b hb => hb.2)) HRT.out).mono ?_
  rintro e w4 ⟨rfl, hb4⟩
  clear a0 a1 a2 af b0 b1 b2 bf o0 o1 o2 of
  have K_a : Blk _ (w.heap.size) 66 #[.int .i64 T, .int .i64 U, .slice L.A L.l.length L.c] := qkc B_a hb4
  obtain ⟨a0, a1, a2, af, az⟩ := Blk.b3 K_a
  have B_a := Lib.hid K_a
  clear K_a
  have K_b : Blk _ (w.heap.size + 1) 66 #[.int .i64 0, .int .i64 0, .slice none 0 0] := qkc B_b hb4
  obtain ⟨b0, b1, b2, bf, bz⟩ := Blk.b3 K_b
  have B_b := Lib.hid K_b
  clear K_b
  have K_o : Blk _ (w1.heap.size) 66 #[.int .i64 T, .int .i64 U, .slice A L.l.length c] := qkc B_o hb4
  obtain ⟨o0, o1, o2, of, oz⟩ := Blk.b3 K_o
  have B_o := Lib.hid K_o
  clear K_o
  have hB4 : Below w.heap.size w w4 := Below.trans qbh (hb4.mono (by first | omega | (simp; done) | (simp; omega)))
  have HO4 := Lib.hid (HO2.out.below hb4)
  clear hb4
  simp only
  rw [HH.out]
  rw [HI.out]
  try simp only at hi
  obtain ⟨bb, oo, hA, hF, hcl⟩ := (HO4.out.rd Loan.k).2.2.2 i x HX.out
  obtain ⟨g, hg⟩ : ∃ g, A = some ⟨g, 0, none⟩ := by
    rcases HO4.out.form with ⟨h0, _⟩ | ⟨g, h0, _⟩
    · simp only at h0 hA; rw [h0] at hA; cases hA
    · exact ⟨g, h0⟩
  subst hg
  simp only at hA
  injection hA with hA
  injection hA with hA1 hA2
  subst hA1; subst hA2
  obtain ⟨g0, g1, g2⟩ := Cells.c3 hcl
  have gf := fun j => HO4.out.frozen (g := g) rfl j
  have gl := HA.out g rfl
  have gl2 : w.heap.size + 2 ≤ g := by
    rcases HO4.out.form with ⟨h0, _⟩ | ⟨g', h0, h1, _⟩
    · cases h0
    · injection h0 with h0; injection h0 with h0; omega
  simp only [Nat.zero_add] at g0 g1 g2
  clear hcl hF
  go_wp2_with fail
  go_region
  go_wp2_with fail
  refine (delete_loan (w.heap.size + 2) ⟨some ⟨g, 0, none⟩, c, L.l⟩ i _ (by repeat (first | (with_reducible exact HO4.out) | ((with_reducible refine Own.farr ?_ ?_); focus (first | (simp; done) | (simp; omega) | omega)) | ((with_reducible refine Own.otherr HA.out ?_ ?_); focus (first | (simp; done) | (simp; omega) | omega)) | (with_reducible refine Own.alloc ?_ _) | (with_reducible refine Own.drew ?_) | (with_reducible refine Own.drewN ?_ _))) hi hb).mono ?_
  rintro e w5 ⟨rfl, hown5, hg5⟩
  simp only at hown5 hg5 ⊢
  have ne1 : w.heap.size ≠ w1.heap.size := by omega
  have ne2 : w.heap.size + 1 ≠ w1.heap.size := by omega
  clear a0 a1 a2 af b0 b1 b2 bf o0 o1 o2 of
  have K_a : Blk _ (w.heap.size) 66 #[.int .i64 T, .int .i64 U, .slice L.A L.l.length L.c] := blk_grown hg5 (by simp [hp_past, hp_at, hp_other, hp_same, hp_drew, hp_drewN, B_a.out.eq, B_a.out.lt, hp_same B_a.out.eq, ne1]) (own_ne2 (by omega))
  obtain ⟨a0, a1, a2, af, az⟩ := Blk.b3 K_a
  have B_a := Lib.hid K_a
  clear K_a
  have K_b : Blk _ (w.heap.size + 1) 66 #[.int .i64 0, .int .i64 0, .slice none 0 0] := blk_grown hg5 (by simp [hp_past, hp_at, hp_other, hp_same, hp_drew, hp_drewN, B_b.out.eq, B_b.out.lt, hp_same B_b.out.eq, ne2]) (own_ne2 (by omega))
  obtain ⟨b0, b1, b2, bf, bz⟩ := Blk.b3 K_b
  have B_b := Lib.hid K_b
  clear K_b
  have K_o : Blk _ (w1.heap.size) 66 #[.int .i64 T, .int .i64 (U + x.s), .slice (some ⟨g, 0, none⟩) L.l.length c] := blk_grown hg5 (by simp [hp_past, hp_at, hp_other, hp_same, hp_drew, hp_drewN, B_o.out.eq, B_o.out.lt, hp_same B_o.out.eq]) (own_ne2 (by omega))
  obtain ⟨o0, o1, o2, of, oz⟩ := Blk.b3 K_o
  have B_o := Lib.hid K_o
  clear K_o
  have hB5 : Below w.heap.size w w5 := Below.grown qbh hg5 (by simp; omega) (fun j hj => by simp [Value.ownBlock] at hj; omega)
  have HO5 := Lib.hid hown5
  have hl5 : (L.l.take i ++ L.l.drop (i + 1)).length = L.l.length - 1 := by simp; omega
  have HL5 := Lib.hid hl5
  clear hown5 hg5 hl5
  go_wp2_with fail
  try simp only [Exit.inBlock, Exit.then]
  refine bodyPost_ret (v := .tuple #[.agg #[.int .i64 T, .int .i64 (U + x.s), .slice (some ⟨g, 0, none⟩) (L.l.length - 1) c], .int .i64 0]) ?_ rfl ⟨_, c, rfl, Own.mono (base := w.heap.size + 2) (by repeat (first | (with_reducible exact HO5.out) | ((with_reducible refine Own.farr ?_ ?_); focus (first | (simp; done) | (simp; omega) | omega)) | ((with_reducible refine Own.otherr HA.out ?_ ?_); focus (first | (simp; done) | (simp; omega) | omega)) | (with_reducible refine Own.alloc ?_ _) | (with_reducible refine Own.drew ?_) | (with_reducible refine Own.drewN ?_ _))) (by omega), qbh⟩
  simp [results, Try.results71, go_sem, a0, a1, a2, af, b0, b1, b2, bf, o0, o1, o2, of]
theorem stock_give (s : Stock) (p : Int) (w : World) (hr : Rd (· < w.heap.size) 3 Loan.enc w s.L) (hb : s.L.l.length * 24 ≤ 140737488355328) :
    Calls Try.prog 71 #[s.v, .int .i64 p] w fun e w' => ∃ A c, e = .returned (.tuple #[.agg #[.int .i64 s.T, .int .i64 (s.d.give p).1.U, .slice A (s.d.give p).1.L.length c], .int .i64 (s.d.give p).2]) ∧ Own w.heap.size 136 3 Loan.enc w' ⟨A, c, (s.d.give p).1.L⟩ ∧ Below w.heap.size w w' := by
  rcases hF : s.d.fits p 1
  · have e : s.d.give p = (s.d, 1) := by unfold StockD.give; rw [if_neg (by rw [hF]; simp)]
    rw [e]; exact stock_give_no s p w hr hb hF
  · rcases hh : has s.d.L p
    · have e : s.d.give p = (s.d, 4) := by unfold StockD.give; rw [if_pos hF]; split <;> simp [hh]
      rw [e]; exact stock_give_none s p w hr hb hF hh
    · obtain ⟨x, hx, _⟩ := idx_at (StockD.sorted (StockD.fits_iff hF).1) hh
      have hi : idx s.d.L p < s.d.L.length := (List.getElem?_eq_some_iff.1 hx).1
      have e : s.d.give p = ({ s.d with U := s.d.U + x.s, L := s.d.L.take (idx s.d.L p) ++ s.d.L.drop (idx s.d.L p + 1) }, 0) := by unfold StockD.give; rw [if_pos hF, hx]; simp [hh]
      rw [e]
      have hl : (s.d.L.take (idx s.d.L p) ++ s.d.L.drop (idx s.d.L p + 1)).length = s.d.L.length - 1 := by simp; omega
      simp only [hl]
      exact stock_give_ok s p _ x w hr hb hF hh (Lib.hid rfl) hx
end Go.Proofs.Ythnblhbdfpmolaa
