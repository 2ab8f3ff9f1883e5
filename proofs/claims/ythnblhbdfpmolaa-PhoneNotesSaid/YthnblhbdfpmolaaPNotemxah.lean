/- Walks of package stock: find, Lend. -/
import Derived.Test.YthnblhbdfpmolaaPNotemxag
namespace Go.Proofs.Ythnblhbdfpmolaa
open Go.RowKit
theorem blk_grown {w w' : World} {g : Nat} {t : TypeId} {cs : Array Value} {row : Option Nat} (hb : w.grownBy w' row) (h : hp w g = some (.cells cs t (0, 0))) (hne : row ≠ some g) : Blk w' g t cs := (hb.block g (lt_of_block h) (fun e => hne e.symm)).trans h
theorem own_ne {α : Type} {base : Nat} {e : TypeId} {k : Nat} {enc : α → List Value} {w : World} {s : Sl α} {b : Nat} (h : Own base e k enc w s) (hb : b < base ∨ ∀ g, s.A = some ⟨g, 0, none⟩ → g < b) : (Value.slice s.A s.l.length s.c).ownBlock ≠ some b := by
  rcases h.form with ⟨hA, _⟩ | ⟨g, hA, hg, _⟩
  · rw [hA]; simp [Value.ownBlock]
  · rw [hA]; simp only [Value.ownBlock]; intro hc; injection hc with hc
    rcases hb with hb | hb
    · omega
    · have := hb g hA; omega
theorem rightGo_sorted : ∀ (l : List Loan) (f la : Int), rightGo f la l = true → l.Pairwise (fun a b => a.p < b.p)
  | [], _, _, _ => List.Pairwise.nil
  | y :: l, f, la, h => by
    by_cases hy : y.p ≤ la ∨ 12 ≤ y.p ∨ y.u < 1 ∨ f < y.u ∨ y.s < 0 ∨ y.u < y.s
    · rw [rightGo_no hy] at h; cases h
    · rw [rightGo_go hy] at h
      exact List.Pairwise.cons (fun x hx => (rightGo_mem l _ _ h x hx).2.2.2.2.1) (rightGo_sorted l _ _ h)
theorem rightGo_len : ∀ (l : List Loan) (f la : Int), rightGo f la l = true → la < 12 → (l.length : Int) ≤ 11 - la
  | [], _, _, _, h => by simp; omega
  | y :: l, f, la, h, hl => by
    by_cases hy : y.p ≤ la ∨ 12 ≤ y.p ∨ y.u < 1 ∨ f < y.u ∨ y.s < 0 ∨ y.u < y.s
    · rw [rightGo_no hy] at h; cases h
    · rw [rightGo_go hy] at h
      have := rightGo_len l _ _ h (by omega)
      simp; omega
theorem StockD.right_len {x : StockD} (h : x.right = true) : x.L.length ≤ 12 := by
  have := rightGo_len _ _ _ (StockD.right_iff h).2 (by omega); omega
theorem StockD.sorted {x : StockD} (h : x.right = true) : x.L.Pairwise (fun a b => a.p < b.p) := rightGo_sorted _ _ _ (StockD.right_iff h).2
def idx (l : List Loan) (p : Int) : Nat := l.countP (fun x => decide (x.p < p))
def has (l : List Loan) (p : Int) : Bool := l.any (fun x => decide (x.p = p))
theorem idx_le (l : List Loan) (p : Int) : idx l p ≤ l.length := List.countP_le_length
theorem idx_at : ∀ {l : List Loan} {p : Int}, l.Pairwise (fun a b => a.p < b.p) → has l p = true → ∃ x, l[idx l p]? = some x ∧ x.p = p
  | [], p, _, h => by simp [has] at h
  | x :: l, p, hs, h => by
    obtain ⟨h1, h2⟩ := List.pairwise_cons.1 hs
    by_cases hx : x.p < p
    · have : idx (x :: l) p = idx l p + 1 := by simp [idx, hx]
      rw [this]
      have h' : has l p = true := by
        simp [has] at h ⊢
        rcases h with h | h
        · omega
        · exact h
      simpa using idx_at h2 h'
    · have hz : idx l p = 0 := by
        simp only [idx, List.countP_eq_zero]
        intro y hy; have := h1 y hy; simp; omega
      have : idx (x :: l) p = 0 := by simp [idx, hx] at hz ⊢; exact hz
      rw [this]
      refine ⟨x, rfl, ?_⟩
      simp [has] at h
      rcases h with h | ⟨y, hy, h⟩
      · exact h
      · have := h1 y hy; omega
set_option maxHeartbeats 1000000 in
theorem stock_find (s : Stock) (p : Int) (w : World) (hr : Rd (· < w.heap.size) 3 Loan.enc w s.L) (h0 : s.d.right = true) :
    Calls Try.prog 104 #[s.v, .int .i64 p] w fun e w' => e = .returned (.tuple #[.int .i64 (idx s.L.l p : Nat), .bool (has s.L.l p)]) ∧ Below w.heap.size w w' := by
  obtain ⟨T, U, L⟩ := s
  have hlen := StockD.right_len h0
  simp only [Stock.d] at hlen
  have HS := Lib.hid (StockD.sorted h0)
  have HR := Lib.hid hr
  clear hr h0
  simp only [Stock.v]
  go_enter Try.func104, Try.ntmps104
  go_wp2_with fail
  refine (bs_loan L p _ (HR.out.lt_alloc _) (by omega) HS.out).mono ?_
  rintro e w1 ⟨rfl, hb1⟩
  have hB : Below w.heap.size w w1 := Below.trans qbl (hb1.mono (by first | omega | (simp; done) | (simp; omega)))
  clear hb1
  go_wp2_with fail
  go_ret2
  exact ⟨rfl, hB⟩
def bump (l : List Loan) (i : Nat) (n : Int) : List Loan := match l[i]? with | some x => l.set i { x with u := x.u + n } | none => l
def lendL (l : List Loan) (p n : Int) : List Loan := if has l p then bump l (idx l p) n else l.take (idx l p) ++ ⟨p, n, 0⟩ :: l.drop (idx l p)
def StockD.lend (x : StockD) (p n : Int) : StockD × Int :=
  if x.fits p n then (if x.free < n then (x, 21) else ({ x with L := lendL x.L p n }, 0)) else (x, 1)
set_option maxHeartbeats 1000000 in
theorem stock_lend_no (s : Stock) (p n : Int) (w : World) (hr : Rd (· < w.heap.size) 3 Loan.enc w s.L) (hb : s.L.l.length * 24 ≤ 140737488355328) (HF : Hid (s.d.fits p n = false)) :
    Calls Try.prog 61 #[s.v, .int .i64 p, .int .i64 n] w fun e w' => ∃ A c, e = .returned (.tuple #[.agg #[.int .i64 s.T, .int .i64 s.U, .slice A s.L.l.length c], .int .i64 1]) ∧ Own w.heap.size 136 3 Loan.enc w' ⟨A, c, s.L.l⟩ ∧ Below w.heap.size w w' := by
  obtain ⟨T, U, L⟩ := s
  have HR := Lib.hid hr
  clear hr
  simp only [Stock.v]
  simp only at hb
  go_enter Try.func61, Try.ntmps61
  go_wp2_with fail
  refine (stock_copied ⟨T, U, L⟩ _ ((HR.out.lt_alloc _).lt_alloc _) hb).mono ?_
  rintro e w1 ⟨A, c, rfl, hown, hb1⟩
  have K_a : Blk _ (w.heap.size) 66 #[.int .i64 T, .int .i64 U, .slice L.A L.l.length L.c] := qkb hb1
  obtain ⟨a0, a1, a2, af, az⟩ := Blk.b3 K_a
  have B_a := Lib.hid K_a
  clear K_a
  have K_b : Blk _ (w.heap.size + 1) 66 #[.int .i64 0, .int .i64 0, .slice none 0 0] := qkb hb1
  obtain ⟨b0, b1, b2, bf, bz⟩ := Blk.b3 K_b
  have B_b := Lib.hid K_b
  clear K_b
  have hB : Below w.heap.size w w1 := Below.trans qbl (hb1.mono (by simp; omega))
  have HO := Lib.hid (hown.mono (base' := w.heap.size + 2) (by simp))
  have HA := Lib.hid hown.bound
  clear hown hb1
  go_wp2_with fail
  refine (stock_fits ⟨T, U, L⟩ p n _ ((HR.out.below' hB (Nat.le_refl _)).lt_alloc _)).mono ?_
  rintro e w2 ⟨rfl, hb2⟩
  clear a0 a1 a2 af b0 b1 b2 bf
  have K_a : Blk _ (w.heap.size) 66 #[.int .i64 T, .int .i64 U, .slice L.A L.l.length L.c] := qkc B_a hb2
  obtain ⟨a0, a1, a2, af, az⟩ := Blk.b3 K_a
  have B_a := Lib.hid K_a
  clear K_a
  have K_b : Blk _ (w.heap.size + 1) 66 #[.int .i64 0, .int .i64 0, .slice none 0 0] := qkc B_b hb2
  obtain ⟨b0, b1, b2, bf, bz⟩ := Blk.b3 K_b
  have B_b := Lib.hid K_b
  clear K_b
  have K_o : Blk _ (w1.heap.size) 66 #[.int .i64 T, .int .i64 U, .slice A L.l.length c] := qkb hb2
  obtain ⟨o0, o1, o2, of, oz⟩ := Blk.b3 K_o
  have B_o := Lib.hid K_o
  clear K_o
  have hB2 : Below w.heap.size w w2 := Below.trans qbh (hb2.mono (by first | omega | (simp; done) | (simp; omega)))
  have HO2 := Lib.hid ((HO.out.alloc _).below hb2)
  clear hb2
  rw [HF.out]
  go_wp2_with fail
  try simp only [Exit.inBlock, Exit.then]
  refine bodyPost_ret (v := .tuple #[.agg #[.int .i64 T, .int .i64 U, .slice A L.l.length c], .int .i64 1]) ?_ rfl ⟨A, c, rfl, Own.mono (base := w.heap.size + 2) (by repeat (first | (with_reducible exact HO2.out) | ((with_reducible refine Own.farr ?_ ?_); focus (first | (simp; done) | (simp; omega) | omega)) | (with_reducible refine Own.alloc ?_ _) | (with_reducible refine Own.drew ?_) | (with_reducible refine Own.drewN ?_ _))) (by omega), qbh⟩
  simp [results, Try.results61, go_sem, a0, a1, a2, af, b0, b1, b2, bf, o0, o1, o2, of]
set_option maxHeartbeats 1000000 in
theorem stock_lend_few (s : Stock) (p n : Int) (w : World) (hr : Rd (· < w.heap.size) 3 Loan.enc w s.L) (hb : s.L.l.length * 24 ≤ 140737488355328) (HF : Hid (s.d.fits p n = true)) (hlt : s.d.free < n) :
    Calls Try.prog 61 #[s.v, .int .i64 p, .int .i64 n] w fun e w' => ∃ A c, e = .returned (.tuple #[.agg #[.int .i64 s.T, .int .i64 s.U, .slice A s.L.l.length c], .int .i64 21]) ∧ Own w.heap.size 136 3 Loan.enc w' ⟨A, c, s.L.l⟩ ∧ Below w.heap.size w w' := by
  obtain ⟨T, U, L⟩ := s
  have HR := Lib.hid hr
  clear hr
  simp only [Stock.v]
  simp only at hb
  go_enter Try.func61, Try.ntmps61
  go_wp2_with fail
  refine (stock_copied ⟨T, U, L⟩ _ ((HR.out.lt_alloc _).lt_alloc _) hb).mono ?_
  rintro e w1 ⟨A, c, rfl, hown, hb1⟩
  have K_a : Blk _ (w.heap.size) 66 #[.int .i64 T, .int .i64 U, .slice L.A L.l.length L.c] := qkb hb1
  obtain ⟨a0, a1, a2, af, az⟩ := Blk.b3 K_a
  have B_a := Lib.hid K_a
  clear K_a
  have K_b : Blk _ (w.heap.size + 1) 66 #[.int .i64 0, .int .i64 0, .slice none 0 0] := qkb hb1
  obtain ⟨b0, b1, b2, bf, bz⟩ := Blk.b3 K_b
  have B_b := Lib.hid K_b
  clear K_b
  have hB : Below w.heap.size w w1 := Below.trans qbl (hb1.mono (by simp; omega))
  have HO := Lib.hid (hown.mono (base' := w.heap.size + 2) (by simp))
  have HA := Lib.hid hown.bound
  clear hown hb1
  go_wp2_with fail
  refine (stock_fits ⟨T, U, L⟩ p n _ ((HR.out.below' hB (Nat.le_refl _)).lt_alloc _)).mono ?_
  rintro e w2 ⟨rfl, hb2⟩
  clear a0 a1 a2 af b0 b1 b2 bf
  have K_a : Blk _ (w.heap.size) 66 #[.int .i64 T, .int .i64 U, .slice L.A L.l.length L.c] := qkc B_a hb2
  obtain ⟨a0, a1, a2, af, az⟩ := Blk.b3 K_a
  have B_a := Lib.hid K_a
  clear K_a
  have K_b : Blk _ (w.heap.size + 1) 66 #[.int .i64 0, .int .i64 0, .slice none 0 0] := qkc B_b hb2
  obtain ⟨b0, b1, b2, bf, bz⟩ := Blk.b3 K_b
  have B_b := Lib.hid K_b
  clear K_b
  have K_o : Blk _ (w1.heap.size) 66 #[.int .i64 T, .int .i64 U, .slice A L.l.length c] := qkb hb2
  obtain ⟨o0, o1, o2, of, oz⟩ := Blk.b3 K_o
  have B_o := Lib.hid K_o
  clear K_o
  have hB2 : Below w.heap.size w w2 := Below.trans qbh (hb2.mono (by first | omega | (simp; done) | (simp; omega)))
  have HO2 := Lib.hid ((HO.out.alloc _).below hb2)
  clear hb2
  rw [HF.out]
  go_wp2_with fail
  refine (stock_free ⟨T, U, L⟩ _ (HR.out.below' hB2 (Nat.le_refl _))).mono ?_
  rintro e w3 ⟨rfl, hb3⟩
  clear a0 a1 a2 af b0 b1 b2 bf o0 o1 o2 of
  have K_a : Blk _ (w.heap.size) 66 #[.int .i64 T, .int .i64 U, .slice L.A L.l.length L.c] := qkc B_a hb3
  obtain ⟨a0, a1, a2, af, az⟩ := Blk.b3 K_a
  have B_a := Lib.hid K_a
  clear K_a
  have K_b : Blk _ (w.heap.size + 1) 66 #[.int .i64 0, .int .i64 0, .slice none 0 0] := qkc B_b hb3
  obtain ⟨b0, b1, b2, bf, bz⟩ := Blk.b3 K_b
  have B_b := Lib.hid K_b
  clear K_b
  have K_o : Blk _ (w1.heap.size) 66 #[.int .i64 T, .int .i64 U, .slice A L.l.length c] := qkc B_o hb3
  obtain ⟨o0, o1, o2, of, oz⟩ := Blk.b3 K_o
  have B_o := Lib.hid K_o
  clear K_o
  have hB3 : Below w.heap.size w w3 := Below.trans qbh (hb3.mono (by first | omega | (simp; done) | (simp; omega)))
  have HO3 := Lib.hid (HO2.out.below hb3)
  clear hb3
  go_wp2_with fail
  try simp only [Exit.inBlock, Exit.then]
  refine bodyPost_ret (v := .tuple #[.agg #[.int .i64 T, .int .i64 U, .slice A L.l.length c], .int .i64 21]) ?_ rfl ⟨A, c, rfl, Own.mono (base := w.heap.size + 2) (by repeat (first | (with_reducible exact HO3.out) | ((with_reducible refine Own.farr ?_ ?_); focus (first | (simp; done) | (simp; omega) | omega)) | (with_reducible refine Own.alloc ?_ _) | (with_reducible refine Own.drew ?_) | (with_reducible refine Own.drewN ?_ _))) (by omega), qbh⟩
  simp [results, Try.results61, go_sem, a0, a1, a2, af, b0, b1, b2, bf, o0, o1, o2, of]
set_option maxHeartbeats 2000000 in
theorem stock_lend_had (s : Stock) (p n : Int) (w : World) (hr : Rd (· < w.heap.size) 3 Loan.enc w s.L) (hb : s.L.l.length * 24 ≤ 140737488355328) (HF : Hid (s.d.fits p n = true)) (hlt : n ≤ s.d.free) (HH : Hid (has s.L.l p = true)) :
    Calls Try.prog 61 #[s.v, .int .i64 p, .int .i64 n] w fun e w' => ∃ A c, e = .returned (.tuple #[.agg #[.int .i64 s.T, .int .i64 s.U, .slice A s.L.l.length c], .int .i64 0]) ∧ Own w.heap.size 136 3 Loan.enc w' ⟨A, c, bump s.L.l (idx s.L.l p) n⟩ ∧ Below w.heap.size w w' := by
  have h1 := StockD.fits_iff HF.out
  have HRT := Lib.hid h1.1
  have hn1 : 1 ≤ n := by omega
  have hn2 : n ≤ 1000000000000000 := by omega
  obtain ⟨x, hx, hxp⟩ := idx_at (StockD.sorted h1.1) HH.out
  have hm := rightGo_mem _ _ _ (StockD.right_iff h1.1).2 x (List.mem_of_getElem? hx)
  have hx1 : 1 ≤ x.u := hm.1
  have hx2 : x.u ≤ 1000000000000000 := by have := hm.2.1; have := (StockD.right_iff h1.1).1; simp only [StockD.ok0] at this; omega
  have hbu : bump s.L.l (idx s.L.l p) n = s.L.l.set (idx s.L.l p) { x with u := x.u + n } := by unfold bump; rw [show s.L.l[idx s.L.l p]? = some x from hx]
  rw [hbu]
  have hi : idx s.L.l p < s.L.l.length := (List.getElem?_eq_some_iff.1 hx).1
  have HX : Hid (s.L.l[idx s.L.l p]? = some x) := Lib.hid hx
  clear h1 hx hxp hm hbu
  generalize hidx : idx s.L.l p = i at *
  have HI := Lib.hid hidx
  clear hidx
  obtain ⟨T, U, L⟩ := s
  have HR := Lib.hid hr
  clear hr
  simp only [Stock.v]
  simp only at hb
  go_enter Try.func61, Try.ntmps61
  go_wp2_with fail
  refine (stock_copied ⟨T, U, L⟩ _ ((HR.out.lt_alloc _).lt_alloc _) hb).mono ?_
  rintro e w1 ⟨A, c, rfl, hown, hb1⟩
  have K_a : Blk _ (w.heap.size) 66 #[.int .i64 T, .int .i64 U, .slice L.A L.l.length L.c] := qkb hb1
  obtain ⟨a0, a1, a2, af, az⟩ := Blk.b3 K_a
  have B_a := Lib.hid K_a
  clear K_a
  have K_b : Blk _ (w.heap.size + 1) 66 #[.int .i64 0, .int .i64 0, .slice none 0 0] := qkb hb1
  obtain ⟨b0, b1, b2, bf, bz⟩ := Blk.b3 K_b
  have B_b := Lib.hid K_b
  clear K_b
  have hB : Below w.heap.size w w1 := Below.trans qbl (hb1.mono (by simp; omega))
  have HO := Lib.hid (hown.mono (base' := w.heap.size + 2) (by simp))
  have HA := Lib.hid hown.bound
  clear hown hb1
  go_wp2_with fail
  refine (stock_fits ⟨T, U, L⟩ p n _ ((HR.out.below' hB (Nat.le_refl _)).lt_alloc _)).mono ?_
  rintro e w2 ⟨rfl, hb2⟩
  clear a0 a1 a2 af b0 b1 b2 bf
  have K_a : Blk _ (w.heap.size) 66 #[.int .i64 T, .int .i64 U, .slice L.A L.l.length L.c] := qkc B_a hb2
  obtain ⟨a0, a1, a2, af, az⟩ := Blk.b3 K_a
  have B_a := Lib.hid K_a
  clear K_a
  have K_b : Blk _ (w.heap.size + 1) 66 #[.int .i64 0, .int .i64 0, .slice none 0 0] := qkc B_b hb2
  obtain ⟨b0, b1, b2, bf, bz⟩ := Blk.b3 K_b
  have B_b := Lib.hid K_b
  clear K_b
  have K_o : Blk _ (w1.heap.size) 66 #[.int .i64 T, .int .i64 U, .slice A L.l.length c] := qkb hb2
  obtain ⟨o0, o1, o2, of, oz⟩ := Blk.b3 K_o
  have B_o := Lib.hid K_o
  clear K_o
  have hB2 : Below w.heap.size w w2 := Below.trans qbh (hb2.mono (by first | omega | (simp; done) | (simp; omega)))
  have HO2 := Lib.hid ((HO.out.alloc _).below hb2)
  clear hb2
  rw [HF.out]
  go_wp2_with fail
  refine (stock_free ⟨T, U, L⟩ _ (HR.out.below' hB2 (Nat.le_refl _))).mono ?_
  rintro e w3 ⟨rfl, hb3⟩
  clear a0 a1 a2 af b0 b1 b2 bf o0 o1 o2 of
  have K_a : Blk _ (w.heap.size) 66 #[.int .i64 T, .int .i64 U, .slice L.A L.l.length L.c] := qkc B_a hb3
  obtain ⟨a0, a1, a2, af, az⟩ := Blk.b3 K_a
  have B_a := Lib.hid K_a
  clear K_a
  have K_b : Blk _ (w.heap.size + 1) 66 #[.int .i64 0, .int .i64 0, .slice none 0 0] := qkc B_b hb3
  obtain ⟨b0, b1, b2, bf, bz⟩ := Blk.b3 K_b
  have B_b := Lib.hid K_b
  clear K_b
  have K_o : Blk _ (w1.heap.size) 66 #[.int .i64 T, .int .i64 U, .slice A L.l.length c] := qkc B_o hb3
  obtain ⟨o0, o1, o2, of, oz⟩ := Blk.b3 K_o
  have B_o := Lib.hid K_o
  clear K_o
  have hB3 : Below w.heap.size w w3 := Below.trans qbh (hb3.mono (by first | omega | (simp; done) | (simp; omega)))
  have HO3 := Lib.hid (HO2.out.below hb3)
  clear hb3
  go_wp2_with fail
  refine (stock_find ⟨T, U, ⟨A, c, L.l⟩⟩ p _ ((HO3.out.rd Loan.k).mono (fun b hb => hb.2)) HRT.out).mono ?_
  rintro e w4 ⟨rfl, hb4⟩
  clear a0 a1 a2 af b0 b1 b2 bf o0 o1 o2 of
  have K_a : Blk _ (w.heap.size) 66 #[.int .i64 T, .int .i64 U, .slice L.A L.l.length L.c] := qkc B_a hb4
  obtain ⟨a0, a1, a2, af, az⟩ := Blk.b3 K_a
  have B_a := Lib.hid K_a
  clear K_a
  have K_b : Blk _ (w.heap.size + 1) 66 #[.int .i64 0, .int .i64 0, .slice none 0 0] := qkc B_b hb4
  obtain ⟨b0, b1, b2, bf, bz⟩ := Blk.b3 K_b
  have B_b := Lib.hid K_b
  clear K_b
  have K_o : Blk _ (w1.heap.size) 66 #[.int .i64 T, .int .i64 U, .slice A L.l.length c] := qkc B_o hb4
  obtain ⟨o0, o1, o2, of, oz⟩ := Blk.b3 K_o
  have B_o := Lib.hid K_o
  clear K_o
  have hB4 : Below w.heap.size w w4 := Below.trans qbh (hb4.mono (by first | omega | (simp; done) | (simp; omega)))
  have HO4 := Lib.hid (HO3.out.below hb4)
  clear hb4
  simp only
  rw [HH.out]
  rw [HI.out]
  try simp only at hi HX
  obtain ⟨bb, oo, hA, hF, hcl⟩ := (HO4.out.rd Loan.k).2.2.2 i x HX.out
  obtain ⟨g, hg⟩ : ∃ g, A = some ⟨g, 0, none⟩ := by
    rcases HO4.out.form with ⟨h0, _⟩ | ⟨g, h0, _⟩
    · simp only at h0 hA; rw [h0] at hA; cases hA
    · exact ⟨g, h0⟩
  subst hg
  simp only at hA
  injection hA with hA
  injection hA with hA1 hA2
  subst hA1; subst hA2
  obtain ⟨g0, g1, g2⟩ := Cells.c3 hcl
  have gf := fun j => HO4.out.frozen (g := g) rfl j
  have gl := HA.out g rfl
  have gl2 : w.heap.size + 2 ≤ g := by
    rcases HO4.out.form with ⟨h0, _⟩ | ⟨g', h0, h1, _⟩
    · cases h0
    · injection h0 with h0; injection h0 with h0; omega
  simp only [Nat.zero_add] at g0 g1 g2
  clear hcl hF
  go_wp2_with fail
  have HS := Lib.hid (HO4.out.set Loan.k rfl HX.out (j := 1) (y := { x with u := x.u + n }) (u := .int .i64 (x.u + n)) (by omega) rfl)
  try simp only [Exit.inBlock, Exit.then]
  refine bodyPost_ret (v := .tuple #[.agg #[.int .i64 T, .int .i64 U, .slice (some ⟨g, 0, none⟩) L.l.length c], .int .i64 0]) ?_ rfl ⟨some ⟨g, 0, none⟩, c, rfl, Own.mono (base := w.heap.size + 2) (by repeat (first | (with_reducible exact HS.out) | ((with_reducible refine Own.farr ?_ ?_); focus (first | (simp; done) | (simp; omega) | omega)) | ((with_reducible refine Own.otherr HA.out ?_ ?_); focus (first | (simp; done) | (simp; omega) | omega)) | (with_reducible refine Own.alloc ?_ _) | (with_reducible refine Own.drew ?_) | (with_reducible refine Own.drewN ?_ _))) (by omega), qbh⟩
  simp [results, Try.results61, go_sem, a0, a1, a2, af, b0, b1, b2, bf, o0, o1, o2, of, g0, g1, g2, gf]
set_option maxHeartbeats 2000000 in
theorem stock_lend_new (s : Stock) (p n : Int) (w : World) (hr : Rd (· < w.heap.size) 3 Loan.enc w s.L) (hb : s.L.l.length * 24 ≤ 140737488355328) (HF : Hid (s.d.fits p n = true)) (hlt : n ≤ s.d.free) (HH : Hid (has s.L.l p = false)) :
    Calls Try.prog 61 #[s.v, .int .i64 p, .int .i64 n] w fun e w' => ∃ A c, e = .returned (.tuple #[.agg #[.int .i64 s.T, .int .i64 s.U, .slice A (s.L.l.length + 1) c], .int .i64 0]) ∧ Own w.heap.size 136 3 Loan.enc w' ⟨A, c, s.L.l.take (idx s.L.l p) ++ ⟨p, n, 0⟩ :: s.L.l.drop (idx s.L.l p)⟩ ∧ Below w.heap.size w w' := by
  have h1 := StockD.fits_iff HF.out
  have hlen := StockD.right_len h1.1
  simp only [Stock.d] at hlen
  have HRT := Lib.hid h1.1
  have hn1 : 1 ≤ n := by omega
  have hn2 : n ≤ 1000000000000000 := by omega
  have hi := idx_le s.L.l p
  generalize hidx : idx s.L.l p = i at *
  have HI := Lib.hid hidx
  have hbu : (s.L.l.take i ++ ⟨p, 0, 0⟩ :: s.L.l.drop i).set i ⟨p, n, 0⟩ = s.L.l.take i ++ ⟨p, n, 0⟩ :: s.L.l.drop i := by
    rw [List.set_append_right _ _ (by rw [List.length_take, Nat.min_eq_left hi]; exact Nat.le_refl _), List.length_take, Nat.min_eq_left hi, Nat.sub_self]
    rfl
  have HBU := Lib.hid hbu
  clear hidx hbu h1
  obtain ⟨T, U, L⟩ := s
  have HR := Lib.hid hr
  clear hr
  simp only [Stock.v]
  simp only at hb
  go_enter Try.func61, Try.ntmps61
  go_wp2_with fail
  refine (stock_copied ⟨T, U, L⟩ _ ((HR.out.lt_alloc _).lt_alloc _) hb).mono ?_
  rintro e w1 ⟨A, c, rfl, hown, hb1⟩
  have K_a : Blk _ (w.heap.size) 66 #[.int .i64 T, .int .i64 U, .slice L.A L.l.length L.c] := qkb hb1
  obtain ⟨a0, a1, a2, af, az⟩ := Blk.b3 K_a
  have B_a := Lib.hid K_a
  clear K_a
  have K_b : Blk _ (w.heap.size + 1) 66 #[.int .i64 0, .int .i64 0, .slice none 0 0] := qkb hb1
  obtain ⟨b0, b1, b2, bf, bz⟩ := Blk.b3 K_b
  have B_b := Lib.hid K_b
  clear K_b
  have hB : Below w.heap.size w w1 := Below.trans qbl (hb1.mono (by simp; omega))
  have HO := Lib.hid (hown.mono (base' := w.heap.size + 2) (by simp))
  have HA := Lib.hid hown.bound
  clear hown hb1
  go_wp2_with fail
  refine (stock_fits ⟨T, U, L⟩ p n _ ((HR.out.below' hB (Nat.le_refl _)).lt_alloc _)).mono ?_
  rintro e w2 ⟨rfl, hb2⟩
  clear a0 a1 a2 af b0 b1 b2 bf
  have K_a : Blk _ (w.heap.size) 66 #[.int .i64 T, .int .i64 U, .slice L.A L.l.length L.c] := qkc B_a hb2
  obtain ⟨a0, a1, a2, af, az⟩ := Blk.b3 K_a
  have B_a := Lib.hid K_a
  clear K_a
  have K_b : Blk _ (w.heap.size + 1) 66 #[.int .i64 0, .int .i64 0, .slice none 0 0] := qkc B_b hb2
  obtain ⟨b0, b1, b2, bf, bz⟩ := Blk.b3 K_b
  have B_b := Lib.hid K_b
  clear K_b
  have K_o : Blk _ (w1.heap.size) 66 #[.int .i64 T, .int .i64 U, .slice A L.l.length c] := qkb hb2
  obtain ⟨o0, o1, o2, of, oz⟩ := Blk.b3 K_o
  have B_o := Lib.hid K_o
  clear K_o
  have hB2 : Below w.heap.size w w2 := Below.trans qbh (hb2.mono (by first | omega | (simp; done) | (simp; omega)))
  have HO2 := Lib.hid ((HO.out.alloc _).below hb2)
  clear hb2
  rw [HF.out]
  go_wp2_with fail
  refine (stock_free ⟨T, U, L⟩ _ (HR.out.below' hB2 (Nat.le_refl _))).mono ?_
  rintro e w3 ⟨rfl, hb3⟩
  clear a0 a1 a2 af b0 b1 b2 bf o0 o1 o2 of
  have K_a : Blk _ (w.heap.size) 66 #[.int .i64 T, .int .i64 U, .slice L.A L.l.length L.c] := qkc B_a hb3
  obtain ⟨a0, a1, a2, af, az⟩ := Blk.b3 K_a
  have B_a := Lib.hid K_a
  clear K_a
  have K_b : Blk _ (w.heap.size + 1) 66 #[.int .i64 0, .int .i64 0, .slice none 0 0] := qkc B_b hb3
  obtain ⟨b0, b1, b2, bf, bz⟩ := Blk.b3 K_b
  have B_b := Lib.hid K_b
  clear K_b
  have K_o : Blk _ (w1.heap.size) 66 #[.int .i64 T, .int .i64 U, .slice A L.l.length c] := qkc B_o hb3
  obtain ⟨o0, o1, o2, of, oz⟩ := Blk.b3 K_o
  have B_o := Lib.hid K_o
  clear K_o
  have hB3 : Below w.heap.size w w3 := Below.trans qbh (hb3.mono (by first | omega | (simp; done) | (simp; omega)))
  have HO3 := Lib.hid (HO2.out.below hb3)
  clear hb3
  go_wp2_with fail
  refine (stock_find ⟨T, U, ⟨A, c, L.l⟩⟩ p _ ((HO3.out.rd Loan.k).mono (fun b hb => hb.2)) HRT.out).mono ?_
  rintro e w4 ⟨rfl, hb4⟩
  clear a0 a1 a2 af b0 b1 b2 bf o0 o1 o2 of
  have K_a : Blk _ (w.heap.size) 66 #[.int .i64 T, .int .i64 U, .slice L.A L.l.length L.c] := qkc B_a hb4
  obtain ⟨a0, a1, a2, af, az⟩ := Blk.b3 K_a
  have B_a := Lib.hid K_a
  clear K_a
  have K_b : Blk _ (w.heap.size + 1) 66 #[.int .i64 0, .int .i64 0, .slice none 0 0] := qkc B_b hb4
  obtain ⟨b0, b1, b2, bf, bz⟩ := Blk.b3 K_b
  have B_b := Lib.hid K_b
  clear K_b
  have K_o : Blk _ (w1.heap.size) 66 #[.int .i64 T, .int .i64 U, .slice A L.l.length c] := qkc B_o hb4
  obtain ⟨o0, o1, o2, of, oz⟩ := Blk.b3 K_o
  have B_o := Lib.hid K_o
  clear K_o
  have hB4 : Below w.heap.size w w4 := Below.trans qbh (hb4.mono (by first | omega | (simp; done) | (simp; omega)))
  have HO4 := Lib.hid (HO3.out.below hb4)
  clear hb4
  simp only
  rw [HH.out]
  rw [HI.out]
  try simp only at hi
  go_wp2_with fail
  have hbase : w.heap.size + 2 ≤ w4.heap.size := by omega
  refine (insert_loan (w.heap.size + 2) ⟨A, c, L.l⟩ i ⟨p, 0, 0⟩ w4.heap.size _ (HO4.out.alloc _) hi (Blk.new w4 _ _) (fun g hg => by have := HA.out g hg; omega) (by simp only; omega) (by simp; omega)).mono ?_
  rintro e w5 ⟨A5, c5, rfl, hown5, hg5, hA5⟩
  simp only at hown5 hA5 ⊢
  clear a0 a1 a2 af b0 b1 b2 bf o0 o1 o2 of
  have K_a : Blk _ (w.heap.size) 66 #[.int .i64 T, .int .i64 U, .slice L.A L.l.length L.c] := blk_grown hg5 (by simp [hp_past, hp_at, hp_other, hp_same, hp_drew, hp_drewN, B_a.out.eq, B_a.out.lt, hp_same B_a.out.eq]) (own_ne HO4.out (.inl (by omega)))
  obtain ⟨a0, a1, a2, af, az⟩ := Blk.b3 K_a
  have B_a := Lib.hid K_a
  clear K_a
  have K_b : Blk _ (w.heap.size + 1) 66 #[.int .i64 0, .int .i64 0, .slice none 0 0] := blk_grown hg5 (by simp [hp_past, hp_at, hp_other, hp_same, hp_drew, hp_drewN, B_b.out.eq, B_b.out.lt, hp_same B_b.out.eq]) (own_ne HO4.out (.inl (by omega)))
  obtain ⟨b0, b1, b2, bf, bz⟩ := Blk.b3 K_b
  have B_b := Lib.hid K_b
  clear K_b
  have K_o : Blk _ (w1.heap.size) 66 #[.int .i64 T, .int .i64 U, .slice A L.l.length c] := blk_grown hg5 (by simp [hp_past, hp_at, hp_other, hp_same, hp_drew, hp_drewN, B_o.out.eq, B_o.out.lt, hp_same B_o.out.eq]) (own_ne HO4.out (.inr HA.out))
  obtain ⟨o0, o1, o2, of, oz⟩ := Blk.b3 K_o
  have B_o := Lib.hid K_o
  clear K_o
  have hB5 : Below w.heap.size w w5 := Below.grown qbh hg5 (by simp; omega) (fun j hj => by
    rcases HO4.out.form with ⟨h0, _⟩ | ⟨g', h0, h1, _⟩
    · simp only at h0; rw [h0] at hj; simp [Value.ownBlock] at hj
    · simp only at h0; rw [h0] at hj; simp [Value.ownBlock] at hj; omega)
  have HO5 := Lib.hid hown5
  have hl5 : (L.l.take i ++ (⟨p, 0, 0⟩ : Loan) :: L.l.drop i).length = L.l.length + 1 := by simp; omega
  have hx5 : (L.l.take i ++ (⟨p, 0, 0⟩ : Loan) :: L.l.drop i)[i]? = some ⟨p, 0, 0⟩ := by
    rw [List.getElem?_append_right (by rw [List.length_take, Nat.min_eq_left hi]; exact Nat.le_refl _), List.length_take, Nat.min_eq_left hi, Nat.sub_self]; rfl
  have hne5 : ∀ g, A5 = some ⟨g, 0, none⟩ → g ≠ w1.heap.size := fun g hg => by
    rcases hA5 with h | h
    · have := HA.out g (h ▸ hg); omega
    · rw [hg] at h; injection h with h; injection h with h; simp at h; omega
  obtain ⟨bb, oo, hA, hF, hcl⟩ := (HO5.out.rd Loan.k).2.2.2 i _ hx5
  obtain ⟨g, hg⟩ : ∃ g, A5 = some ⟨g, 0, none⟩ := by
    rcases HO5.out.form with ⟨h0, _⟩ | ⟨g, h0, _⟩
    · simp only at h0 hA; rw [h0] at hA; cases hA
    · exact ⟨g, h0⟩
  subst hg
  simp only at hA
  injection hA with hA
  injection hA with hA1 hA2
  subst hA1; subst hA2
  obtain ⟨g0, g1, g2⟩ := Cells.c3 hcl
  have gf := fun j => HO5.out.frozen (g := g) rfl j
  have gl := hne5 g rfl
  have gl2 : w.heap.size + 2 ≤ g := by
    rcases HO5.out.form with ⟨h0, _⟩ | ⟨g', h0, h1, _⟩
    · cases h0
    · injection h0 with h0; injection h0 with h0; omega
  simp only [Nat.zero_add] at g0 g1 g2
  have H5 := Lib.hid hx5
  have HL5 := Lib.hid hl5
  clear hcl hF hown5 hg5 hA5 hne5 hx5 hl5
  go_wp2_with fail
  have HS := Lib.hid ((HO5.out.other (a := ⟨w1.heap.size, 2, none⟩) (fun g' hg' => by injection hg' with hg'; injection hg' with hg'; simp; omega) (.slice (some ⟨g, 0, none⟩) (L.l.length + 1) c5)).set Loan.k rfl H5.out (j := 1) (y := ⟨p, n, 0⟩) (u := .int .i64 n) (by omega) rfl)
  simp only [HBU.out] at HS
  try simp only [Exit.inBlock, Exit.then]
  refine bodyPost_ret (v := .tuple #[.agg #[.int .i64 T, .int .i64 U, .slice (some ⟨g, 0, none⟩) (L.l.length + 1) c5], .int .i64 0]) ?_ rfl ⟨some ⟨g, 0, none⟩, c5, rfl, Own.mono (base := w.heap.size + 2) (by repeat (first | (with_reducible exact HS.out) | ((with_reducible refine Own.farr ?_ ?_); focus (first | (simp; done) | (simp; omega) | omega)) | (with_reducible refine Own.alloc ?_ _) | (with_reducible refine Own.drew ?_) | (with_reducible refine Own.drewN ?_ _))) (by omega), qbh⟩
  simp [results, Try.results61, go_sem, a0, a1, a2, af, b0, b1, b2, bf, o0, o1, o2, of, g0, g1, g2, gf, HL5.out, (Ne.symm gl)]
theorem lendL_len (l : List Loan) (p n : Int) : (lendL l p n).length = if has l p then l.length else l.length + 1 := by
  have hb : ∀ (m : List Loan) i, (bump m i n).length = m.length := fun m i => by unfold bump; split <;> simp
  have := idx_le l p
  unfold lendL
  split
  · rw [hb]
  · simp; omega
theorem stock_lend (s : Stock) (p n : Int) (w : World) (hr : Rd (· < w.heap.size) 3 Loan.enc w s.L) (hb : s.L.l.length * 24 ≤ 140737488355328) :
    Calls Try.prog 61 #[s.v, .int .i64 p, .int .i64 n] w fun e w' => ∃ A c, e = .returned (.tuple #[.agg #[.int .i64 s.T, .int .i64 s.U, .slice A (s.d.lend p n).1.L.length c], .int .i64 (s.d.lend p n).2]) ∧ Own w.heap.size 136 3 Loan.enc w' ⟨A, c, (s.d.lend p n).1.L⟩ ∧ Below w.heap.size w w' := by
  rcases hF : s.d.fits p n
  · simp only [StockD.lend, hF]; exact stock_lend_no s p n w hr hb hF
  · rcases Int.lt_or_le s.d.free n with h | h
    · simp only [StockD.lend, hF, if_pos h]; exact stock_lend_few s p n w hr hb hF h
    · simp only [StockD.lend, hF, if_neg (Int.not_lt.2 h), if_true, lendL_len]
      rcases hh : has s.L.l p
      · simp only [Stock.d, lendL, hh]; exact stock_lend_new s p n w hr hb hF h hh
      · simp only [Stock.d, lendL, hh]; exact stock_lend_had s p n w hr hb hF h hh
theorem stock_take (s : Stock) (n : Int) (w : World) (hr : Rd (· < w.heap.size) 3 Loan.enc w s.L) (hb : s.L.l.length * 24 ≤ 140737488355328) :
    Calls Try.prog 51 #[s.v, .int .i64 n] w fun e w' => ∃ A c, e = .returned (.tuple #[.agg #[.int .i64 s.T, .int .i64 (s.d.take n).1.U, .slice A s.L.l.length c], .int .i64 (s.d.take n).2]) ∧ Own w.heap.size 136 3 Loan.enc w' ⟨A, c, s.L.l⟩ ∧ Below w.heap.size w w' := by
  rcases hF : s.d.fits 0 n
  · simp only [StockD.take, hF]; exact stock_take_no s n w hr hb hF
  · rcases Int.lt_or_le s.d.free n with h | h
    · simp only [StockD.take, hF, if_pos h]; exact stock_take_few s n w hr hb hF h
    · simp only [StockD.take, hF, if_neg (Int.not_lt.2 h), if_true]; exact stock_take_ok s n w hr hb hF h
end Go.Proofs.Ythnblhbdfpmolaa
