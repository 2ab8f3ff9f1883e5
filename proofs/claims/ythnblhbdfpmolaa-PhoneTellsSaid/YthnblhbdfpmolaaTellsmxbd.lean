/- Walks of the reference of layer 40: Use, Give. -/
import Derived.Test.YthnblhbdfpmolaaTellsmxaz
import Derived.Test.YthnblhbdfpmolaaTellsmxat
import Derived.Test.YthnblhbdfpmolaaTellsmxaq
namespace Go.Proofs.Ythnblhbdfpmolaa
open Go.RowKit
set_option maxHeartbeats 800000 in
theorem ruse_no (s : Stock) (p n : Int) (w : World) (hr : Rd (· < w.heap.size) 3 Loan.enc w s.L) (HF : Hid (s.d.fits p n = false)) :
    Calls Try.prog 72 #[s.v, .int .i64 p, .int .i64 n] w fun e w' => e = .returned (.tuple #[s.v, .int .i64 1]) ∧ Below w.heap.size w w' := by
  obtain ⟨T, U, L⟩ := s
  have HR := Lib.hid hr
  clear hr
  simp only [Stock.v]
  try simp only at hb
  try simp only at hu1 hu2
  go_enter Try.func72, Try.ntmps72
  go_wp2_with fail
  refine (rfits ⟨T, U, L⟩ p n _ ((HR.out.lt_alloc _).lt_alloc _)).mono ?_
  rintro e w1 ⟨rfl, hb1⟩
  rw [HF.out]
  have K_a : Blk _ (w.heap.size) 66 #[.int .i64 T, .int .i64 U, .slice L.A L.l.length L.c] := qkb hb1
  obtain ⟨a0, a1, a2, af, az⟩ := Blk.b3 K_a
  have B_a := Lib.hid K_a
  clear K_a
  have K_b : Blk _ (w.heap.size + 1) 66 #[.int .i64 0, .int .i64 0, .slice none 0 0] := qkb hb1
  obtain ⟨b0, b1, b2, bf, bz⟩ := Blk.b3 K_b
  have B_b := Lib.hid K_b
  clear K_b
  have hB1 : Below w.heap.size w w1 := qbv
  clear hb1
  go_wp2_with fail
  try simp only [Exit.inBlock, Exit.then]
  refine bodyPost_ret (v := .tuple #[.agg #[.int .i64 T, .int .i64 U, .slice L.A L.l.length L.c], .int .i64 1]) ?_ rfl ⟨rfl, qbv⟩
  simp [results, Try.results72, go_sem, a0, a1, a2, af, b0, b1, b2, bf, az, bz]
set_option maxHeartbeats 800000 in
theorem rgive_no (s : Stock) (p : Int) (w : World) (hr : Rd (· < w.heap.size) 3 Loan.enc w s.L) (HF : Hid (s.d.fits p 1 = false)) :
    Calls Try.prog 73 #[s.v, .int .i64 p] w fun e w' => e = .returned (.tuple #[s.v, .int .i64 1]) ∧ Below w.heap.size w w' := by
  obtain ⟨T, U, L⟩ := s
  have HR := Lib.hid hr
  clear hr
  simp only [Stock.v]
  try simp only at hb
  try simp only at hu1 hu2
  go_enter Try.func73, Try.ntmps73
  go_wp2_with fail
  refine (rfits ⟨T, U, L⟩ p 1 _ ((HR.out.lt_alloc _).lt_alloc _)).mono ?_
  rintro e w1 ⟨rfl, hb1⟩
  rw [HF.out]
  have K_a : Blk _ (w.heap.size) 66 #[.int .i64 T, .int .i64 U, .slice L.A L.l.length L.c] := qkb hb1
  obtain ⟨a0, a1, a2, af, az⟩ := Blk.b3 K_a
  have B_a := Lib.hid K_a
  clear K_a
  have K_b : Blk _ (w.heap.size + 1) 66 #[.int .i64 0, .int .i64 0, .slice none 0 0] := qkb hb1
  obtain ⟨b0, b1, b2, bf, bz⟩ := Blk.b3 K_b
  have B_b := Lib.hid K_b
  clear K_b
  have hB1 : Below w.heap.size w w1 := qbv
  clear hb1
  go_wp2_with fail
  try simp only [Exit.inBlock, Exit.then]
  refine bodyPost_ret (v := .tuple #[.agg #[.int .i64 T, .int .i64 U, .slice L.A L.l.length L.c], .int .i64 1]) ?_ rfl ⟨rfl, qbv⟩
  simp [results, Try.results73, go_sem, a0, a1, a2, af, b0, b1, b2, bf, az, bz]
set_option maxHeartbeats 1600000 in
theorem ruse_ok (s : Stock) (p n : Int) (i : Nat) (x : Loan) (w : World) (hr : Rd (· < w.heap.size) 3 Loan.enc w s.L) (hb : s.L.l.length * 24 ≤ 140737488355328) (HF : Hid (s.d.fits p n = true)) (HK : Hid (findK Loan.p p 0 s.L.l = (i : Int))) (HX : Hid (s.L.l[i]? = some x)) (hge : n ≤ x.u - x.s) :
    Calls Try.prog 72 #[s.v, .int .i64 p, .int .i64 n] w fun e w' => ∃ s' : Stock, e = .returned (.tuple #[s'.v, .int .i64 0]) ∧ s'.d = ⟨s.T, s.U, s.L.l.set i { x with s := x.s + n }⟩ ∧ Rd (fun b => w.heap.size ≤ b ∧ b < w'.heap.size) 3 Loan.enc w' s'.L ∧ Below w.heap.size w w' := by
  have h1 := StockD.fits_iff HF.out
  have hm := rightGo_mem _ _ _ (StockD.right_iff h1.1).2 x (List.mem_of_getElem? HX.out)
  have hx1 : 1 ≤ x.u := hm.1
  have hx2 : x.u ≤ 1000000000000000 := by have := hm.2.1; have := (StockD.right_iff h1.1).1; simp only [StockD.ok0] at this; omega
  have hx3 : 0 ≤ x.s := hm.2.2.1
  have hx4 : x.s ≤ x.u := hm.2.2.2.1
  have hu1 : 0 ≤ s.U := (StockD.right_iff h1.1).1.2.2.1
  have hu2 : s.U ≤ 1000000000000000 := by have := (StockD.right_iff h1.1).1; simp only [StockD.ok0, Stock.d] at this; omega
  have hi : i < s.L.l.length := (List.getElem?_eq_some_iff.1 HX.out).1
  clear hm
  obtain ⟨-, -, -, hn1, hn2⟩ := h1
  clear hu1 hu2
  obtain ⟨T, U, L⟩ := s
  have HR := Lib.hid hr
  clear hr
  simp only [Stock.v]
  try simp only at hb
  try simp only at hu1 hu2
  go_enter Try.func72, Try.ntmps72
  go_wp2_with fail
  refine (rfits ⟨T, U, L⟩ p n _ ((HR.out.lt_alloc _).lt_alloc _)).mono ?_
  rintro e w1 ⟨rfl, hb1⟩
  rw [HF.out]
  have K_a : Blk _ (w.heap.size) 66 #[.int .i64 T, .int .i64 U, .slice L.A L.l.length L.c] := qkb hb1
  obtain ⟨a0, a1, a2, af, az⟩ := Blk.b3 K_a
  have B_a := Lib.hid K_a
  clear K_a
  have K_b : Blk _ (w.heap.size + 1) 66 #[.int .i64 0, .int .i64 0, .slice none 0 0] := qkb hb1
  obtain ⟨b0, b1, b2, bf, bz⟩ := Blk.b3 K_b
  have B_b := Lib.hid K_b
  clear K_b
  have hB1 : Below w.heap.size w w1 := qbv
  clear hb1
  go_wp2_with fail
  refine (rfind ⟨T, U, L⟩ p _ (HR.out.below' hB1 (Nat.le_refl _))).mono ?_
  rintro e w2 ⟨rfl, hb2⟩
  try simp only
  rw [HK.out]
  clear a0 a1 a2 af b0 b1 b2 bf
  have K_a : Blk _ (w.heap.size) 66 #[.int .i64 T, .int .i64 U, .slice L.A L.l.length L.c] := qkc B_a hb2
  obtain ⟨a0, a1, a2, af, az⟩ := Blk.b3 K_a
  have B_a := Lib.hid K_a
  clear K_a
  have K_b : Blk _ (w.heap.size + 1) 66 #[.int .i64 0, .int .i64 0, .slice none 0 0] := qkc B_b hb2
  obtain ⟨b0, b1, b2, bf, bz⟩ := Blk.b3 K_b
  have B_b := Lib.hid K_b
  clear K_b
  have hB2 : Below w.heap.size w w2 := qbv
  clear hb2
  go_wp2_with fail
  obtain ⟨b2', o2', hA2, hF2, hcl2⟩ := HR.out.2.2.2 _ x HX.out
  try simp only at hi
  try simp only at hA2
  have hcl2 := hcl2.keep (hB2.block b2' hF2)
  obtain ⟨h0, h1', h2'⟩ := Cells.c3 hcl2
  have hii : (i : Int) < (L.l.length : Int) := by omega
  have hi0 : (0 : Int) ≤ (i : Int) := by omega
  clear hcl2
  try simp only at a2
  rw [hA2] at a2
  have HA2 := Lib.hid hA2
  clear hA2
  go_quiet (fail)
  go_wp2_with fail
  rw [← HA2.out]
  refine (rcopied40 ⟨T, U, L⟩ _ (HR.out.below' qbv (Nat.le_refl _)) hb).mono ?_
  rintro e w3 ⟨A, c, rfl, hown, hb3⟩
  clear a0 a1 a2 af b0 b1 b2 bf h0 h1' h2'
  have K_a : Blk _ (w.heap.size) 66 #[.int .i64 T, .int .i64 U, .slice L.A L.l.length L.c] := qkc B_a hb3
  obtain ⟨a0, a1, a2, af, az⟩ := Blk.b3 K_a
  have B_a := Lib.hid K_a
  clear K_a
  have K_b : Blk _ (w.heap.size + 1) 66 #[.int .i64 0, .int .i64 0, .slice none 0 0] := qkc B_b hb3
  obtain ⟨b0, b1, b2, bf, bz⟩ := Blk.b3 K_b
  have B_b := Lib.hid K_b
  clear K_b
  have hB3 : Below w.heap.size w w3 := qbv
  obtain ⟨g, hg, hgl, hgu, hcl, gf⟩ := hown.atk Loan.k (i := i) (x := x) HX.out
  simp only at hg
  subst hg
  have hgl : w2.heap.size ≤ g := hgl
  have HO : Hid (Own w2.heap.size 136 3 Loan.enc w3 ⟨some ⟨g, 0, none⟩, c, L.l⟩) := Lib.hid hown
  obtain ⟨g0, g1, g2⟩ := Cells.c3 hcl
  clear hb3 hown hcl
  simp only [Stock.v]
  go_wp2_with fail
  obtain ⟨w4, hw4⟩ : ∃ z, z = ((w3.setCell ⟨w.heap.size, 0, none⟩ (.int .i64 T)).setCell ⟨w.heap.size, 1, none⟩ (.int .i64 U)).setCell ⟨w.heap.size, 2, none⟩ (.slice (some ⟨g, 0, none⟩) L.l.length c) := ⟨_, rfl⟩
  rw [← hw4]
  have n1 : w.heap.size + 1 ≠ w.heap.size := by omega
  have n2 : g ≠ w.heap.size := by omega
  have n3 : w.heap.size ≠ g := by omega
  have n4 : w.heap.size + 1 ≠ g := by omega
  have XA : Hid (Blk w4 w.heap.size 66 #[.int .i64 T, .int .i64 U, .slice (some ⟨g, 0, none⟩) L.l.length c]) := Lib.hid (by rw [hw4]; simpa using (((B_a.out.set_ 0 (.int .i64 T)).set_ 1 (.int .i64 U)).set_ 2 (.slice (some ⟨g, 0, none⟩) L.l.length c)))
  have XB : Hid (Blk w4 (w.heap.size + 1) 66 #[.int .i64 0, .int .i64 0, .slice none 0 0]) := Lib.hid (by rw [hw4]; exact Blk.farr n1 (Blk.farr n1 (Blk.farr n1 B_b.out)))
  have XO : Hid (Own w2.heap.size 136 3 Loan.enc w4 ⟨some ⟨g, 0, none⟩, c, L.l⟩) := Lib.hid (by rw [hw4]; exact (by repeat (first | (with_reducible exact HO.out) | ((with_reducible refine Own.farr ?_ ?_); focus (first | (simp; done) | (simp; omega) | omega)) | (with_reducible refine Own.alloc ?_ _) | (with_reducible refine Own.drew ?_) | (with_reducible refine Own.drewN ?_ _))))
  have XW : Below w.heap.size w w4 := by rw [hw4]; exact qbv
  have XZ : w4.heap.size ≤ w3.heap.size := by rw [hw4]; simp
  have XZ' : w3.heap.size ≤ w4.heap.size := by rw [hw4]; simp
  clear hw4 a0 a1 a2 af b0 b1 b2 bf B_a B_b HO g0 g1 g2 gf
  obtain ⟨a0, a1, a2, af, az4⟩ := XA.out.b3
  obtain ⟨b0, b1, b2, bf, bz4⟩ := XB.out.b3
  obtain ⟨_, hg, _, _, hcl, gf⟩ := XO.out.atk Loan.k (i := i) (x := x) HX.out
  simp only [Option.some.injEq, Addr.mk.injEq, and_true] at hg
  subst hg
  obtain ⟨g0, g1, g2⟩ := Cells.c3 hcl
  clear hcl
  have hws : IntKind.i64.wrap (x.s + n) = x.s + n := by rw [IntKind.wrap_i64]; omega
  refine wp_region_T (fun w' => w'.cell? ⟨w.heap.size, 2, none⟩ = some (.slice (some ⟨g, 0, none⟩) L.l.length c) ∧ w'.cell? ⟨g, i * 3 + 2, none⟩ = some (.int .i64 x.s)) (fun i => 11 ≤ i) (by kernel_rfl) ⟨a2, g2⟩ (fun hHeld => ?_)
  refine qtq 0 ?_
  simp only [qsa, qsb, qsc]
  refine qtq 1 ?_
  simp only [qsa, qsb, qsc]
  refine qtq 2 ?_
  simp only [qsa, qsb, qsc]
  refine qtq 3 ?_
  simp only [qsa, qsb, qsc]
  refine qtq 4 ?_
  simp only [qsa, qsb, qsc]
  refine qtq 5 ?_
  simp only [qsa, qsb, qsc]
  refine qtq 6 ?_
  simp only [qsa, qsb, qsc]
  refine qtq 7 ?_
  simp only [qsa, qsb, qsc]
  refine qtq 8 ?_
  simp only [qsa, qsb, qsc]
  refine qtq 9 ?_
  simp only [qsa, qsb, qsc]
  refine qtq 10 ?_
  simp only [qsa, qsb, qsc]
  clear hHeld
  refine wpAnyT_next (i := 11) (by kernel_rfl) rfl ?_
  go_wp2_with fail
  try simp only [QT]
  try (with_reducible refine And.intro (fun h => by simp at h) ?_)
  refine wpAnyT_next (i := 12) (by kernel_rfl) rfl ?_
  go_wp2_with fail
  try simp only [QT]
  try (with_reducible refine And.intro (fun h => by simp at h) ?_)
  refine wpAnyT_next (i := 13) (by kernel_rfl) rfl ?_
  go_wp2_with fail
  try simp only [QT]
  try (with_reducible refine And.intro (fun h => by simp at h) ?_)
  refine wpAnyT_done (by kernel_rfl) ?_ _
  go_wp2_with fail
  have HS := Lib.hid (XO.out.set Loan.k rfl HX.out (j := 2) (y := { x with s := x.s + n }) (u := .int .i64 (x.s + n)) (by omega) rfl)
  try simp only [Exit.inBlock, Exit.then]
  refine bodyPost_ret (v := .tuple #[.agg #[.int .i64 T, .int .i64 U, .slice (some ⟨g, 0, none⟩) L.l.length c], .int .i64 0]) ?_ rfl ⟨⟨T, U, ⟨some ⟨g, 0, none⟩, c, L.l.set i { x with s := x.s + n }⟩⟩, by simp, rfl, ?_, qbv⟩
  simp [results, Try.results72, go_sem, a0, a1, a2, af, b0, b1, b2, bf, az4, bz4]
  exact Rd.mono (Own.rd Loan.k (base := w2.heap.size) (e := 136) (by repeat (first | (with_reducible exact HS.out) | ((with_reducible refine Own.farr ?_ ?_); focus (first | (simp; done) | (simp; omega) | omega)) | (with_reducible refine Own.alloc ?_ _) | (with_reducible refine Own.drew ?_) | (with_reducible refine Own.drewN ?_ _)))) (fun b hb => ⟨by have := hb.1; omega, hb.2⟩)
end Go.Proofs.Ythnblhbdfpmolaa
/- Walks of the reference of layer 40: Give. -/
namespace Go.Proofs.Ythnblhbdfpmolaa
open Go.RowKit
theorem Rd.take_ {α : Type} {F : Nat → Prop} {k : Nat} {enc : α → List Value} {w : World} {A : Option Addr} {c : Nat} {l : List α} (h : Rd F k enc w ⟨A, c, l⟩) (q : Nat) : Rd F k enc w ⟨A, c, l.take q⟩ := by
  refine ⟨?_, h.2.1, h.2.2.1, fun i x hx => ?_⟩
  · have h1 := h.1
    simp only at h1 ⊢
    rw [List.length_take]; omega
  · simp only at hx
    have hlt := (List.getElem?_eq_some_iff.1 hx).1
    rw [List.length_take] at hlt
    rw [List.getElem?_take_of_lt (by omega)] at hx
    exact h.2.2.2 i x hx
theorem Rd.drop_ {α : Type} {F : Nat → Prop} {k : Nat} {enc : α → List Value} {w : World} {b o c : Nat} {l : List α} (h : Rd F k enc w ⟨some ⟨b, o, none⟩, c, l⟩) {q : Nat} (hq : q ≤ l.length) {A : Option Addr} (hA : (if c = q then some (⟨b, o, none⟩ : Addr) else some ⟨b, o + q * k, none⟩) = A) : Rd F k enc w ⟨A, c - q, l.drop q⟩ := by
  have h1 := h.1
  have h2 := h.2.1
  simp only at h1 h2
  refine ⟨by simp only [List.length_drop]; omega, by simp only; omega, fun hn => ?_, fun i x hx => ?_⟩
  · simp only at hn; subst hn; split at hA <;> cases hA
  · simp only [List.getElem?_drop] at hx
    have hlt := (List.getElem?_eq_some_iff.1 hx).1
    rw [if_neg (by omega)] at hA
    obtain ⟨b', o', h3, h4, h5⟩ := h.2.2.2 (q + i) x hx
    simp only [Option.some.injEq, Addr.mk.injEq, and_true] at h3
    obtain ⟨rfl, rfl⟩ := h3
    refine ⟨b, o + q * k, hA.symm, h4, ?_⟩
    rw [Nat.add_mul, ← Nat.add_assoc] at h5
    exact h5
set_option maxHeartbeats 1600000 in
theorem rgive_ok (s : Stock) (p : Int) (i : Nat) (x : Loan) (w : World) (hr : Rd (· < w.heap.size) 3 Loan.enc w s.L) (hb : s.L.l.length * 24 ≤ 140737488355328) (HF : Hid (s.d.fits p 1 = true)) (HK : Hid (findK Loan.p p 0 s.L.l = (i : Int))) (HX : Hid (s.L.l[i]? = some x)) :
    Calls Try.prog 73 #[s.v, .int .i64 p] w fun e w' => ∃ s' : Stock, e = .returned (.tuple #[s'.v, .int .i64 0]) ∧ s'.d = ⟨s.T, s.U + x.s, s.L.l.take i ++ s.L.l.drop (i + 1)⟩ ∧ Rd (fun b => w.heap.size ≤ b ∧ b < w'.heap.size) 3 Loan.enc w' s'.L ∧ Below w.heap.size w w' := by
  have h1 := StockD.fits_iff HF.out
  have hm := rightGo_mem _ _ _ (StockD.right_iff h1.1).2 x (List.mem_of_getElem? HX.out)
  have hx1 : 1 ≤ x.u := hm.1
  have hx2 : x.u ≤ 1000000000000000 := by have := hm.2.1; have := (StockD.right_iff h1.1).1; simp only [StockD.ok0] at this; omega
  have hx3 : 0 ≤ x.s := hm.2.2.1
  have hx4 : x.s ≤ x.u := hm.2.2.2.1
  have hu1 : 0 ≤ s.U := (StockD.right_iff h1.1).1.2.2.1
  have hu2 : s.U ≤ 1000000000000000 := by have := (StockD.right_iff h1.1).1; simp only [StockD.ok0, Stock.d] at this; omega
  have hi : i < s.L.l.length := (List.getElem?_eq_some_iff.1 HX.out).1
  clear hm
  clear h1
  obtain ⟨T, U, L⟩ := s
  have HR := Lib.hid hr
  clear hr
  simp only [Stock.v]
  try simp only at hb
  try simp only at hu1 hu2
  go_enter Try.func73, Try.ntmps73
  go_wp2_with fail
  refine (rfits ⟨T, U, L⟩ p 1 _ ((HR.out.lt_alloc _).lt_alloc _)).mono ?_
  rintro e w1 ⟨rfl, hb1⟩
  rw [HF.out]
  have K_a : Blk _ (w.heap.size) 66 #[.int .i64 T, .int .i64 U, .slice L.A L.l.length L.c] := qkb hb1
  obtain ⟨a0, a1, a2, af, az⟩ := Blk.b3 K_a
  have B_a := Lib.hid K_a
  clear K_a
  have K_b : Blk _ (w.heap.size + 1) 66 #[.int .i64 0, .int .i64 0, .slice none 0 0] := qkb hb1
  obtain ⟨b0, b1, b2, bf, bz⟩ := Blk.b3 K_b
  have B_b := Lib.hid K_b
  clear K_b
  have hB1 : Below w.heap.size w w1 := qbv
  clear hb1
  go_wp2_with fail
  refine (rfind ⟨T, U, L⟩ p _ (HR.out.below' hB1 (Nat.le_refl _))).mono ?_
  rintro e w2 ⟨rfl, hb2⟩
  try simp only
  rw [HK.out]
  clear a0 a1 a2 af b0 b1 b2 bf
  have K_a : Blk _ (w.heap.size) 66 #[.int .i64 T, .int .i64 U, .slice L.A L.l.length L.c] := qkc B_a hb2
  obtain ⟨a0, a1, a2, af, az⟩ := Blk.b3 K_a
  have B_a := Lib.hid K_a
  clear K_a
  have K_b : Blk _ (w.heap.size + 1) 66 #[.int .i64 0, .int .i64 0, .slice none 0 0] := qkc B_b hb2
  obtain ⟨b0, b1, b2, bf, bz⟩ := Blk.b3 K_b
  have B_b := Lib.hid K_b
  clear K_b
  have hB2 : Below w.heap.size w w2 := qbv
  clear hb2
  go_wp2_with fail
  obtain ⟨b2', o2', hA2, hF2, hcl2⟩ := HR.out.2.2.2 _ x HX.out
  try simp only at hi
  try simp only at hA2
  have hcl2 := hcl2.keep (hB2.block b2' hF2)
  obtain ⟨h0, h1', h2'⟩ := Cells.c3 hcl2
  have hii : (i : Int) < (L.l.length : Int) := by omega
  have hi0 : (0 : Int) ≤ (i : Int) := by omega
  clear hcl2
  try simp only at a2
  rw [hA2] at a2
  have HA2 := Lib.hid hA2
  clear hA2
  have hws : IntKind.i64.wrap (U + x.s) = U + x.s := by rw [IntKind.wrap_i64]; omega
  have hwi : IntKind.i64.wrap ((i : Int) + 1) = (i : Int) + 1 := by have := HR.out.len; (try simp only at this); rw [IntKind.wrap_i64]; omega
  refine wp_region_T (fun w' => w'.cell? ⟨w.heap.size, 0, none⟩ = some (.int .i64 T) ∧ w'.cell? ⟨w.heap.size, 1, none⟩ = some (.int .i64 U) ∧ w'.cell? ⟨w.heap.size, 2, none⟩ = some (.slice (some ⟨b2', o2', none⟩) L.l.length L.c) ∧ w'.cell? ⟨b2', o2' + i * 3 + 2, none⟩ = some (.int .i64 x.s)) (fun i => 13 ≤ i) (by kernel_rfl) ⟨a0, a1, a2, h2'⟩ (fun hHeld => ?_)
  refine qtq 0 ?_
  simp only [qsa, qsb, qsc]
  refine qtq 1 ?_
  simp only [qsa, qsb, qsc]
  refine qtq 2 ?_
  simp only [qsa, qsb, qsc]
  refine qtq 3 ?_
  simp only [qsa, qsb, qsc]
  refine qtq 4 ?_
  simp only [qsa, qsb, qsc]
  refine qtq 5 ?_
  simp only [qsa, qsb, qsc]
  refine qtq 6 ?_
  simp only [qsa, qsb, qsc]
  refine qtq 7 ?_
  simp only [qsa, qsb, qsc]
  refine qtq 8 ?_
  simp only [qsa, qsb, qsc]
  refine qtq 9 ?_
  simp only [qsa, qsb, qsc]
  refine qtq 10 ?_
  simp only [qsa, qsb, qsc]
  refine qtq 11 ?_
  simp only [qsa, qsb, qsc]
  clear hHeld
  refine wpAnyT_next (i := 12) (by kernel_rfl) rfl ?_
  go_wp2_with fail
  have hHeld := fun o => And.intro (kalloc (w := w2) o a0) (And.intro (kalloc (w := w2) o a1) (And.intro (kalloc (w := w2) o a2) (kalloc (w := w2) o h2')))
  refine ⟨by first | exact hHeld _ | exact fun _ => hHeld _, ?_⟩
  clear hHeld
  refine wpAnyT_next (i := 13) (by kernel_rfl) rfl ?_
  go_wp2_with fail
  try simp only [QT]
  try (with_reducible refine And.intro (fun h => by simp at h) ?_)
  refine wpAnyT_done (by kernel_rfl) ?_ _
  go_wp2_with fail
  obtain ⟨w3, hw3⟩ : ∃ z, z = (w2.alloc (.cells #[.int .i64 T, .int .i64 (U + x.s), .slice none 0 0] 66)).drew := ⟨_, rfl⟩
  rw [← hw3]
  have XA : Hid (Blk w3 w.heap.size 66 #[.int .i64 T, .int .i64 U, .slice L.A L.l.length L.c]) := Lib.hid (by rw [hw3]; exact B_a.out.alloc _)
  have XB : Hid (Blk w3 (w.heap.size + 1) 66 #[.int .i64 0, .int .i64 0, .slice none 0 0]) := Lib.hid (by rw [hw3]; exact B_b.out.alloc _)
  have XD : Hid (Blk w3 w2.heap.size 66 #[.int .i64 T, .int .i64 (U + x.s), .slice none 0 0]) := Lib.hid (by rw [hw3]; exact Blk.new' (by simp))
  have hB3 : Below w.heap.size w w3 := by rw [hw3]; exact qbv
  have z3 : w3.heap.size ≤ w2.heap.size + 1 := by rw [hw3]; simp [World.drew]
  have z3' : w2.heap.size + 1 ≤ w3.heap.size := by rw [hw3]; simp [World.drew]
  clear hw3 a0 a1 a2 af b0 b1 b2 bf B_a B_b h0 h1' h2'
  obtain ⟨a0, a1, a2, af, az3⟩ := XA.out.b3
  obtain ⟨b0, b1, b2, bf, bz3⟩ := XB.out.b3
  obtain ⟨d0, d1, d2, df, dz3⟩ := XD.out.b3
  rw [HA2.out] at a2
  have hlc := HR.out.1
  try simp only at hlc
  have hic : i ≤ L.c := by omega
  have hq0 : (0 : Int) ≤ (i : Int) + 1 := by omega
  have hq1 : (i : Int) + 1 ≤ (L.l.length : Int) := by omega
  obtain ⟨A9, hA9⟩ : ∃ A, (if L.c = i + 1 then some (⟨b2', o2', none⟩ : Addr) else some ⟨b2', o2' + (i + 1) * 3, none⟩) = A := ⟨_, rfl⟩
  refine wp_region_T (fun w' => w'.cell? ⟨w2.heap.size, 2, none⟩ = some (.slice none 0 0) ∧ w'.cell? ⟨w.heap.size, 2, none⟩ = some (.slice (some ⟨b2', o2', none⟩) L.l.length L.c)) (fun i => 13 ≤ i) (by kernel_rfl) ⟨d2, a2⟩ (fun hHeld => ?_)
  refine qtq 0 ?_
  simp only [qsa, qsb, qsc]
  refine qtq 1 ?_
  simp only [qsa, qsb, qsc]
  refine qtq 2 ?_
  simp only [qsa, qsb, qsc]
  refine qtq 3 ?_
  simp only [qsa, qsb, qsc]
  refine qtq 4 ?_
  simp only [qsa, qsb, qsc]
  refine qtq 5 ?_
  simp only [qsa, qsb, qsc]
  refine qtq 7 ?_
  simp only [qsa, qsb, qsc]
  refine qtq 8 ?_
  simp only [qsa, qsb, qsc]
  refine qtq 9 ?_
  simp only [qsa, qsb, qsc]
  refine qtq 10 ?_
  simp only [qsa, qsb, qsc]
  refine qtq 11 ?_
  simp only [qsa, qsb, qsc]
  clear hHeld
  have HRL : Rd (· < w.heap.size) 3 Loan.enc w ⟨some ⟨b2', o2', none⟩, L.c, L.l⟩ := by have := HR.out; have e := HA2.out; obtain ⟨LA, Lc, Ll⟩ := L; simp only at e; subst e; exact this
  have hl1 : (L.l.take i).length = i := by rw [List.length_take]; omega
  have hl2 : (L.l.drop (i + 1)).length = L.l.length - (i + 1) := by rw [List.length_drop]
  have HR1 := Lib.hid (HRL.take_ i)
  have HR2 := Lib.hid (HRL.drop_ (q := i + 1) (by omega) hA9)
  have HD : Hid (L.l.take i ++ L.l.drop (i + 1) = L.l.take i ++ L.l.drop (i + 1)) := Lib.hid rfl
  obtain ⟨l1, e1⟩ : ∃ l, l = L.l.take i := ⟨_, rfl⟩
  obtain ⟨l2, e2⟩ : ∃ l, l = L.l.drop (i + 1) := ⟨_, rfl⟩
  rw [← e1] at HR1 hl1
  rw [← e2] at HR2 hl2
  have HE1 := Lib.hid e1
  have HE2 := Lib.hid e2
  have HL1 := Lib.hid hl1
  have HL2 := Lib.hid hl2
  have hm1 := HR.out.2.1
  clear e1 e2 hl1 hl2 HRL hA9 HD
  refine wpAnyT_next (i := 6) (by kernel_rfl) rfl ?_
  refine wpl_append_sl _ rfl (.tmp 32) (.tmp 36) _ rfl Try.underlying64 infoLoan (by omega) Loan.k Loan.one ⟨none, 0, []⟩ ⟨some ⟨b2', o2', none⟩, L.c, l1⟩ rfl (by show Value.slice _ i L.c = Value.slice _ l1.length L.c; rw [HL1.out]) (Own.nil w3.heap.size _ _ _ _) (HR1.out.below' qbv (Nat.le_refl _)) (by have := HL1.out; simp only [List.length_nil]; omega) (by have := HL1.out; simp only [List.length_nil]; omega) (by first | exact Nat.le_refl _ | (simp; done)) ?_
  intro A5 c5 w5 hown5 hg5 hat5
  simp only [List.nil_append] at hown5
  clear a0 a1 a2 af b0 b1 b2 bf d0 d1 d2 df
  have K_a : Blk _ (w.heap.size) 66 #[.int .i64 T, .int .i64 U, .slice L.A L.l.length L.c] := blk_grown hg5 (by simp [hp_past, hp_at, hp_other, hp_same, hp_drew, hp_drewN, XA.out.eq, XA.out.lt, hp_same XA.out.eq]) (by simp [Value.ownBlock])
  obtain ⟨a0, a1, a2, af, az⟩ := Blk.b3 K_a
  have B_a := Lib.hid K_a
  clear K_a
  have K_b : Blk _ (w.heap.size + 1) 66 #[.int .i64 0, .int .i64 0, .slice none 0 0] := blk_grown hg5 (by simp [hp_past, hp_at, hp_other, hp_same, hp_drew, hp_drewN, XB.out.eq, XB.out.lt, hp_same XB.out.eq]) (by simp [Value.ownBlock])
  obtain ⟨b0, b1, b2, bf, bz⟩ := Blk.b3 K_b
  have B_b := Lib.hid K_b
  clear K_b
  have K_d : Blk _ (w2.heap.size) 66 #[.int .i64 T, .int .i64 (U + x.s), .slice none 0 0] := blk_grown hg5 (by simp [hp_past, hp_at, hp_other, hp_same, hp_drew, hp_drewN, XD.out.eq, XD.out.lt, hp_same XD.out.eq]) (by simp [Value.ownBlock])
  obtain ⟨d0, d1, d2, df, dz⟩ := Blk.b3 K_d
  have B_d := Lib.hid K_d
  clear K_d
  have hB5 : Below w.heap.size w w5 := Below.grown qbv hg5 (by first | omega | (simp; done) | (simp; omega)) (fun j hj => by simp [Value.ownBlock] at hj)
  have hz5 : w3.heap.size ≤ w5.heap.size := hg5.size
  have HO5 := Lib.hid hown5
  clear hg5 hown5 hat5
  rw [HA2.out] at a2
  have hla : l1.length + l2.length ≤ L.l.length := by have := HL1.out; have := HL2.out; omega
  have hla2 : l1.length + l2.length ≤ maxLen := by omega
  have hla3 : (l1.length + l2.length) * 24 ≤ 140737488355328 := by omega
  go_wp2_with fail
  have hHeld := And.intro d2 a2
  refine ⟨by first | exact hHeld | exact fun _ => hHeld, ?_⟩
  clear hHeld
  refine wpAnyT_next (i := 12) (by kernel_rfl) rfl ?_
  refine wpl_append_sl _ rfl (.tmp 37) (.tmp 42) _ rfl Try.underlying64 infoLoan (by omega) Loan.k Loan.one ⟨A5, c5, l1⟩ ⟨A9, L.c - (i + 1), l2⟩ rfl (by show Value.slice _ (L.l.length - (i + 1)) _ = Value.slice _ l2.length _; rw [HL2.out]) HO5.out (HR2.out.below' qbv (Nat.le_refl _)) hla2 hla3 (by omega) ?_
  intro A6 c6 w6 hown6 hg6 hat6
  clear a0 a1 a2 af b0 b1 b2 bf d0 d1 d2 df
  have K_a : Blk _ (w.heap.size) 66 #[.int .i64 T, .int .i64 U, .slice L.A L.l.length L.c] := blk_grown hg6 (by simp [hp_past, hp_at, hp_other, hp_same, hp_drew, hp_drewN, B_a.out.eq, B_a.out.lt, hp_same B_a.out.eq]) (own_ne HO5.out (.inl (by omega)))
  obtain ⟨a0, a1, a2, af, az⟩ := Blk.b3 K_a
  have B_a := Lib.hid K_a
  clear K_a
  have K_b : Blk _ (w.heap.size + 1) 66 #[.int .i64 0, .int .i64 0, .slice none 0 0] := blk_grown hg6 (by simp [hp_past, hp_at, hp_other, hp_same, hp_drew, hp_drewN, B_b.out.eq, B_b.out.lt, hp_same B_b.out.eq]) (own_ne HO5.out (.inl (by omega)))
  obtain ⟨b0, b1, b2, bf, bz⟩ := Blk.b3 K_b
  have B_b := Lib.hid K_b
  clear K_b
  have K_d : Blk _ (w2.heap.size) 66 #[.int .i64 T, .int .i64 (U + x.s), .slice none 0 0] := blk_grown hg6 (by simp [hp_past, hp_at, hp_other, hp_same, hp_drew, hp_drewN, B_d.out.eq, B_d.out.lt, hp_same B_d.out.eq]) (own_ne HO5.out (.inl (by omega)))
  obtain ⟨d0, d1, d2, df, dz⟩ := Blk.b3 K_d
  have B_d := Lib.hid K_d
  clear K_d
  have hB6 : Below w.heap.size w w6 := Below.grown qbv hg6 (by first | omega | (simp; done) | (simp; omega)) (fun j hj => by
    rcases HO5.out.form with ⟨h0, _⟩ | ⟨g', h0, h1, _⟩
    · simp only at h0; rw [h0] at hj; simp [Value.ownBlock] at hj
    · simp only at h0; rw [h0] at hj; simp [Value.ownBlock] at hj; omega)
  have hz6 : w5.heap.size ≤ w6.heap.size := hg6.size
  have HO6 := Lib.hid hown6
  clear hg6 hown6 hat6
  go_wp2_with fail
  rw [HA2.out] at a2
  have hHeld := And.intro d2 a2
  refine ⟨by first | exact hHeld | exact fun _ => hHeld, ?_⟩
  clear hHeld
  refine wpAnyT_next (i := 13) (by kernel_rfl) rfl ?_
  go_wp2_with fail
  try simp only [QT]
  try (with_reducible refine And.intro (fun h => by simp at h) ?_)
  refine wpAnyT_next (i := 14) (by kernel_rfl) rfl ?_
  go_wp2_with fail
  try simp only [QT]
  try (with_reducible refine And.intro (fun h => by simp at h) ?_)
  refine wpAnyT_done (by kernel_rfl) ?_ _
  go_wp2_with fail
  have HSD : Hid (Stock.d ⟨T, U + x.s, ⟨A6, c6, l1 ++ l2⟩⟩ = ⟨T, U + x.s, L.l.take i ++ L.l.drop (i + 1)⟩) := Lib.hid (by simp only [Stock.d]; rw [HE1.out, HE2.out])
  try simp only [Exit.inBlock, Exit.then]
  refine bodyPost_ret (v := .tuple #[.agg #[.int .i64 T, .int .i64 (U + x.s), .slice A6 (l1 ++ l2).length c6], .int .i64 0]) ?_ rfl ⟨⟨T, U + x.s, ⟨A6, c6, l1 ++ l2⟩⟩, by simp, HSD.out, ?_, qbv⟩
  simp [results, Try.results73, go_sem, a0, a1, a2, af, b0, b1, b2, bf, d0, d1, d2, df, az, bz, dz]
  exact Rd.mono (Own.rd Loan.k (base := w3.heap.size) (e := 136) (by repeat (first | (with_reducible exact HO6.out) | ((with_reducible refine Own.farr ?_ ?_); focus (first | (simp; done) | (simp; omega) | omega)) | (with_reducible refine Own.alloc ?_ _) | (with_reducible refine Own.drew ?_) | (with_reducible refine Own.drewN ?_ _)))) (fun b hb => ⟨by have := hb.1; omega, hb.2⟩)
end Go.Proofs.Ythnblhbdfpmolaa
