/- The walk of PhoneTells. -/
import Derived.Test.YthnblhbdfpmolaaTellsmxbs
import Derived.Test.YthnblhbdfpmolaaTellsmxbt
import Derived.Test.YthnblhbdfpmolaaTellsmxbu
import Derived.Test.YthnblhbdfpmolaaTellsmxbe
namespace Go.Proofs.Ythnblhbdfpmolaa
open Go.RowKit
def store5 (w : World) (g : Nat) (p : Phone) : World := (((((w.setCell ⟨g, 0, none⟩ (.int .i64 p.id)).setCell ⟨g, 1, none⟩ (.bool p.cut)).setCell ⟨g, 2, none⟩ (.slice p.H.A p.H.l.length p.H.c)).setCell ⟨g, 3, none⟩ (.slice p.N.A p.N.l.length p.N.c)).setCell ⟨g, 4, none⟩ (.slice p.S.A p.S.l.length p.S.c))
section
variable {w : World} {g g' : Nat} {t : TypeId} {p : Phone} {x0 x1 x2 x3 x4 : Value} {cs : Array Value}
theorem Blk.st5 (h : Blk w g t #[x0, x1, x2, x3, x4]) : Blk (store5 w g p) g t #[.int .i64 p.id, .bool p.cut, .slice p.H.A p.H.l.length p.H.c, .slice p.N.A p.N.l.length p.N.c, .slice p.S.A p.S.l.length p.S.c] := by
  have := ((((h.set_ 0 (.int .i64 p.id)).set_ 1 (.bool p.cut)).set_ 2 (.slice p.H.A p.H.l.length p.H.c)).set_ 3 (.slice p.N.A p.N.l.length p.N.c)).set_ 4 (.slice p.S.A p.S.l.length p.S.c)
  simpa [store5] using this
theorem Blk.st5f (h : Blk w g t cs) (hne : g ≠ g') : Blk (store5 w g' p) g t cs := by
  unfold store5
  exact Blk.farr hne (Blk.farr hne (Blk.farr hne (Blk.farr hne (Blk.farr hne h))))
theorem st5_size : (store5 w g p).heap.size = w.heap.size := by simp [store5]
theorem st5_block {b : Nat} (hne : b ≠ g) : (store5 w g p).heap[b]? = w.heap[b]? := by
  unfold store5
  rw [Below.heap_setCell _ _ _ b hne, Below.heap_setCell _ _ _ b hne, Below.heap_setCell _ _ _ b hne, Below.heap_setCell _ _ _ b hne, Below.heap_setCell _ _ _ b hne]
theorem Below.st5 {B : Nat} {a : World} (hg : B ≤ g) (h : Below B a w) : Below B a (store5 w g p) := by
  unfold store5
  exact below_setr hg (below_setr hg (below_setr hg (below_setr hg (below_setr hg h))))
end
theorem pt_head {b : Bool} : Ending.returned (.bool true) = Ending.returned (.bool true) := rfl
set_option maxRecDepth 20000 in
set_option maxHeartbeats 4000000 in
theorem phonetells (q : Phone) (ss : Sl Stock) (k n t : Int) (tx : ByteArray) (sn : Sl Int) (w : World) (hq : RdPhone (· < w.heap.size) w q) (hs : RdStocks (· < w.heap.size) w ss) (hw : Rd (· < w.heap.size) 1 ienc w sn) :
    Calls Try.prog 3 #[q.v, .slice ss.A ss.l.length ss.c, .int .i64 k, .int .i64 n, .int .i64 t, .string tx, .slice sn.A sn.l.length sn.c] w fun e w' => e = .returned (.bool true) ∧ Below w.heap.size w w' := by
  obtain ⟨id, cut, H, N, S⟩ := q
  have HQ := Lib.hid hq
  have HS := Lib.hid hs
  have HW := Lib.hid hw
  clear hq hs hw
  simp only [Phone.v]
  go_enter Try.func3, Try.ntmps3
  go_wp2_with fail
  refine (small43 _).mono ?_
  rintro e w1 ⟨rfl, hb1⟩
  have K_a : Blk _ (w.heap.size) 26 #[.int .i64 id, .bool cut, .slice H.A H.l.length H.c, .slice N.A N.l.length N.c, .slice S.A S.l.length S.c] := qkb hb1
  obtain ⟨a0, a1, a2, a3, a4, af, az⟩ := Blk.b5 K_a
  have B_a := Lib.hid K_a
  clear K_a
  have hB1 : Below w.heap.size w w1 := qbv
  clear hb1
  go_wp2_with fail
  refine (lfew ⟨id, cut, H, N, S⟩ _ (HQ.out.later hB1 (Nat.le_refl _))).mono ?_
  rintro e w2 ⟨⟨b, rfl, hfew⟩, hb2⟩
  clear a0 a1 a2 a3 a4 af
  have K_a : Blk _ (w.heap.size) 26 #[.int .i64 id, .bool cut, .slice H.A H.l.length H.c, .slice N.A N.l.length N.c, .slice S.A S.l.length S.c] := qkc B_a hb2
  obtain ⟨a0, a1, a2, a3, a4, af, az⟩ := Blk.b5 K_a
  have B_a := Lib.hid K_a
  clear K_a
  have hB2 : Below w.heap.size w w2 := qbv
  have HFEW := Lib.hid hfew
  clear hb2 hfew
  rcases b with _ | _
  · skip
    go_wp2_with fail
    go_ret
    exact ⟨rfl, qbv⟩
  obtain ⟨hl1, hl2, hl3⟩ := HFEW.out rfl
  simp only at hl1 hl2 hl3
  clear HFEW
  go_wp2_with fail
  refine (rfew43 none 0 0 0 ss (by omega) (by omega) _ (HS.out.later hB2 (Nat.le_refl _))).mono ?_
  rintro e w3 ⟨⟨b, rfl, hfew⟩, hb3⟩
  clear a0 a1 a2 a3 a4 af
  have K_a : Blk _ (w.heap.size) 26 #[.int .i64 id, .bool cut, .slice H.A H.l.length H.c, .slice N.A N.l.length N.c, .slice S.A S.l.length S.c] := qkc B_a hb3
  obtain ⟨a0, a1, a2, a3, a4, af, az⟩ := Blk.b5 K_a
  have B_a := Lib.hid K_a
  clear K_a
  have hB3 : Below w.heap.size w w3 := qbv
  have HFEW := Lib.hid hfew
  clear hb3 hfew
  rcases b with _ | _
  · skip
    go_wp2_with fail
    go_ret
    exact ⟨rfl, qbv⟩
  obtain ⟨hl4, _, hl5⟩ := HFEW.out rfl
  have HL5 := Lib.hid hl5
  clear HFEW hl5
  rcases Nat.lt_or_ge 100 tx.size with h6 | h6
  · have h6' : (100 : Int) < (tx.size : Int) := by omega
    go_wp2_with fail
    go_ret
    exact ⟨rfl, qbv⟩
  rcases Nat.lt_or_ge 20 sn.l.length with h7 | h7
  · have h7' : (20 : Int) < (sn.l.length : Int) := by omega
    have h6' : ¬ (100 : Int) < (tx.size : Int) := by omega
    go_wp2_with fail
    go_ret
    exact ⟨rfl, qbv⟩
  have h7' : ¬ (20 : Int) < (sn.l.length : Int) := by omega
  have h6' : ¬ (100 : Int) < (tx.size : Int) := by omega
  go_wp2_with fail
  refine (lof ⟨id, cut, H, N, S⟩ _ (HQ.out.later hB3 (Nat.le_refl _)) (by simp only; omega)).mono ?_
  rintro e w4 ⟨⟨i2, c2, H2, N2, S2⟩, rfl, hd2, hr2, hb4⟩
  clear a0 a1 a2 a3 a4 af
  have K_a : Blk _ (w.heap.size) 26 #[.int .i64 id, .bool cut, .slice H.A H.l.length H.c, .slice N.A N.l.length N.c, .slice S.A S.l.length S.c] := qkc B_a hb4
  obtain ⟨a0, a1, a2, a3, a4, af, az⟩ := Blk.b5 K_a
  have B_a := Lib.hid K_a
  clear K_a
  have hB4 : Below w.heap.size w w4 := qbv
  have hzP : w.heap.size < w4.heap.size := az
  have HD2 := Lib.hid hd2
  have HR2 := Lib.hid hr2
  clear hb4 hd2 hr2 h6' h7'
  simp only [Phone.v]
  go_wp2_with fail
  refine (phone_new k _).mono ?_
  rintro e w5 ⟨⟨i5, c5, H5, N5, S5⟩, rfl, hd5, hr5, hb5⟩
  clear a0 a1 a2 a3 a4 af
  have K_a : Blk _ (w.heap.size) 26 #[.int .i64 id, .bool cut, .slice H.A H.l.length H.c, .slice N.A N.l.length N.c, .slice S.A S.l.length S.c] := qkc B_a hb5
  obtain ⟨a0, a1, a2, a3, a4, af, az⟩ := Blk.b5 K_a
  have B_a := Lib.hid K_a
  clear K_a
  have K_h : Blk _ (w4.heap.size) 33 #[.int .i64 i2, .bool c2, .slice H2.A H2.l.length H2.c, .slice N2.A N2.l.length N2.c, .slice S2.A S2.l.length S2.c] := qkb hb5
  obtain ⟨h0, h1, h2, h3, h4, hf, hz⟩ := Blk.b5 K_h
  have B_h := Lib.hid K_h
  clear K_h
  have hB5 : Below w.heap.size w w5 := qbv
  have hz5 : w4.heap.size + 1 ≤ w5.heap.size := by have := hb5.size; simpa using this
  have RP5 : Hid (RdPhone (· < w4.heap.size) w5 ⟨i2, c2, H2, N2, S2⟩) := Lib.hid (HR2.out.keep fun b hb => (hb5.block b (by simp; omega)).trans (Below.heap_alloc _ _ b hb))
  have HD5 := Lib.hid hd5
  have RA5 : Hid (RdPhone (· < w5.heap.size) w5 ⟨i5, c5, H5, N5, S5⟩) := Lib.hid hr5
  clear hb5 hd5 hr5 HR2
  simp only [Phone.v]
  go_wp2_with fail
  refine (rnew43 k _).mono ?_
  rintro e w6 ⟨⟨i6, c6, H6, N6, S6⟩, rfl, hd6, hr6, hb6⟩
  clear a0 a1 a2 a3 a4 af h0 h1 h2 h3 h4 hf
  have K_a : Blk _ (w.heap.size) 26 #[.int .i64 id, .bool cut, .slice H.A H.l.length H.c, .slice N.A N.l.length N.c, .slice S.A S.l.length S.c] := qkc B_a hb6
  obtain ⟨a0, a1, a2, a3, a4, af, az⟩ := Blk.b5 K_a
  have B_a := Lib.hid K_a
  clear K_a
  have K_h : Blk _ (w4.heap.size) 33 #[.int .i64 i2, .bool c2, .slice H2.A H2.l.length H2.c, .slice N2.A N2.l.length N2.c, .slice S2.A S2.l.length S2.c] := qkc B_h hb6
  obtain ⟨h0, h1, h2, h3, h4, hf, hz⟩ := Blk.b5 K_h
  have B_h := Lib.hid K_h
  clear K_h
  have K_d : Blk _ (w5.heap.size) 33 #[.int .i64 i5, .bool c5, .slice H5.A H5.l.length H5.c, .slice N5.A N5.l.length N5.c, .slice S5.A S5.l.length S5.c] := qkb hb6
  obtain ⟨d0, d1, d2, d3, d4, df, dz⟩ := Blk.b5 K_d
  have B_d := Lib.hid K_d
  clear K_d
  have hB6 : Below w.heap.size w w6 := qbv
  have hz6 : w5.heap.size + 1 ≤ w6.heap.size := by have := hb6.size; simpa using this
  have RP6 : Hid (RdPhone (· < w4.heap.size) w6 ⟨i2, c2, H2, N2, S2⟩) := Lib.hid (RP5.out.keep fun b hb => (hb6.block b (by simp; omega)).trans (Below.heap_alloc _ _ b (by omega)))
  have RA6 : Hid (RdPhone (· < w5.heap.size) w6 ⟨i5, c5, H5, N5, S5⟩) := Lib.hid (RA5.out.keep fun b hb => (hb6.block b (by simp; omega)).trans (Below.heap_alloc _ _ b hb))
  have HD6 := Lib.hid hd6
  have RB6 : Hid (RdPhone (· < w6.heap.size) w6 ⟨i6, c6, H6, N6, S6⟩) := Lib.hid hr6
  clear hb6 hd6 hr6 RP5 RA5
  simp only [Phone.v]
  go_wp2_with fail
  obtain ⟨v6, hv6⟩ : ∃ z, z = w6.alloc (.cells #[.int .i64 i6, .bool c6, .slice H6.A H6.l.length H6.c, .slice N6.A N6.l.length N6.c, .slice S6.A S6.l.length S6.c] 26) := ⟨_, rfl⟩
  rw [← hv6]
  have FQ : Hid (Blk v6 w.heap.size 26 #[.int .i64 id, .bool cut, .slice H.A H.l.length H.c, .slice N.A N.l.length N.c, .slice S.A S.l.length S.c]) := Lib.hid (by rw [hv6]; exact B_a.out.alloc _)
  have FP : Hid (Blk v6 w4.heap.size 33 #[.int .i64 i2, .bool c2, .slice H2.A H2.l.length H2.c, .slice N2.A N2.l.length N2.c, .slice S2.A S2.l.length S2.c]) := Lib.hid (by rw [hv6]; exact B_h.out.alloc _)
  have FA : Hid (Blk v6 w5.heap.size 33 #[.int .i64 i5, .bool c5, .slice H5.A H5.l.length H5.c, .slice N5.A N5.l.length N5.c, .slice S5.A S5.l.length S5.c]) := Lib.hid (by rw [hv6]; exact B_d.out.alloc _)
  have FB : Hid (Blk v6 w6.heap.size 26 #[.int .i64 i6, .bool c6, .slice H6.A H6.l.length H6.c, .slice N6.A N6.l.length N6.c, .slice S6.A S6.l.length S6.c]) := Lib.hid (by rw [hv6]; exact Blk.new _ _ _)
  have RP : Hid (RdPhone (· < w4.heap.size) v6 ⟨i2, c2, H2, N2, S2⟩) := Lib.hid (by rw [hv6]; exact RP6.out.keep fun b hb => Below.heap_alloc _ _ b (by omega))
  have RA : Hid (RdPhone (· < w5.heap.size) v6 ⟨i5, c5, H5, N5, S5⟩) := Lib.hid (by rw [hv6]; exact RA6.out.keep fun b hb => Below.heap_alloc _ _ b (by omega))
  have RB : Hid (RdPhone (· < w6.heap.size) v6 ⟨i6, c6, H6, N6, S6⟩) := Lib.hid (by rw [hv6]; exact RB6.out.keep fun b hb => Below.heap_alloc _ _ b hb)
  have hV6 : Below w.heap.size w v6 := by rw [hv6]; exact qbv
  have zv6 : w6.heap.size < v6.heap.size := FB.out.lt
  have zP : w.heap.size < w4.heap.size := hzP
  clear hv6 a0 a1 a2 a3 a4 af h0 h1 h2 h3 h4 hf d0 d1 d2 d3 d4 df B_a B_h B_d RP6 RA6 RB6
  refine wp_region_T (fun w' => ((w'.cell? ⟨w5.heap.size, 0, none⟩ = some (.int .i64 i5) ∧ w'.cell? ⟨w5.heap.size, 1, none⟩ = some (.bool c5) ∧ w'.cell? ⟨w5.heap.size, 2, none⟩ = some (.slice H5.A H5.l.length H5.c) ∧ w'.cell? ⟨w5.heap.size, 3, none⟩ = some (.slice N5.A N5.l.length N5.c) ∧ w'.cell? ⟨w5.heap.size, 4, none⟩ = some (.slice S5.A S5.l.length S5.c)) ∧ (w'.cell? ⟨w6.heap.size, 0, none⟩ = some (.int .i64 i6) ∧ w'.cell? ⟨w6.heap.size, 1, none⟩ = some (.bool c6) ∧ w'.cell? ⟨w6.heap.size, 2, none⟩ = some (.slice H6.A H6.l.length H6.c) ∧ w'.cell? ⟨w6.heap.size, 3, none⟩ = some (.slice N6.A N6.l.length N6.c) ∧ w'.cell? ⟨w6.heap.size, 4, none⟩ = some (.slice S6.A S6.l.length S6.c)) ∧ (w'.cell? ⟨w4.heap.size, 0, none⟩ = some (.int .i64 i2) ∧ w'.cell? ⟨w4.heap.size, 1, none⟩ = some (.bool c2) ∧ w'.cell? ⟨w4.heap.size, 2, none⟩ = some (.slice H2.A H2.l.length H2.c) ∧ w'.cell? ⟨w4.heap.size, 3, none⟩ = some (.slice N2.A N2.l.length N2.c) ∧ w'.cell? ⟨w4.heap.size, 4, none⟩ = some (.slice S2.A S2.l.length S2.c)) ∧ (w'.cell? ⟨w.heap.size, 0, none⟩ = some (.int .i64 id) ∧ w'.cell? ⟨w.heap.size, 1, none⟩ = some (.bool cut) ∧ w'.cell? ⟨w.heap.size, 2, none⟩ = some (.slice H.A H.l.length H.c) ∧ w'.cell? ⟨w.heap.size, 3, none⟩ = some (.slice N.A N.l.length N.c) ∧ w'.cell? ⟨w.heap.size, 4, none⟩ = some (.slice S.A S.l.length S.c)))) (fun _ => false) (by kernel_rfl) (show ((v6.cell? ⟨w5.heap.size, 0, none⟩ = some (.int .i64 i5) ∧ v6.cell? ⟨w5.heap.size, 1, none⟩ = some (.bool c5) ∧ v6.cell? ⟨w5.heap.size, 2, none⟩ = some (.slice H5.A H5.l.length H5.c) ∧ v6.cell? ⟨w5.heap.size, 3, none⟩ = some (.slice N5.A N5.l.length N5.c) ∧ v6.cell? ⟨w5.heap.size, 4, none⟩ = some (.slice S5.A S5.l.length S5.c)) ∧ (v6.cell? ⟨w6.heap.size, 0, none⟩ = some (.int .i64 i6) ∧ v6.cell? ⟨w6.heap.size, 1, none⟩ = some (.bool c6) ∧ v6.cell? ⟨w6.heap.size, 2, none⟩ = some (.slice H6.A H6.l.length H6.c) ∧ v6.cell? ⟨w6.heap.size, 3, none⟩ = some (.slice N6.A N6.l.length N6.c) ∧ v6.cell? ⟨w6.heap.size, 4, none⟩ = some (.slice S6.A S6.l.length S6.c)) ∧ (v6.cell? ⟨w4.heap.size, 0, none⟩ = some (.int .i64 i2) ∧ v6.cell? ⟨w4.heap.size, 1, none⟩ = some (.bool c2) ∧ v6.cell? ⟨w4.heap.size, 2, none⟩ = some (.slice H2.A H2.l.length H2.c) ∧ v6.cell? ⟨w4.heap.size, 3, none⟩ = some (.slice N2.A N2.l.length N2.c) ∧ v6.cell? ⟨w4.heap.size, 4, none⟩ = some (.slice S2.A S2.l.length S2.c)) ∧ (v6.cell? ⟨w.heap.size, 0, none⟩ = some (.int .i64 id) ∧ v6.cell? ⟨w.heap.size, 1, none⟩ = some (.bool cut) ∧ v6.cell? ⟨w.heap.size, 2, none⟩ = some (.slice H.A H.l.length H.c) ∧ v6.cell? ⟨w.heap.size, 3, none⟩ = some (.slice N.A N.l.length N.c) ∧ v6.cell? ⟨w.heap.size, 4, none⟩ = some (.slice S.A S.l.length S.c))) from And.intro (And.intro (FA.out.cell 0) (And.intro (FA.out.cell 1) (And.intro (FA.out.cell 2) (And.intro (FA.out.cell 3) (FA.out.cell 4))))) (And.intro (And.intro (FB.out.cell 0) (And.intro (FB.out.cell 1) (And.intro (FB.out.cell 2) (And.intro (FB.out.cell 3) (FB.out.cell 4))))) (And.intro (And.intro (FP.out.cell 0) (And.intro (FP.out.cell 1) (And.intro (FP.out.cell 2) (And.intro (FP.out.cell 3) (FP.out.cell 4))))) (And.intro (FQ.out.cell 0) (And.intro (FQ.out.cell 1) (And.intro (FQ.out.cell 2) (And.intro (FQ.out.cell 3) (FQ.out.cell 4)))))))) (fun hHeld => ?_)
  refine qtq 0 ?_
  simp only [qsa, qsb, qsc]
  refine qtq 1 ?_
  simp only [qsa, qsb, qsc]
  clear hHeld
  refine wpAnyT_next (i := 2) (by kernel_rfl) rfl ?_
  go_wp2_with fail
  refine (lsame ⟨i5, c5, H5, N5, S5⟩ ⟨i6, c6, H6, N6, S6⟩ v6.drew (RA.out.mono fun b hb => by show _ < v6.heap.size; omega) (RB.out.mono fun b hb => by show _ < v6.heap.size; omega) (HD5.out.trans HD6.out.symm)).mono ?_
  rintro e v7 ⟨rfl, hb7⟩
  have hv7 : Below v6.heap.size v6 v7 := Below.trans (Below.drew (Below.refl _ _)) hb7
  have zv7 : v6.heap.size ≤ v7.heap.size := hv7.size
  have FQ := Lib.hid (FQ.out.later hv7)
  have FP := Lib.hid (FP.out.later hv7)
  have FA := Lib.hid (FA.out.later hv7)
  have FB := Lib.hid (FB.out.later hv7)
  have RP := Lib.hid (RP.out.keep (fun b hb' => (hv7).block b (by omega)))
  have hV7 : Below w.heap.size w _ := below_via hv7 hV6
  clear hb7 hv7 RA RB
  go_wp2_with fail
  have hHeld := And.intro (And.intro (FA.out.cell 0) (And.intro (FA.out.cell 1) (And.intro (FA.out.cell 2) (And.intro (FA.out.cell 3) (FA.out.cell 4))))) (And.intro (And.intro (FB.out.cell 0) (And.intro (FB.out.cell 1) (And.intro (FB.out.cell 2) (And.intro (FB.out.cell 3) (FB.out.cell 4))))) (And.intro (And.intro (FP.out.cell 0) (And.intro (FP.out.cell 1) (And.intro (FP.out.cell 2) (And.intro (FP.out.cell 3) (FP.out.cell 4))))) (And.intro (FQ.out.cell 0) (And.intro (FQ.out.cell 1) (And.intro (FQ.out.cell 2) (And.intro (FQ.out.cell 3) (FQ.out.cell 4)))))))
  refine And.intro ?_ ?_
  · first
    | exact hHeld
    | exact fun _ => hHeld
  refine qtq 3 ?_
  simp only [qsa, qsb, qsc]
  refine qtq 4 ?_
  simp only [qsa, qsb, qsc]
  refine qtq 5 ?_
  simp only [qsa, qsb, qsc]
  refine qtq 6 ?_
  simp only [qsa, qsb, qsc]
  refine wpAnyT_take2 (i := 7) (v := .bool false) rfl rfl (by kernel_rfl) (by kernel_rfl) (by kernel_rfl) (by kernel_rfl) (fun _ _ _ h => h) (Or.inl ⟨by rfl, ?_⟩) (by first | assumption | trivial) ?_
  · (intro w hSw; (try dsimp only at hSw); go_simp) <;> (first | (with_reducible rfl) | assumption | (simp; done) | (simp [*]; done) | (simp; omega))
  simp only [qsa, qsb, qsc]
  refine qtq 8 ?_
  simp only [qsa, qsb, qsc]
  refine qtq 9 ?_
  simp only [qsa, qsb, qsc]
  refine qtq 10 ?_
  simp only [qsa, qsb, qsc]
  refine qtq 12 ?_
  simp only [qsa, qsb, qsc]
  clear hHeld
  refine wpAnyT_next (i := 11) (by kernel_rfl) rfl ?_
  go_wp2_with fail
  refine (phone_right ⟨i2, c2, H2, N2, S2⟩ v7 (RP.out.mono fun b hb => by omega)).mono ?_
  rintro e v8 ⟨rfl, hv8⟩
  rw [HD2.out]
  have zv8 : v7.heap.size ≤ v8.heap.size := hv8.size
  have FQ := Lib.hid (FQ.out.later hv8)
  have FP := Lib.hid (FP.out.later hv8)
  have FA := Lib.hid (FA.out.later hv8)
  have FB := Lib.hid (FB.out.later hv8)
  have RP := Lib.hid (RP.out.keep (fun b hb' => (hv8).block b (by omega)))
  have hV8 : Below w.heap.size w _ := below_via hv8 hV7
  clear hv8
  go_wp2_with fail
  have hHeld := And.intro (And.intro (FA.out.cell 0) (And.intro (FA.out.cell 1) (And.intro (FA.out.cell 2) (And.intro (FA.out.cell 3) (FA.out.cell 4))))) (And.intro (And.intro (FB.out.cell 0) (And.intro (FB.out.cell 1) (And.intro (FB.out.cell 2) (And.intro (FB.out.cell 3) (FB.out.cell 4))))) (And.intro (And.intro (FP.out.cell 0) (And.intro (FP.out.cell 1) (And.intro (FP.out.cell 2) (And.intro (FP.out.cell 3) (FP.out.cell 4))))) (And.intro (FQ.out.cell 0) (And.intro (FQ.out.cell 1) (And.intro (FQ.out.cell 2) (And.intro (FQ.out.cell 3) (FQ.out.cell 4)))))))
  refine And.intro ?_ ?_
  · first
    | exact hHeld
    | exact fun _ => hHeld
  clear hHeld
  refine wpAnyT_next (i := 13) (by kernel_rfl) rfl ?_
  go_wp2_with fail
  refine (rright43 ⟨id, cut, H, N, S⟩ v8 (HQ.out.later hV8 (Nat.le_refl _))).mono ?_
  rintro e v9 ⟨rfl, hv9⟩
  have zv9 : v8.heap.size ≤ v9.heap.size := hv9.size
  have FQ := Lib.hid (FQ.out.later hv9)
  have FP := Lib.hid (FP.out.later hv9)
  have FA := Lib.hid (FA.out.later hv9)
  have FB := Lib.hid (FB.out.later hv9)
  have RP := Lib.hid (RP.out.keep (fun b hb' => (hv9).block b (by omega)))
  have hV9 : Below w.heap.size w _ := below_via hv9 hV8
  clear hv9
  generalize PhoneD.right (Phone.d ⟨id, cut, H, N, S⟩) = rb at *
  have hrb : (rb != rb) = false := by simp
  go_wp2_with fail
  have hHeld := And.intro (And.intro (FA.out.cell 0) (And.intro (FA.out.cell 1) (And.intro (FA.out.cell 2) (And.intro (FA.out.cell 3) (FA.out.cell 4))))) (And.intro (And.intro (FB.out.cell 0) (And.intro (FB.out.cell 1) (And.intro (FB.out.cell 2) (And.intro (FB.out.cell 3) (FB.out.cell 4))))) (And.intro (And.intro (FP.out.cell 0) (And.intro (FP.out.cell 1) (And.intro (FP.out.cell 2) (And.intro (FP.out.cell 3) (FP.out.cell 4))))) (And.intro (FQ.out.cell 0) (And.intro (FQ.out.cell 1) (And.intro (FQ.out.cell 2) (And.intro (FQ.out.cell 3) (FQ.out.cell 4)))))))
  refine And.intro ?_ ?_
  · first
    | exact hHeld
    | exact fun _ => hHeld
  refine wpAnyT_take2 (i := 14) (v := .bool false) rfl rfl (by kernel_rfl) (by kernel_rfl) (by kernel_rfl) (by kernel_rfl) (fun _ _ _ h => h) (Or.inl ⟨by rfl, ?_⟩) (by first | assumption | trivial) ?_
  · (intro w hSw; (try dsimp only at hSw); go_simp) <;> (first | (with_reducible rfl) | assumption | (simp; done) | (simp [*]; done) | (simp; omega))
  simp only [qsa, qsb, qsc]
  refine qtq 15 ?_
  simp only [qsa, qsb, qsc]
  clear hHeld hrb
  refine wpAnyT_done (by kernel_rfl) ?_ _
  obtain ⟨a0, a1, a2, a3, a4, af, za⟩ := FQ.out.b5
  obtain ⟨h0, h1, h2, h3, h4, hf, zc⟩ := FP.out.b5
  obtain ⟨d0, d1, d2, d3, d4, df, zd⟩ := FA.out.b5
  obtain ⟨e0, e1, e2, e3, e4, ef, ze⟩ := FB.out.b5
  go_wp2_with fail
  refine (phone_lend_s ⟨i2, c2, H2, N2, S2⟩ ss k n v9 (RP.out.mono fun b hb => by show _ < v9.heap.size; omega) (HS.out.later hV9 (Nat.le_refl _)) (by omega)).mono ?_
  rintro e v10 ⟨⟨i10, c10, H10, N10, S10⟩, G10, rfl, hd10, hs10, hr10, hv10⟩
  rw [HD2.out] at hd10 hs10 ⊢
  have hd10 := Lib.hid hd10
  have hs10 := Lib.hid hs10
  have zv10 : v9.heap.size ≤ v10.heap.size := hv10.size
  clear a0 a1 a2 a3 a4 af h0 h1 h2 h3 h4 hf d0 d1 d2 d3 d4 df e0 e1 e2 e3 e4 ef
  have FQ := Lib.hid (FQ.out.later hv10)
  have FP := Lib.hid (FP.out.later hv10)
  have FA := Lib.hid (FA.out.later hv10)
  have FB := Lib.hid (FB.out.later hv10)
  have RP := Lib.hid (RP.out.keep (fun b hb' => (hv10).block b (by omega)))
  have hV10 : Below w.heap.size w _ := below_via hv10 hV9
  clear hv10
  simp only [Phone.v]
  obtain ⟨a0, a1, a2, a3, a4, af, za⟩ := FQ.out.b5
  obtain ⟨h0, h1, h2, h3, h4, hf, zc⟩ := FP.out.b5
  obtain ⟨d0, d1, d2, d3, d4, df, zd⟩ := FA.out.b5
  obtain ⟨e0, e1, e2, e3, e4, ef, ze⟩ := FB.out.b5
  go_wp2_with fail
  obtain ⟨u10, hu⟩ : ∃ z, z = store5 v10 w5.heap.size ⟨i10, c10, H10, N10, S10⟩ := ⟨_, rfl⟩
  rw [show (((((v10.setCell ⟨w5.heap.size, 0, none⟩ (.int .i64 i10)).setCell ⟨w5.heap.size, 1, none⟩ (.bool c10)).setCell ⟨w5.heap.size, 2, none⟩ (.slice H10.A H10.l.length H10.c)).setCell ⟨w5.heap.size, 3, none⟩ (.slice N10.A N10.l.length N10.c)).setCell ⟨w5.heap.size, 4, none⟩ (.slice S10.A S10.l.length S10.c)) = u10 from hu.symm]
  have RX : Hid (RdPhone (fun x => x < w4.heap.size ∨ (w6.heap.size < x ∧ x < v10.heap.size)) v10 ⟨i10, c10, H10, N10, S10⟩) := Lib.hid (by
    rcases hr10.out with h1 | h1
    · rw [h1.1]; exact RP.out.mono fun b hb => .inl hb
    · exact h1.1.mono fun b hb => .inr ⟨Nat.lt_of_lt_of_le (by omega) hb.1, hb.2⟩)
  have GX : Hid (RdStocks (fun x => x < w4.heap.size ∨ (w6.heap.size < x ∧ x < v10.heap.size)) v10 G10) := Lib.hid (by
    rcases hr10.out with h1 | h1
    · rw [h1.2]; exact (HS.out.keep fun b hb => hV10.block b hb).mono fun b hb => .inl (Nat.lt_trans hb zP)
    · exact h1.2.mono fun b hb => .inr ⟨Nat.lt_of_lt_of_le (by omega) hb.1, hb.2⟩)
  have zu10a : v10.heap.size ≤ u10.heap.size := by rw [hu, st5_size]; exact Nat.le_refl _
  have zu10b : u10.heap.size ≤ v10.heap.size := by rw [hu, st5_size]; exact Nat.le_refl _
  have FQ : Hid (Blk u10 w.heap.size 26 #[.int .i64 id, .bool cut, .slice H.A H.l.length H.c, .slice N.A N.l.length N.c, .slice S.A S.l.length S.c]) := Lib.hid (by rw [hu]; exact Blk.st5f FQ.out (by omega))
  have FP : Hid (Blk u10 w4.heap.size 33 #[.int .i64 i2, .bool c2, .slice H2.A H2.l.length H2.c, .slice N2.A N2.l.length N2.c, .slice S2.A S2.l.length S2.c]) := Lib.hid (by rw [hu]; exact Blk.st5f FP.out (by omega))
  have RP : Hid (RdPhone (· < w4.heap.size) u10 ⟨i2, c2, H2, N2, S2⟩) := Lib.hid (by rw [hu]; exact RP.out.keep fun b hb => st5_block (by have hb' : b < w4.heap.size := hb; omega))
  have RA : Hid (RdPhone (fun x => x < w4.heap.size ∨ (w6.heap.size < x ∧ x < u10.heap.size)) u10 _) := Lib.hid ((RX.out.mono fun b hb => Or.imp (fun h => h) (fun h => And.intro h.1 (Nat.lt_of_lt_of_le h.2 zu10a)) hb).keep fun b hb => by rw [hu]; exact st5_block (by rcases hb with hb | hb <;> omega))
  have hV : Below w.heap.size w u10 := by rw [hu]; exact Below.st5 (by omega) hV10
  have GA : Hid (RdStocks (fun x => x < w4.heap.size ∨ (w6.heap.size < x ∧ x < u10.heap.size)) u10 G10) := Lib.hid ((GX.out.mono fun b hb => Or.imp (fun h => h) (fun h => And.intro h.1 (Nat.lt_of_lt_of_le h.2 zu10a)) hb).keep fun b hb => by rw [hu]; exact st5_block (by rcases hb with hb | hb <;> omega))
  have FA : Hid (Blk u10 w5.heap.size 33 #[.int .i64 i10, .bool c10, .slice H10.A H10.l.length H10.c, .slice N10.A N10.l.length N10.c, .slice S10.A S10.l.length S10.c]) := Lib.hid (by rw [hu]; exact FA.out.st5)
  have FB : Hid (Blk u10 w6.heap.size 26 #[.int .i64 i6, .bool c6, .slice H6.A H6.l.length H6.c, .slice N6.A N6.l.length N6.c, .slice S6.A S6.l.length S6.c]) := Lib.hid (by rw [hu]; exact Blk.st5f FB.out (by omega))
  clear hu RX GX hr10 hV10
  clear a0 a1 a2 a3 a4 af h0 h1 h2 h3 h4 hf d0 d1 d2 d3 d4 df e0 e1 e2 e3 e4 ef
  refine (rlend43 ⟨id, cut, H, N, S⟩ ss k n u10 (HQ.out.later hV (Nat.le_refl _)) (HS.out.later hV (Nat.le_refl _)) (by omega) w.heap.size hV.size (HQ.out.keep fun b hb => hV.block b hb).2.1.2 (HS.out.keep fun b hb => hV.block b hb).2).mono ?_
  rintro e v11 ⟨⟨i11, c11, H11, N11, S11⟩, G11, rfl, hd11, hs11, hr11, hv11⟩
  have hd11 := Lib.hid hd11
  have hs11 := Lib.hid hs11
  have zv11 : u10.heap.size ≤ v11.heap.size := hv11.size
  have FQ := Lib.hid (FQ.out.later hv11)
  have FP := Lib.hid (FP.out.later hv11)
  have FA := Lib.hid (FA.out.later hv11)
  have FB := Lib.hid (FB.out.later hv11)
  have RP := Lib.hid (RP.out.keep (fun b hb' => (hv11).block b (by omega)))
  have hV11 : Below w.heap.size w _ := below_via hv11 hV
  have RA := Lib.hid (RA.out.keep fun b hb => (hv11).block b (by rcases hb with hb | hb <;> omega))
  have GA := Lib.hid (GA.out.keep fun b hb => (hv11).block b (by rcases hb with hb | hb <;> omega))
  clear hv11 hV
  simp only [Phone.v]
  obtain ⟨a0, a1, a2, a3, a4, af, za⟩ := FQ.out.b5
  obtain ⟨h0, h1, h2, h3, h4, hf, zc⟩ := FP.out.b5
  obtain ⟨d0, d1, d2, d3, d4, df, zd⟩ := FA.out.b5
  obtain ⟨e0, e1, e2, e3, e4, ef, ze⟩ := FB.out.b5
  go_wp2_with fail
  obtain ⟨u11, hu⟩ : ∃ z, z = store5 v11 w6.heap.size ⟨i11, c11, H11, N11, S11⟩ := ⟨_, rfl⟩
  rw [show (((((v11.setCell ⟨w6.heap.size, 0, none⟩ (.int .i64 i11)).setCell ⟨w6.heap.size, 1, none⟩ (.bool c11)).setCell ⟨w6.heap.size, 2, none⟩ (.slice H11.A H11.l.length H11.c)).setCell ⟨w6.heap.size, 3, none⟩ (.slice N11.A N11.l.length N11.c)).setCell ⟨w6.heap.size, 4, none⟩ (.slice S11.A S11.l.length S11.c)) = u11 from hu.symm]
  have RX : Hid (RdPhone (fun x => x < w4.heap.size ∨ (w6.heap.size < x ∧ x < v11.heap.size)) v11 ⟨i11, c11, H11, N11, S11⟩) := Lib.hid (by
    rcases hr11.out with h1 | h1
    · rw [h1.1]; exact (HQ.out.keep fun b hb => hV11.block b hb).mono fun b hb => .inl (Nat.lt_trans hb zP)
    · exact h1.1.mono fun b hb => hb.elim (fun h => .inl (Nat.lt_trans h zP)) fun h => .inr ⟨Nat.lt_of_lt_of_le (by omega) h.1, h.2⟩)
  have GX : Hid (RdStocks (fun x => x < w4.heap.size ∨ (w6.heap.size < x ∧ x < v11.heap.size)) v11 G11) := Lib.hid (by
    rcases hr11.out with h1 | h1
    · rw [h1.2]; exact (HS.out.keep fun b hb => hV11.block b hb).mono fun b hb => .inl (Nat.lt_trans hb zP)
    · exact h1.2.mono fun b hb => hb.elim (fun h => .inl (Nat.lt_trans h zP)) fun h => .inr ⟨Nat.lt_of_lt_of_le (by omega) h.1, h.2⟩)
  have zu11a : v11.heap.size ≤ u11.heap.size := by rw [hu, st5_size]; exact Nat.le_refl _
  have zu11b : u11.heap.size ≤ v11.heap.size := by rw [hu, st5_size]; exact Nat.le_refl _
  have FQ : Hid (Blk u11 w.heap.size 26 #[.int .i64 id, .bool cut, .slice H.A H.l.length H.c, .slice N.A N.l.length N.c, .slice S.A S.l.length S.c]) := Lib.hid (by rw [hu]; exact Blk.st5f FQ.out (by omega))
  have FP : Hid (Blk u11 w4.heap.size 33 #[.int .i64 i2, .bool c2, .slice H2.A H2.l.length H2.c, .slice N2.A N2.l.length N2.c, .slice S2.A S2.l.length S2.c]) := Lib.hid (by rw [hu]; exact Blk.st5f FP.out (by omega))
  have RP : Hid (RdPhone (· < w4.heap.size) u11 ⟨i2, c2, H2, N2, S2⟩) := Lib.hid (by rw [hu]; exact RP.out.keep fun b hb => st5_block (by have hb' : b < w4.heap.size := hb; omega))
  have RB : Hid (RdPhone (fun x => x < w4.heap.size ∨ (w6.heap.size < x ∧ x < u11.heap.size)) u11 _) := Lib.hid ((RX.out.mono fun b hb => Or.imp (fun h => h) (fun h => And.intro h.1 (Nat.lt_of_lt_of_le h.2 zu11a)) hb).keep fun b hb => by rw [hu]; exact st5_block (by rcases hb with hb | hb <;> omega))
  have hV : Below w.heap.size w u11 := by rw [hu]; exact Below.st5 (by omega) hV11
  have GB : Hid (RdStocks (fun x => x < w4.heap.size ∨ (w6.heap.size < x ∧ x < u11.heap.size)) u11 G11) := Lib.hid ((GX.out.mono fun b hb => Or.imp (fun h => h) (fun h => And.intro h.1 (Nat.lt_of_lt_of_le h.2 zu11a)) hb).keep fun b hb => by rw [hu]; exact st5_block (by rcases hb with hb | hb <;> omega))
  have GA : Hid (RdStocks (fun x => x < w4.heap.size ∨ (w6.heap.size < x ∧ x < u10.heap.size)) u11 G10) := Lib.hid (by rw [hu]; exact GA.out.keep fun b hb => st5_block (by rcases hb with hb | hb <;> omega))
  have RA : Hid (RdPhone (fun x => x < w4.heap.size ∨ (w6.heap.size < x ∧ x < u10.heap.size)) u11 ⟨i10, c10, H10, N10, S10⟩) := Lib.hid (by rw [hu]; exact RA.out.keep fun b hb => st5_block (by rcases hb with hb | hb <;> omega))
  have FB : Hid (Blk u11 w6.heap.size 26 #[.int .i64 i11, .bool c11, .slice H11.A H11.l.length H11.c, .slice N11.A N11.l.length N11.c, .slice S11.A S11.l.length S11.c]) := Lib.hid (by rw [hu]; exact FB.out.st5)
  have FA : Hid (Blk u11 w5.heap.size 33 #[.int .i64 i10, .bool c10, .slice H10.A H10.l.length H10.c, .slice N10.A N10.l.length N10.c, .slice S10.A S10.l.length S10.c]) := Lib.hid (by rw [hu]; exact Blk.st5f FA.out (by omega))
  clear hu RX GX hr11 hV11
  clear a0 a1 a2 a3 a4 af h0 h1 h2 h3 h4 hf d0 d1 d2 d3 d4 df e0 e1 e2 e3 e4 ef
  obtain ⟨a0, a1, a2, a3, a4, af, za⟩ := FQ.out.b5
  obtain ⟨h0, h1, h2, h3, h4, hf, zc⟩ := FP.out.b5
  obtain ⟨d0, d1, d2, d3, d4, df, zd⟩ := FA.out.b5
  obtain ⟨e0, e1, e2, e3, e4, ef, ze⟩ := FB.out.b5
  go_wp2_with fail
  refine (lsame ⟨i10, c10, H10, N10, S10⟩ ⟨i11, c11, H11, N11, S11⟩ u11 (RA.out.mono fun b hb => by show _ < (u11).heap.size; rcases hb with hb | hb <;> omega) (RB.out.mono fun b hb => by show _ < (u11).heap.size; rcases hb with hb | hb <;> omega) (hd10.out.trans hd11.out.symm)).mono ?_
  rintro e v12 ⟨rfl, hv12⟩
  have zhv12 := (hv12).size
  have FQ := Lib.hid (FQ.out.later hv12)
  have FP := Lib.hid (FP.out.later hv12)
  have FA := Lib.hid (FA.out.later hv12)
  have FB := Lib.hid (FB.out.later hv12)
  have RP := Lib.hid (RP.out.keep (fun b hb' => (hv12).block b (by omega)))
  have hV12 : Below w.heap.size w _ := below_via hv12 hV
  have GA := Lib.hid (GA.out.keep fun b hb => (hv12).block b (by rcases hb with hb | hb <;> omega))
  have GB := Lib.hid (GB.out.keep fun b hb => (hv12).block b (by rcases hb with hb | hb <;> omega))
  clear hv12 hV RA RB hd10 hd11
  clear a0 a1 a2 a3 a4 af h0 h1 h2 h3 h4 hf d0 d1 d2 d3 d4 df e0 e1 e2 e3 e4 ef
  obtain ⟨a0, a1, a2, a3, a4, af, za⟩ := FQ.out.b5
  obtain ⟨h0, h1, h2, h3, h4, hf, zc⟩ := FP.out.b5
  obtain ⟨d0, d1, d2, d3, d4, df, zd⟩ := FA.out.b5
  obtain ⟨e0, e1, e2, e3, e4, ef, ze⟩ := FB.out.b5
  have herr : ∀ z : Int, (z != z) = false := fun z => by simp
  generalize hL : (Phone.d ⟨id, cut, H, N, S⟩).lend (ss.l.map Stock.d) k n = rL at *
  go_wp2_with fail
  refine (rstocks G10 G11 v12 (GA.out.mono fun b hb => by show _ < (v12).heap.size; rcases hb with hb | hb <;> omega) (GB.out.mono fun b hb => by show _ < (v12).heap.size; rcases hb with hb | hb <;> omega)).mono ?_
  rintro e v13 ⟨rfl, hv13⟩
  rw [show decide (G10.l.map Stock.d = G11.l.map Stock.d) = true from decide_eq_true (hs10.out.trans hs11.out.symm)]
  have zv13 : v12.heap.size ≤ v13.heap.size := hv13.size
  have FQ := Lib.hid (FQ.out.later hv13)
  have FP := Lib.hid (FP.out.later hv13)
  have FA := Lib.hid (FA.out.later hv13)
  have FB := Lib.hid (FB.out.later hv13)
  have RP := Lib.hid (RP.out.keep (fun b hb' => (hv13).block b (by omega)))
  have hV13 : Below w.heap.size w _ := below_via hv13 hV12
  clear hv13 GA GB hs10 hs11 hL
  clear a0 a1 a2 a3 a4 af h0 h1 h2 h3 h4 hf d0 d1 d2 d3 d4 df e0 e1 e2 e3 e4 ef
  obtain ⟨a0, a1, a2, a3, a4, af, za⟩ := FQ.out.b5
  obtain ⟨h0, h1, h2, h3, h4, hf, zc⟩ := FP.out.b5
  obtain ⟨d0, d1, d2, d3, d4, df, zd⟩ := FA.out.b5
  obtain ⟨e0, e1, e2, e3, e4, ef, ze⟩ := FB.out.b5
  go_wp2_with fail
  refine (phone_promise_s ⟨i2, c2, H2, N2, S2⟩ k n t tx v13 (RP.out.mono fun b hb => by show _ < (v13).heap.size; omega)).mono ?_
  rintro e v14 ⟨⟨i14, c14, H14, N14, S14⟩, rfl, hd14, hr14, hv14⟩
  rw [HD2.out] at hd14 ⊢
  have hd14 := Lib.hid hd14
  have zv14 : v13.heap.size ≤ v14.heap.size := hv14.size
  clear a0 a1 a2 a3 a4 af h0 h1 h2 h3 h4 hf d0 d1 d2 d3 d4 df e0 e1 e2 e3 e4 ef
  have FQ := Lib.hid (FQ.out.later hv14)
  have FP := Lib.hid (FP.out.later hv14)
  have FA := Lib.hid (FA.out.later hv14)
  have FB := Lib.hid (FB.out.later hv14)
  have RP := Lib.hid (RP.out.keep (fun b hb' => (hv14).block b (by omega)))
  have hV14 : Below w.heap.size w _ := below_via hv14 hV13
  clear hv14 hV13
  simp only [Phone.v]
  obtain ⟨a0, a1, a2, a3, a4, af, za⟩ := FQ.out.b5
  obtain ⟨h0, h1, h2, h3, h4, hf, zc⟩ := FP.out.b5
  obtain ⟨d0, d1, d2, d3, d4, df, zd⟩ := FA.out.b5
  obtain ⟨e0, e1, e2, e3, e4, ef, ze⟩ := FB.out.b5
  go_wp2_with fail
  obtain ⟨u14, hu⟩ : ∃ z, z = store5 v14 w5.heap.size ⟨i14, c14, H14, N14, S14⟩ := ⟨_, rfl⟩
  rw [show (((((v14.setCell ⟨w5.heap.size, 0, none⟩ (.int .i64 i14)).setCell ⟨w5.heap.size, 1, none⟩ (.bool c14)).setCell ⟨w5.heap.size, 2, none⟩ (.slice H14.A H14.l.length H14.c)).setCell ⟨w5.heap.size, 3, none⟩ (.slice N14.A N14.l.length N14.c)).setCell ⟨w5.heap.size, 4, none⟩ (.slice S14.A S14.l.length S14.c)) = u14 from hu.symm]
  have RX : Hid (RdPhone (fun x => x < w4.heap.size ∨ (w6.heap.size < x ∧ x < v14.heap.size)) v14 ⟨i14, c14, H14, N14, S14⟩) := Lib.hid (by
    rcases hr14.out with h1 | h1
    · rw [h1]; exact RP.out.mono fun b hb => .inl hb
    · exact h1.mono fun b hb => .inr ⟨Nat.lt_of_lt_of_le (by omega) hb.1, hb.2⟩)
  have zu14a : v14.heap.size ≤ u14.heap.size := by rw [hu, st5_size]; exact Nat.le_refl _
  have zu14b : u14.heap.size ≤ v14.heap.size := by rw [hu, st5_size]; exact Nat.le_refl _
  have FQ : Hid (Blk u14 w.heap.size 26 #[.int .i64 id, .bool cut, .slice H.A H.l.length H.c, .slice N.A N.l.length N.c, .slice S.A S.l.length S.c]) := Lib.hid (by rw [hu]; exact Blk.st5f FQ.out (by omega))
  have FP : Hid (Blk u14 w4.heap.size 33 #[.int .i64 i2, .bool c2, .slice H2.A H2.l.length H2.c, .slice N2.A N2.l.length N2.c, .slice S2.A S2.l.length S2.c]) := Lib.hid (by rw [hu]; exact Blk.st5f FP.out (by omega))
  have RP : Hid (RdPhone (· < w4.heap.size) u14 ⟨i2, c2, H2, N2, S2⟩) := Lib.hid (by rw [hu]; exact RP.out.keep fun b hb => st5_block (by have hb' : b < w4.heap.size := hb; omega))
  have RA : Hid (RdPhone (fun x => x < w4.heap.size ∨ (w6.heap.size < x ∧ x < u14.heap.size)) u14 _) := Lib.hid ((RX.out.mono fun b hb => Or.imp (fun h => h) (fun h => And.intro h.1 (Nat.lt_of_lt_of_le h.2 zu14a)) hb).keep fun b hb => by rw [hu]; exact st5_block (by rcases hb with hb | hb <;> omega))
  have hV : Below w.heap.size w u14 := by rw [hu]; exact Below.st5 (by omega) hV14
  have FA : Hid (Blk u14 w5.heap.size 33 #[.int .i64 i14, .bool c14, .slice H14.A H14.l.length H14.c, .slice N14.A N14.l.length N14.c, .slice S14.A S14.l.length S14.c]) := Lib.hid (by rw [hu]; exact FA.out.st5)
  have FB : Hid (Blk u14 w6.heap.size 26 #[.int .i64 i11, .bool c11, .slice H11.A H11.l.length H11.c, .slice N11.A N11.l.length N11.c, .slice S11.A S11.l.length S11.c]) := Lib.hid (by rw [hu]; exact Blk.st5f FB.out (by omega))
  clear hu RX hr14 hV14
  clear a0 a1 a2 a3 a4 af h0 h1 h2 h3 h4 hf d0 d1 d2 d3 d4 df e0 e1 e2 e3 e4 ef
  refine (rpromise ⟨id, cut, H, N, S⟩ k n t tx u14 (HQ.out.later hV (Nat.le_refl _)) w.heap.size hV.size (HQ.out.keep fun b hb => hV.block b hb).2.1.2).mono ?_
  rintro e v15 ⟨⟨i15, c15, H15, N15, S15⟩, rfl, hd15, hr15, hv15⟩
  have hd15 := Lib.hid hd15
  have zv15 : u14.heap.size ≤ v15.heap.size := hv15.size
  have FQ := Lib.hid (FQ.out.later hv15)
  have FP := Lib.hid (FP.out.later hv15)
  have FA := Lib.hid (FA.out.later hv15)
  have FB := Lib.hid (FB.out.later hv15)
  have RP := Lib.hid (RP.out.keep (fun b hb' => (hv15).block b (by omega)))
  have hV15 : Below w.heap.size w _ := below_via hv15 hV
  have RA := Lib.hid (RA.out.keep fun b hb => (hv15).block b (by rcases hb with hb | hb <;> omega))
  clear hv15 hV
  simp only [Phone.v]
  obtain ⟨a0, a1, a2, a3, a4, af, za⟩ := FQ.out.b5
  obtain ⟨h0, h1, h2, h3, h4, hf, zc⟩ := FP.out.b5
  obtain ⟨d0, d1, d2, d3, d4, df, zd⟩ := FA.out.b5
  obtain ⟨e0, e1, e2, e3, e4, ef, ze⟩ := FB.out.b5
  go_wp2_with fail
  obtain ⟨u15, hu⟩ : ∃ z, z = store5 v15 w6.heap.size ⟨i15, c15, H15, N15, S15⟩ := ⟨_, rfl⟩
  rw [show (((((v15.setCell ⟨w6.heap.size, 0, none⟩ (.int .i64 i15)).setCell ⟨w6.heap.size, 1, none⟩ (.bool c15)).setCell ⟨w6.heap.size, 2, none⟩ (.slice H15.A H15.l.length H15.c)).setCell ⟨w6.heap.size, 3, none⟩ (.slice N15.A N15.l.length N15.c)).setCell ⟨w6.heap.size, 4, none⟩ (.slice S15.A S15.l.length S15.c)) = u15 from hu.symm]
  have RX : Hid (RdPhone (fun x => x < w4.heap.size ∨ (w6.heap.size < x ∧ x < v15.heap.size)) v15 ⟨i15, c15, H15, N15, S15⟩) := Lib.hid (by
    rcases hr15.out with h1 | h1
    · rw [h1]; exact (HQ.out.keep fun b hb => hV15.block b hb).mono fun b hb => .inl (Nat.lt_trans hb zP)
    · exact h1.mono fun b hb => hb.elim (fun h => .inl (Nat.lt_trans h zP)) fun h => .inr ⟨Nat.lt_of_lt_of_le (by omega) h.1, h.2⟩)
  have zu15a : v15.heap.size ≤ u15.heap.size := by rw [hu, st5_size]; exact Nat.le_refl _
  have zu15b : u15.heap.size ≤ v15.heap.size := by rw [hu, st5_size]; exact Nat.le_refl _
  have FQ : Hid (Blk u15 w.heap.size 26 #[.int .i64 id, .bool cut, .slice H.A H.l.length H.c, .slice N.A N.l.length N.c, .slice S.A S.l.length S.c]) := Lib.hid (by rw [hu]; exact Blk.st5f FQ.out (by omega))
  have FP : Hid (Blk u15 w4.heap.size 33 #[.int .i64 i2, .bool c2, .slice H2.A H2.l.length H2.c, .slice N2.A N2.l.length N2.c, .slice S2.A S2.l.length S2.c]) := Lib.hid (by rw [hu]; exact Blk.st5f FP.out (by omega))
  have RP : Hid (RdPhone (· < w4.heap.size) u15 ⟨i2, c2, H2, N2, S2⟩) := Lib.hid (by rw [hu]; exact RP.out.keep fun b hb => st5_block (by have hb' : b < w4.heap.size := hb; omega))
  have RB : Hid (RdPhone (fun x => x < w4.heap.size ∨ (w6.heap.size < x ∧ x < u15.heap.size)) u15 _) := Lib.hid ((RX.out.mono fun b hb => Or.imp (fun h => h) (fun h => And.intro h.1 (Nat.lt_of_lt_of_le h.2 zu15a)) hb).keep fun b hb => by rw [hu]; exact st5_block (by rcases hb with hb | hb <;> omega))
  have hV : Below w.heap.size w u15 := by rw [hu]; exact Below.st5 (by omega) hV15
  have RA : Hid (RdPhone (fun x => x < w4.heap.size ∨ (w6.heap.size < x ∧ x < u14.heap.size)) u15 ⟨i14, c14, H14, N14, S14⟩) := Lib.hid (by rw [hu]; exact RA.out.keep fun b hb => st5_block (by rcases hb with hb | hb <;> omega))
  have FB : Hid (Blk u15 w6.heap.size 26 #[.int .i64 i15, .bool c15, .slice H15.A H15.l.length H15.c, .slice N15.A N15.l.length N15.c, .slice S15.A S15.l.length S15.c]) := Lib.hid (by rw [hu]; exact FB.out.st5)
  have FA : Hid (Blk u15 w5.heap.size 33 #[.int .i64 i14, .bool c14, .slice H14.A H14.l.length H14.c, .slice N14.A N14.l.length N14.c, .slice S14.A S14.l.length S14.c]) := Lib.hid (by rw [hu]; exact Blk.st5f FA.out (by omega))
  clear hu RX hr15 hV15
  clear a0 a1 a2 a3 a4 af h0 h1 h2 h3 h4 hf d0 d1 d2 d3 d4 df e0 e1 e2 e3 e4 ef
  obtain ⟨a0, a1, a2, a3, a4, af, za⟩ := FQ.out.b5
  obtain ⟨h0, h1, h2, h3, h4, hf, zc⟩ := FP.out.b5
  obtain ⟨d0, d1, d2, d3, d4, df, zd⟩ := FA.out.b5
  obtain ⟨e0, e1, e2, e3, e4, ef, ze⟩ := FB.out.b5
  go_wp2_with fail
  refine (lsame ⟨i14, c14, H14, N14, S14⟩ ⟨i15, c15, H15, N15, S15⟩ u15 (RA.out.mono fun b hb => by show _ < (u15).heap.size; rcases hb with hb | hb <;> omega) (RB.out.mono fun b hb => by show _ < (u15).heap.size; rcases hb with hb | hb <;> omega) (hd14.out.trans hd15.out.symm)).mono ?_
  rintro e v16 ⟨rfl, hv16⟩
  have zhv16 := (hv16).size
  have FQ := Lib.hid (FQ.out.later hv16)
  have FP := Lib.hid (FP.out.later hv16)
  have FA := Lib.hid (FA.out.later hv16)
  have FB := Lib.hid (FB.out.later hv16)
  have RP := Lib.hid (RP.out.keep (fun b hb' => (hv16).block b (by omega)))
  have hV16 : Below w.heap.size w _ := below_via hv16 hV
  clear hv16 hV RA RB hd14 hd15
  clear a0 a1 a2 a3 a4 af h0 h1 h2 h3 h4 hf d0 d1 d2 d3 d4 df e0 e1 e2 e3 e4 ef
  obtain ⟨a0, a1, a2, a3, a4, af, za⟩ := FQ.out.b5
  obtain ⟨h0, h1, h2, h3, h4, hf, zc⟩ := FP.out.b5
  obtain ⟨d0, d1, d2, d3, d4, df, zd⟩ := FA.out.b5
  obtain ⟨e0, e1, e2, e3, e4, ef, ze⟩ := FB.out.b5
  generalize hL : (Phone.d ⟨id, cut, H, N, S⟩).promise k n t tx = rL2 at *
  go_wp2_with fail
  refine (phone_cut_s ⟨i2, c2, H2, N2, S2⟩ v16 (RP.out.mono fun b hb => by show _ < (v16).heap.size; omega)).mono ?_
  rintro e v17 ⟨⟨i17, c17, H17, N17, S17⟩, rfl, hd17, hr17, hv17⟩
  rw [HD2.out] at hd17 ⊢
  have hd17 := Lib.hid hd17
  have zv17 : v16.heap.size ≤ v17.heap.size := hv17.size
  clear a0 a1 a2 a3 a4 af h0 h1 h2 h3 h4 hf d0 d1 d2 d3 d4 df e0 e1 e2 e3 e4 ef
  have FQ := Lib.hid (FQ.out.later hv17)
  have FP := Lib.hid (FP.out.later hv17)
  have FA := Lib.hid (FA.out.later hv17)
  have FB := Lib.hid (FB.out.later hv17)
  have RP := Lib.hid (RP.out.keep (fun b hb' => (hv17).block b (by omega)))
  have hV17 : Below w.heap.size w _ := below_via hv17 hV16
  clear hv17 hV16
  simp only [Phone.v]
  obtain ⟨a0, a1, a2, a3, a4, af, za⟩ := FQ.out.b5
  obtain ⟨h0, h1, h2, h3, h4, hf, zc⟩ := FP.out.b5
  obtain ⟨d0, d1, d2, d3, d4, df, zd⟩ := FA.out.b5
  obtain ⟨e0, e1, e2, e3, e4, ef, ze⟩ := FB.out.b5
  go_wp2_with fail
  obtain ⟨u17, hu⟩ : ∃ z, z = store5 v17 w5.heap.size ⟨i17, c17, H17, N17, S17⟩ := ⟨_, rfl⟩
  rw [show (((((v17.setCell ⟨w5.heap.size, 0, none⟩ (.int .i64 i17)).setCell ⟨w5.heap.size, 1, none⟩ (.bool c17)).setCell ⟨w5.heap.size, 2, none⟩ (.slice H17.A H17.l.length H17.c)).setCell ⟨w5.heap.size, 3, none⟩ (.slice N17.A N17.l.length N17.c)).setCell ⟨w5.heap.size, 4, none⟩ (.slice S17.A S17.l.length S17.c)) = u17 from hu.symm]
  have RX : Hid (RdPhone (fun x => x < w4.heap.size ∨ (w6.heap.size < x ∧ x < v17.heap.size)) v17 ⟨i17, c17, H17, N17, S17⟩) := Lib.hid (by
    rcases hr17.out with h1 | h1
    · rw [h1]; exact RP.out.mono fun b hb => .inl hb
    · exact h1.mono fun b hb => .inr ⟨Nat.lt_of_lt_of_le (by omega) hb.1, hb.2⟩)
  have zu17a : v17.heap.size ≤ u17.heap.size := by rw [hu, st5_size]; exact Nat.le_refl _
  have zu17b : u17.heap.size ≤ v17.heap.size := by rw [hu, st5_size]; exact Nat.le_refl _
  have FQ : Hid (Blk u17 w.heap.size 26 #[.int .i64 id, .bool cut, .slice H.A H.l.length H.c, .slice N.A N.l.length N.c, .slice S.A S.l.length S.c]) := Lib.hid (by rw [hu]; exact Blk.st5f FQ.out (by omega))
  have FP : Hid (Blk u17 w4.heap.size 33 #[.int .i64 i2, .bool c2, .slice H2.A H2.l.length H2.c, .slice N2.A N2.l.length N2.c, .slice S2.A S2.l.length S2.c]) := Lib.hid (by rw [hu]; exact Blk.st5f FP.out (by omega))
  have RP : Hid (RdPhone (· < w4.heap.size) u17 ⟨i2, c2, H2, N2, S2⟩) := Lib.hid (by rw [hu]; exact RP.out.keep fun b hb => st5_block (by have hb' : b < w4.heap.size := hb; omega))
  have RA : Hid (RdPhone (fun x => x < w4.heap.size ∨ (w6.heap.size < x ∧ x < u17.heap.size)) u17 _) := Lib.hid ((RX.out.mono fun b hb => Or.imp (fun h => h) (fun h => And.intro h.1 (Nat.lt_of_lt_of_le h.2 zu17a)) hb).keep fun b hb => by rw [hu]; exact st5_block (by rcases hb with hb | hb <;> omega))
  have hV : Below w.heap.size w u17 := by rw [hu]; exact Below.st5 (by omega) hV17
  have FA : Hid (Blk u17 w5.heap.size 33 #[.int .i64 i17, .bool c17, .slice H17.A H17.l.length H17.c, .slice N17.A N17.l.length N17.c, .slice S17.A S17.l.length S17.c]) := Lib.hid (by rw [hu]; exact FA.out.st5)
  have FB : Hid (Blk u17 w6.heap.size 26 #[.int .i64 i15, .bool c15, .slice H15.A H15.l.length H15.c, .slice N15.A N15.l.length N15.c, .slice S15.A S15.l.length S15.c]) := Lib.hid (by rw [hu]; exact Blk.st5f FB.out (by omega))
  clear hu RX hr17 hV17
  clear a0 a1 a2 a3 a4 af h0 h1 h2 h3 h4 hf d0 d1 d2 d3 d4 df e0 e1 e2 e3 e4 ef
  refine (rcut ⟨id, cut, H, N, S⟩ u17 (HQ.out.later hV (Nat.le_refl _)) w.heap.size hV.size (HQ.out.keep fun b hb => hV.block b hb).2.1.2).mono ?_
  rintro e v18 ⟨⟨i18, c18, H18, N18, S18⟩, rfl, hd18, hr18, hv18⟩
  have hd18 := Lib.hid hd18
  have zv18 : u17.heap.size ≤ v18.heap.size := hv18.size
  have FQ := Lib.hid (FQ.out.later hv18)
  have FP := Lib.hid (FP.out.later hv18)
  have FA := Lib.hid (FA.out.later hv18)
  have FB := Lib.hid (FB.out.later hv18)
  have RP := Lib.hid (RP.out.keep (fun b hb' => (hv18).block b (by omega)))
  have hV18 : Below w.heap.size w _ := below_via hv18 hV
  have RA := Lib.hid (RA.out.keep fun b hb => (hv18).block b (by rcases hb with hb | hb <;> omega))
  clear hv18 hV
  simp only [Phone.v]
  obtain ⟨a0, a1, a2, a3, a4, af, za⟩ := FQ.out.b5
  obtain ⟨h0, h1, h2, h3, h4, hf, zc⟩ := FP.out.b5
  obtain ⟨d0, d1, d2, d3, d4, df, zd⟩ := FA.out.b5
  obtain ⟨e0, e1, e2, e3, e4, ef, ze⟩ := FB.out.b5
  go_wp2_with fail
  obtain ⟨u18, hu⟩ : ∃ z, z = store5 v18 w6.heap.size ⟨i18, c18, H18, N18, S18⟩ := ⟨_, rfl⟩
  rw [show (((((v18.setCell ⟨w6.heap.size, 0, none⟩ (.int .i64 i18)).setCell ⟨w6.heap.size, 1, none⟩ (.bool c18)).setCell ⟨w6.heap.size, 2, none⟩ (.slice H18.A H18.l.length H18.c)).setCell ⟨w6.heap.size, 3, none⟩ (.slice N18.A N18.l.length N18.c)).setCell ⟨w6.heap.size, 4, none⟩ (.slice S18.A S18.l.length S18.c)) = u18 from hu.symm]
  have RX : Hid (RdPhone (fun x => x < w4.heap.size ∨ (w6.heap.size < x ∧ x < v18.heap.size)) v18 ⟨i18, c18, H18, N18, S18⟩) := Lib.hid (by
    rcases hr18.out with h1 | h1
    · rw [h1]; exact (HQ.out.keep fun b hb => hV18.block b hb).mono fun b hb => .inl (Nat.lt_trans hb zP)
    · exact h1.mono fun b hb => hb.elim (fun h => .inl (Nat.lt_trans h zP)) fun h => .inr ⟨Nat.lt_of_lt_of_le (by omega) h.1, h.2⟩)
  have zu18a : v18.heap.size ≤ u18.heap.size := by rw [hu, st5_size]; exact Nat.le_refl _
  have zu18b : u18.heap.size ≤ v18.heap.size := by rw [hu, st5_size]; exact Nat.le_refl _
  have FQ : Hid (Blk u18 w.heap.size 26 #[.int .i64 id, .bool cut, .slice H.A H.l.length H.c, .slice N.A N.l.length N.c, .slice S.A S.l.length S.c]) := Lib.hid (by rw [hu]; exact Blk.st5f FQ.out (by omega))
  have FP : Hid (Blk u18 w4.heap.size 33 #[.int .i64 i2, .bool c2, .slice H2.A H2.l.length H2.c, .slice N2.A N2.l.length N2.c, .slice S2.A S2.l.length S2.c]) := Lib.hid (by rw [hu]; exact Blk.st5f FP.out (by omega))
  have RP : Hid (RdPhone (· < w4.heap.size) u18 ⟨i2, c2, H2, N2, S2⟩) := Lib.hid (by rw [hu]; exact RP.out.keep fun b hb => st5_block (by have hb' : b < w4.heap.size := hb; omega))
  have RB : Hid (RdPhone (fun x => x < w4.heap.size ∨ (w6.heap.size < x ∧ x < u18.heap.size)) u18 _) := Lib.hid ((RX.out.mono fun b hb => Or.imp (fun h => h) (fun h => And.intro h.1 (Nat.lt_of_lt_of_le h.2 zu18a)) hb).keep fun b hb => by rw [hu]; exact st5_block (by rcases hb with hb | hb <;> omega))
  have hV : Below w.heap.size w u18 := by rw [hu]; exact Below.st5 (by omega) hV18
  have RA : Hid (RdPhone (fun x => x < w4.heap.size ∨ (w6.heap.size < x ∧ x < u17.heap.size)) u18 ⟨i17, c17, H17, N17, S17⟩) := Lib.hid (by rw [hu]; exact RA.out.keep fun b hb => st5_block (by rcases hb with hb | hb <;> omega))
  have FB : Hid (Blk u18 w6.heap.size 26 #[.int .i64 i18, .bool c18, .slice H18.A H18.l.length H18.c, .slice N18.A N18.l.length N18.c, .slice S18.A S18.l.length S18.c]) := Lib.hid (by rw [hu]; exact FB.out.st5)
  have FA : Hid (Blk u18 w5.heap.size 33 #[.int .i64 i17, .bool c17, .slice H17.A H17.l.length H17.c, .slice N17.A N17.l.length N17.c, .slice S17.A S17.l.length S17.c]) := Lib.hid (by rw [hu]; exact Blk.st5f FA.out (by omega))
  clear hu RX hr18 hV18
  clear a0 a1 a2 a3 a4 af h0 h1 h2 h3 h4 hf d0 d1 d2 d3 d4 df e0 e1 e2 e3 e4 ef
  obtain ⟨a0, a1, a2, a3, a4, af, za⟩ := FQ.out.b5
  obtain ⟨h0, h1, h2, h3, h4, hf, zc⟩ := FP.out.b5
  obtain ⟨d0, d1, d2, d3, d4, df, zd⟩ := FA.out.b5
  obtain ⟨e0, e1, e2, e3, e4, ef, ze⟩ := FB.out.b5
  go_wp2_with fail
  refine (lsame ⟨i17, c17, H17, N17, S17⟩ ⟨i18, c18, H18, N18, S18⟩ u18 (RA.out.mono fun b hb => by show _ < (u18).heap.size; rcases hb with hb | hb <;> omega) (RB.out.mono fun b hb => by show _ < (u18).heap.size; rcases hb with hb | hb <;> omega) (hd17.out.trans hd18.out.symm)).mono ?_
  rintro e v19 ⟨rfl, hv19⟩
  have zhv19 := (hv19).size
  have FQ := Lib.hid (FQ.out.later hv19)
  have FP := Lib.hid (FP.out.later hv19)
  have FA := Lib.hid (FA.out.later hv19)
  have FB := Lib.hid (FB.out.later hv19)
  have RP := Lib.hid (RP.out.keep (fun b hb' => (hv19).block b (by omega)))
  have hV19 : Below w.heap.size w _ := below_via hv19 hV
  clear hv19 hV RA RB hd17 hd18
  clear a0 a1 a2 a3 a4 af h0 h1 h2 h3 h4 hf d0 d1 d2 d3 d4 df e0 e1 e2 e3 e4 ef
  obtain ⟨a0, a1, a2, a3, a4, af, za⟩ := FQ.out.b5
  obtain ⟨h0, h1, h2, h3, h4, hf, zc⟩ := FP.out.b5
  obtain ⟨d0, d1, d2, d3, d4, df, zd⟩ := FA.out.b5
  obtain ⟨e0, e1, e2, e3, e4, ef, ze⟩ := FB.out.b5
  generalize hL2 : (Phone.d ⟨id, cut, H, N, S⟩).cutS = rL3 at *
  go_wp2_with fail
  refine (phone_join ⟨i2, c2, H2, N2, S2⟩ ss sn v19 (RP.out.mono fun b hb => by show _ < v19.heap.size; omega) (HS.out.later hV19 (Nat.le_refl _)) ((Rd.keep HW.out fun b hb => hV19.block b hb).mono fun b hb => Nat.lt_of_lt_of_le hb hV19.size) (by omega)).mono ?_
  rintro e v20 ⟨⟨i20, c20, H20, N20, S20⟩, G20, M20, rfl, hd20, hs20, hn20, hr20, hv20⟩
  rw [HD2.out] at hd20 hs20 hn20 hr20 ⊢
  have hd20 := Lib.hid hd20
  have hs20 := Lib.hid hs20
  have hn20 := Lib.hid hn20
  have zv20 : v19.heap.size ≤ v20.heap.size := hv20.size
  clear a0 a1 a2 a3 a4 af h0 h1 h2 h3 h4 hf d0 d1 d2 d3 d4 df e0 e1 e2 e3 e4 ef
  have FQ := Lib.hid (FQ.out.later hv20)
  have FP := Lib.hid (FP.out.later hv20)
  have FA := Lib.hid (FA.out.later hv20)
  have FB := Lib.hid (FB.out.later hv20)
  have RP := Lib.hid (RP.out.keep (fun b hb' => (hv20).block b (by omega)))
  have hV20 : Below w.heap.size w _ := below_via hv20 hV19
  clear hv20 hV19
  simp only [Phone.v]
  obtain ⟨a0, a1, a2, a3, a4, af, za⟩ := FQ.out.b5
  obtain ⟨h0, h1, h2, h3, h4, hf, zc⟩ := FP.out.b5
  obtain ⟨d0, d1, d2, d3, d4, df, zd⟩ := FA.out.b5
  obtain ⟨e0, e1, e2, e3, e4, ef, ze⟩ := FB.out.b5
  go_wp2_with fail
  obtain ⟨u20, hu⟩ : ∃ z, z = store5 v20 w5.heap.size ⟨i20, c20, H20, N20, S20⟩ := ⟨_, rfl⟩
  rw [show (((((v20.setCell ⟨w5.heap.size, 0, none⟩ (.int .i64 i20)).setCell ⟨w5.heap.size, 1, none⟩ (.bool c20)).setCell ⟨w5.heap.size, 2, none⟩ (.slice H20.A H20.l.length H20.c)).setCell ⟨w5.heap.size, 3, none⟩ (.slice N20.A N20.l.length N20.c)).setCell ⟨w5.heap.size, 4, none⟩ (.slice S20.A S20.l.length S20.c)) = u20 from hu.symm]
  have RX : Hid (RdPhone (fun x => x < w4.heap.size ∨ (w6.heap.size < x ∧ x < v20.heap.size)) v20 ⟨i20, c20, H20, N20, S20⟩) := Lib.hid (by
    rcases hr20.out with h1 | h1
    · rw [h1.2.1]; exact RP.out.mono fun b hb => .inl hb
    · exact h1.2.1.mono fun b hb => .inr ⟨Nat.lt_of_lt_of_le (by omega) hb.1, hb.2⟩)
  have GX : Hid (RdStocks (fun x => x < w4.heap.size ∨ (w6.heap.size < x ∧ x < v20.heap.size)) v20 G20) := Lib.hid (by
    rcases hr20.out with h1 | h1
    · rw [h1.2.2.1]; exact (HS.out.keep fun b hb => hV20.block b hb).mono fun b hb => .inl (Nat.lt_trans hb zP)
    · exact h1.2.2.1.mono fun b hb => .inr ⟨Nat.lt_of_lt_of_le (by omega) hb.1, hb.2⟩)
  have MX : Hid (RdNotes (fun x => x < w4.heap.size ∨ (w6.heap.size < x ∧ x < v20.heap.size)) v20 M20) := Lib.hid (by
    rcases hr20.out with h1 | h1
    · rw [h1.2.2.2]; exact ⟨Rd.nil _ _ _ _, by intro y hy; cases hy⟩
    · exact h1.2.2.2.mono fun b hb => .inr ⟨Nat.lt_of_lt_of_le (by omega) hb.1, hb.2⟩)
  have zu20a : v20.heap.size ≤ u20.heap.size := by rw [hu, st5_size]; exact Nat.le_refl _
  have zu20b : u20.heap.size ≤ v20.heap.size := by rw [hu, st5_size]; exact Nat.le_refl _
  have FQ : Hid (Blk u20 w.heap.size 26 #[.int .i64 id, .bool cut, .slice H.A H.l.length H.c, .slice N.A N.l.length N.c, .slice S.A S.l.length S.c]) := Lib.hid (by rw [hu]; exact Blk.st5f FQ.out (by omega))
  have FP : Hid (Blk u20 w4.heap.size 33 #[.int .i64 i2, .bool c2, .slice H2.A H2.l.length H2.c, .slice N2.A N2.l.length N2.c, .slice S2.A S2.l.length S2.c]) := Lib.hid (by rw [hu]; exact Blk.st5f FP.out (by omega))
  have RP : Hid (RdPhone (· < w4.heap.size) u20 ⟨i2, c2, H2, N2, S2⟩) := Lib.hid (by rw [hu]; exact RP.out.keep fun b hb => st5_block (by have hb' : b < w4.heap.size := hb; omega))
  have RA : Hid (RdPhone (fun x => x < w4.heap.size ∨ (w6.heap.size < x ∧ x < u20.heap.size)) u20 _) := Lib.hid ((RX.out.mono fun b hb => Or.imp (fun h => h) (fun h => And.intro h.1 (Nat.lt_of_lt_of_le h.2 zu20a)) hb).keep fun b hb => by rw [hu]; exact st5_block (by rcases hb with hb | hb <;> omega))
  have hV : Below w.heap.size w u20 := by rw [hu]; exact Below.st5 (by omega) hV20
  have GA : Hid (RdStocks (fun x => x < w4.heap.size ∨ (w6.heap.size < x ∧ x < u20.heap.size)) u20 G20) := Lib.hid ((GX.out.mono fun b hb => Or.imp (fun h => h) (fun h => And.intro h.1 (Nat.lt_of_lt_of_le h.2 zu20a)) hb).keep fun b hb => by rw [hu]; exact st5_block (by rcases hb with hb | hb <;> omega))
  have MA : Hid (RdNotes (fun x => x < w4.heap.size ∨ (w6.heap.size < x ∧ x < u20.heap.size)) u20 M20) := Lib.hid ((MX.out.mono fun b hb => Or.imp (fun h => h) (fun h => And.intro h.1 (Nat.lt_of_lt_of_le h.2 zu20a)) hb).keep fun b hb => by rw [hu]; exact st5_block (by rcases hb with hb | hb <;> omega))
  have FA : Hid (Blk u20 w5.heap.size 33 #[.int .i64 i20, .bool c20, .slice H20.A H20.l.length H20.c, .slice N20.A N20.l.length N20.c, .slice S20.A S20.l.length S20.c]) := Lib.hid (by rw [hu]; exact FA.out.st5)
  have FB : Hid (Blk u20 w6.heap.size 26 #[.int .i64 i18, .bool c18, .slice H18.A H18.l.length H18.c, .slice N18.A N18.l.length N18.c, .slice S18.A S18.l.length S18.c]) := Lib.hid (by rw [hu]; exact Blk.st5f FB.out (by omega))
  clear hu RX GX MX hr20 hV20
  clear a0 a1 a2 a3 a4 af h0 h1 h2 h3 h4 hf d0 d1 d2 d3 d4 df e0 e1 e2 e3 e4 ef
  refine (rjoin ⟨id, cut, H, N, S⟩ ss sn u20 (HQ.out.later hV (Nat.le_refl _)) (HS.out.later hV (Nat.le_refl _)) ((Rd.keep HW.out fun b hb => hV.block b hb).mono fun b hb => Nat.lt_of_lt_of_le hb hV.size) (by omega) w.heap.size hV.size (HQ.out.keep fun b hb => hV.block b hb).2.1.2 (HS.out.keep fun b hb => hV.block b hb).2).mono ?_
  rintro e v21 ⟨⟨i21, c21, H21, N21, S21⟩, G21, M21, rfl, hd21, hs21, hn21, hr21, hv21⟩
  have hd21 := Lib.hid hd21
  have hs21 := Lib.hid hs21
  have hn21 := Lib.hid hn21
  have zv21 : u20.heap.size ≤ v21.heap.size := hv21.size
  have FQ := Lib.hid (FQ.out.later hv21)
  have FP := Lib.hid (FP.out.later hv21)
  have FA := Lib.hid (FA.out.later hv21)
  have FB := Lib.hid (FB.out.later hv21)
  have RP := Lib.hid (RP.out.keep (fun b hb' => (hv21).block b (by omega)))
  have hV21 : Below w.heap.size w _ := below_via hv21 hV
  have RA := Lib.hid (RA.out.keep fun b hb => (hv21).block b (by rcases hb with hb | hb <;> omega))
  have GA := Lib.hid (GA.out.keep fun b hb => (hv21).block b (by rcases hb with hb | hb <;> omega))
  have MA := Lib.hid (MA.out.keep fun b hb => (hv21).block b (by rcases hb with hb | hb <;> omega))
  clear hv21 hV
  simp only [Phone.v]
  obtain ⟨a0, a1, a2, a3, a4, af, za⟩ := FQ.out.b5
  obtain ⟨h0, h1, h2, h3, h4, hf, zc⟩ := FP.out.b5
  obtain ⟨d0, d1, d2, d3, d4, df, zd⟩ := FA.out.b5
  obtain ⟨e0, e1, e2, e3, e4, ef, ze⟩ := FB.out.b5
  go_wp2_with fail
  obtain ⟨u21, hu⟩ : ∃ z, z = store5 v21 w6.heap.size ⟨i21, c21, H21, N21, S21⟩ := ⟨_, rfl⟩
  rw [show (((((v21.setCell ⟨w6.heap.size, 0, none⟩ (.int .i64 i21)).setCell ⟨w6.heap.size, 1, none⟩ (.bool c21)).setCell ⟨w6.heap.size, 2, none⟩ (.slice H21.A H21.l.length H21.c)).setCell ⟨w6.heap.size, 3, none⟩ (.slice N21.A N21.l.length N21.c)).setCell ⟨w6.heap.size, 4, none⟩ (.slice S21.A S21.l.length S21.c)) = u21 from hu.symm]
  have RX : Hid (RdPhone (fun x => x < w4.heap.size ∨ (w6.heap.size < x ∧ x < v21.heap.size)) v21 ⟨i21, c21, H21, N21, S21⟩) := Lib.hid (by
    rcases hr21.out with h1 | h1
    · rw [h1.1]; exact (HQ.out.keep fun b hb => hV21.block b hb).mono fun b hb => .inl (Nat.lt_trans hb zP)
    · exact h1.1.mono fun b hb => hb.elim (fun h => .inl (Nat.lt_trans h zP)) fun h => .inr ⟨Nat.lt_of_lt_of_le (by omega) h.1, h.2⟩)
  have GX : Hid (RdStocks (fun x => x < w4.heap.size ∨ (w6.heap.size < x ∧ x < v21.heap.size)) v21 G21) := Lib.hid (by
    rcases hr21.out with h1 | h1
    · rw [h1.2.1]; exact (HS.out.keep fun b hb => hV21.block b hb).mono fun b hb => .inl (Nat.lt_trans hb zP)
    · exact h1.2.1.mono fun b hb => hb.elim (fun h => .inl (Nat.lt_trans h zP)) fun h => .inr ⟨Nat.lt_of_lt_of_le (by omega) h.1, h.2⟩)
  have MX : Hid (RdNotes (fun x => x < w4.heap.size ∨ (w6.heap.size < x ∧ x < v21.heap.size)) v21 M21) := Lib.hid (by
    rcases hr21.out with h1 | h1
    · rw [h1.2.2]; exact ⟨Rd.nil _ _ _ _, by intro y hy; cases hy⟩
    · exact h1.2.2.mono fun b hb => hb.elim (fun h => .inl (Nat.lt_trans h zP)) fun h => .inr ⟨Nat.lt_of_lt_of_le (by omega) h.1, h.2⟩)
  have zu21a : v21.heap.size ≤ u21.heap.size := by rw [hu, st5_size]; exact Nat.le_refl _
  have zu21b : u21.heap.size ≤ v21.heap.size := by rw [hu, st5_size]; exact Nat.le_refl _
  have FQ : Hid (Blk u21 w.heap.size 26 #[.int .i64 id, .bool cut, .slice H.A H.l.length H.c, .slice N.A N.l.length N.c, .slice S.A S.l.length S.c]) := Lib.hid (by rw [hu]; exact Blk.st5f FQ.out (by omega))
  have FP : Hid (Blk u21 w4.heap.size 33 #[.int .i64 i2, .bool c2, .slice H2.A H2.l.length H2.c, .slice N2.A N2.l.length N2.c, .slice S2.A S2.l.length S2.c]) := Lib.hid (by rw [hu]; exact Blk.st5f FP.out (by omega))
  have RP : Hid (RdPhone (· < w4.heap.size) u21 ⟨i2, c2, H2, N2, S2⟩) := Lib.hid (by rw [hu]; exact RP.out.keep fun b hb => st5_block (by have hb' : b < w4.heap.size := hb; omega))
  have RB : Hid (RdPhone (fun x => x < w4.heap.size ∨ (w6.heap.size < x ∧ x < u21.heap.size)) u21 _) := Lib.hid ((RX.out.mono fun b hb => Or.imp (fun h => h) (fun h => And.intro h.1 (Nat.lt_of_lt_of_le h.2 zu21a)) hb).keep fun b hb => by rw [hu]; exact st5_block (by rcases hb with hb | hb <;> omega))
  have hV : Below w.heap.size w u21 := by rw [hu]; exact Below.st5 (by omega) hV21
  have GB : Hid (RdStocks (fun x => x < w4.heap.size ∨ (w6.heap.size < x ∧ x < u21.heap.size)) u21 G21) := Lib.hid ((GX.out.mono fun b hb => Or.imp (fun h => h) (fun h => And.intro h.1 (Nat.lt_of_lt_of_le h.2 zu21a)) hb).keep fun b hb => by rw [hu]; exact st5_block (by rcases hb with hb | hb <;> omega))
  have MB : Hid (RdNotes (fun x => x < w4.heap.size ∨ (w6.heap.size < x ∧ x < u21.heap.size)) u21 M21) := Lib.hid ((MX.out.mono fun b hb => Or.imp (fun h => h) (fun h => And.intro h.1 (Nat.lt_of_lt_of_le h.2 zu21a)) hb).keep fun b hb => by rw [hu]; exact st5_block (by rcases hb with hb | hb <;> omega))
  have GA : Hid (RdStocks (fun x => x < w4.heap.size ∨ (w6.heap.size < x ∧ x < u20.heap.size)) u21 G20) := Lib.hid (by rw [hu]; exact GA.out.keep fun b hb => st5_block (by rcases hb with hb | hb <;> omega))
  have MA : Hid (RdNotes (fun x => x < w4.heap.size ∨ (w6.heap.size < x ∧ x < u20.heap.size)) u21 M20) := Lib.hid (by rw [hu]; exact MA.out.keep fun b hb => st5_block (by rcases hb with hb | hb <;> omega))
  have RA : Hid (RdPhone (fun x => x < w4.heap.size ∨ (w6.heap.size < x ∧ x < u20.heap.size)) u21 ⟨i20, c20, H20, N20, S20⟩) := Lib.hid (by rw [hu]; exact RA.out.keep fun b hb => st5_block (by rcases hb with hb | hb <;> omega))
  have FB : Hid (Blk u21 w6.heap.size 26 #[.int .i64 i21, .bool c21, .slice H21.A H21.l.length H21.c, .slice N21.A N21.l.length N21.c, .slice S21.A S21.l.length S21.c]) := Lib.hid (by rw [hu]; exact FB.out.st5)
  have FA : Hid (Blk u21 w5.heap.size 33 #[.int .i64 i20, .bool c20, .slice H20.A H20.l.length H20.c, .slice N20.A N20.l.length N20.c, .slice S20.A S20.l.length S20.c]) := Lib.hid (by rw [hu]; exact Blk.st5f FA.out (by omega))
  clear hu RX GX MX hr21 hV21
  clear a0 a1 a2 a3 a4 af h0 h1 h2 h3 h4 hf d0 d1 d2 d3 d4 df e0 e1 e2 e3 e4 ef
  obtain ⟨a0, a1, a2, a3, a4, af, za⟩ := FQ.out.b5
  obtain ⟨h0, h1, h2, h3, h4, hf, zc⟩ := FP.out.b5
  obtain ⟨d0, d1, d2, d3, d4, df, zd⟩ := FA.out.b5
  obtain ⟨e0, e1, e2, e3, e4, ef, ze⟩ := FB.out.b5
  go_wp2_with fail
  refine (lsame ⟨i20, c20, H20, N20, S20⟩ ⟨i21, c21, H21, N21, S21⟩ u21 (RA.out.mono fun b hb => by show _ < (u21).heap.size; rcases hb with hb | hb <;> omega) (RB.out.mono fun b hb => by show _ < (u21).heap.size; rcases hb with hb | hb <;> omega) (hd20.out.trans hd21.out.symm)).mono ?_
  rintro e v22 ⟨rfl, hv22⟩
  have zhv22 := (hv22).size
  have FQ := Lib.hid (FQ.out.later hv22)
  have FP := Lib.hid (FP.out.later hv22)
  have FA := Lib.hid (FA.out.later hv22)
  have FB := Lib.hid (FB.out.later hv22)
  have RP := Lib.hid (RP.out.keep (fun b hb' => (hv22).block b (by omega)))
  have hV22 : Below w.heap.size w _ := below_via hv22 hV
  have GA := Lib.hid (GA.out.keep fun b hb => (hv22).block b (by rcases hb with hb | hb <;> omega))
  have GB := Lib.hid (GB.out.keep fun b hb => (hv22).block b (by rcases hb with hb | hb <;> omega))
  have MA := Lib.hid (MA.out.keep fun b hb => (hv22).block b (by rcases hb with hb | hb <;> omega))
  have MB := Lib.hid (MB.out.keep fun b hb => (hv22).block b (by rcases hb with hb | hb <;> omega))
  clear hv22 hV RA RB hd20 hd21
  clear a0 a1 a2 a3 a4 af h0 h1 h2 h3 h4 hf d0 d1 d2 d3 d4 df e0 e1 e2 e3 e4 ef
  obtain ⟨a0, a1, a2, a3, a4, af, za⟩ := FQ.out.b5
  obtain ⟨h0, h1, h2, h3, h4, hf, zc⟩ := FP.out.b5
  obtain ⟨d0, d1, d2, d3, d4, df, zd⟩ := FA.out.b5
  obtain ⟨e0, e1, e2, e3, e4, ef, ze⟩ := FB.out.b5
  generalize hL3 : (Phone.d ⟨id, cut, H, N, S⟩).join (ss.l.map Stock.d) sn.l = rL4 at *
  have heq : ∀ z : Int, (z == z) = true := fun z => by simp
  go_wp2_with fail
  refine (rstocks G20 G21 v22 (GA.out.mono fun b hb => by show _ < (v22).heap.size; rcases hb with hb | hb <;> omega) (GB.out.mono fun b hb => by show _ < (v22).heap.size; rcases hb with hb | hb <;> omega)).mono ?_
  rintro e v23 ⟨rfl, hv23⟩
  rw [show decide (G20.l.map Stock.d = G21.l.map Stock.d) = true from decide_eq_true (hs20.out.trans hs21.out.symm)]
  have zv23 : v22.heap.size ≤ v23.heap.size := hv23.size
  have FQ := Lib.hid (FQ.out.later hv23)
  have FP := Lib.hid (FP.out.later hv23)
  have FA := Lib.hid (FA.out.later hv23)
  have FB := Lib.hid (FB.out.later hv23)
  have RP := Lib.hid (RP.out.keep (fun b hb' => (hv23).block b (by omega)))
  have hV23 : Below w.heap.size w _ := below_via hv23 hV22
  have MA := Lib.hid (MA.out.keep fun b hb => (hv23).block b (by rcases hb with hb | hb <;> omega))
  have MB := Lib.hid (MB.out.keep fun b hb => (hv23).block b (by rcases hb with hb | hb <;> omega))
  clear hv23 GA GB hs20 hs21
  clear a0 a1 a2 a3 a4 af h0 h1 h2 h3 h4 hf d0 d1 d2 d3 d4 df e0 e1 e2 e3 e4 ef
  obtain ⟨a0, a1, a2, a3, a4, af, za⟩ := FQ.out.b5
  obtain ⟨h0, h1, h2, h3, h4, hf, zc⟩ := FP.out.b5
  obtain ⟨d0, d1, d2, d3, d4, df, zd⟩ := FA.out.b5
  obtain ⟨e0, e1, e2, e3, e4, ef, ze⟩ := FB.out.b5
  go_wp2_with fail
  refine (rlists M20 M21 v23 (MA.out.mono fun b hb => by show _ < (v23).heap.size; rcases hb with hb | hb <;> omega) (MB.out.mono fun b hb => by show _ < (v23).heap.size; rcases hb with hb | hb <;> omega)).mono ?_
  rintro e v24 ⟨rfl, hv24⟩
  rw [hn20.out, hn21.out, listsN_refl]
  have hV24 : Below w.heap.size w v24 := below_via hv24 hV23
  clear a0 a1 a2 a3 a4 af h0 h1 h2 h3 h4 hf d0 d1 d2 d3 d4 df e0 e1 e2 e3 e4 ef
  clear hL hL2 hL3
  go_wp2_with fail
  go_ret
  exact ⟨rfl, qbv⟩
end Go.Proofs.Ythnblhbdfpmolaa
