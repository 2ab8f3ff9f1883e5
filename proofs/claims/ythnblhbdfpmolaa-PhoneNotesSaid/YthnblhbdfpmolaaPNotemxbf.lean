/- Walks of the helpers of the laws of layer 43: the small examples, walked. -/
import Derived.Test.YthnblhbdfpmolaaPNotemxbe
namespace Go.Proofs.Ythnblhbdfpmolaa
open Go.RowKit
theorem rd_lit1 {W : World} {g : Nat} (x : Stock) (hg : g = W.heap.size) (hL : Rd (· < W.heap.size) 3 Loan.enc W x.L) :
    RdStocks (· < (W.alloc (.cells #[.int .i64 x.T, .int .i64 x.U, .slice x.L.A x.L.l.length x.L.c] 66)).heap.size) (W.alloc (.cells #[.int .i64 x.T, .int .i64 x.U, .slice x.L.A x.L.l.length x.L.c] 66)) ⟨some ⟨g, 0, none⟩, 1, [x]⟩ := by
  subst hg
  refine ⟨((Own.lit (base := 0) (enc := Stock.enc) W _ [x] (Nat.zero_le _) (by simp [maxLen]) rfl Stock.k).rd Stock.k).mono (fun b hb => hb.2), fun y hy => ?_⟩
  rcases List.mem_singleton.1 hy with rfl
  exact hL.lt_alloc _
theorem rd_zeros {W : World} {g : Nat} (hg : g = W.heap.size) :
    Rd (· < (W.alloc (.cells (Array.replicate 12 (.int .i64 0)) 3)).heap.size) 1 ienc (W.alloc (.cells (Array.replicate 12 (.int .i64 0)) 3)) ⟨some ⟨g, 0, none⟩, 12, List.replicate 12 0⟩ := by
  subst hg
  exact ((Own.lit (base := 0) (enc := ienc) W (Array.replicate 12 (.int .i64 0)) (List.replicate 12 (0 : Int)) (Nat.zero_le _) (by simp [maxLen]) rfl ienc_k).rd ienc_k).mono (fun b hb => hb.2)
theorem rd1_len {l : List Stock} {d : StockD} (h : l.map Stock.d = [d]) : ∃ x, l = [x] ∧ x.d = d := by
  rcases l with _ | ⟨x, _ | ⟨y, r⟩⟩
  · simp at h
  · exact ⟨x, rfl, by simpa using h⟩
  · simp at h
set_option maxRecDepth 20000 in
set_option maxHeartbeats 4000000 in
theorem small43 (w : World) : Calls Try.prog 12 #[] w fun e w' => e = .returned (.bool true) ∧ Below w.heap.size w w' := by
  go_enter Try.func12, Try.ntmps12
  go_wp2_with fail
  refine (phone_new 3 _).mono ?_
  rintro e w1 ⟨⟨i1, c1, H1, N1, S1⟩, rfl, hd1, hr1, hb1⟩
  have z1 : w.heap.size ≤ w1.heap.size := hb1.size
  rw [sm_new] at hd1
  rw [sm_new]
  have HD1 := Lib.hid hd1
  have HR1 := Lib.hid hr1
  clear hd1 hr1
  simp only [Phone.v]
  go_wp2_with fail
  refine (phone_lend ⟨i1, c1, H1, N1, S1⟩ ⟨some ⟨w1.heap.size + 1, 0, none⟩, 1, [⟨10, 0, ⟨none, 0, []⟩⟩]⟩ 0 6 _ (HR1.out.later (by repeat (first | (with_reducible exact Below.refl _ _) | ((with_reducible refine below_setr ?_ ?_); focus (first | (simp; done) | (simp; omega) | omega)) | ((with_reducible refine below_allocr ?_ ?_); focus (first | (simp; done) | (simp; omega) | omega)) | (with_reducible refine Below.drew ?_) | (with_reducible refine below_drewN ?_ _) | ((with_reducible apply below_via); focus (with_reducible assumption)))) (Nat.le_refl _)) (rd_lit1 ⟨10, 0, ⟨none, 0, []⟩⟩ (by simp) (Rd.nil _ _ _ _)) (by simp)).mono ?_
  rintro e w2 ⟨⟨i2, c2, H2, N2, S2⟩, ⟨sA, sc, sl⟩, rfl, hd2, hs2, hr2, ht2, hb2⟩
  have z2 : w1.heap.size < w2.heap.size := by have := hb2.size; simp at this; omega
  rw [HD1.out] at hd2 hs2
  rw [HD1.out]
  simp only [List.map_cons, List.map_nil, Stock.d, sm_lend] at hd2 hs2
  simp only [List.map_cons, List.map_nil, Stock.d, sm_lend]
  obtain ⟨x2, rfl, hx2⟩ := rd1_len hs2
  have HD2 := Lib.hid hd2
  have HX2 := Lib.hid hx2
  have HR2 := Lib.hid hr2
  have HT2 := Lib.hid ht2
  clear hd2 hs2 hx2 hr2 ht2
  simp only [Phone.v]
  go_wp2_with fail
  refine (phone_cut ⟨i2, c2, H2, N2, S2⟩ _ (HR2.out.later (by repeat (first | (with_reducible exact Below.refl _ _) | ((with_reducible refine below_setr ?_ ?_); focus (first | (simp; done) | (simp; omega) | omega)) | ((with_reducible refine below_allocr ?_ ?_); focus (first | (simp; done) | (simp; omega) | omega)) | (with_reducible refine Below.drew ?_) | (with_reducible refine below_drewN ?_ _) | ((with_reducible apply below_via); focus (with_reducible assumption)))) (Nat.le_refl _))).mono ?_
  rintro e w3 ⟨⟨i3, c3, H3, N3, S3⟩, rfl, hd3, hr3, hb3⟩
  have z3 : w2.heap.size < w3.heap.size := by have := hb3.size; simp at this; omega
  rw [HD2.out, sm_cut] at hd3
  rw [HD2.out, sm_cut]
  have HD3 := Lib.hid hd3
  have HR3 := Lib.hid hr3
  clear hd3 hr3
  simp only [Phone.v]
  go_wp2_with fail
  refine (phone_promise ⟨i3, c3, H3, N3, S3⟩ 0 4 100 nB _ (HR3.out.later (by repeat (first | (with_reducible exact Below.refl _ _) | ((with_reducible refine below_setr ?_ ?_); focus (first | (simp; done) | (simp; omega) | omega)) | ((with_reducible refine below_allocr ?_ ?_); focus (first | (simp; done) | (simp; omega) | omega)) | (with_reducible refine Below.drew ?_) | (with_reducible refine below_drewN ?_ _) | ((with_reducible apply below_via); focus (with_reducible assumption)))) (Nat.le_refl _))).mono ?_
  rintro e w4 ⟨⟨i4, c4, H4, N4, S4⟩, rfl, hd4, hr4, hb4⟩
  have z4 : w3.heap.size < w4.heap.size := by have := hb4.size; simp at this; omega
  rw [HD3.out, sm_pro1] at hd4
  rw [HD3.out, sm_pro1]
  have HD4 := Lib.hid hd4
  have HR4 := Lib.hid hr4
  clear hd4 hr4
  simp only [Phone.v]
  go_wp2_with fail
  refine (phone_promise ⟨i4, c4, H4, N4, S4⟩ 0 3 101 nB _ (HR4.out.later (by repeat (first | (with_reducible exact Below.refl _ _) | ((with_reducible refine below_setr ?_ ?_); focus (first | (simp; done) | (simp; omega) | omega)) | ((with_reducible refine below_allocr ?_ ?_); focus (first | (simp; done) | (simp; omega) | omega)) | (with_reducible refine Below.drew ?_) | (with_reducible refine below_drewN ?_ _) | ((with_reducible apply below_via); focus (with_reducible assumption)))) (Nat.le_refl _))).mono ?_
  rintro e w5 ⟨⟨i5, c5, H5, N5, S5⟩, rfl, _, _, hb5⟩
  have z5 : w4.heap.size < w5.heap.size := by have := hb5.size; simp at this; omega
  rw [HD4.out, sm_pro2]
  simp only [Phone.v]
  have K_a : Blk _ (w4.heap.size) 33 #[.int .i64 i4, .bool c4, .slice H4.A H4.l.length H4.c, .slice N4.A N4.l.length N4.c, .slice S4.A S4.l.length S4.c] := qkb hb5
  obtain ⟨a0, a1, a2, a3, a4, af, az⟩ := Blk.b5 K_a
  have B_a := Lib.hid K_a
  clear K_a
  go_wp2_with fail
  refine (phone_promise ⟨i4, c4, H4, N4, S4⟩ 0 2 99 nB _ (HR4.out.later (by repeat (first | (with_reducible exact Below.refl _ _) | ((with_reducible refine below_setr ?_ ?_); focus (first | (simp; done) | (simp; omega) | omega)) | ((with_reducible refine below_allocr ?_ ?_); focus (first | (simp; done) | (simp; omega) | omega)) | (with_reducible refine Below.drew ?_) | (with_reducible refine below_drewN ?_ _) | ((with_reducible apply below_via); focus (with_reducible assumption)))) (Nat.le_refl _))).mono ?_
  rintro e w6 ⟨⟨i6, c6, H6, N6, S6⟩, rfl, _, _, hb6⟩
  have z6 : w5.heap.size < w6.heap.size := by have := hb6.size; simp at this; omega
  rw [HD4.out, sm_pro3]
  simp only [Phone.v]
  clear a0 a1 a2 a3 a4 af
  have K_a : Blk _ (w4.heap.size) 33 #[.int .i64 i4, .bool c4, .slice H4.A H4.l.length H4.c, .slice N4.A N4.l.length N4.c, .slice S4.A S4.l.length S4.c] := qkc B_a hb6
  obtain ⟨a0, a1, a2, a3, a4, af, az⟩ := Blk.b5 K_a
  have B_a := Lib.hid K_a
  clear K_a
  have hb26 : Below w2.heap.size w2 w6 := (by repeat (first | (with_reducible exact Below.refl _ _) | ((with_reducible refine below_setr ?_ ?_); focus (first | (simp; done) | (simp; omega) | omega)) | ((with_reducible refine below_allocr ?_ ?_); focus (first | (simp; done) | (simp; omega) | omega)) | (with_reducible refine Below.drew ?_) | (with_reducible refine below_drewN ?_ _) | ((with_reducible apply below_via); focus (with_reducible assumption))))
  obtain ⟨bb, oo, hA, hbF, hcl⟩ := (HT2.out.later hb26 (Nat.le_refl _)).1.at1 (i := 0) (by simp)
  simp only at hA
  subst hA
  obtain ⟨g0, g1, g2⟩ := Cells.c3 hcl
  have G0 := Lib.hid g0
  have G1 := Lib.hid g1
  have G2 := Lib.hid g2
  simp only [List.getElem_cons_zero, Nat.zero_mul, Nat.add_zero] at g0 g1 g2
  have HT6 := Lib.hid (HT2.out.later hb26 (Nat.le_refl _))
  clear hcl
  go_wp2_with fail
  obtain ⟨x2T, x2U, x2L⟩ := x2
  have hx2 := HX2.out
  simp only [Stock.d, StockD.mk.injEq] at hx2
  obtain ⟨e1, e2, e3⟩ := hx2
  subst e1 e2
  have HX2L := Lib.hid e3
  clear e3
  have HL6 : Hid (Rd (· < w6.heap.size) 3 Loan.enc w6 x2L) := Lib.hid (HT6.out.2 _ (List.mem_singleton.2 rfl))
  have l12 : x2L.l.length * 24 ≤ 140737488355328 := by rw [HX2L.out]; decide
  refine (stock_take ⟨10, 0, x2L⟩ 5 _ (HL6.out.below' (by repeat (first | (with_reducible exact Below.refl _ _) | ((with_reducible refine below_setr ?_ ?_); focus (first | (simp; done) | (simp; omega) | omega)) | ((with_reducible refine below_allocr ?_ ?_); focus (first | (simp; done) | (simp; omega) | omega)) | (with_reducible refine Below.drew ?_) | (with_reducible refine below_drewN ?_ _) | ((with_reducible apply below_via); focus (with_reducible assumption)))) (Nat.le_refl _)) l12).mono ?_
  rintro e w7 ⟨A7, c7, rfl, hown7, hb7⟩
  have hs7 : (StockD.take (Stock.d ⟨10, 0, x2L⟩) 5).2 = 21 := by simp only [Stock.d, HX2L.out]; rfl
  rw [hs7]
  clear hs7 hown7
  have z7 : w6.heap.size < w7.heap.size := by have := hb7.size; simp at this; omega
  clear a0 a1 a2 a3 a4 af
  have K_a : Blk _ (w4.heap.size) 33 #[.int .i64 i4, .bool c4, .slice H4.A H4.l.length H4.c, .slice N4.A N4.l.length N4.c, .slice S4.A S4.l.length S4.c] := qkc B_a hb7
  obtain ⟨a0, a1, a2, a3, a4, af, az⟩ := Blk.b5 K_a
  have B_a := Lib.hid K_a
  clear K_a
  have hb67 : Below w6.heap.size w6 w7 := (by repeat (first | (with_reducible exact Below.refl _ _) | ((with_reducible refine below_setr ?_ ?_); focus (first | (simp; done) | (simp; omega) | omega)) | ((with_reducible refine below_allocr ?_ ?_); focus (first | (simp; done) | (simp; omega) | omega)) | (with_reducible refine Below.drew ?_) | (with_reducible refine below_drewN ?_ _) | ((with_reducible apply below_via); focus (with_reducible assumption))))
  have k0 := keep_cell hb67 g0
  have k1 := keep_cell hb67 g1
  have k2 := keep_cell hb67 g2
  clear g0 g1 g2 G0 G1 G2
  have hbF7 : bb < w7.heap.size := by omega
  go_wp2_with fail
  refine (stock_take ⟨10, 0, x2L⟩ 4 _ (HL6.out.below' (by repeat (first | (with_reducible exact Below.refl _ _) | ((with_reducible refine below_setr ?_ ?_); focus (first | (simp; done) | (simp; omega) | omega)) | ((with_reducible refine below_allocr ?_ ?_); focus (first | (simp; done) | (simp; omega) | omega)) | (with_reducible refine Below.drew ?_) | (with_reducible refine below_drewN ?_ _) | ((with_reducible apply below_via); focus (with_reducible assumption)))) (Nat.le_refl _)) l12).mono ?_
  rintro e w8 ⟨A8, c8, rfl, hown8, hb8⟩
  have hs8 : (StockD.take (Stock.d ⟨10, 0, x2L⟩) 4) = (⟨10, 4, [⟨3, 6, 0⟩]⟩, 0) := by simp only [Stock.d, HX2L.out]; rfl
  rw [hs8]
  have hRd8 := (hown8.rd Loan.k).mono (G := fun b => b < w8.heap.size) (fun b hb => hb.2)
  rw [HX2L.out] at hRd8
  have HRd8 := Lib.hid hRd8
  clear hs8 hown8 hRd8
  have z8 : w7.heap.size < w8.heap.size := by have := hb8.size; simp at this; omega
  clear a0 a1 a2 a3 a4 af k0 k1 k2
  have K_a : Blk _ (w4.heap.size) 33 #[.int .i64 i4, .bool c4, .slice H4.A H4.l.length H4.c, .slice N4.A N4.l.length N4.c, .slice S4.A S4.l.length S4.c] := qkc B_a hb8
  obtain ⟨a0, a1, a2, a3, a4, af, az⟩ := Blk.b5 K_a
  have B_a := Lib.hid K_a
  clear K_a
  have hlx : x2L.l.length = 1 := by rw [HX2L.out]; rfl
  rw [hlx]
  clear hlx
  have hbF8 : bb < w8.heap.size := by omega
  go_wp2_with fail
  clear hb26 hb67
  have hb8W : Below w8.heap.size w8 (w8.alloc (.cells #[.int .i64 10, .int .i64 4, .slice A8 1 c8] 66)) := (by repeat (first | (with_reducible exact Below.refl _ _) | ((with_reducible refine below_setr ?_ ?_); focus (first | (simp; done) | (simp; omega) | omega)) | ((with_reducible refine below_allocr ?_ ?_); focus (first | (simp; done) | (simp; omega) | omega)) | (with_reducible refine Below.drew ?_) | (with_reducible refine below_drewN ?_ _) | ((with_reducible apply below_via); focus (with_reducible assumption))))
  have hb48 : Below w4.heap.size w4 (w8.alloc (.cells #[.int .i64 10, .int .i64 4, .slice A8 1 c8] 66)) := (by repeat (first | (with_reducible exact Below.refl _ _) | ((with_reducible refine below_setr ?_ ?_); focus (first | (simp; done) | (simp; omega) | omega)) | ((with_reducible refine below_allocr ?_ ?_); focus (first | (simp; done) | (simp; omega) | omega)) | (with_reducible refine Below.drew ?_) | (with_reducible refine below_drewN ?_ _) | ((with_reducible apply below_via); focus (with_reducible assumption))))
  have hbw8 : Below w.heap.size w (w8.alloc (.cells #[.int .i64 10, .int .i64 4, .slice A8 1 c8] 66)) := (by repeat (first | (with_reducible exact Below.refl _ _) | ((with_reducible refine below_setr ?_ ?_); focus (first | (simp; done) | (simp; omega) | omega)) | ((with_reducible refine below_allocr ?_ ?_); focus (first | (simp; done) | (simp; omega) | omega)) | (with_reducible refine Below.drew ?_) | (with_reducible refine below_drewN ?_ _) | ((with_reducible apply below_via); focus (with_reducible assumption))))
  have BS := Lib.hid (Blk.new w8 66 #[.int .i64 10, .int .i64 4, .slice A8 1 c8])
  refine wp_region_T (fun w' => (w'.cell? ⟨w4.heap.size, 0, none⟩ = some (.int .i64 i4) ∧ w'.cell? ⟨w4.heap.size, 1, none⟩ = some (.bool c4) ∧ w'.cell? ⟨w4.heap.size, 2, none⟩ = some (.slice H4.A H4.l.length H4.c) ∧ w'.cell? ⟨w4.heap.size, 3, none⟩ = some (.slice N4.A N4.l.length N4.c) ∧ w'.cell? ⟨w4.heap.size, 4, none⟩ = some (.slice S4.A S4.l.length S4.c)) ∧ (w'.cell? ⟨w8.heap.size, 0, none⟩ = some (.int .i64 10) ∧ w'.cell? ⟨w8.heap.size, 1, none⟩ = some (.int .i64 4) ∧ w'.cell? ⟨w8.heap.size, 2, none⟩ = some (.slice A8 1 c8))) (fun _ => false) (by kernel_rfl) ⟨⟨(B_a.out.alloc _).cell 0, (B_a.out.alloc _).cell 1, (B_a.out.alloc _).cell 2, (B_a.out.alloc _).cell 3, (B_a.out.alloc _).cell 4⟩, BS.out.cell 0, BS.out.cell 1, BS.out.cell 2⟩ (fun hHeld => ?_)
  have hn : ∀ x, x = World.drew (w8.alloc (.cells #[.int .i64 10, .int .i64 4, .slice A8 1 c8] 66)) → Blk x w4.heap.size 33 #[.int .i64 i4, .bool c4, .slice H4.A H4.l.length H4.c, .slice N4.A N4.l.length N4.c, .slice S4.A S4.l.length S4.c] ∧ Blk x w8.heap.size 66 #[.int .i64 10, .int .i64 4, .slice A8 1 c8] ∧ RdPhone (· < x.heap.size) x ⟨i4, c4, H4, N4, S4⟩ ∧ Rd (· < x.heap.size) 3 Loan.enc x ⟨A8, c8, [⟨3, 6, 0⟩]⟩ ∧ Below w.heap.size w x := by
    rintro _ rfl
    exact ⟨B_a.out.alloc _, BS.out, HR4.out.later (Below.drew hb48) (Nat.le_refl _), HRd8.out.below' (Below.drew hb8W) (Nat.le_refl _), Below.drew hbw8⟩
  obtain ⟨W, hW⟩ : ∃ x, x = World.drew (w8.alloc (.cells #[.int .i64 10, .int .i64 4, .slice A8 1 c8] 66)) := ⟨_, rfl⟩
  obtain ⟨fa, fs, fp, fl, fb⟩ := hn _ hW
  rw [← hW] at hHeld ⊢
  have FA := Lib.hid fa
  have FS := Lib.hid fs
  have FP := Lib.hid fp
  have FL := Lib.hid fl
  have FB := Lib.hid fb
  clear hn hW fa fs fp fl fb
  refine qtq 0 ?_
  simp only [qsa, qsb, qsc]
  refine qtq 1 ?_
  simp only [qsa, qsb, qsc]
  clear hHeld
  clear a0 a1 a2 a3 a4 af B_a BS
  have hmk : ∀ w, (Instr.makeSlice 24 (.int .i64 12) (.int .i64 12)).run Try.prog w = .ok (.slice (some ⟨w.heap.size, 0, none⟩) 12 12) (w.alloc (.cells (Array.replicate 12 (.int .i64 0)) 3)) := fun _ => by kernel_rfl
  apply cutT
  · intro fin
    refine wpAnyT_three (i := 2) (j := 3) (l := 10) (by kernel_rfl) rfl rfl rfl ?_ ?_ ?_
    · skip
      go_wp2_with fail
      have hn : ∀ x, x = W.alloc (.cells #[.int .i64 10, .int .i64 4, .slice A8 1 c8] 66) → RdStocks (· < x.heap.size) x ⟨some ⟨W.heap.size, 0, none⟩, 1, [⟨10, 4, ⟨A8, c8, [⟨3, 6, 0⟩]⟩⟩]⟩ := by
        rintro _ rfl
        exact rd_lit1 ⟨10, 4, ⟨A8, c8, [⟨3, 6, 0⟩]⟩⟩ rfl FL.out
      obtain ⟨g2, hg2⟩ : ∃ g, g = W.heap.size := ⟨_, rfl⟩
      rw [← hg2] at hn ⊢
      have hbo : ∀ x, x = W.alloc (.cells #[.int .i64 10, .int .i64 4, .slice A8 1 c8] 66) → Below W.heap.size W x := by
        rintro _ rfl
        exact (by repeat (first | (with_reducible exact Below.refl _ _) | ((with_reducible refine below_setr ?_ ?_); focus (first | (simp; done) | (simp; omega) | omega)) | ((with_reducible refine below_allocr ?_ ?_); focus (first | (simp; done) | (simp; omega) | omega)) | (with_reducible refine Below.drew ?_) | (with_reducible refine below_drewN ?_ _) | ((with_reducible apply below_via); focus (with_reducible assumption))))
      obtain ⟨W, hW2⟩ : ∃ x, x = W.alloc (.cells #[.int .i64 10, .int .i64 4, .slice A8 1 c8] 66) := ⟨_, rfl⟩
      have hb := hbo _ hW2
      rw [← hW2]
      replace FA := Lib.hid (FA.out.later hb)
      replace FS := Lib.hid (FS.out.later hb)
      replace FP := Lib.hid (FP.out.later hb (Nat.le_refl _))
      replace FL := Lib.hid (FL.out.below' hb (Nat.le_refl _))
      replace FB := Lib.hid (below_via hb FB.out)
      try replace F2 := Lib.hid (F2.out.later hb (Nat.le_refl _))
      try replace F3 := Lib.hid (F3.out.below' hb (Nat.le_refl _))
      try replace FX := Lib.hid (FX.out.later hb)
      have hHeld := And.intro (And.intro (FA.out.cell 0) (And.intro (FA.out.cell 1) (And.intro (FA.out.cell 2) (And.intro (FA.out.cell 3) (FA.out.cell 4))))) (And.intro (FS.out.cell 0) (And.intro (FS.out.cell 1) (FS.out.cell 2)))
      clear hbo
      have F2 := Lib.hid (hn _ hW2)
      clear hn hW2 hg2
      refine And.intro ?_ ?_
      · first
        | exact hHeld
        | exact fun _ => hHeld
      clear hHeld hb
      refine wpAnyT_two (i := 3) (j := 10) (by kernel_rfl) rfl rfl ?_ ?_
      · skip
        go_wp2_with fail
        have hn : ∀ x, x = W.alloc (.cells (Array.replicate 12 (.int .i64 0)) 3) → Rd (· < x.heap.size) 1 ienc x ⟨some ⟨W.heap.size, 0, none⟩, 12, List.replicate 12 0⟩ := by
          rintro _ rfl
          exact rd_zeros rfl
        obtain ⟨g3, hg3⟩ : ∃ g, g = W.heap.size := ⟨_, rfl⟩
        rw [← hg3] at hn ⊢
        have hbo : ∀ x, x = W.alloc (.cells (Array.replicate 12 (.int .i64 0)) 3) → Below W.heap.size W x := by
          rintro _ rfl
          exact (by repeat (first | (with_reducible exact Below.refl _ _) | ((with_reducible refine below_setr ?_ ?_); focus (first | (simp; done) | (simp; omega) | omega)) | ((with_reducible refine below_allocr ?_ ?_); focus (first | (simp; done) | (simp; omega) | omega)) | (with_reducible refine Below.drew ?_) | (with_reducible refine below_drewN ?_ _) | ((with_reducible apply below_via); focus (with_reducible assumption))))
        obtain ⟨W, hW2⟩ : ∃ x, x = W.alloc (.cells (Array.replicate 12 (.int .i64 0)) 3) := ⟨_, rfl⟩
        have hb := hbo _ hW2
        rw [← hW2]
        replace FA := Lib.hid (FA.out.later hb)
        replace FS := Lib.hid (FS.out.later hb)
        replace FP := Lib.hid (FP.out.later hb (Nat.le_refl _))
        replace FL := Lib.hid (FL.out.below' hb (Nat.le_refl _))
        replace FB := Lib.hid (below_via hb FB.out)
        try replace F2 := Lib.hid (F2.out.later hb (Nat.le_refl _))
        try replace F3 := Lib.hid (F3.out.below' hb (Nat.le_refl _))
        try replace FX := Lib.hid (FX.out.later hb)
        have hHeld := And.intro (And.intro (FA.out.cell 0) (And.intro (FA.out.cell 1) (And.intro (FA.out.cell 2) (And.intro (FA.out.cell 3) (FA.out.cell 4))))) (And.intro (FS.out.cell 0) (And.intro (FS.out.cell 1) (FS.out.cell 2)))
        clear hbo
        have F3 := Lib.hid (hn _ hW2)
        clear hn hW2 hg3 hb
        refine And.intro ?_ ?_
        · first
          | exact hHeld
          | exact fun _ => hHeld
        clear hHeld
        refine wpAnyT_two (i := 4) (j := 10) (by kernel_rfl) rfl rfl ?_ ?_
        · skip
          go_wp2_with fail
          refine (phone_join ⟨i4, c4, H4, N4, S4⟩ ⟨some ⟨g2, 0, none⟩, 1, [⟨10, 4, ⟨A8, c8, [⟨3, 6, 0⟩]⟩⟩]⟩ ⟨some ⟨g3, 0, none⟩, 12, List.replicate 12 0⟩ _ FP.out F2.out F3.out (by simp)).mono ?_
          rintro e W ⟨⟨iJ, cJ, HJ, NJ, SJ⟩, ⟨oA, oc, ol⟩, ⟨nA, nc, nl⟩, rfl, hdj, hsj, hnj, hfr0, hb⟩
          have hfr := hfr0.out
          clear hfr0
          rw [HD4.out] at hdj hsj hnj hfr
          rw [HD4.out]
          simp only [List.map_cons, List.map_nil, Stock.d, sm_join] at hdj hsj hnj hfr
          simp only [List.map_cons, List.map_nil, Stock.d, sm_join]
          obtain ⟨f1, f2, f3⟩ : RdPhone _ W _ ∧ RdStocks _ W _ ∧ RdNotes _ W _ := by
            rcases hfr with ⟨h, _⟩ | ⟨_, h⟩
            · exact absurd rfl h
            · exact h
          have FJ0 := Lib.hid (And.intro (f1.mono (G := fun b => b < W.heap.size) (fun b hb' => hb'.2)) (And.intro (f2.mono (G := fun b => b < W.heap.size) (fun b hb' => hb'.2)) (f3.mono (G := fun b => b < W.heap.size) (fun b hb' => hb'.2))))
          clear F2 F3 f1 f2 f3 hfr
          have HDJ := Lib.hid hdj
          have HSJ := Lib.hid hsj
          have HNJ := Lib.hid hnj
          replace FA := Lib.hid (FA.out.later hb)
          replace FS := Lib.hid (FS.out.later hb)
          replace FP := Lib.hid (FP.out.later hb (Nat.le_refl _))
          replace FL := Lib.hid (FL.out.below' hb (Nat.le_refl _))
          replace FB := Lib.hid (below_via hb FB.out)
          try replace FX := Lib.hid (FX.out.later hb)
          clear hdj hsj hnj hb
          simp only [Phone.v]
          have hHeld := And.intro (And.intro (FA.out.cell 0) (And.intro (FA.out.cell 1) (And.intro (FA.out.cell 2) (And.intro (FA.out.cell 3) (FA.out.cell 4))))) (And.intro (FS.out.cell 0) (And.intro (FS.out.cell 1) (FS.out.cell 2)))
          go_wp2_with fail
          refine And.intro ?_ ?_
          · first
            | exact hHeld
            | exact fun _ => hHeld
          refine qtq 5 ?_
          simp only [qsa, qsb, qsc]
          refine qtq 6 ?_
          simp only [qsa, qsb, qsc]
          refine qtq 7 ?_
          simp only [qsa, qsb, qsc]
          refine qtq 8 ?_
          simp only [qsa, qsb, qsc]
          refine qtq 9 ?_
          simp only [qsa, qsb, qsc]
          clear hHeld
          refine wpAnyT_next (i := 10) (by kernel_rfl) rfl ?_
          go_wp2_with fail
          have hn : ∀ x, x = W.alloc (.cells #[.int .i64 0, .bool false, .slice none 0 0, .slice none 0 0, .slice none 0 0] 33) → Blk x W.heap.size 33 #[.int .i64 0, .bool false, .slice none 0 0, .slice none 0 0, .slice none 0 0] := by
            rintro _ rfl
            exact Blk.new _ _ _
          have hj : ∀ x, x = W.alloc (.cells #[.int .i64 0, .bool false, .slice none 0 0, .slice none 0 0, .slice none 0 0] 33) → RdPhone (fun b => b ≠ W.heap.size ∧ b < x.heap.size) x ⟨iJ, cJ, HJ, NJ, SJ⟩ ∧ RdStocks (fun b => b ≠ W.heap.size ∧ b < x.heap.size) x ⟨oA, oc, ol⟩ ∧ RdNotes (fun b => b ≠ W.heap.size ∧ b < x.heap.size) x ⟨nA, nc, nl⟩ := by
            rintro _ rfl
            have hx : ∀ b, b < W.heap.size → b ≠ W.heap.size ∧ b < (W.alloc (.cells #[.int .i64 0, .bool false, .slice none 0 0, .slice none 0 0, .slice none 0 0] 33)).heap.size := fun b hb => ⟨Nat.ne_of_lt hb, by simp; omega⟩
            exact ⟨(FJ0.out.1.keep (fun b hb => Below.heap_alloc _ _ b hb)).mono hx, (FJ0.out.2.1.keep (fun b hb => Below.heap_alloc _ _ b hb)).mono hx, (FJ0.out.2.2.keep (fun b hb => Below.heap_alloc _ _ b hb)).mono hx⟩
          obtain ⟨g10, hg10⟩ : ∃ g, g = W.heap.size := ⟨_, rfl⟩
          have H10 : Hid (w4.heap.size < g10 ∧ w8.heap.size < g10) := Lib.hid (by rw [hg10]; exact ⟨FA.out.lt, FS.out.lt⟩)
          rw [← hg10] at hn hj ⊢
          clear FJ0
          have hbo : ∀ x, x = W.alloc (.cells #[.int .i64 0, .bool false, .slice none 0 0, .slice none 0 0, .slice none 0 0] 33) → Below W.heap.size W x := by
            rintro _ rfl
            exact (by repeat (first | (with_reducible exact Below.refl _ _) | ((with_reducible refine below_setr ?_ ?_); focus (first | (simp; done) | (simp; omega) | omega)) | ((with_reducible refine below_allocr ?_ ?_); focus (first | (simp; done) | (simp; omega) | omega)) | (with_reducible refine Below.drew ?_) | (with_reducible refine below_drewN ?_ _) | ((with_reducible apply below_via); focus (with_reducible assumption))))
          obtain ⟨W, hW2⟩ : ∃ x, x = W.alloc (.cells #[.int .i64 0, .bool false, .slice none 0 0, .slice none 0 0, .slice none 0 0] 33) := ⟨_, rfl⟩
          have hb := hbo _ hW2
          rw [← hW2]
          replace FA := Lib.hid (FA.out.later hb)
          replace FS := Lib.hid (FS.out.later hb)
          replace FP := Lib.hid (FP.out.later hb (Nat.le_refl _))
          replace FL := Lib.hid (FL.out.below' hb (Nat.le_refl _))
          replace FB := Lib.hid (below_via hb FB.out)
          try replace F2 := Lib.hid (F2.out.later hb (Nat.le_refl _))
          try replace F3 := Lib.hid (F3.out.below' hb (Nat.le_refl _))
          try replace FX := Lib.hid (FX.out.later hb)
          have hHeld := And.intro (And.intro (FA.out.cell 0) (And.intro (FA.out.cell 1) (And.intro (FA.out.cell 2) (And.intro (FA.out.cell 3) (FA.out.cell 4))))) (And.intro (FS.out.cell 0) (And.intro (FS.out.cell 1) (FS.out.cell 2)))
          clear hbo
          have FX := Lib.hid (hn _ hW2)
          have FJ := Lib.hid (hj _ hW2)
          clear hn hj hW2 hg10 hb
          refine And.intro ?_ ?_
          · first
            | exact hHeld
            | exact fun _ => hHeld
          clear hHeld
          have ALL := Lib.hid (And.intro FX.out (And.intro FJ.out (And.intro HDJ.out (And.intro HSJ.out (And.intro HNJ.out (And.intro FB.out (And.intro FA.out (And.intro FS.out H10.out))))))))
          clear FA FS FP FL FB FX FJ HDJ HSJ HNJ H10
          try clear F2
          try clear F3
          revert ALL
          revert W
          revert nl
          revert nc
          revert nA
          revert ol
          revert oc
          revert oA
          revert SJ
          revert NJ
          revert HJ
          revert cJ
          revert iJ
          revert g10
          revert g3
          revert g2
          exact fin
        · skip
          go_wp2_with fail
          have hn : ∀ x, x = W.alloc (.cells #[.int .i64 0, .bool false, .slice none 0 0, .slice none 0 0, .slice none 0 0] 33) → Blk x W.heap.size 33 #[.int .i64 0, .bool false, .slice none 0 0, .slice none 0 0, .slice none 0 0] := by
            rintro _ rfl
            exact Blk.new _ _ _
          obtain ⟨g10, hg10⟩ : ∃ g, g = W.heap.size := ⟨_, rfl⟩
          have H10 : Hid (w4.heap.size < g10 ∧ w8.heap.size < g10) := Lib.hid (by rw [hg10]; exact ⟨FA.out.lt, FS.out.lt⟩)
          rw [← hg10] at hn ⊢
          have hbo : ∀ x, x = W.alloc (.cells #[.int .i64 0, .bool false, .slice none 0 0, .slice none 0 0, .slice none 0 0] 33) → Below W.heap.size W x := by
            rintro _ rfl
            exact (by repeat (first | (with_reducible exact Below.refl _ _) | ((with_reducible refine below_setr ?_ ?_); focus (first | (simp; done) | (simp; omega) | omega)) | ((with_reducible refine below_allocr ?_ ?_); focus (first | (simp; done) | (simp; omega) | omega)) | (with_reducible refine Below.drew ?_) | (with_reducible refine below_drewN ?_ _) | ((with_reducible apply below_via); focus (with_reducible assumption))))
          obtain ⟨W, hW2⟩ : ∃ x, x = W.alloc (.cells #[.int .i64 0, .bool false, .slice none 0 0, .slice none 0 0, .slice none 0 0] 33) := ⟨_, rfl⟩
          have hb := hbo _ hW2
          rw [← hW2]
          replace FA := Lib.hid (FA.out.later hb)
          replace FS := Lib.hid (FS.out.later hb)
          replace FP := Lib.hid (FP.out.later hb (Nat.le_refl _))
          replace FL := Lib.hid (FL.out.below' hb (Nat.le_refl _))
          replace FB := Lib.hid (below_via hb FB.out)
          try replace F2 := Lib.hid (F2.out.later hb (Nat.le_refl _))
          try replace F3 := Lib.hid (F3.out.below' hb (Nat.le_refl _))
          try replace FX := Lib.hid (FX.out.later hb)
          have hHeld := And.intro (And.intro (FA.out.cell 0) (And.intro (FA.out.cell 1) (And.intro (FA.out.cell 2) (And.intro (FA.out.cell 3) (FA.out.cell 4))))) (And.intro (FS.out.cell 0) (And.intro (FS.out.cell 1) (FS.out.cell 2)))
          clear hbo
          have FX := Lib.hid (hn _ hW2)
          clear hn hW2 hg10 hb
          refine And.intro ?_ ?_
          · first
            | exact hHeld
            | exact fun _ => hHeld
          clear hHeld
          refine wpAnyT_next (i := 4) (by kernel_rfl) rfl ?_
          have fxl := FX.out.lt
          go_wp2_with fail
          refine (phone_join ⟨i4, c4, H4, N4, S4⟩ ⟨some ⟨g2, 0, none⟩, 1, [⟨10, 4, ⟨A8, c8, [⟨3, 6, 0⟩]⟩⟩]⟩ ⟨some ⟨g3, 0, none⟩, 12, List.replicate 12 0⟩ _ FP.out F2.out F3.out (by simp)).mono ?_
          rintro e W ⟨⟨iJ, cJ, HJ, NJ, SJ⟩, ⟨oA, oc, ol⟩, ⟨nA, nc, nl⟩, rfl, hdj, hsj, hnj, hfr0, hb⟩
          have hfr := hfr0.out
          clear hfr0
          rw [HD4.out] at hdj hsj hnj hfr
          rw [HD4.out]
          simp only [List.map_cons, List.map_nil, Stock.d, sm_join] at hdj hsj hnj hfr
          simp only [List.map_cons, List.map_nil, Stock.d, sm_join]
          obtain ⟨f1, f2, f3⟩ : RdPhone _ W _ ∧ RdStocks _ W _ ∧ RdNotes _ W _ := by
            rcases hfr with ⟨h, _⟩ | ⟨_, h⟩
            · exact absurd rfl h
            · exact h
          have FJ := Lib.hid (And.intro (f1.mono (G := fun b => b ≠ g10 ∧ b < W.heap.size) (fun b hb' => ⟨by omega, hb'.2⟩)) (And.intro (f2.mono (G := fun b => b ≠ g10 ∧ b < W.heap.size) (fun b hb' => ⟨by omega, hb'.2⟩)) (f3.mono (G := fun b => b ≠ g10 ∧ b < W.heap.size) (fun b hb' => ⟨by omega, hb'.2⟩))))
          clear F2 F3 f1 f2 f3 hfr
          have HDJ := Lib.hid hdj
          have HSJ := Lib.hid hsj
          have HNJ := Lib.hid hnj
          replace FA := Lib.hid (FA.out.later hb)
          replace FS := Lib.hid (FS.out.later hb)
          replace FP := Lib.hid (FP.out.later hb (Nat.le_refl _))
          replace FL := Lib.hid (FL.out.below' hb (Nat.le_refl _))
          replace FB := Lib.hid (below_via hb FB.out)
          try replace FX := Lib.hid (FX.out.later hb)
          clear hdj hsj hnj hb
          simp only [Phone.v]
          have hHeld := And.intro (And.intro (FA.out.cell 0) (And.intro (FA.out.cell 1) (And.intro (FA.out.cell 2) (And.intro (FA.out.cell 3) (FA.out.cell 4))))) (And.intro (FS.out.cell 0) (And.intro (FS.out.cell 1) (FS.out.cell 2)))
          go_wp2_with fail
          refine And.intro ?_ ?_
          · first
            | exact hHeld
            | exact fun _ => hHeld
          refine qtq 5 ?_
          simp only [qsa, qsb, qsc]
          refine qtq 6 ?_
          simp only [qsa, qsb, qsc]
          refine qtq 7 ?_
          simp only [qsa, qsb, qsc]
          refine qtq 8 ?_
          simp only [qsa, qsb, qsc]
          refine qtq 9 ?_
          simp only [qsa, qsb, qsc]
          clear hHeld
          clear fxl
          have ALL := Lib.hid (And.intro FX.out (And.intro FJ.out (And.intro HDJ.out (And.intro HSJ.out (And.intro HNJ.out (And.intro FB.out (And.intro FA.out (And.intro FS.out H10.out))))))))
          clear FA FS FP FL FB FX FJ HDJ HSJ HNJ H10
          try clear F2
          try clear F3
          revert ALL
          revert W
          revert nl
          revert nc
          revert nA
          revert ol
          revert oc
          revert oA
          revert SJ
          revert NJ
          revert HJ
          revert cJ
          revert iJ
          revert g10
          revert g3
          revert g2
          exact fin
      · skip
        go_wp2_with fail
        have hn : ∀ x, x = W.alloc (.cells #[.int .i64 0, .bool false, .slice none 0 0, .slice none 0 0, .slice none 0 0] 33) → Blk x W.heap.size 33 #[.int .i64 0, .bool false, .slice none 0 0, .slice none 0 0, .slice none 0 0] := by
          rintro _ rfl
          exact Blk.new _ _ _
        obtain ⟨g10, hg10⟩ : ∃ g, g = W.heap.size := ⟨_, rfl⟩
        have H10 : Hid (w4.heap.size < g10 ∧ w8.heap.size < g10) := Lib.hid (by rw [hg10]; exact ⟨FA.out.lt, FS.out.lt⟩)
        rw [← hg10] at hn ⊢
        have hbo : ∀ x, x = W.alloc (.cells #[.int .i64 0, .bool false, .slice none 0 0, .slice none 0 0, .slice none 0 0] 33) → Below W.heap.size W x := by
          rintro _ rfl
          exact (by repeat (first | (with_reducible exact Below.refl _ _) | ((with_reducible refine below_setr ?_ ?_); focus (first | (simp; done) | (simp; omega) | omega)) | ((with_reducible refine below_allocr ?_ ?_); focus (first | (simp; done) | (simp; omega) | omega)) | (with_reducible refine Below.drew ?_) | (with_reducible refine below_drewN ?_ _) | ((with_reducible apply below_via); focus (with_reducible assumption))))
        obtain ⟨W, hW2⟩ : ∃ x, x = W.alloc (.cells #[.int .i64 0, .bool false, .slice none 0 0, .slice none 0 0, .slice none 0 0] 33) := ⟨_, rfl⟩
        have hb := hbo _ hW2
        rw [← hW2]
        replace FA := Lib.hid (FA.out.later hb)
        replace FS := Lib.hid (FS.out.later hb)
        replace FP := Lib.hid (FP.out.later hb (Nat.le_refl _))
        replace FL := Lib.hid (FL.out.below' hb (Nat.le_refl _))
        replace FB := Lib.hid (below_via hb FB.out)
        try replace F2 := Lib.hid (F2.out.later hb (Nat.le_refl _))
        try replace F3 := Lib.hid (F3.out.below' hb (Nat.le_refl _))
        try replace FX := Lib.hid (FX.out.later hb)
        have hHeld := And.intro (And.intro (FA.out.cell 0) (And.intro (FA.out.cell 1) (And.intro (FA.out.cell 2) (And.intro (FA.out.cell 3) (FA.out.cell 4))))) (And.intro (FS.out.cell 0) (And.intro (FS.out.cell 1) (FS.out.cell 2)))
        clear hbo
        have FX := Lib.hid (hn _ hW2)
        clear hn hW2 hg10 hb
        refine And.intro ?_ ?_
        · first
          | exact hHeld
          | exact fun _ => hHeld
        clear hHeld
        refine wpAnyT_next (i := 3) (by kernel_rfl) rfl ?_
        go_wp2_with fail
        have hn : ∀ x, x = W.alloc (.cells (Array.replicate 12 (.int .i64 0)) 3) → Rd (· < x.heap.size) 1 ienc x ⟨some ⟨W.heap.size, 0, none⟩, 12, List.replicate 12 0⟩ := by
          rintro _ rfl
          exact rd_zeros rfl
        obtain ⟨g3, hg3⟩ : ∃ g, g = W.heap.size := ⟨_, rfl⟩
        rw [← hg3] at hn ⊢
        have hbo : ∀ x, x = W.alloc (.cells (Array.replicate 12 (.int .i64 0)) 3) → Below W.heap.size W x := by
          rintro _ rfl
          exact (by repeat (first | (with_reducible exact Below.refl _ _) | ((with_reducible refine below_setr ?_ ?_); focus (first | (simp; done) | (simp; omega) | omega)) | ((with_reducible refine below_allocr ?_ ?_); focus (first | (simp; done) | (simp; omega) | omega)) | (with_reducible refine Below.drew ?_) | (with_reducible refine below_drewN ?_ _) | ((with_reducible apply below_via); focus (with_reducible assumption))))
        obtain ⟨W, hW2⟩ : ∃ x, x = W.alloc (.cells (Array.replicate 12 (.int .i64 0)) 3) := ⟨_, rfl⟩
        have hb := hbo _ hW2
        rw [← hW2]
        replace FA := Lib.hid (FA.out.later hb)
        replace FS := Lib.hid (FS.out.later hb)
        replace FP := Lib.hid (FP.out.later hb (Nat.le_refl _))
        replace FL := Lib.hid (FL.out.below' hb (Nat.le_refl _))
        replace FB := Lib.hid (below_via hb FB.out)
        try replace F2 := Lib.hid (F2.out.later hb (Nat.le_refl _))
        try replace F3 := Lib.hid (F3.out.below' hb (Nat.le_refl _))
        try replace FX := Lib.hid (FX.out.later hb)
        have hHeld := And.intro (And.intro (FA.out.cell 0) (And.intro (FA.out.cell 1) (And.intro (FA.out.cell 2) (And.intro (FA.out.cell 3) (FA.out.cell 4))))) (And.intro (FS.out.cell 0) (And.intro (FS.out.cell 1) (FS.out.cell 2)))
        clear hbo
        have F3 := Lib.hid (hn _ hW2)
        clear hn hW2 hg3 hb
        refine And.intro ?_ ?_
        · first
          | exact hHeld
          | exact fun _ => hHeld
        clear hHeld
        refine wpAnyT_next (i := 4) (by kernel_rfl) rfl ?_
        have fxl := FX.out.lt
        go_wp2_with fail
        refine (phone_join ⟨i4, c4, H4, N4, S4⟩ ⟨some ⟨g2, 0, none⟩, 1, [⟨10, 4, ⟨A8, c8, [⟨3, 6, 0⟩]⟩⟩]⟩ ⟨some ⟨g3, 0, none⟩, 12, List.replicate 12 0⟩ _ FP.out F2.out F3.out (by simp)).mono ?_
        rintro e W ⟨⟨iJ, cJ, HJ, NJ, SJ⟩, ⟨oA, oc, ol⟩, ⟨nA, nc, nl⟩, rfl, hdj, hsj, hnj, hfr0, hb⟩
        have hfr := hfr0.out
        clear hfr0
        rw [HD4.out] at hdj hsj hnj hfr
        rw [HD4.out]
        simp only [List.map_cons, List.map_nil, Stock.d, sm_join] at hdj hsj hnj hfr
        simp only [List.map_cons, List.map_nil, Stock.d, sm_join]
        obtain ⟨f1, f2, f3⟩ : RdPhone _ W _ ∧ RdStocks _ W _ ∧ RdNotes _ W _ := by
          rcases hfr with ⟨h, _⟩ | ⟨_, h⟩
          · exact absurd rfl h
          · exact h
        have FJ := Lib.hid (And.intro (f1.mono (G := fun b => b ≠ g10 ∧ b < W.heap.size) (fun b hb' => ⟨by omega, hb'.2⟩)) (And.intro (f2.mono (G := fun b => b ≠ g10 ∧ b < W.heap.size) (fun b hb' => ⟨by omega, hb'.2⟩)) (f3.mono (G := fun b => b ≠ g10 ∧ b < W.heap.size) (fun b hb' => ⟨by omega, hb'.2⟩))))
        clear F2 F3 f1 f2 f3 hfr
        have HDJ := Lib.hid hdj
        have HSJ := Lib.hid hsj
        have HNJ := Lib.hid hnj
        replace FA := Lib.hid (FA.out.later hb)
        replace FS := Lib.hid (FS.out.later hb)
        replace FP := Lib.hid (FP.out.later hb (Nat.le_refl _))
        replace FL := Lib.hid (FL.out.below' hb (Nat.le_refl _))
        replace FB := Lib.hid (below_via hb FB.out)
        try replace FX := Lib.hid (FX.out.later hb)
        clear hdj hsj hnj hb
        simp only [Phone.v]
        have hHeld := And.intro (And.intro (FA.out.cell 0) (And.intro (FA.out.cell 1) (And.intro (FA.out.cell 2) (And.intro (FA.out.cell 3) (FA.out.cell 4))))) (And.intro (FS.out.cell 0) (And.intro (FS.out.cell 1) (FS.out.cell 2)))
        go_wp2_with fail
        refine And.intro ?_ ?_
        · first
          | exact hHeld
          | exact fun _ => hHeld
        refine qtq 5 ?_
        simp only [qsa, qsb, qsc]
        refine qtq 6 ?_
        simp only [qsa, qsb, qsc]
        refine qtq 7 ?_
        simp only [qsa, qsb, qsc]
        refine qtq 8 ?_
        simp only [qsa, qsb, qsc]
        refine qtq 9 ?_
        simp only [qsa, qsb, qsc]
        clear hHeld
        clear fxl
        have ALL := Lib.hid (And.intro FX.out (And.intro FJ.out (And.intro HDJ.out (And.intro HSJ.out (And.intro HNJ.out (And.intro FB.out (And.intro FA.out (And.intro FS.out H10.out))))))))
        clear FA FS FP FL FB FX FJ HDJ HSJ HNJ H10
        try clear F2
        try clear F3
        revert ALL
        revert W
        revert nl
        revert nc
        revert nA
        revert ol
        revert oc
        revert oA
        revert SJ
        revert NJ
        revert HJ
        revert cJ
        revert iJ
        revert g10
        revert g3
        revert g2
        exact fin
    · skip
      go_wp2_with fail
      have hn : ∀ x, x = W.alloc (.cells (Array.replicate 12 (.int .i64 0)) 3) → Rd (· < x.heap.size) 1 ienc x ⟨some ⟨W.heap.size, 0, none⟩, 12, List.replicate 12 0⟩ := by
        rintro _ rfl
        exact rd_zeros rfl
      obtain ⟨g3, hg3⟩ : ∃ g, g = W.heap.size := ⟨_, rfl⟩
      rw [← hg3] at hn ⊢
      have hbo : ∀ x, x = W.alloc (.cells (Array.replicate 12 (.int .i64 0)) 3) → Below W.heap.size W x := by
        rintro _ rfl
        exact (by repeat (first | (with_reducible exact Below.refl _ _) | ((with_reducible refine below_setr ?_ ?_); focus (first | (simp; done) | (simp; omega) | omega)) | ((with_reducible refine below_allocr ?_ ?_); focus (first | (simp; done) | (simp; omega) | omega)) | (with_reducible refine Below.drew ?_) | (with_reducible refine below_drewN ?_ _) | ((with_reducible apply below_via); focus (with_reducible assumption))))
      obtain ⟨W, hW2⟩ : ∃ x, x = W.alloc (.cells (Array.replicate 12 (.int .i64 0)) 3) := ⟨_, rfl⟩
      have hb := hbo _ hW2
      rw [← hW2]
      replace FA := Lib.hid (FA.out.later hb)
      replace FS := Lib.hid (FS.out.later hb)
      replace FP := Lib.hid (FP.out.later hb (Nat.le_refl _))
      replace FL := Lib.hid (FL.out.below' hb (Nat.le_refl _))
      replace FB := Lib.hid (below_via hb FB.out)
      try replace F2 := Lib.hid (F2.out.later hb (Nat.le_refl _))
      try replace F3 := Lib.hid (F3.out.below' hb (Nat.le_refl _))
      try replace FX := Lib.hid (FX.out.later hb)
      have hHeld := And.intro (And.intro (FA.out.cell 0) (And.intro (FA.out.cell 1) (And.intro (FA.out.cell 2) (And.intro (FA.out.cell 3) (FA.out.cell 4))))) (And.intro (FS.out.cell 0) (And.intro (FS.out.cell 1) (FS.out.cell 2)))
      clear hbo
      have F3 := Lib.hid (hn _ hW2)
      clear hn hW2 hg3 hb
      refine And.intro ?_ ?_
      · first
        | exact hHeld
        | exact fun _ => hHeld
      clear hHeld
      refine wpAnyT_two (i := 2) (j := 10) (by kernel_rfl) rfl rfl ?_ ?_
      · skip
        go_wp2_with fail
        have hn : ∀ x, x = W.alloc (.cells #[.int .i64 10, .int .i64 4, .slice A8 1 c8] 66) → RdStocks (· < x.heap.size) x ⟨some ⟨W.heap.size, 0, none⟩, 1, [⟨10, 4, ⟨A8, c8, [⟨3, 6, 0⟩]⟩⟩]⟩ := by
          rintro _ rfl
          exact rd_lit1 ⟨10, 4, ⟨A8, c8, [⟨3, 6, 0⟩]⟩⟩ rfl FL.out
        obtain ⟨g2, hg2⟩ : ∃ g, g = W.heap.size := ⟨_, rfl⟩
        rw [← hg2] at hn ⊢
        have hbo : ∀ x, x = W.alloc (.cells #[.int .i64 10, .int .i64 4, .slice A8 1 c8] 66) → Below W.heap.size W x := by
          rintro _ rfl
          exact (by repeat (first | (with_reducible exact Below.refl _ _) | ((with_reducible refine below_setr ?_ ?_); focus (first | (simp; done) | (simp; omega) | omega)) | ((with_reducible refine below_allocr ?_ ?_); focus (first | (simp; done) | (simp; omega) | omega)) | (with_reducible refine Below.drew ?_) | (with_reducible refine below_drewN ?_ _) | ((with_reducible apply below_via); focus (with_reducible assumption))))
        obtain ⟨W, hW2⟩ : ∃ x, x = W.alloc (.cells #[.int .i64 10, .int .i64 4, .slice A8 1 c8] 66) := ⟨_, rfl⟩
        have hb := hbo _ hW2
        rw [← hW2]
        replace FA := Lib.hid (FA.out.later hb)
        replace FS := Lib.hid (FS.out.later hb)
        replace FP := Lib.hid (FP.out.later hb (Nat.le_refl _))
        replace FL := Lib.hid (FL.out.below' hb (Nat.le_refl _))
        replace FB := Lib.hid (below_via hb FB.out)
        try replace F2 := Lib.hid (F2.out.later hb (Nat.le_refl _))
        try replace F3 := Lib.hid (F3.out.below' hb (Nat.le_refl _))
        try replace FX := Lib.hid (FX.out.later hb)
        have hHeld := And.intro (And.intro (FA.out.cell 0) (And.intro (FA.out.cell 1) (And.intro (FA.out.cell 2) (And.intro (FA.out.cell 3) (FA.out.cell 4))))) (And.intro (FS.out.cell 0) (And.intro (FS.out.cell 1) (FS.out.cell 2)))
        clear hbo
        have F2 := Lib.hid (hn _ hW2)
        clear hn hW2 hg2
        refine And.intro ?_ ?_
        · first
          | exact hHeld
          | exact fun _ => hHeld
        clear hHeld hb
        refine wpAnyT_two (i := 4) (j := 10) (by kernel_rfl) rfl rfl ?_ ?_
        · skip
          go_wp2_with fail
          refine (phone_join ⟨i4, c4, H4, N4, S4⟩ ⟨some ⟨g2, 0, none⟩, 1, [⟨10, 4, ⟨A8, c8, [⟨3, 6, 0⟩]⟩⟩]⟩ ⟨some ⟨g3, 0, none⟩, 12, List.replicate 12 0⟩ _ FP.out F2.out F3.out (by simp)).mono ?_
          rintro e W ⟨⟨iJ, cJ, HJ, NJ, SJ⟩, ⟨oA, oc, ol⟩, ⟨nA, nc, nl⟩, rfl, hdj, hsj, hnj, hfr0, hb⟩
          have hfr := hfr0.out
          clear hfr0
          rw [HD4.out] at hdj hsj hnj hfr
          rw [HD4.out]
          simp only [List.map_cons, List.map_nil, Stock.d, sm_join] at hdj hsj hnj hfr
          simp only [List.map_cons, List.map_nil, Stock.d, sm_join]
          obtain ⟨f1, f2, f3⟩ : RdPhone _ W _ ∧ RdStocks _ W _ ∧ RdNotes _ W _ := by
            rcases hfr with ⟨h, _⟩ | ⟨_, h⟩
            · exact absurd rfl h
            · exact h
          have FJ0 := Lib.hid (And.intro (f1.mono (G := fun b => b < W.heap.size) (fun b hb' => hb'.2)) (And.intro (f2.mono (G := fun b => b < W.heap.size) (fun b hb' => hb'.2)) (f3.mono (G := fun b => b < W.heap.size) (fun b hb' => hb'.2))))
          clear F2 F3 f1 f2 f3 hfr
          have HDJ := Lib.hid hdj
          have HSJ := Lib.hid hsj
          have HNJ := Lib.hid hnj
          replace FA := Lib.hid (FA.out.later hb)
          replace FS := Lib.hid (FS.out.later hb)
          replace FP := Lib.hid (FP.out.later hb (Nat.le_refl _))
          replace FL := Lib.hid (FL.out.below' hb (Nat.le_refl _))
          replace FB := Lib.hid (below_via hb FB.out)
          try replace FX := Lib.hid (FX.out.later hb)
          clear hdj hsj hnj hb
          simp only [Phone.v]
          have hHeld := And.intro (And.intro (FA.out.cell 0) (And.intro (FA.out.cell 1) (And.intro (FA.out.cell 2) (And.intro (FA.out.cell 3) (FA.out.cell 4))))) (And.intro (FS.out.cell 0) (And.intro (FS.out.cell 1) (FS.out.cell 2)))
          go_wp2_with fail
          refine And.intro ?_ ?_
          · first
            | exact hHeld
            | exact fun _ => hHeld
          refine qtq 5 ?_
          simp only [qsa, qsb, qsc]
          refine qtq 6 ?_
          simp only [qsa, qsb, qsc]
          refine qtq 7 ?_
          simp only [qsa, qsb, qsc]
          refine qtq 8 ?_
          simp only [qsa, qsb, qsc]
          refine qtq 9 ?_
          simp only [qsa, qsb, qsc]
          clear hHeld
          refine wpAnyT_next (i := 10) (by kernel_rfl) rfl ?_
          go_wp2_with fail
          have hn : ∀ x, x = W.alloc (.cells #[.int .i64 0, .bool false, .slice none 0 0, .slice none 0 0, .slice none 0 0] 33) → Blk x W.heap.size 33 #[.int .i64 0, .bool false, .slice none 0 0, .slice none 0 0, .slice none 0 0] := by
            rintro _ rfl
            exact Blk.new _ _ _
          have hj : ∀ x, x = W.alloc (.cells #[.int .i64 0, .bool false, .slice none 0 0, .slice none 0 0, .slice none 0 0] 33) → RdPhone (fun b => b ≠ W.heap.size ∧ b < x.heap.size) x ⟨iJ, cJ, HJ, NJ, SJ⟩ ∧ RdStocks (fun b => b ≠ W.heap.size ∧ b < x.heap.size) x ⟨oA, oc, ol⟩ ∧ RdNotes (fun b => b ≠ W.heap.size ∧ b < x.heap.size) x ⟨nA, nc, nl⟩ := by
            rintro _ rfl
            have hx : ∀ b, b < W.heap.size → b ≠ W.heap.size ∧ b < (W.alloc (.cells #[.int .i64 0, .bool false, .slice none 0 0, .slice none 0 0, .slice none 0 0] 33)).heap.size := fun b hb => ⟨Nat.ne_of_lt hb, by simp; omega⟩
            exact ⟨(FJ0.out.1.keep (fun b hb => Below.heap_alloc _ _ b hb)).mono hx, (FJ0.out.2.1.keep (fun b hb => Below.heap_alloc _ _ b hb)).mono hx, (FJ0.out.2.2.keep (fun b hb => Below.heap_alloc _ _ b hb)).mono hx⟩
          obtain ⟨g10, hg10⟩ : ∃ g, g = W.heap.size := ⟨_, rfl⟩
          have H10 : Hid (w4.heap.size < g10 ∧ w8.heap.size < g10) := Lib.hid (by rw [hg10]; exact ⟨FA.out.lt, FS.out.lt⟩)
          rw [← hg10] at hn hj ⊢
          clear FJ0
          have hbo : ∀ x, x = W.alloc (.cells #[.int .i64 0, .bool false, .slice none 0 0, .slice none 0 0, .slice none 0 0] 33) → Below W.heap.size W x := by
            rintro _ rfl
            exact (by repeat (first | (with_reducible exact Below.refl _ _) | ((with_reducible refine below_setr ?_ ?_); focus (first | (simp; done) | (simp; omega) | omega)) | ((with_reducible refine below_allocr ?_ ?_); focus (first | (simp; done) | (simp; omega) | omega)) | (with_reducible refine Below.drew ?_) | (with_reducible refine below_drewN ?_ _) | ((with_reducible apply below_via); focus (with_reducible assumption))))
          obtain ⟨W, hW2⟩ : ∃ x, x = W.alloc (.cells #[.int .i64 0, .bool false, .slice none 0 0, .slice none 0 0, .slice none 0 0] 33) := ⟨_, rfl⟩
          have hb := hbo _ hW2
          rw [← hW2]
          replace FA := Lib.hid (FA.out.later hb)
          replace FS := Lib.hid (FS.out.later hb)
          replace FP := Lib.hid (FP.out.later hb (Nat.le_refl _))
          replace FL := Lib.hid (FL.out.below' hb (Nat.le_refl _))
          replace FB := Lib.hid (below_via hb FB.out)
          try replace F2 := Lib.hid (F2.out.later hb (Nat.le_refl _))
          try replace F3 := Lib.hid (F3.out.below' hb (Nat.le_refl _))
          try replace FX := Lib.hid (FX.out.later hb)
          have hHeld := And.intro (And.intro (FA.out.cell 0) (And.intro (FA.out.cell 1) (And.intro (FA.out.cell 2) (And.intro (FA.out.cell 3) (FA.out.cell 4))))) (And.intro (FS.out.cell 0) (And.intro (FS.out.cell 1) (FS.out.cell 2)))
          clear hbo
          have FX := Lib.hid (hn _ hW2)
          have FJ := Lib.hid (hj _ hW2)
          clear hn hj hW2 hg10 hb
          refine And.intro ?_ ?_
          · first
            | exact hHeld
            | exact fun _ => hHeld
          clear hHeld
          have ALL := Lib.hid (And.intro FX.out (And.intro FJ.out (And.intro HDJ.out (And.intro HSJ.out (And.intro HNJ.out (And.intro FB.out (And.intro FA.out (And.intro FS.out H10.out))))))))
          clear FA FS FP FL FB FX FJ HDJ HSJ HNJ H10
          try clear F2
          try clear F3
          revert ALL
          revert W
          revert nl
          revert nc
          revert nA
          revert ol
          revert oc
          revert oA
          revert SJ
          revert NJ
          revert HJ
          revert cJ
          revert iJ
          revert g10
          revert g3
          revert g2
          exact fin
        · skip
          go_wp2_with fail
          have hn : ∀ x, x = W.alloc (.cells #[.int .i64 0, .bool false, .slice none 0 0, .slice none 0 0, .slice none 0 0] 33) → Blk x W.heap.size 33 #[.int .i64 0, .bool false, .slice none 0 0, .slice none 0 0, .slice none 0 0] := by
            rintro _ rfl
            exact Blk.new _ _ _
          obtain ⟨g10, hg10⟩ : ∃ g, g = W.heap.size := ⟨_, rfl⟩
          have H10 : Hid (w4.heap.size < g10 ∧ w8.heap.size < g10) := Lib.hid (by rw [hg10]; exact ⟨FA.out.lt, FS.out.lt⟩)
          rw [← hg10] at hn ⊢
          have hbo : ∀ x, x = W.alloc (.cells #[.int .i64 0, .bool false, .slice none 0 0, .slice none 0 0, .slice none 0 0] 33) → Below W.heap.size W x := by
            rintro _ rfl
            exact (by repeat (first | (with_reducible exact Below.refl _ _) | ((with_reducible refine below_setr ?_ ?_); focus (first | (simp; done) | (simp; omega) | omega)) | ((with_reducible refine below_allocr ?_ ?_); focus (first | (simp; done) | (simp; omega) | omega)) | (with_reducible refine Below.drew ?_) | (with_reducible refine below_drewN ?_ _) | ((with_reducible apply below_via); focus (with_reducible assumption))))
          obtain ⟨W, hW2⟩ : ∃ x, x = W.alloc (.cells #[.int .i64 0, .bool false, .slice none 0 0, .slice none 0 0, .slice none 0 0] 33) := ⟨_, rfl⟩
          have hb := hbo _ hW2
          rw [← hW2]
          replace FA := Lib.hid (FA.out.later hb)
          replace FS := Lib.hid (FS.out.later hb)
          replace FP := Lib.hid (FP.out.later hb (Nat.le_refl _))
          replace FL := Lib.hid (FL.out.below' hb (Nat.le_refl _))
          replace FB := Lib.hid (below_via hb FB.out)
          try replace F2 := Lib.hid (F2.out.later hb (Nat.le_refl _))
          try replace F3 := Lib.hid (F3.out.below' hb (Nat.le_refl _))
          try replace FX := Lib.hid (FX.out.later hb)
          have hHeld := And.intro (And.intro (FA.out.cell 0) (And.intro (FA.out.cell 1) (And.intro (FA.out.cell 2) (And.intro (FA.out.cell 3) (FA.out.cell 4))))) (And.intro (FS.out.cell 0) (And.intro (FS.out.cell 1) (FS.out.cell 2)))
          clear hbo
          have FX := Lib.hid (hn _ hW2)
          clear hn hW2 hg10 hb
          refine And.intro ?_ ?_
          · first
            | exact hHeld
            | exact fun _ => hHeld
          clear hHeld
          refine wpAnyT_next (i := 4) (by kernel_rfl) rfl ?_
          have fxl := FX.out.lt
          go_wp2_with fail
          refine (phone_join ⟨i4, c4, H4, N4, S4⟩ ⟨some ⟨g2, 0, none⟩, 1, [⟨10, 4, ⟨A8, c8, [⟨3, 6, 0⟩]⟩⟩]⟩ ⟨some ⟨g3, 0, none⟩, 12, List.replicate 12 0⟩ _ FP.out F2.out F3.out (by simp)).mono ?_
          rintro e W ⟨⟨iJ, cJ, HJ, NJ, SJ⟩, ⟨oA, oc, ol⟩, ⟨nA, nc, nl⟩, rfl, hdj, hsj, hnj, hfr0, hb⟩
          have hfr := hfr0.out
          clear hfr0
          rw [HD4.out] at hdj hsj hnj hfr
          rw [HD4.out]
          simp only [List.map_cons, List.map_nil, Stock.d, sm_join] at hdj hsj hnj hfr
          simp only [List.map_cons, List.map_nil, Stock.d, sm_join]
          obtain ⟨f1, f2, f3⟩ : RdPhone _ W _ ∧ RdStocks _ W _ ∧ RdNotes _ W _ := by
            rcases hfr with ⟨h, _⟩ | ⟨_, h⟩
            · exact absurd rfl h
            · exact h
          have FJ := Lib.hid (And.intro (f1.mono (G := fun b => b ≠ g10 ∧ b < W.heap.size) (fun b hb' => ⟨by omega, hb'.2⟩)) (And.intro (f2.mono (G := fun b => b ≠ g10 ∧ b < W.heap.size) (fun b hb' => ⟨by omega, hb'.2⟩)) (f3.mono (G := fun b => b ≠ g10 ∧ b < W.heap.size) (fun b hb' => ⟨by omega, hb'.2⟩))))
          clear F2 F3 f1 f2 f3 hfr
          have HDJ := Lib.hid hdj
          have HSJ := Lib.hid hsj
          have HNJ := Lib.hid hnj
          replace FA := Lib.hid (FA.out.later hb)
          replace FS := Lib.hid (FS.out.later hb)
          replace FP := Lib.hid (FP.out.later hb (Nat.le_refl _))
          replace FL := Lib.hid (FL.out.below' hb (Nat.le_refl _))
          replace FB := Lib.hid (below_via hb FB.out)
          try replace FX := Lib.hid (FX.out.later hb)
          clear hdj hsj hnj hb
          simp only [Phone.v]
          have hHeld := And.intro (And.intro (FA.out.cell 0) (And.intro (FA.out.cell 1) (And.intro (FA.out.cell 2) (And.intro (FA.out.cell 3) (FA.out.cell 4))))) (And.intro (FS.out.cell 0) (And.intro (FS.out.cell 1) (FS.out.cell 2)))
          go_wp2_with fail
          refine And.intro ?_ ?_
          · first
            | exact hHeld
            | exact fun _ => hHeld
          refine qtq 5 ?_
          simp only [qsa, qsb, qsc]
          refine qtq 6 ?_
          simp only [qsa, qsb, qsc]
          refine qtq 7 ?_
          simp only [qsa, qsb, qsc]
          refine qtq 8 ?_
          simp only [qsa, qsb, qsc]
          refine qtq 9 ?_
          simp only [qsa, qsb, qsc]
          clear hHeld
          clear fxl
          have ALL := Lib.hid (And.intro FX.out (And.intro FJ.out (And.intro HDJ.out (And.intro HSJ.out (And.intro HNJ.out (And.intro FB.out (And.intro FA.out (And.intro FS.out H10.out))))))))
          clear FA FS FP FL FB FX FJ HDJ HSJ HNJ H10
          try clear F2
          try clear F3
          revert ALL
          revert W
          revert nl
          revert nc
          revert nA
          revert ol
          revert oc
          revert oA
          revert SJ
          revert NJ
          revert HJ
          revert cJ
          revert iJ
          revert g10
          revert g3
          revert g2
          exact fin
      · skip
        go_wp2_with fail
        have hn : ∀ x, x = W.alloc (.cells #[.int .i64 0, .bool false, .slice none 0 0, .slice none 0 0, .slice none 0 0] 33) → Blk x W.heap.size 33 #[.int .i64 0, .bool false, .slice none 0 0, .slice none 0 0, .slice none 0 0] := by
          rintro _ rfl
          exact Blk.new _ _ _
        obtain ⟨g10, hg10⟩ : ∃ g, g = W.heap.size := ⟨_, rfl⟩
        have H10 : Hid (w4.heap.size < g10 ∧ w8.heap.size < g10) := Lib.hid (by rw [hg10]; exact ⟨FA.out.lt, FS.out.lt⟩)
        rw [← hg10] at hn ⊢
        have hbo : ∀ x, x = W.alloc (.cells #[.int .i64 0, .bool false, .slice none 0 0, .slice none 0 0, .slice none 0 0] 33) → Below W.heap.size W x := by
          rintro _ rfl
          exact (by repeat (first | (with_reducible exact Below.refl _ _) | ((with_reducible refine below_setr ?_ ?_); focus (first | (simp; done) | (simp; omega) | omega)) | ((with_reducible refine below_allocr ?_ ?_); focus (first | (simp; done) | (simp; omega) | omega)) | (with_reducible refine Below.drew ?_) | (with_reducible refine below_drewN ?_ _) | ((with_reducible apply below_via); focus (with_reducible assumption))))
        obtain ⟨W, hW2⟩ : ∃ x, x = W.alloc (.cells #[.int .i64 0, .bool false, .slice none 0 0, .slice none 0 0, .slice none 0 0] 33) := ⟨_, rfl⟩
        have hb := hbo _ hW2
        rw [← hW2]
        replace FA := Lib.hid (FA.out.later hb)
        replace FS := Lib.hid (FS.out.later hb)
        replace FP := Lib.hid (FP.out.later hb (Nat.le_refl _))
        replace FL := Lib.hid (FL.out.below' hb (Nat.le_refl _))
        replace FB := Lib.hid (below_via hb FB.out)
        try replace F2 := Lib.hid (F2.out.later hb (Nat.le_refl _))
        try replace F3 := Lib.hid (F3.out.below' hb (Nat.le_refl _))
        try replace FX := Lib.hid (FX.out.later hb)
        have hHeld := And.intro (And.intro (FA.out.cell 0) (And.intro (FA.out.cell 1) (And.intro (FA.out.cell 2) (And.intro (FA.out.cell 3) (FA.out.cell 4))))) (And.intro (FS.out.cell 0) (And.intro (FS.out.cell 1) (FS.out.cell 2)))
        clear hbo
        have FX := Lib.hid (hn _ hW2)
        clear hn hW2 hg10 hb
        refine And.intro ?_ ?_
        · first
          | exact hHeld
          | exact fun _ => hHeld
        clear hHeld
        refine wpAnyT_next (i := 2) (by kernel_rfl) rfl ?_
        go_wp2_with fail
        have hn : ∀ x, x = W.alloc (.cells #[.int .i64 10, .int .i64 4, .slice A8 1 c8] 66) → RdStocks (· < x.heap.size) x ⟨some ⟨W.heap.size, 0, none⟩, 1, [⟨10, 4, ⟨A8, c8, [⟨3, 6, 0⟩]⟩⟩]⟩ := by
          rintro _ rfl
          exact rd_lit1 ⟨10, 4, ⟨A8, c8, [⟨3, 6, 0⟩]⟩⟩ rfl FL.out
        obtain ⟨g2, hg2⟩ : ∃ g, g = W.heap.size := ⟨_, rfl⟩
        rw [← hg2] at hn ⊢
        have hbo : ∀ x, x = W.alloc (.cells #[.int .i64 10, .int .i64 4, .slice A8 1 c8] 66) → Below W.heap.size W x := by
          rintro _ rfl
          exact (by repeat (first | (with_reducible exact Below.refl _ _) | ((with_reducible refine below_setr ?_ ?_); focus (first | (simp; done) | (simp; omega) | omega)) | ((with_reducible refine below_allocr ?_ ?_); focus (first | (simp; done) | (simp; omega) | omega)) | (with_reducible refine Below.drew ?_) | (with_reducible refine below_drewN ?_ _) | ((with_reducible apply below_via); focus (with_reducible assumption))))
        obtain ⟨W, hW2⟩ : ∃ x, x = W.alloc (.cells #[.int .i64 10, .int .i64 4, .slice A8 1 c8] 66) := ⟨_, rfl⟩
        have hb := hbo _ hW2
        rw [← hW2]
        replace FA := Lib.hid (FA.out.later hb)
        replace FS := Lib.hid (FS.out.later hb)
        replace FP := Lib.hid (FP.out.later hb (Nat.le_refl _))
        replace FL := Lib.hid (FL.out.below' hb (Nat.le_refl _))
        replace FB := Lib.hid (below_via hb FB.out)
        try replace F2 := Lib.hid (F2.out.later hb (Nat.le_refl _))
        try replace F3 := Lib.hid (F3.out.below' hb (Nat.le_refl _))
        try replace FX := Lib.hid (FX.out.later hb)
        have hHeld := And.intro (And.intro (FA.out.cell 0) (And.intro (FA.out.cell 1) (And.intro (FA.out.cell 2) (And.intro (FA.out.cell 3) (FA.out.cell 4))))) (And.intro (FS.out.cell 0) (And.intro (FS.out.cell 1) (FS.out.cell 2)))
        clear hbo
        have F2 := Lib.hid (hn _ hW2)
        clear hn hW2 hg2
        refine And.intro ?_ ?_
        · first
          | exact hHeld
          | exact fun _ => hHeld
        clear hHeld hb
        refine wpAnyT_next (i := 4) (by kernel_rfl) rfl ?_
        have fxl := FX.out.lt
        go_wp2_with fail
        refine (phone_join ⟨i4, c4, H4, N4, S4⟩ ⟨some ⟨g2, 0, none⟩, 1, [⟨10, 4, ⟨A8, c8, [⟨3, 6, 0⟩]⟩⟩]⟩ ⟨some ⟨g3, 0, none⟩, 12, List.replicate 12 0⟩ _ FP.out F2.out F3.out (by simp)).mono ?_
        rintro e W ⟨⟨iJ, cJ, HJ, NJ, SJ⟩, ⟨oA, oc, ol⟩, ⟨nA, nc, nl⟩, rfl, hdj, hsj, hnj, hfr0, hb⟩
        have hfr := hfr0.out
        clear hfr0
        rw [HD4.out] at hdj hsj hnj hfr
        rw [HD4.out]
        simp only [List.map_cons, List.map_nil, Stock.d, sm_join] at hdj hsj hnj hfr
        simp only [List.map_cons, List.map_nil, Stock.d, sm_join]
        obtain ⟨f1, f2, f3⟩ : RdPhone _ W _ ∧ RdStocks _ W _ ∧ RdNotes _ W _ := by
          rcases hfr with ⟨h, _⟩ | ⟨_, h⟩
          · exact absurd rfl h
          · exact h
        have FJ := Lib.hid (And.intro (f1.mono (G := fun b => b ≠ g10 ∧ b < W.heap.size) (fun b hb' => ⟨by omega, hb'.2⟩)) (And.intro (f2.mono (G := fun b => b ≠ g10 ∧ b < W.heap.size) (fun b hb' => ⟨by omega, hb'.2⟩)) (f3.mono (G := fun b => b ≠ g10 ∧ b < W.heap.size) (fun b hb' => ⟨by omega, hb'.2⟩))))
        clear F2 F3 f1 f2 f3 hfr
        have HDJ := Lib.hid hdj
        have HSJ := Lib.hid hsj
        have HNJ := Lib.hid hnj
        replace FA := Lib.hid (FA.out.later hb)
        replace FS := Lib.hid (FS.out.later hb)
        replace FP := Lib.hid (FP.out.later hb (Nat.le_refl _))
        replace FL := Lib.hid (FL.out.below' hb (Nat.le_refl _))
        replace FB := Lib.hid (below_via hb FB.out)
        try replace FX := Lib.hid (FX.out.later hb)
        clear hdj hsj hnj hb
        simp only [Phone.v]
        have hHeld := And.intro (And.intro (FA.out.cell 0) (And.intro (FA.out.cell 1) (And.intro (FA.out.cell 2) (And.intro (FA.out.cell 3) (FA.out.cell 4))))) (And.intro (FS.out.cell 0) (And.intro (FS.out.cell 1) (FS.out.cell 2)))
        go_wp2_with fail
        refine And.intro ?_ ?_
        · first
          | exact hHeld
          | exact fun _ => hHeld
        refine qtq 5 ?_
        simp only [qsa, qsb, qsc]
        refine qtq 6 ?_
        simp only [qsa, qsb, qsc]
        refine qtq 7 ?_
        simp only [qsa, qsb, qsc]
        refine qtq 8 ?_
        simp only [qsa, qsb, qsc]
        refine qtq 9 ?_
        simp only [qsa, qsb, qsc]
        clear hHeld
        clear fxl
        have ALL := Lib.hid (And.intro FX.out (And.intro FJ.out (And.intro HDJ.out (And.intro HSJ.out (And.intro HNJ.out (And.intro FB.out (And.intro FA.out (And.intro FS.out H10.out))))))))
        clear FA FS FP FL FB FX FJ HDJ HSJ HNJ H10
        try clear F2
        try clear F3
        revert ALL
        revert W
        revert nl
        revert nc
        revert nA
        revert ol
        revert oc
        revert oA
        revert SJ
        revert NJ
        revert HJ
        revert cJ
        revert iJ
        revert g10
        revert g3
        revert g2
        exact fin
    · skip
      go_wp2_with fail
      have hn : ∀ x, x = W.alloc (.cells #[.int .i64 0, .bool false, .slice none 0 0, .slice none 0 0, .slice none 0 0] 33) → Blk x W.heap.size 33 #[.int .i64 0, .bool false, .slice none 0 0, .slice none 0 0, .slice none 0 0] := by
        rintro _ rfl
        exact Blk.new _ _ _
      obtain ⟨g10, hg10⟩ : ∃ g, g = W.heap.size := ⟨_, rfl⟩
      have H10 : Hid (w4.heap.size < g10 ∧ w8.heap.size < g10) := Lib.hid (by rw [hg10]; exact ⟨FA.out.lt, FS.out.lt⟩)
      rw [← hg10] at hn ⊢
      have hbo : ∀ x, x = W.alloc (.cells #[.int .i64 0, .bool false, .slice none 0 0, .slice none 0 0, .slice none 0 0] 33) → Below W.heap.size W x := by
        rintro _ rfl
        exact (by repeat (first | (with_reducible exact Below.refl _ _) | ((with_reducible refine below_setr ?_ ?_); focus (first | (simp; done) | (simp; omega) | omega)) | ((with_reducible refine below_allocr ?_ ?_); focus (first | (simp; done) | (simp; omega) | omega)) | (with_reducible refine Below.drew ?_) | (with_reducible refine below_drewN ?_ _) | ((with_reducible apply below_via); focus (with_reducible assumption))))
      obtain ⟨W, hW2⟩ : ∃ x, x = W.alloc (.cells #[.int .i64 0, .bool false, .slice none 0 0, .slice none 0 0, .slice none 0 0] 33) := ⟨_, rfl⟩
      have hb := hbo _ hW2
      rw [← hW2]
      replace FA := Lib.hid (FA.out.later hb)
      replace FS := Lib.hid (FS.out.later hb)
      replace FP := Lib.hid (FP.out.later hb (Nat.le_refl _))
      replace FL := Lib.hid (FL.out.below' hb (Nat.le_refl _))
      replace FB := Lib.hid (below_via hb FB.out)
      try replace F2 := Lib.hid (F2.out.later hb (Nat.le_refl _))
      try replace F3 := Lib.hid (F3.out.below' hb (Nat.le_refl _))
      try replace FX := Lib.hid (FX.out.later hb)
      have hHeld := And.intro (And.intro (FA.out.cell 0) (And.intro (FA.out.cell 1) (And.intro (FA.out.cell 2) (And.intro (FA.out.cell 3) (FA.out.cell 4))))) (And.intro (FS.out.cell 0) (And.intro (FS.out.cell 1) (FS.out.cell 2)))
      clear hbo
      have FX := Lib.hid (hn _ hW2)
      clear hn hW2 hg10 hb
      refine And.intro ?_ ?_
      · first
        | exact hHeld
        | exact fun _ => hHeld
      clear hHeld
      refine wpAnyT_two (i := 2) (j := 3) (by kernel_rfl) rfl rfl ?_ ?_
      · skip
        go_wp2_with fail
        have hn : ∀ x, x = W.alloc (.cells #[.int .i64 10, .int .i64 4, .slice A8 1 c8] 66) → RdStocks (· < x.heap.size) x ⟨some ⟨W.heap.size, 0, none⟩, 1, [⟨10, 4, ⟨A8, c8, [⟨3, 6, 0⟩]⟩⟩]⟩ := by
          rintro _ rfl
          exact rd_lit1 ⟨10, 4, ⟨A8, c8, [⟨3, 6, 0⟩]⟩⟩ rfl FL.out
        obtain ⟨g2, hg2⟩ : ∃ g, g = W.heap.size := ⟨_, rfl⟩
        rw [← hg2] at hn ⊢
        have hbo : ∀ x, x = W.alloc (.cells #[.int .i64 10, .int .i64 4, .slice A8 1 c8] 66) → Below W.heap.size W x := by
          rintro _ rfl
          exact (by repeat (first | (with_reducible exact Below.refl _ _) | ((with_reducible refine below_setr ?_ ?_); focus (first | (simp; done) | (simp; omega) | omega)) | ((with_reducible refine below_allocr ?_ ?_); focus (first | (simp; done) | (simp; omega) | omega)) | (with_reducible refine Below.drew ?_) | (with_reducible refine below_drewN ?_ _) | ((with_reducible apply below_via); focus (with_reducible assumption))))
        obtain ⟨W, hW2⟩ : ∃ x, x = W.alloc (.cells #[.int .i64 10, .int .i64 4, .slice A8 1 c8] 66) := ⟨_, rfl⟩
        have hb := hbo _ hW2
        rw [← hW2]
        replace FA := Lib.hid (FA.out.later hb)
        replace FS := Lib.hid (FS.out.later hb)
        replace FP := Lib.hid (FP.out.later hb (Nat.le_refl _))
        replace FL := Lib.hid (FL.out.below' hb (Nat.le_refl _))
        replace FB := Lib.hid (below_via hb FB.out)
        try replace F2 := Lib.hid (F2.out.later hb (Nat.le_refl _))
        try replace F3 := Lib.hid (F3.out.below' hb (Nat.le_refl _))
        try replace FX := Lib.hid (FX.out.later hb)
        have hHeld := And.intro (And.intro (FA.out.cell 0) (And.intro (FA.out.cell 1) (And.intro (FA.out.cell 2) (And.intro (FA.out.cell 3) (FA.out.cell 4))))) (And.intro (FS.out.cell 0) (And.intro (FS.out.cell 1) (FS.out.cell 2)))
        clear hbo
        have F2 := Lib.hid (hn _ hW2)
        clear hn hW2 hg2
        refine And.intro ?_ ?_
        · first
          | exact hHeld
          | exact fun _ => hHeld
        clear hHeld hb
        refine wpAnyT_next (i := 3) (by kernel_rfl) rfl ?_
        go_wp2_with fail
        have hn : ∀ x, x = W.alloc (.cells (Array.replicate 12 (.int .i64 0)) 3) → Rd (· < x.heap.size) 1 ienc x ⟨some ⟨W.heap.size, 0, none⟩, 12, List.replicate 12 0⟩ := by
          rintro _ rfl
          exact rd_zeros rfl
        obtain ⟨g3, hg3⟩ : ∃ g, g = W.heap.size := ⟨_, rfl⟩
        rw [← hg3] at hn ⊢
        have hbo : ∀ x, x = W.alloc (.cells (Array.replicate 12 (.int .i64 0)) 3) → Below W.heap.size W x := by
          rintro _ rfl
          exact (by repeat (first | (with_reducible exact Below.refl _ _) | ((with_reducible refine below_setr ?_ ?_); focus (first | (simp; done) | (simp; omega) | omega)) | ((with_reducible refine below_allocr ?_ ?_); focus (first | (simp; done) | (simp; omega) | omega)) | (with_reducible refine Below.drew ?_) | (with_reducible refine below_drewN ?_ _) | ((with_reducible apply below_via); focus (with_reducible assumption))))
        obtain ⟨W, hW2⟩ : ∃ x, x = W.alloc (.cells (Array.replicate 12 (.int .i64 0)) 3) := ⟨_, rfl⟩
        have hb := hbo _ hW2
        rw [← hW2]
        replace FA := Lib.hid (FA.out.later hb)
        replace FS := Lib.hid (FS.out.later hb)
        replace FP := Lib.hid (FP.out.later hb (Nat.le_refl _))
        replace FL := Lib.hid (FL.out.below' hb (Nat.le_refl _))
        replace FB := Lib.hid (below_via hb FB.out)
        try replace F2 := Lib.hid (F2.out.later hb (Nat.le_refl _))
        try replace F3 := Lib.hid (F3.out.below' hb (Nat.le_refl _))
        try replace FX := Lib.hid (FX.out.later hb)
        have hHeld := And.intro (And.intro (FA.out.cell 0) (And.intro (FA.out.cell 1) (And.intro (FA.out.cell 2) (And.intro (FA.out.cell 3) (FA.out.cell 4))))) (And.intro (FS.out.cell 0) (And.intro (FS.out.cell 1) (FS.out.cell 2)))
        clear hbo
        have F3 := Lib.hid (hn _ hW2)
        clear hn hW2 hg3 hb
        refine And.intro ?_ ?_
        · first
          | exact hHeld
          | exact fun _ => hHeld
        clear hHeld
        refine wpAnyT_next (i := 4) (by kernel_rfl) rfl ?_
        have fxl := FX.out.lt
        go_wp2_with fail
        refine (phone_join ⟨i4, c4, H4, N4, S4⟩ ⟨some ⟨g2, 0, none⟩, 1, [⟨10, 4, ⟨A8, c8, [⟨3, 6, 0⟩]⟩⟩]⟩ ⟨some ⟨g3, 0, none⟩, 12, List.replicate 12 0⟩ _ FP.out F2.out F3.out (by simp)).mono ?_
        rintro e W ⟨⟨iJ, cJ, HJ, NJ, SJ⟩, ⟨oA, oc, ol⟩, ⟨nA, nc, nl⟩, rfl, hdj, hsj, hnj, hfr0, hb⟩
        have hfr := hfr0.out
        clear hfr0
        rw [HD4.out] at hdj hsj hnj hfr
        rw [HD4.out]
        simp only [List.map_cons, List.map_nil, Stock.d, sm_join] at hdj hsj hnj hfr
        simp only [List.map_cons, List.map_nil, Stock.d, sm_join]
        obtain ⟨f1, f2, f3⟩ : RdPhone _ W _ ∧ RdStocks _ W _ ∧ RdNotes _ W _ := by
          rcases hfr with ⟨h, _⟩ | ⟨_, h⟩
          · exact absurd rfl h
          · exact h
        have FJ := Lib.hid (And.intro (f1.mono (G := fun b => b ≠ g10 ∧ b < W.heap.size) (fun b hb' => ⟨by omega, hb'.2⟩)) (And.intro (f2.mono (G := fun b => b ≠ g10 ∧ b < W.heap.size) (fun b hb' => ⟨by omega, hb'.2⟩)) (f3.mono (G := fun b => b ≠ g10 ∧ b < W.heap.size) (fun b hb' => ⟨by omega, hb'.2⟩))))
        clear F2 F3 f1 f2 f3 hfr
        have HDJ := Lib.hid hdj
        have HSJ := Lib.hid hsj
        have HNJ := Lib.hid hnj
        replace FA := Lib.hid (FA.out.later hb)
        replace FS := Lib.hid (FS.out.later hb)
        replace FP := Lib.hid (FP.out.later hb (Nat.le_refl _))
        replace FL := Lib.hid (FL.out.below' hb (Nat.le_refl _))
        replace FB := Lib.hid (below_via hb FB.out)
        try replace FX := Lib.hid (FX.out.later hb)
        clear hdj hsj hnj hb
        simp only [Phone.v]
        have hHeld := And.intro (And.intro (FA.out.cell 0) (And.intro (FA.out.cell 1) (And.intro (FA.out.cell 2) (And.intro (FA.out.cell 3) (FA.out.cell 4))))) (And.intro (FS.out.cell 0) (And.intro (FS.out.cell 1) (FS.out.cell 2)))
        go_wp2_with fail
        refine And.intro ?_ ?_
        · first
          | exact hHeld
          | exact fun _ => hHeld
        refine qtq 5 ?_
        simp only [qsa, qsb, qsc]
        refine qtq 6 ?_
        simp only [qsa, qsb, qsc]
        refine qtq 7 ?_
        simp only [qsa, qsb, qsc]
        refine qtq 8 ?_
        simp only [qsa, qsb, qsc]
        refine qtq 9 ?_
        simp only [qsa, qsb, qsc]
        clear hHeld
        clear fxl
        have ALL := Lib.hid (And.intro FX.out (And.intro FJ.out (And.intro HDJ.out (And.intro HSJ.out (And.intro HNJ.out (And.intro FB.out (And.intro FA.out (And.intro FS.out H10.out))))))))
        clear FA FS FP FL FB FX FJ HDJ HSJ HNJ H10
        try clear F2
        try clear F3
        revert ALL
        revert W
        revert nl
        revert nc
        revert nA
        revert ol
        revert oc
        revert oA
        revert SJ
        revert NJ
        revert HJ
        revert cJ
        revert iJ
        revert g10
        revert g3
        revert g2
        exact fin
      · skip
        go_wp2_with fail
        have hn : ∀ x, x = W.alloc (.cells (Array.replicate 12 (.int .i64 0)) 3) → Rd (· < x.heap.size) 1 ienc x ⟨some ⟨W.heap.size, 0, none⟩, 12, List.replicate 12 0⟩ := by
          rintro _ rfl
          exact rd_zeros rfl
        obtain ⟨g3, hg3⟩ : ∃ g, g = W.heap.size := ⟨_, rfl⟩
        rw [← hg3] at hn ⊢
        have hbo : ∀ x, x = W.alloc (.cells (Array.replicate 12 (.int .i64 0)) 3) → Below W.heap.size W x := by
          rintro _ rfl
          exact (by repeat (first | (with_reducible exact Below.refl _ _) | ((with_reducible refine below_setr ?_ ?_); focus (first | (simp; done) | (simp; omega) | omega)) | ((with_reducible refine below_allocr ?_ ?_); focus (first | (simp; done) | (simp; omega) | omega)) | (with_reducible refine Below.drew ?_) | (with_reducible refine below_drewN ?_ _) | ((with_reducible apply below_via); focus (with_reducible assumption))))
        obtain ⟨W, hW2⟩ : ∃ x, x = W.alloc (.cells (Array.replicate 12 (.int .i64 0)) 3) := ⟨_, rfl⟩
        have hb := hbo _ hW2
        rw [← hW2]
        replace FA := Lib.hid (FA.out.later hb)
        replace FS := Lib.hid (FS.out.later hb)
        replace FP := Lib.hid (FP.out.later hb (Nat.le_refl _))
        replace FL := Lib.hid (FL.out.below' hb (Nat.le_refl _))
        replace FB := Lib.hid (below_via hb FB.out)
        try replace F2 := Lib.hid (F2.out.later hb (Nat.le_refl _))
        try replace F3 := Lib.hid (F3.out.below' hb (Nat.le_refl _))
        try replace FX := Lib.hid (FX.out.later hb)
        have hHeld := And.intro (And.intro (FA.out.cell 0) (And.intro (FA.out.cell 1) (And.intro (FA.out.cell 2) (And.intro (FA.out.cell 3) (FA.out.cell 4))))) (And.intro (FS.out.cell 0) (And.intro (FS.out.cell 1) (FS.out.cell 2)))
        clear hbo
        have F3 := Lib.hid (hn _ hW2)
        clear hn hW2 hg3 hb
        refine And.intro ?_ ?_
        · first
          | exact hHeld
          | exact fun _ => hHeld
        clear hHeld
        refine wpAnyT_next (i := 2) (by kernel_rfl) rfl ?_
        go_wp2_with fail
        have hn : ∀ x, x = W.alloc (.cells #[.int .i64 10, .int .i64 4, .slice A8 1 c8] 66) → RdStocks (· < x.heap.size) x ⟨some ⟨W.heap.size, 0, none⟩, 1, [⟨10, 4, ⟨A8, c8, [⟨3, 6, 0⟩]⟩⟩]⟩ := by
          rintro _ rfl
          exact rd_lit1 ⟨10, 4, ⟨A8, c8, [⟨3, 6, 0⟩]⟩⟩ rfl FL.out
        obtain ⟨g2, hg2⟩ : ∃ g, g = W.heap.size := ⟨_, rfl⟩
        rw [← hg2] at hn ⊢
        have hbo : ∀ x, x = W.alloc (.cells #[.int .i64 10, .int .i64 4, .slice A8 1 c8] 66) → Below W.heap.size W x := by
          rintro _ rfl
          exact (by repeat (first | (with_reducible exact Below.refl _ _) | ((with_reducible refine below_setr ?_ ?_); focus (first | (simp; done) | (simp; omega) | omega)) | ((with_reducible refine below_allocr ?_ ?_); focus (first | (simp; done) | (simp; omega) | omega)) | (with_reducible refine Below.drew ?_) | (with_reducible refine below_drewN ?_ _) | ((with_reducible apply below_via); focus (with_reducible assumption))))
        obtain ⟨W, hW2⟩ : ∃ x, x = W.alloc (.cells #[.int .i64 10, .int .i64 4, .slice A8 1 c8] 66) := ⟨_, rfl⟩
        have hb := hbo _ hW2
        rw [← hW2]
        replace FA := Lib.hid (FA.out.later hb)
        replace FS := Lib.hid (FS.out.later hb)
        replace FP := Lib.hid (FP.out.later hb (Nat.le_refl _))
        replace FL := Lib.hid (FL.out.below' hb (Nat.le_refl _))
        replace FB := Lib.hid (below_via hb FB.out)
        try replace F2 := Lib.hid (F2.out.later hb (Nat.le_refl _))
        try replace F3 := Lib.hid (F3.out.below' hb (Nat.le_refl _))
        try replace FX := Lib.hid (FX.out.later hb)
        have hHeld := And.intro (And.intro (FA.out.cell 0) (And.intro (FA.out.cell 1) (And.intro (FA.out.cell 2) (And.intro (FA.out.cell 3) (FA.out.cell 4))))) (And.intro (FS.out.cell 0) (And.intro (FS.out.cell 1) (FS.out.cell 2)))
        clear hbo
        have F2 := Lib.hid (hn _ hW2)
        clear hn hW2 hg2
        refine And.intro ?_ ?_
        · first
          | exact hHeld
          | exact fun _ => hHeld
        clear hHeld hb
        refine wpAnyT_next (i := 4) (by kernel_rfl) rfl ?_
        have fxl := FX.out.lt
        go_wp2_with fail
        refine (phone_join ⟨i4, c4, H4, N4, S4⟩ ⟨some ⟨g2, 0, none⟩, 1, [⟨10, 4, ⟨A8, c8, [⟨3, 6, 0⟩]⟩⟩]⟩ ⟨some ⟨g3, 0, none⟩, 12, List.replicate 12 0⟩ _ FP.out F2.out F3.out (by simp)).mono ?_
        rintro e W ⟨⟨iJ, cJ, HJ, NJ, SJ⟩, ⟨oA, oc, ol⟩, ⟨nA, nc, nl⟩, rfl, hdj, hsj, hnj, hfr0, hb⟩
        have hfr := hfr0.out
        clear hfr0
        rw [HD4.out] at hdj hsj hnj hfr
        rw [HD4.out]
        simp only [List.map_cons, List.map_nil, Stock.d, sm_join] at hdj hsj hnj hfr
        simp only [List.map_cons, List.map_nil, Stock.d, sm_join]
        obtain ⟨f1, f2, f3⟩ : RdPhone _ W _ ∧ RdStocks _ W _ ∧ RdNotes _ W _ := by
          rcases hfr with ⟨h, _⟩ | ⟨_, h⟩
          · exact absurd rfl h
          · exact h
        have FJ := Lib.hid (And.intro (f1.mono (G := fun b => b ≠ g10 ∧ b < W.heap.size) (fun b hb' => ⟨by omega, hb'.2⟩)) (And.intro (f2.mono (G := fun b => b ≠ g10 ∧ b < W.heap.size) (fun b hb' => ⟨by omega, hb'.2⟩)) (f3.mono (G := fun b => b ≠ g10 ∧ b < W.heap.size) (fun b hb' => ⟨by omega, hb'.2⟩))))
        clear F2 F3 f1 f2 f3 hfr
        have HDJ := Lib.hid hdj
        have HSJ := Lib.hid hsj
        have HNJ := Lib.hid hnj
        replace FA := Lib.hid (FA.out.later hb)
        replace FS := Lib.hid (FS.out.later hb)
        replace FP := Lib.hid (FP.out.later hb (Nat.le_refl _))
        replace FL := Lib.hid (FL.out.below' hb (Nat.le_refl _))
        replace FB := Lib.hid (below_via hb FB.out)
        try replace FX := Lib.hid (FX.out.later hb)
        clear hdj hsj hnj hb
        simp only [Phone.v]
        have hHeld := And.intro (And.intro (FA.out.cell 0) (And.intro (FA.out.cell 1) (And.intro (FA.out.cell 2) (And.intro (FA.out.cell 3) (FA.out.cell 4))))) (And.intro (FS.out.cell 0) (And.intro (FS.out.cell 1) (FS.out.cell 2)))
        go_wp2_with fail
        refine And.intro ?_ ?_
        · first
          | exact hHeld
          | exact fun _ => hHeld
        refine qtq 5 ?_
        simp only [qsa, qsb, qsc]
        refine qtq 6 ?_
        simp only [qsa, qsb, qsc]
        refine qtq 7 ?_
        simp only [qsa, qsb, qsc]
        refine qtq 8 ?_
        simp only [qsa, qsb, qsc]
        refine qtq 9 ?_
        simp only [qsa, qsb, qsc]
        clear hHeld
        clear fxl
        have ALL := Lib.hid (And.intro FX.out (And.intro FJ.out (And.intro HDJ.out (And.intro HSJ.out (And.intro HNJ.out (And.intro FB.out (And.intro FA.out (And.intro FS.out H10.out))))))))
        clear FA FS FP FL FB FX FJ HDJ HSJ HNJ H10
        try clear F2
        try clear F3
        revert ALL
        revert W
        revert nl
        revert nc
        revert nA
        revert ol
        revert oc
        revert oA
        revert SJ
        revert NJ
        revert HJ
        revert cJ
        revert iJ
        revert g10
        revert g3
        revert g2
        exact fin
  intro g2 g3 g10 iJ cJ HJ NJ SJ oA oc ol nA nc nl W ALL
  obtain ⟨fx, ⟨fjp, fjs, fjn⟩, hdj, hsj, hnj, fb, fa, fs, h10⟩ := ALL.out
  clear ALL
  obtain ⟨xJ, rfl, hxJ⟩ := rd1_len hsj
  obtain ⟨xT, xU, xL⟩ := xJ
  simp only [Stock.d, StockD.mk.injEq] at hxJ
  obtain ⟨e1, e2, e3⟩ := hxJ
  subst e1 e2
  obtain ⟨x0, x1, x2, x3, x4, xf, xz⟩ := fx.b5
  have n1 : w4.heap.size ≠ g10 := by omega
  have n2 : w8.heap.size ≠ g10 := by omega
  have BX := Lib.hid fx
  have HJP := Lib.hid fjp
  simp only [Phone.d, P4, PhoneD.mk.injEq] at hdj
  obtain ⟨d1, d2, d3, d4, d5⟩ := hdj
  subst d1 d2
  obtain ⟨HJA, HJc, HJl⟩ := HJ
  simp only at d3
  subst d3
  obtain ⟨y, rfl, hy⟩ : ∃ y, nl = [y] ∧ y.d = ⟨3, 0, List.replicate 12 0, 100, nB⟩ := by
    rcases nl with _ | ⟨y, _ | ⟨z, r⟩⟩
    · simp [P3] at hnj
    · exact ⟨y, rfl, by simpa [P3] using hnj⟩
    · simp [P3] at hnj
  obtain ⟨yd, yq, ya, yt, yx⟩ := y
  simp only [Note.d, NoteD.mk.injEq] at hy
  obtain ⟨y1, y2, y3, y4, y5⟩ := hy
  subst y1 y2 y4
  obtain ⟨b1, o1, hA1, ⟨hF1, hF1'⟩, hc1⟩ := fjs.1.at1 (i := 0) (by simp)
  simp only at hA1
  subst hA1
  obtain ⟨b2, o2, hA2, ⟨hF2, hF2'⟩, hc2⟩ := fjn.1.at1 (i := 0) (by simp)
  simp only at hA2
  subst hA2
  simp only [List.getElem_cons_zero, Nat.zero_mul, Nat.add_zero] at hc1 hc2
  obtain ⟨s0, s1, s2⟩ := Cells.c3 hc1
  obtain ⟨m0, m1, m2, m3, m4⟩ := Cells.c5 hc2
  have HXL := Lib.hid e3
  have hxl : xL.l.length = 0 := by rw [e3]; rfl
  have HDJ := Lib.hid (And.intro d4 d5)
  have HLJ := Lib.hid (fjs.2 _ (List.mem_singleton.2 rfl))
  have HFB := Lib.hid fb
  have KS : ∀ {b o : Nat} {v : Value} (v0 v1 v2 v3 v4 : Value), b ≠ g10 → W.cell? ⟨b, o, none⟩ = some v → (((((W.setCell ⟨g10, 0, none⟩ v0).setCell ⟨g10, 1, none⟩ v1).setCell ⟨g10, 2, none⟩ v2).setCell ⟨g10, 3, none⟩ v3).setCell ⟨g10, 4, none⟩ v4).cell? ⟨b, o, none⟩ = some v := fun v0 v1 v2 v3 v4 hne h => kset _ hne (kset _ hne (kset _ hne (kset _ hne (kset _ hne h))))
  have HKS := Lib.hid (fun v0 v1 v2 v3 v4 => And.intro (And.intro (KS v0 v1 v2 v3 v4 n1 (fa.cell 0)) (And.intro (KS v0 v1 v2 v3 v4 n1 (fa.cell 1)) (And.intro (KS v0 v1 v2 v3 v4 n1 (fa.cell 2)) (And.intro (KS v0 v1 v2 v3 v4 n1 (fa.cell 3)) (KS v0 v1 v2 v3 v4 n1 (fa.cell 4)))))) (And.intro (KS v0 v1 v2 v3 v4 n2 (fs.cell 0)) (And.intro (KS v0 v1 v2 v3 v4 n2 (fs.cell 1)) (KS v0 v1 v2 v3 v4 n2 (fs.cell 2)))))
  clear KS hsj fx fjp fjs fjn hnj fb fa fs e3 d4 d5 y3 y5 hc1 hc2
  refine wpAnyT_next (i := 11) (by kernel_rfl) rfl ?_
  go_wp2_with fail
  have hHeld := HKS.out (.int .i64 3) (.bool false) (.slice HJA 0 HJc) (.slice NJ.A NJ.l.length NJ.c) (.slice SJ.A SJ.l.length SJ.c)
  refine And.intro ?_ ?_
  · first
    | exact hHeld
    | exact fun _ => hHeld
  refine qtq 12 ?_
  simp only [qsa, qsb, qsc]
  refine qtq 13 ?_
  simp only [qsa, qsb, qsc]
  refine qtq 14 ?_
  simp only [qsa, qsb, qsc]
  refine wpAnyT_done (by kernel_rfl) ?_ _
  clear hHeld HKS
  go_wp2_with fail
  have HV : ∀ x, x = ((((W.setCell ⟨g10, 0, none⟩ (.int .i64 3)).setCell ⟨g10, 1, none⟩ (.bool false)).setCell ⟨g10, 2, none⟩ (.slice HJA 0 HJc)).setCell ⟨g10, 3, none⟩ (.slice NJ.A NJ.l.length NJ.c)).setCell ⟨g10, 4, none⟩ (.slice SJ.A SJ.l.length SJ.c) →
      Blk x g10 33 #[.int .i64 3, .bool false, .slice HJA 0 HJc, .slice NJ.A NJ.l.length NJ.c, .slice SJ.A SJ.l.length SJ.c] ∧ RdPhone (· < x.heap.size) x ⟨3, false, ⟨HJA, HJc, []⟩, NJ, SJ⟩ ∧ Rd (· < x.heap.size) 3 Loan.enc x xL ∧ x.cell? ⟨b2, o2, none⟩ = some (.int .i64 3) ∧ x.cell? ⟨b2, o2 + 3, none⟩ = some (.int .i64 100) ∧ Below w.heap.size w x := by
    rintro _ rfl
    have hw10 : w.heap.size ≤ g10 := by omega
    refine ⟨by simpa using (((((BX.out.set_ 0 (.int .i64 3)).set_ 1 (.bool false)).set_ 2 (.slice HJA 0 HJc)).set_ 3 (.slice NJ.A NJ.l.length NJ.c)).set_ 4 (.slice SJ.A SJ.l.length SJ.c)), ?_, ?_, kset _ hF2 (kset _ hF2 (kset _ hF2 (kset _ hF2 (kset _ hF2 m0)))), kset _ hF2 (kset _ hF2 (kset _ hF2 (kset _ hF2 (kset _ hF2 m3)))), (by repeat (first | (with_reducible exact HFB.out) | (with_reducible exact Below.refl _ _) | ((with_reducible refine below_setr ?_ ?_); focus (first | (simp; done) | (simp; omega) | omega)) | ((with_reducible refine below_allocr ?_ ?_); focus (first | (simp; done) | (simp; omega) | omega)) | (with_reducible refine Below.drew ?_) | (with_reducible refine below_drewN ?_ _) | ((with_reducible apply below_via); focus (with_reducible assumption))))⟩
    · refine RdPhone.mono (F := fun b => b ≠ g10 ∧ b < W.heap.size) ?_ (fun b hb => by simpa using hb.2)
      exact HJP.out.keep (fun b hb => by
        rw [Below.heap_setCell _ _ _ _ hb.1, Below.heap_setCell _ _ _ _ hb.1, Below.heap_setCell _ _ _ _ hb.1, Below.heap_setCell _ _ _ _ hb.1, Below.heap_setCell _ _ _ _ hb.1])
    · refine Rd.mono (F := fun b => b ≠ g10 ∧ b < W.heap.size) ?_ (fun b hb => by simpa using hb.2)
      exact HLJ.out.keep (fun b hb => by
        rw [Below.heap_setCell _ _ _ _ hb.1, Below.heap_setCell _ _ _ _ hb.1, Below.heap_setCell _ _ _ _ hb.1, Below.heap_setCell _ _ _ _ hb.1, Below.heap_setCell _ _ _ _ hb.1])
  obtain ⟨V, hV⟩ : ∃ x, x = ((((W.setCell ⟨g10, 0, none⟩ (.int .i64 3)).setCell ⟨g10, 1, none⟩ (.bool false)).setCell ⟨g10, 2, none⟩ (.slice HJA 0 HJc)).setCell ⟨g10, 3, none⟩ (.slice NJ.A NJ.l.length NJ.c)).setCell ⟨g10, 4, none⟩ (.slice SJ.A SJ.l.length SJ.c) := ⟨_, rfl⟩
  obtain ⟨vx, vp, vl, vm0, vm3, vb⟩ := HV _ hV
  rw [← hV]
  have B_x := Lib.hid vx
  have VP := Lib.hid vp
  have VL := Lib.hid vl
  clear HV hV vx vp vl m0 m1 m2 m3 m4 s0 s1 s2 x0 x1 x2 x3 x4 xf
  have hfr := stock_free ⟨10, 8, xL⟩ V VL.out
  have hfv : StockD.free (Stock.d ⟨10, 8, xL⟩) = 2 := by simp only [Stock.d, HXL.out]; rfl
  rw [hfv] at hfr
  simp only [Stock.v, hxl] at hfr
  refine hfr.mono ?_
  clear hfr hfv
  rintro e V1 ⟨rfl, hbv⟩
  have K_x : Blk _ (g10) 33 #[.int .i64 3, .bool false, .slice HJA 0 HJc, .slice NJ.A NJ.l.length NJ.c, .slice SJ.A SJ.l.length SJ.c] := qkc B_x hbv
  obtain ⟨x0, x1, x2, x3, x4, xf, xz⟩ := Blk.b5 K_x
  have B_x := Lib.hid K_x
  clear K_x
  have u0 := keep_cell hbv vm0
  have u3 := keep_cell hbv vm3
  clear vm0 vm3
  have VP1 := Lib.hid (VP.out.later hbv (Nat.le_refl _))
  have vb1 : Below w.heap.size w V1 := (by repeat (first | (with_reducible exact vb) | (with_reducible exact Below.refl _ _) | ((with_reducible refine below_setr ?_ ?_); focus (first | (simp; done) | (simp; omega) | omega)) | ((with_reducible refine below_allocr ?_ ?_); focus (first | (simp; done) | (simp; omega) | omega)) | (with_reducible refine Below.drew ?_) | (with_reducible refine below_drewN ?_ _) | ((with_reducible apply below_via); focus (with_reducible assumption))))
  clear hbv
  go_wp2_with fail
  have hri := phone_right ⟨3, false, ⟨HJA, HJc, []⟩, NJ, SJ⟩ V1 VP1.out
  have hrv : PhoneD.right (Phone.d ⟨3, false, ⟨HJA, HJc, []⟩, NJ, SJ⟩) = true := by simp only [Phone.d, HDJ.out.1, HDJ.out.2]; rfl
  rw [hrv] at hri
  simp only [Phone.v, List.length_nil] at hri
  refine hri.mono ?_
  clear hri hrv
  rintro e V2 ⟨rfl, hbv2⟩
  have vb2 : Below w.heap.size w V2 := (by repeat (first | (with_reducible exact vb1) | (with_reducible exact Below.refl _ _) | ((with_reducible refine below_setr ?_ ?_); focus (first | (simp; done) | (simp; omega) | omega)) | ((with_reducible refine below_allocr ?_ ?_); focus (first | (simp; done) | (simp; omega) | omega)) | (with_reducible refine Below.drew ?_) | (with_reducible refine below_drewN ?_ _) | ((with_reducible apply below_via); focus (with_reducible assumption))))
  clear hbv2
  go_wp2_with fail
  go_ret
  exact ⟨rfl, vb2⟩
end Go.Proofs.Ythnblhbdfpmolaa
