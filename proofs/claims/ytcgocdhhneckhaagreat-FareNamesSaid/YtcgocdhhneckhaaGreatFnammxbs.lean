/- Walk: ask. -/
import Derived.Test.YtcgocdhhneckhaaGreatFnammxbq
import Derived.Test.YtcgocdhhneckhaaGreatFnammxbl
import Derived.DeepKeys
import Derived.Test.YtcgocdhhneckhaaGreatFnammxbn
namespace Go.Proofs.YtcgocdhhneckhaaGreat
open Go.RowKit
theorem Blk.b8 {w : World} {g : Nat} {t : TypeId} {x0 x1 x2 x3 x4 x5 x6 x7 : Value} (h : Blk w g t #[x0, x1, x2, x3, x4, x5, x6, x7]) : w.cell? ⟨g, 0, none⟩ = some x0 ∧ w.cell? ⟨g, 1, none⟩ = some x1 ∧ w.cell? ⟨g, 2, none⟩ = some x2 ∧ w.cell? ⟨g, 3, none⟩ = some x3 ∧ w.cell? ⟨g, 4, none⟩ = some x4 ∧ w.cell? ⟨g, 5, none⟩ = some x5 ∧ w.cell? ⟨g, 6, none⟩ = some x6 ∧ w.cell? ⟨g, 7, none⟩ = some x7 ∧ (∀ o, w.frozen? ⟨g, o, none⟩ = false) ∧ g < w.heap.size :=
  ⟨h.cell 0, h.cell 1, h.cell 2, h.cell 3, h.cell 4, h.cell 5, h.cell 6, h.cell 7, h.frozen, h.lt⟩
set_option maxRecDepth 100000 in
set_option maxHeartbeats 3200000 in
theorem law_ask (b : Byl) (T M : Sl FT) (w : World) (hb : Byl.At (· < w.heap.size) w b) (h40 : b.lets.l.length ≤ 1000000) (hT : FactsAt (· < w.heap.size) w T) (hM : FactsAt (· < w.heap.size) w M) :
    Calls Tryz.prog 23 #[b.v, .slice T.A T.l.length T.c, .slice M.A M.l.length M.c] w fun r w' => r = .returned (.agg #[.bool (admC b T.l M.l).1, .int .i64 (whC b b.fa T.l M.l).1, .int .i64 (whC b b.la T.l M.l).1, .int .i64 (whC b b.no T.l M.l).1, .int .i64 (admC b T.l M.l).2, .int .i64 (whC b b.fa T.l M.l).2, .int .i64 (whC b b.la T.l M.l).2, .int .i64 (whC b b.no T.l M.l).2]) ∧ Below w.heap.size w w' := by
  have H1 := Lib.hid (fun W (hW : Below w.heap.size w W) => fare_Admit b T M W (hb.later hW) h40 (hT.later hW) (hM.later hW))
  have H2 := Lib.hid (fun W (hW : Below w.heap.size w W) => fare_Fare b T M W (hb.later hW) h40 (hT.later hW) (hM.later hW))
  have H3 := Lib.hid (fun W (hW : Below w.heap.size w W) => fare_Late b T M W (hb.later hW) h40 (hT.later hW) (hM.later hW))
  have H4 := Lib.hid (fun W (hW : Below w.heap.size w W) => fare_Noshow b T M W (hb.later hW) h40 (hT.later hW) (hM.later hW))
  obtain ⟨V1, hV1⟩ : ∃ V, admC b T.l M.l = V := ⟨_, rfl⟩
  obtain ⟨V2, hV2⟩ : ∃ V, whC b b.fa T.l M.l = V := ⟨_, rfl⟩
  obtain ⟨V3, hV3⟩ : ∃ V, whC b b.la T.l M.l = V := ⟨_, rfl⟩
  obtain ⟨V4, hV4⟩ : ∃ V, whC b b.no T.l M.l = V := ⟨_, rfl⟩
  rw [hV1] at H1
  rw [hV2] at H2
  rw [hV3] at H3
  rw [hV4] at H4
  rw [hV1, hV2, hV3, hV4]
  clear hV1 hV2 hV3 hV4 hb h40 hT hM
  obtain ⟨nm, ⟨LA, Lc, L⟩, ⟨o, n, u, s, A, c, l⟩, ⟨oB, nB, uB, sB, AB, cB, lB⟩, ⟨oC, nC, uC, sC, AC, cC, lC⟩, ⟨oD, nD, uD, sD, AD, cD, lD⟩, q, sh, ch⟩ := b
  simp only [Byl.v] at H1 H2 H3 H4 ⊢
  have HB : Hid (Below w.heap.size w (((w.alloc (.cells #[.string nm, .slice LA L.length Lc, .int .i64 o, .int .i64 n, .int .i64 u, .string s, .slice A l.length c, .int .i64 oB, .int .i64 nB, .int .i64 uB, .string sB, .slice AB lB.length cB, .int .i64 oC, .int .i64 nC, .int .i64 uC, .string sC, .slice AC lC.length cC, .int .i64 oD, .int .i64 nD, .int .i64 uD, .string sD, .slice AD lD.length cD, .int .i64 q, .int .i64 sh, .int .i64 ch] 27)).alloc (.cells #[.bool false, .int .i64 0, .int .i64 0, .int .i64 0, .int .i64 0, .int .i64 0, .int .i64 0, .int .i64 0] 50)).alloc (.cells #[.bool false, .int .i64 0, .int .i64 0, .int .i64 0, .int .i64 0, .int .i64 0, .int .i64 0, .int .i64 0] 50))) := Lib.hid qbl
  have HA : Hid (Blk (((w.alloc (.cells #[.string nm, .slice LA L.length Lc, .int .i64 o, .int .i64 n, .int .i64 u, .string s, .slice A l.length c, .int .i64 oB, .int .i64 nB, .int .i64 uB, .string sB, .slice AB lB.length cB, .int .i64 oC, .int .i64 nC, .int .i64 uC, .string sC, .slice AC lC.length cC, .int .i64 oD, .int .i64 nD, .int .i64 uD, .string sD, .slice AD lD.length cD, .int .i64 q, .int .i64 sh, .int .i64 ch] 27)).alloc (.cells #[.bool false, .int .i64 0, .int .i64 0, .int .i64 0, .int .i64 0, .int .i64 0, .int .i64 0, .int .i64 0] 50)).alloc (.cells #[.bool false, .int .i64 0, .int .i64 0, .int .i64 0, .int .i64 0, .int .i64 0, .int .i64 0, .int .i64 0] 50)) w.heap.size 27 #[.string nm, .slice LA L.length Lc, .int .i64 o, .int .i64 n, .int .i64 u, .string s, .slice A l.length c, .int .i64 oB, .int .i64 nB, .int .i64 uB, .string sB, .slice AB lB.length cB, .int .i64 oC, .int .i64 nC, .int .i64 uC, .string sC, .slice AC lC.length cC, .int .i64 oD, .int .i64 nD, .int .i64 uD, .string sD, .slice AD lD.length cD, .int .i64 q, .int .i64 sh, .int .i64 ch]) := Lib.hid (((Blk.new _ _ _).alloc _).alloc _)
  have HR : Hid (Blk (((w.alloc (.cells #[.string nm, .slice LA L.length Lc, .int .i64 o, .int .i64 n, .int .i64 u, .string s, .slice A l.length c, .int .i64 oB, .int .i64 nB, .int .i64 uB, .string sB, .slice AB lB.length cB, .int .i64 oC, .int .i64 nC, .int .i64 uC, .string sC, .slice AC lC.length cC, .int .i64 oD, .int .i64 nD, .int .i64 uD, .string sD, .slice AD lD.length cD, .int .i64 q, .int .i64 sh, .int .i64 ch] 27)).alloc (.cells #[.bool false, .int .i64 0, .int .i64 0, .int .i64 0, .int .i64 0, .int .i64 0, .int .i64 0, .int .i64 0] 50)).alloc (.cells #[.bool false, .int .i64 0, .int .i64 0, .int .i64 0, .int .i64 0, .int .i64 0, .int .i64 0, .int .i64 0] 50)) (w.heap.size + 1) 50 #[.bool false, .int .i64 0, .int .i64 0, .int .i64 0, .int .i64 0, .int .i64 0, .int .i64 0, .int .i64 0]) := Lib.hid ((Blk.new' (by simp)).alloc _)
  have HX : Hid (Blk (((w.alloc (.cells #[.string nm, .slice LA L.length Lc, .int .i64 o, .int .i64 n, .int .i64 u, .string s, .slice A l.length c, .int .i64 oB, .int .i64 nB, .int .i64 uB, .string sB, .slice AB lB.length cB, .int .i64 oC, .int .i64 nC, .int .i64 uC, .string sC, .slice AC lC.length cC, .int .i64 oD, .int .i64 nD, .int .i64 uD, .string sD, .slice AD lD.length cD, .int .i64 q, .int .i64 sh, .int .i64 ch] 27)).alloc (.cells #[.bool false, .int .i64 0, .int .i64 0, .int .i64 0, .int .i64 0, .int .i64 0, .int .i64 0, .int .i64 0] 50)).alloc (.cells #[.bool false, .int .i64 0, .int .i64 0, .int .i64 0, .int .i64 0, .int .i64 0, .int .i64 0, .int .i64 0] 50)) (w.heap.size + 1 + 1) 50 #[.bool false, .int .i64 0, .int .i64 0, .int .i64 0, .int .i64 0, .int .i64 0, .int .i64 0, .int .i64 0]) := Lib.hid (Blk.new' (by simp))
  go_enter Tryz.func23, Tryz.ntmps23
  go_wp2_with (refine wpList_load_row rfl 27 (.tmp 3) rfl w.heap.size rfl 27 #[.string nm, .slice LA L.length Lc, .int .i64 o, .int .i64 n, .int .i64 u, .string s, .slice A l.length c, .int .i64 oB, .int .i64 nB, .int .i64 uB, .string sB, .slice AB lB.length cB, .int .i64 oC, .int .i64 nC, .int .i64 uC, .string sC, .slice AC lC.length cC, .int .i64 oD, .int .i64 nD, .int .i64 uD, .string sD, .slice AD lD.length cD, .int .i64 q, .int .i64 sh, .int .i64 ch] (0, 0) _ HA.out Tryz.underlying27 rfl (by kernel_rfl) ?_)
  refine (H1.out _ HB.out).mono ?_
  generalize (((w.alloc (.cells #[.string nm, .slice LA L.length Lc, .int .i64 o, .int .i64 n, .int .i64 u, .string s, .slice A l.length c, .int .i64 oB, .int .i64 nB, .int .i64 uB, .string sB, .slice AB lB.length cB, .int .i64 oC, .int .i64 nC, .int .i64 uC, .string sC, .slice AC lC.length cC, .int .i64 oD, .int .i64 nD, .int .i64 uD, .string sD, .slice AD lD.length cD, .int .i64 q, .int .i64 sh, .int .i64 ch] 27)).alloc (.cells #[.bool false, .int .i64 0, .int .i64 0, .int .i64 0, .int .i64 0, .int .i64 0, .int .i64 0, .int .i64 0] 50)).alloc (.cells #[.bool false, .int .i64 0, .int .i64 0, .int .i64 0, .int .i64 0, .int .i64 0, .int .i64 0, .int .i64 0] 50)) = w1 at *
  rintro e w2 ⟨rfl, hb2⟩
  have HB2 : Hid (Below w.heap.size w w2) := Lib.hid (HB.out.trans (hb2.mono HB.out.size))
  have HA2 := Lib.hid (HA.out.later hb2)
  have HR2 := Lib.hid (HR.out.later hb2)
  have HX2 := Lib.hid (HX.out.later hb2)
  clear hb2 HB HA HR HX
  obtain ⟨s0, s1, s2, s3, s4, s5, s6, s7, sf, sz⟩ := Blk.b8 HX2.out
  have hne : w.heap.size ≠ w.heap.size + 1 + 1 := by omega
  have hne2 : w.heap.size + 1 ≠ w.heap.size + 1 + 1 := by omega
  have hle : w.heap.size ≤ w.heap.size + 1 + 1 := by omega
  go_wp2_with (refine wpList_load_row rfl 27 (.tmp 3) rfl w.heap.size rfl 27 #[.string nm, .slice LA L.length Lc, .int .i64 o, .int .i64 n, .int .i64 u, .string s, .slice A l.length c, .int .i64 oB, .int .i64 nB, .int .i64 uB, .string sB, .slice AB lB.length cB, .int .i64 oC, .int .i64 nC, .int .i64 uC, .string sC, .slice AC lC.length cC, .int .i64 oD, .int .i64 nD, .int .i64 uD, .string sD, .slice AD lD.length cD, .int .i64 q, .int .i64 sh, .int .i64 ch] (0, 0) _ ((HA2.out.far hne _).far hne _) Tryz.underlying27 rfl (by kernel_rfl) ?_)
  have HBg : Hid (Below w.heap.size w ((w2.setCell ⟨w.heap.size + 1 + 1, 0, none⟩ (.bool V1.1)).setCell ⟨w.heap.size + 1 + 1, 4, none⟩ (.int .i64 V1.2))) := Lib.hid ((HB2.out.setCell hle _).setCell hle _)
  have HAg : Hid (Blk ((w2.setCell ⟨w.heap.size + 1 + 1, 0, none⟩ (.bool V1.1)).setCell ⟨w.heap.size + 1 + 1, 4, none⟩ (.int .i64 V1.2)) w.heap.size 27 #[.string nm, .slice LA L.length Lc, .int .i64 o, .int .i64 n, .int .i64 u, .string s, .slice A l.length c, .int .i64 oB, .int .i64 nB, .int .i64 uB, .string sB, .slice AB lB.length cB, .int .i64 oC, .int .i64 nC, .int .i64 uC, .string sC, .slice AC lC.length cC, .int .i64 oD, .int .i64 nD, .int .i64 uD, .string sD, .slice AD lD.length cD, .int .i64 q, .int .i64 sh, .int .i64 ch]) := Lib.hid ((HA2.out.far hne _).far hne _)
  have HRg : Hid (Blk ((w2.setCell ⟨w.heap.size + 1 + 1, 0, none⟩ (.bool V1.1)).setCell ⟨w.heap.size + 1 + 1, 4, none⟩ (.int .i64 V1.2)) (w.heap.size + 1) 50 #[.bool false, .int .i64 0, .int .i64 0, .int .i64 0, .int .i64 0, .int .i64 0, .int .i64 0, .int .i64 0]) := Lib.hid ((HR2.out.far hne2 _).far hne2 _)
  have HXg : Hid (Blk ((w2.setCell ⟨w.heap.size + 1 + 1, 0, none⟩ (.bool V1.1)).setCell ⟨w.heap.size + 1 + 1, 4, none⟩ (.int .i64 V1.2)) (w.heap.size + 1 + 1) 50 #[.bool V1.1, .int .i64 0, .int .i64 0, .int .i64 0, .int .i64 V1.2, .int .i64 0, .int .i64 0, .int .i64 0]) := Lib.hid (by simpa using (HX2.out.set_ 0 (.bool V1.1)).set_ 4 (.int .i64 V1.2))
  clear s0 s1 s2 s3 s4 s5 s6 s7 sf sz HB2 HA2 HR2 HX2
  generalize ((w2.setCell ⟨w.heap.size + 1 + 1, 0, none⟩ (.bool V1.1)).setCell ⟨w.heap.size + 1 + 1, 4, none⟩ (.int .i64 V1.2)) = wg2 at *
  refine (H2.out _ HBg.out).mono ?_
  rintro e w3 ⟨rfl, hb⟩
  have HB3 : Hid (Below w.heap.size w w3) := Lib.hid (HBg.out.trans (hb.mono HBg.out.size))
  have HA3 := Lib.hid (HAg.out.later hb)
  have HR3 := Lib.hid (HRg.out.later hb)
  have HX3 := Lib.hid (HXg.out.later hb)
  clear hb HBg HAg HRg HXg
  clear wg2
  obtain ⟨s0, s1, s2, s3, s4, s5, s6, s7, sf, sz⟩ := Blk.b8 HX3.out
  go_wp2_with (refine wpList_load_row rfl 27 (.tmp 3) rfl w.heap.size rfl 27 #[.string nm, .slice LA L.length Lc, .int .i64 o, .int .i64 n, .int .i64 u, .string s, .slice A l.length c, .int .i64 oB, .int .i64 nB, .int .i64 uB, .string sB, .slice AB lB.length cB, .int .i64 oC, .int .i64 nC, .int .i64 uC, .string sC, .slice AC lC.length cC, .int .i64 oD, .int .i64 nD, .int .i64 uD, .string sD, .slice AD lD.length cD, .int .i64 q, .int .i64 sh, .int .i64 ch] (0, 0) _ ((HA3.out.far hne _).far hne _) Tryz.underlying27 rfl (by kernel_rfl) ?_)
  have HBg : Hid (Below w.heap.size w ((w3.setCell ⟨w.heap.size + 1 + 1, 1, none⟩ (.int .i64 V2.1)).setCell ⟨w.heap.size + 1 + 1, 5, none⟩ (.int .i64 V2.2))) := Lib.hid ((HB3.out.setCell hle _).setCell hle _)
  have HAg : Hid (Blk ((w3.setCell ⟨w.heap.size + 1 + 1, 1, none⟩ (.int .i64 V2.1)).setCell ⟨w.heap.size + 1 + 1, 5, none⟩ (.int .i64 V2.2)) w.heap.size 27 #[.string nm, .slice LA L.length Lc, .int .i64 o, .int .i64 n, .int .i64 u, .string s, .slice A l.length c, .int .i64 oB, .int .i64 nB, .int .i64 uB, .string sB, .slice AB lB.length cB, .int .i64 oC, .int .i64 nC, .int .i64 uC, .string sC, .slice AC lC.length cC, .int .i64 oD, .int .i64 nD, .int .i64 uD, .string sD, .slice AD lD.length cD, .int .i64 q, .int .i64 sh, .int .i64 ch]) := Lib.hid ((HA3.out.far hne _).far hne _)
  have HRg : Hid (Blk ((w3.setCell ⟨w.heap.size + 1 + 1, 1, none⟩ (.int .i64 V2.1)).setCell ⟨w.heap.size + 1 + 1, 5, none⟩ (.int .i64 V2.2)) (w.heap.size + 1) 50 #[.bool false, .int .i64 0, .int .i64 0, .int .i64 0, .int .i64 0, .int .i64 0, .int .i64 0, .int .i64 0]) := Lib.hid ((HR3.out.far hne2 _).far hne2 _)
  have HXg : Hid (Blk ((w3.setCell ⟨w.heap.size + 1 + 1, 1, none⟩ (.int .i64 V2.1)).setCell ⟨w.heap.size + 1 + 1, 5, none⟩ (.int .i64 V2.2)) (w.heap.size + 1 + 1) 50 #[.bool V1.1, .int .i64 V2.1, .int .i64 0, .int .i64 0, .int .i64 V1.2, .int .i64 V2.2, .int .i64 0, .int .i64 0]) := Lib.hid (by simpa using (HX3.out.set_ 1 (.int .i64 V2.1)).set_ 5 (.int .i64 V2.2))
  clear s0 s1 s2 s3 s4 s5 s6 s7 sf sz HB3 HA3 HR3 HX3
  generalize ((w3.setCell ⟨w.heap.size + 1 + 1, 1, none⟩ (.int .i64 V2.1)).setCell ⟨w.heap.size + 1 + 1, 5, none⟩ (.int .i64 V2.2)) = wg3 at *
  refine (H3.out _ HBg.out).mono ?_
  rintro e w4 ⟨rfl, hb⟩
  have HB4 : Hid (Below w.heap.size w w4) := Lib.hid (HBg.out.trans (hb.mono HBg.out.size))
  have HA4 := Lib.hid (HAg.out.later hb)
  have HR4 := Lib.hid (HRg.out.later hb)
  have HX4 := Lib.hid (HXg.out.later hb)
  clear hb HBg HAg HRg HXg
  clear wg3
  obtain ⟨s0, s1, s2, s3, s4, s5, s6, s7, sf, sz⟩ := Blk.b8 HX4.out
  go_wp2_with (refine wpList_load_row rfl 27 (.tmp 3) rfl w.heap.size rfl 27 #[.string nm, .slice LA L.length Lc, .int .i64 o, .int .i64 n, .int .i64 u, .string s, .slice A l.length c, .int .i64 oB, .int .i64 nB, .int .i64 uB, .string sB, .slice AB lB.length cB, .int .i64 oC, .int .i64 nC, .int .i64 uC, .string sC, .slice AC lC.length cC, .int .i64 oD, .int .i64 nD, .int .i64 uD, .string sD, .slice AD lD.length cD, .int .i64 q, .int .i64 sh, .int .i64 ch] (0, 0) _ ((HA4.out.far hne _).far hne _) Tryz.underlying27 rfl (by kernel_rfl) ?_)
  have HBg : Hid (Below w.heap.size w ((w4.setCell ⟨w.heap.size + 1 + 1, 2, none⟩ (.int .i64 V3.1)).setCell ⟨w.heap.size + 1 + 1, 6, none⟩ (.int .i64 V3.2))) := Lib.hid ((HB4.out.setCell hle _).setCell hle _)
  have HAg : Hid (Blk ((w4.setCell ⟨w.heap.size + 1 + 1, 2, none⟩ (.int .i64 V3.1)).setCell ⟨w.heap.size + 1 + 1, 6, none⟩ (.int .i64 V3.2)) w.heap.size 27 #[.string nm, .slice LA L.length Lc, .int .i64 o, .int .i64 n, .int .i64 u, .string s, .slice A l.length c, .int .i64 oB, .int .i64 nB, .int .i64 uB, .string sB, .slice AB lB.length cB, .int .i64 oC, .int .i64 nC, .int .i64 uC, .string sC, .slice AC lC.length cC, .int .i64 oD, .int .i64 nD, .int .i64 uD, .string sD, .slice AD lD.length cD, .int .i64 q, .int .i64 sh, .int .i64 ch]) := Lib.hid ((HA4.out.far hne _).far hne _)
  have HRg : Hid (Blk ((w4.setCell ⟨w.heap.size + 1 + 1, 2, none⟩ (.int .i64 V3.1)).setCell ⟨w.heap.size + 1 + 1, 6, none⟩ (.int .i64 V3.2)) (w.heap.size + 1) 50 #[.bool false, .int .i64 0, .int .i64 0, .int .i64 0, .int .i64 0, .int .i64 0, .int .i64 0, .int .i64 0]) := Lib.hid ((HR4.out.far hne2 _).far hne2 _)
  have HXg : Hid (Blk ((w4.setCell ⟨w.heap.size + 1 + 1, 2, none⟩ (.int .i64 V3.1)).setCell ⟨w.heap.size + 1 + 1, 6, none⟩ (.int .i64 V3.2)) (w.heap.size + 1 + 1) 50 #[.bool V1.1, .int .i64 V2.1, .int .i64 V3.1, .int .i64 0, .int .i64 V1.2, .int .i64 V2.2, .int .i64 V3.2, .int .i64 0]) := Lib.hid (by simpa using (HX4.out.set_ 2 (.int .i64 V3.1)).set_ 6 (.int .i64 V3.2))
  clear s0 s1 s2 s3 s4 s5 s6 s7 sf sz HB4 HA4 HR4 HX4
  generalize ((w4.setCell ⟨w.heap.size + 1 + 1, 2, none⟩ (.int .i64 V3.1)).setCell ⟨w.heap.size + 1 + 1, 6, none⟩ (.int .i64 V3.2)) = wg4 at *
  refine (H4.out _ HBg.out).mono ?_
  rintro e w5 ⟨rfl, hb⟩
  have HB5 : Hid (Below w.heap.size w w5) := Lib.hid (HBg.out.trans (hb.mono HBg.out.size))
  have HA5 := Lib.hid (HAg.out.later hb)
  have HR5 := Lib.hid (HRg.out.later hb)
  have HX5 := Lib.hid (HXg.out.later hb)
  clear hb HBg HAg HRg HXg
  clear wg4
  obtain ⟨s0, s1, s2, s3, s4, s5, s6, s7, sf, sz⟩ := Blk.b8 HX5.out
  obtain ⟨r0, r1, r2, r3, r4, r5, r6, r7, rf, rz⟩ := Blk.b8 HR5.out
  go_wp2_with fail
  try simp only [Exit.inBlock, Exit.then]
  refine bodyPost_ret (v := .agg #[.bool V1.1, .int .i64 V2.1, .int .i64 V3.1, .int .i64 V4.1, .int .i64 V1.2, .int .i64 V2.2, .int .i64 V3.2, .int .i64 V4.2]) ?_ rfl ⟨rfl, (by repeat (first | (with_reducible exact HB5.out) | (with_reducible exact Below.refl _ _) | ((with_reducible refine below_setr ?_ ?_); focus (first | (simp; done) | (simp; omega) | omega)) | ((with_reducible refine below_allocr ?_ ?_); focus (first | (simp; done) | (simp; omega) | omega)) | (with_reducible refine Below.drew ?_) | (with_reducible refine below_drewN ?_ _)))⟩
  simp [results, Tryz.results23, go_sem, r0, r1, r2, r3, r4, r5, r6, r7, rz]
end Go.Proofs.YtcgocdhhneckhaaGreat
/- Two equal answers. -/
namespace Go.Proofs.YtcgocdhhneckhaaGreat
open Go.RowKit
theorem infoErr : Info Tryz.prog 30 (.int .i64 0) 1 8 := info_mk (by kernel_rfl) rfl
theorem arr_same (d : Nat) (e1 e2 e3 e4 : Int) (w : World) : (Op.equalIn (d + 1 + 1) 48 (.agg #[.int .i64 e1, .int .i64 e2, .int .i64 e3, .int .i64 e4]) (.agg #[.int .i64 e1, .int .i64 e2, .int .i64 e3, .int .i64 e4])).run Tryz.prog w = .ok true w := by
  obtain ⟨i, hi, _⟩ := infoErr
  rw [run_equalIn_array w (d + 1) _ _ Tryz.underlying48 hi]
  have h1 := fun a : Int => run_equalIn_int (P := Tryz.prog) w d 30 .i64 .i64 a a Tryz.underlying30
  have hc : Program.cellsOf Tryz.prog 30 = 1 := by kernel_rfl
  have hr : List.range 4 = [0, 1, 2, 3] := rfl
  rw [hc, hr]
  simp [Op.eqItems, go_sem, h1]
theorem ans_same (a1 : Bool) (a2 a3 a4 e1 e2 e3 e4 : Int) (w : World) : (Op.equalIn 10000 50 (.agg #[.bool a1, .int .i64 a2, .int .i64 a3, .int .i64 a4, .int .i64 e1, .int .i64 e2, .int .i64 e3, .int .i64 e4]) (.agg #[.bool a1, .int .i64 a2, .int .i64 a3, .int .i64 a4, .int .i64 e1, .int .i64 e2, .int .i64 e3, .int .i64 e4])).run Tryz.prog w = .ok true w := by
  have h := run_equalIn_agg (P := Tryz.prog) w 9999 50 #[.bool a1, .int .i64 a2, .int .i64 a3, .int .i64 a4, .int .i64 e1, .int .i64 e2, .int .i64 e3, .int .i64 e4] #[.bool a1, .int .i64 a2, .int .i64 a3, .int .i64 a4, .int .i64 e1, .int .i64 e2, .int .i64 e3, .int .i64 e4] (by kernel_rfl) (by kernel_rfl)
  refine h.trans ?_
  unfold Program.fieldsOf
  rw [Tryz.underlying50]
  have h2 := arr_same 9997 e1 e2 e3 e4 w
  simp [Op.eqFields, go_sem]
  rw [show (9999 : Nat) = 9997 + 1 + 1 from rfl, h2]
  rfl
theorem ans_neq (a1 : Bool) (a2 a3 a4 e1 e2 e3 e4 : Int) (w : World) : (binOp .neq 50 (.agg #[.bool a1, .int .i64 a2, .int .i64 a3, .int .i64 a4, .int .i64 e1, .int .i64 e2, .int .i64 e3, .int .i64 e4]) (.agg #[.bool a1, .int .i64 a2, .int .i64 a3, .int .i64 a4, .int .i64 e1, .int .i64 e2, .int .i64 e3, .int .i64 e4])).run Tryz.prog w = .ok (.bool false) w := by
  rw [run_neq_struct, ans_same]; rfl
theorem ans_eql (a1 : Bool) (a2 a3 a4 e1 e2 e3 e4 : Int) (w : World) : (binOp .eql 50 (.agg #[.bool a1, .int .i64 a2, .int .i64 a3, .int .i64 a4, .int .i64 e1, .int .i64 e2, .int .i64 e3, .int .i64 e4]) (.agg #[.bool a1, .int .i64 a2, .int .i64 a3, .int .i64 a4, .int .i64 e1, .int .i64 e2, .int .i64 e3, .int .i64 e4])).run Tryz.prog w = .ok (.bool true) w := by
  rw [run_eql_struct, ans_same]; rfl
theorem ans_guard (op : BinOp) (x y : Operand) (xs ys : Array Value) (w : World) : (eqGuard op 50 x y (.agg xs) (.agg ys)).run Tryz.prog w = .ok () w := run_eqGuard_agg w op _ x y xs ys (by kernel_rfl)
end Go.Proofs.YtcgocdhhneckhaaGreat
/- The errnos of Check. -/
namespace Go.Proofs.YtcgocdhhneckhaaGreat
open Go.RowKit
def Un3 (e : Int) : Prop := e = 0 ∨ e = 13 ∨ e = 14
theorem seqU_err {α : Type} {f : α → Int × Int} : ∀ {l : List α}, (∀ x, x ∈ l → Un3 (f x).2) → Un3 (seqU (l.map f)).2
  | [], _ => .inl rfl
  | y :: l, h => by
    have hy := h y (List.mem_cons_self ..)
    have hl := seqU_err (f := f) (l := l) fun x hx => h x (List.mem_cons_of_mem _ hx)
    rw [List.map_cons]
    generalize f y = z at hy
    obtain ⟨a, b⟩ := z
    have hy : Un3 b := hy
    by_cases hb : b = 0
    · simpa [seqU, hb] using hl
    · simpa [seqU, hb] using hy
theorem knU_err (u : Option Int) : Un3 (knU u).2 := by
  cases u
  · exact .inr (.inr rfl)
  · exact .inl rfl
theorem unU_err (L : List LT) (U : List Int) : ∀ k e, Un3 (unU L U k e).2
  | 0, e => .inl rfl
  | k + 1, ⟨o, a, u, s, A, c, l⟩ => by
    have ih := fun x (_ : x ∈ l) => unU_err L U k x
    unfold unU
    split
    · exact .inl rfl
    split
    · exact knU_err _
    split
    · exact knU_err _
    split
    · split
      · exact .inr (.inr rfl)
      · exact .inl rfl
    split
    · exact seqU_err ih
    split
    · exact .inr (.inl rfl)
    · exact .inl rfl
theorem ofU_err (L : List LT) (e : PT) : (ofU L e).2 = 1 ∨ Un3 (ofU L e).2 := by
  unfold ofU
  split
  · exact .inr (unU_err _ _ _ _)
  · exact .inl rfl
theorem firstE_mem : ∀ l : List Int, firstE l = 0 ∨ firstE l ∈ l
  | [] => .inl rfl
  | e :: r => by
    unfold firstE
    split
    · exact .inr (List.mem_cons_self ..)
    · rcases firstE_mem r with h | h
      · exact .inl h
      · exact .inr (List.mem_cons_of_mem _ h)
theorem chkU_err (b : Byl) : chkU b = 1 ∨ Un3 (chkU b) := by
  unfold chkU
  split
  · rcases firstE_mem ((List.range b.lets.l.length).map (letE b.lets.l) ++ (List.range 4).map (fourE b.lets.l [b.ad, b.fa, b.la, b.no])) with h | h
    · exact .inr (.inl h)
    · rcases List.mem_append.1 h with h | h
      · obtain ⟨k, _, hk⟩ := List.mem_map.1 h
        rw [← hk]
        unfold letE
        split
        · exact ofU_err _ _
        · exact .inr (.inl rfl)
      · obtain ⟨k, _, hk⟩ := List.mem_map.1 h
        rw [← hk]
        unfold fourE
        repeat' split
        all_goals first | exact ofU_err _ _ | exact .inr (.inr (.inl rfl)) | exact .inr (.inl rfl)
  · exact .inl rfl
theorem chkU_not3 (b : Byl) : chkU b ≠ 3 := by
  rcases chkU_err b with h | h | h | h <;> omega
end Go.Proofs.YtcgocdhhneckhaaGreat
