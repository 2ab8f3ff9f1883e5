/- Walks of package fare: Fare, Late, Noshow, Admit. -/
import Derived.Test.YtcgocdhhneckhaaGreatFnammxbl
namespace Go.Proofs.YtcgocdhhneckhaaGreat
open Go.RowKit
set_option maxRecDepth 100000 in
set_option maxHeartbeats 1600000 in
theorem fare_Fare (b : Byl) (T M : Sl FT) (w : World) (hb : Byl.At (· < w.heap.size) w b) (h40 : b.lets.l.length ≤ 1000000) (hT : FactsAt (· < w.heap.size) w T) (hM : FactsAt (· < w.heap.size) w M) :
    Calls Tryz.prog 17 #[b.v, .slice T.A T.l.length T.c, .slice M.A M.l.length M.c] w fun r w' => r = .returned (.tuple #[.int .i64 (whC b b.fa T.l M.l).1, .int .i64 (whC b b.fa T.l M.l).2]) ∧ Below w.heap.size w w' := by
  have HB1 : Hid (Below w.heap.size w (w.alloc (.cells b.v.cells 27))) := Lib.hid qbl
  have hcall := fare_whole b b.fa T M _ (hb.later HB1.out) h40 (hb.fa.later HB1.out) (hT.later HB1.out) (hM.later HB1.out)
  obtain ⟨V, hV⟩ : ∃ V, whC b b.fa T.l M.l = V := ⟨_, rfl⟩
  rw [hV] at hcall ⊢
  clear hV hb h40 hT hM
  obtain ⟨nm, ⟨LA, Lc, L⟩, ⟨o, n, u, s, A, c, l⟩, ⟨oB, nB, uB, sB, AB, cB, lB⟩, ⟨oC, nC, uC, sC, AC, cC, lC⟩, ⟨oD, nD, uD, sD, AD, cD, lD⟩, q, sh, ch⟩ := b
  simp only [Byl.v, PT.v, Value.cells] at HB1 hcall ⊢
  have HA1 : Hid (Blk (w.alloc (.cells #[.string nm, .slice LA L.length Lc, .int .i64 o, .int .i64 n, .int .i64 u, .string s, .slice A l.length c, .int .i64 oB, .int .i64 nB, .int .i64 uB, .string sB, .slice AB lB.length cB, .int .i64 oC, .int .i64 nC, .int .i64 uC, .string sC, .slice AC lC.length cC, .int .i64 oD, .int .i64 nD, .int .i64 uD, .string sD, .slice AD lD.length cD, .int .i64 q, .int .i64 sh, .int .i64 ch] 27)) w.heap.size 27 #[.string nm, .slice LA L.length Lc, .int .i64 o, .int .i64 n, .int .i64 u, .string s, .slice A l.length c, .int .i64 oB, .int .i64 nB, .int .i64 uB, .string sB, .slice AB lB.length cB, .int .i64 oC, .int .i64 nC, .int .i64 uC, .string sC, .slice AC lC.length cC, .int .i64 oD, .int .i64 nD, .int .i64 uD, .string sD, .slice AD lD.length cD, .int .i64 q, .int .i64 sh, .int .i64 ch]) := Lib.hid (Blk.new _ _ _)
  go_enter Tryz.func17, Tryz.ntmps17
  go_wp2_with (refine wpList_load_row rfl 27 (.tmp 3) rfl w.heap.size rfl 27 #[.string nm, .slice LA L.length Lc, .int .i64 o, .int .i64 n, .int .i64 u, .string s, .slice A l.length c, .int .i64 oB, .int .i64 nB, .int .i64 uB, .string sB, .slice AB lB.length cB, .int .i64 oC, .int .i64 nC, .int .i64 uC, .string sC, .slice AC lC.length cC, .int .i64 oD, .int .i64 nD, .int .i64 uD, .string sD, .slice AD lD.length cD, .int .i64 q, .int .i64 sh, .int .i64 ch] (0, 0) _ HA1.out Tryz.underlying27 rfl (by kernel_rfl) ?_)
  refine hcall.mono ?_
  clear hcall HA1
  rintro r w2 ⟨rfl, hb2⟩
  have HB2 : Hid (Below w.heap.size w w2) := Lib.hid (HB1.out.trans (hb2.mono HB1.out.size))
  clear hb2 HB1
  go_wp2_with fail
  try simp only [Exit.inBlock, Exit.then]
  refine bodyPost_ret (v := .tuple #[.int .i64 V.1, .int .i64 V.2]) ?_ rfl ⟨rfl, HB2.out⟩
  simp [results, Tryz.results17, go_sem, ]
set_option maxRecDepth 100000 in
set_option maxHeartbeats 1600000 in
theorem fare_Late (b : Byl) (T M : Sl FT) (w : World) (hb : Byl.At (· < w.heap.size) w b) (h40 : b.lets.l.length ≤ 1000000) (hT : FactsAt (· < w.heap.size) w T) (hM : FactsAt (· < w.heap.size) w M) :
    Calls Tryz.prog 19 #[b.v, .slice T.A T.l.length T.c, .slice M.A M.l.length M.c] w fun r w' => r = .returned (.tuple #[.int .i64 (whC b b.la T.l M.l).1, .int .i64 (whC b b.la T.l M.l).2]) ∧ Below w.heap.size w w' := by
  have HB1 : Hid (Below w.heap.size w (w.alloc (.cells b.v.cells 27))) := Lib.hid qbl
  have hcall := fare_whole b b.la T M _ (hb.later HB1.out) h40 (hb.la.later HB1.out) (hT.later HB1.out) (hM.later HB1.out)
  obtain ⟨V, hV⟩ : ∃ V, whC b b.la T.l M.l = V := ⟨_, rfl⟩
  rw [hV] at hcall ⊢
  clear hV hb h40 hT hM
  obtain ⟨nm, ⟨LA, Lc, L⟩, ⟨o, n, u, s, A, c, l⟩, ⟨oB, nB, uB, sB, AB, cB, lB⟩, ⟨oC, nC, uC, sC, AC, cC, lC⟩, ⟨oD, nD, uD, sD, AD, cD, lD⟩, q, sh, ch⟩ := b
  simp only [Byl.v, PT.v, Value.cells] at HB1 hcall ⊢
  have HA1 : Hid (Blk (w.alloc (.cells #[.string nm, .slice LA L.length Lc, .int .i64 o, .int .i64 n, .int .i64 u, .string s, .slice A l.length c, .int .i64 oB, .int .i64 nB, .int .i64 uB, .string sB, .slice AB lB.length cB, .int .i64 oC, .int .i64 nC, .int .i64 uC, .string sC, .slice AC lC.length cC, .int .i64 oD, .int .i64 nD, .int .i64 uD, .string sD, .slice AD lD.length cD, .int .i64 q, .int .i64 sh, .int .i64 ch] 27)) w.heap.size 27 #[.string nm, .slice LA L.length Lc, .int .i64 o, .int .i64 n, .int .i64 u, .string s, .slice A l.length c, .int .i64 oB, .int .i64 nB, .int .i64 uB, .string sB, .slice AB lB.length cB, .int .i64 oC, .int .i64 nC, .int .i64 uC, .string sC, .slice AC lC.length cC, .int .i64 oD, .int .i64 nD, .int .i64 uD, .string sD, .slice AD lD.length cD, .int .i64 q, .int .i64 sh, .int .i64 ch]) := Lib.hid (Blk.new _ _ _)
  go_enter Tryz.func19, Tryz.ntmps19
  go_wp2_with (refine wpList_load_row rfl 27 (.tmp 3) rfl w.heap.size rfl 27 #[.string nm, .slice LA L.length Lc, .int .i64 o, .int .i64 n, .int .i64 u, .string s, .slice A l.length c, .int .i64 oB, .int .i64 nB, .int .i64 uB, .string sB, .slice AB lB.length cB, .int .i64 oC, .int .i64 nC, .int .i64 uC, .string sC, .slice AC lC.length cC, .int .i64 oD, .int .i64 nD, .int .i64 uD, .string sD, .slice AD lD.length cD, .int .i64 q, .int .i64 sh, .int .i64 ch] (0, 0) _ HA1.out Tryz.underlying27 rfl (by kernel_rfl) ?_)
  refine hcall.mono ?_
  clear hcall HA1
  rintro r w2 ⟨rfl, hb2⟩
  have HB2 : Hid (Below w.heap.size w w2) := Lib.hid (HB1.out.trans (hb2.mono HB1.out.size))
  clear hb2 HB1
  go_wp2_with fail
  try simp only [Exit.inBlock, Exit.then]
  refine bodyPost_ret (v := .tuple #[.int .i64 V.1, .int .i64 V.2]) ?_ rfl ⟨rfl, HB2.out⟩
  simp [results, Tryz.results19, go_sem, ]
set_option maxRecDepth 100000 in
set_option maxHeartbeats 1600000 in
theorem fare_Noshow (b : Byl) (T M : Sl FT) (w : World) (hb : Byl.At (· < w.heap.size) w b) (h40 : b.lets.l.length ≤ 1000000) (hT : FactsAt (· < w.heap.size) w T) (hM : FactsAt (· < w.heap.size) w M) :
    Calls Tryz.prog 20 #[b.v, .slice T.A T.l.length T.c, .slice M.A M.l.length M.c] w fun r w' => r = .returned (.tuple #[.int .i64 (whC b b.no T.l M.l).1, .int .i64 (whC b b.no T.l M.l).2]) ∧ Below w.heap.size w w' := by
  have HB1 : Hid (Below w.heap.size w (w.alloc (.cells b.v.cells 27))) := Lib.hid qbl
  have hcall := fare_whole b b.no T M _ (hb.later HB1.out) h40 (hb.no.later HB1.out) (hT.later HB1.out) (hM.later HB1.out)
  obtain ⟨V, hV⟩ : ∃ V, whC b b.no T.l M.l = V := ⟨_, rfl⟩
  rw [hV] at hcall ⊢
  clear hV hb h40 hT hM
  obtain ⟨nm, ⟨LA, Lc, L⟩, ⟨o, n, u, s, A, c, l⟩, ⟨oB, nB, uB, sB, AB, cB, lB⟩, ⟨oC, nC, uC, sC, AC, cC, lC⟩, ⟨oD, nD, uD, sD, AD, cD, lD⟩, q, sh, ch⟩ := b
  simp only [Byl.v, PT.v, Value.cells] at HB1 hcall ⊢
  have HA1 : Hid (Blk (w.alloc (.cells #[.string nm, .slice LA L.length Lc, .int .i64 o, .int .i64 n, .int .i64 u, .string s, .slice A l.length c, .int .i64 oB, .int .i64 nB, .int .i64 uB, .string sB, .slice AB lB.length cB, .int .i64 oC, .int .i64 nC, .int .i64 uC, .string sC, .slice AC lC.length cC, .int .i64 oD, .int .i64 nD, .int .i64 uD, .string sD, .slice AD lD.length cD, .int .i64 q, .int .i64 sh, .int .i64 ch] 27)) w.heap.size 27 #[.string nm, .slice LA L.length Lc, .int .i64 o, .int .i64 n, .int .i64 u, .string s, .slice A l.length c, .int .i64 oB, .int .i64 nB, .int .i64 uB, .string sB, .slice AB lB.length cB, .int .i64 oC, .int .i64 nC, .int .i64 uC, .string sC, .slice AC lC.length cC, .int .i64 oD, .int .i64 nD, .int .i64 uD, .string sD, .slice AD lD.length cD, .int .i64 q, .int .i64 sh, .int .i64 ch]) := Lib.hid (Blk.new _ _ _)
  go_enter Tryz.func20, Tryz.ntmps20
  go_wp2_with (refine wpList_load_row rfl 27 (.tmp 3) rfl w.heap.size rfl 27 #[.string nm, .slice LA L.length Lc, .int .i64 o, .int .i64 n, .int .i64 u, .string s, .slice A l.length c, .int .i64 oB, .int .i64 nB, .int .i64 uB, .string sB, .slice AB lB.length cB, .int .i64 oC, .int .i64 nC, .int .i64 uC, .string sC, .slice AC lC.length cC, .int .i64 oD, .int .i64 nD, .int .i64 uD, .string sD, .slice AD lD.length cD, .int .i64 q, .int .i64 sh, .int .i64 ch] (0, 0) _ HA1.out Tryz.underlying27 rfl (by kernel_rfl) ?_)
  refine hcall.mono ?_
  clear hcall HA1
  rintro r w2 ⟨rfl, hb2⟩
  have HB2 : Hid (Below w.heap.size w w2) := Lib.hid (HB1.out.trans (hb2.mono HB1.out.size))
  clear hb2 HB1
  go_wp2_with fail
  try simp only [Exit.inBlock, Exit.then]
  refine bodyPost_ret (v := .tuple #[.int .i64 V.1, .int .i64 V.2]) ?_ rfl ⟨rfl, HB2.out⟩
  simp [results, Tryz.results20, go_sem, ]
set_option maxRecDepth 100000 in
set_option maxHeartbeats 1600000 in
theorem fare_Admit (b : Byl) (T M : Sl FT) (w : World) (hb : Byl.At (· < w.heap.size) w b) (h40 : b.lets.l.length ≤ 1000000) (hT : FactsAt (· < w.heap.size) w T) (hM : FactsAt (· < w.heap.size) w M) :
    Calls Tryz.prog 15 #[b.v, .slice T.A T.l.length T.c, .slice M.A M.l.length M.c] w fun r w' => r = .returned (.tuple #[.bool (admC b T.l M.l).1, .int .i64 (admC b T.l M.l).2]) ∧ Below w.heap.size w w' := by
  have HB1 : Hid (Below w.heap.size w (w.alloc (.cells b.v.cells 27))) := Lib.hid qbl
  have hchk := un_Check b _ (hb.later HB1.out) h40
  have HWH := Lib.hid (fun W (hW : Below w.heap.size w W) => ev_Truth b b.ad T M W (hb.later hW) (hb.ad.later hW) (hT.later hW) (hM.later hW))
  have HTR := Lib.hid (fun W (hW : Below w.heap.size w W) => fare_trips M W (hM.later hW))
  obtain ⟨V, hV⟩ : ∃ V, admC b T.l M.l = V := ⟨_, rfl⟩
  have H1 := Lib.hid (admC_bad (b := b) (T := T.l) (M := M.l))
  have H2 := Lib.hid (admC_bad2 (b := b) (T := T.l) (M := M.l))
  have H3 := Lib.hid (admC_ok (b := b) (T := T.l) (M := M.l))
  obtain ⟨Z, hZ⟩ : ∃ Z, evalF b.lets.l b.ad T.l M.l = Z := ⟨_, rfl⟩
  obtain ⟨K, hK⟩ : ∃ K, chkU b = K := ⟨_, rfl⟩
  obtain ⟨N, hN⟩ : ∃ N, tripsN M.l = N := ⟨_, rfl⟩
  rw [hV] at H1 H2 H3 ⊢
  rw [hZ] at H2 H3 HWH
  rw [hK] at H1 H2 H3 hchk
  rw [hN] at H3 HTR
  clear hV hZ hK hb h40 hT hM hN
  obtain ⟨nm, ⟨LA, Lc, L⟩, ⟨o, n, u, s, A, c, l⟩, ⟨oB, nB, uB, sB, AB, cB, lB⟩, ⟨oC, nC, uC, sC, AC, cC, lC⟩, ⟨oD, nD, uD, sD, AD, cD, lD⟩, q, sh, ch⟩ := b
  simp only [Byl.v, PT.v, Value.cells] at HB1 hchk HWH ⊢
  have HA1 : Hid (Blk (w.alloc (.cells #[.string nm, .slice LA L.length Lc, .int .i64 o, .int .i64 n, .int .i64 u, .string s, .slice A l.length c, .int .i64 oB, .int .i64 nB, .int .i64 uB, .string sB, .slice AB lB.length cB, .int .i64 oC, .int .i64 nC, .int .i64 uC, .string sC, .slice AC lC.length cC, .int .i64 oD, .int .i64 nD, .int .i64 uD, .string sD, .slice AD lD.length cD, .int .i64 q, .int .i64 sh, .int .i64 ch] 27)) w.heap.size 27 #[.string nm, .slice LA L.length Lc, .int .i64 o, .int .i64 n, .int .i64 u, .string s, .slice A l.length c, .int .i64 oB, .int .i64 nB, .int .i64 uB, .string sB, .slice AB lB.length cB, .int .i64 oC, .int .i64 nC, .int .i64 uC, .string sC, .slice AC lC.length cC, .int .i64 oD, .int .i64 nD, .int .i64 uD, .string sD, .slice AD lD.length cD, .int .i64 q, .int .i64 sh, .int .i64 ch]) := Lib.hid (Blk.new _ _ _)
  go_enter Tryz.func15, Tryz.ntmps15
  go_wp2_with (refine wpList_load_row rfl 27 (.tmp 3) rfl w.heap.size rfl 27 #[.string nm, .slice LA L.length Lc, .int .i64 o, .int .i64 n, .int .i64 u, .string s, .slice A l.length c, .int .i64 oB, .int .i64 nB, .int .i64 uB, .string sB, .slice AB lB.length cB, .int .i64 oC, .int .i64 nC, .int .i64 uC, .string sC, .slice AC lC.length cC, .int .i64 oD, .int .i64 nD, .int .i64 uD, .string sD, .slice AD lD.length cD, .int .i64 q, .int .i64 sh, .int .i64 ch] (0, 0) _ HA1.out Tryz.underlying27 rfl (by kernel_rfl) ?_)
  refine hchk.mono ?_
  clear hchk
  generalize w.alloc (.cells #[.string nm, .slice LA L.length Lc, .int .i64 o, .int .i64 n, .int .i64 u, .string s, .slice A l.length c, .int .i64 oB, .int .i64 nB, .int .i64 uB, .string sB, .slice AB lB.length cB, .int .i64 oC, .int .i64 nC, .int .i64 uC, .string sC, .slice AC lC.length cC, .int .i64 oD, .int .i64 nD, .int .i64 uD, .string sD, .slice AD lD.length cD, .int .i64 q, .int .i64 sh, .int .i64 ch] 27) = w1 at *
  rintro r w2 ⟨rfl, hb2⟩
  have HB2 : Hid (Below w.heap.size w w2) := Lib.hid (HB1.out.trans (hb2.mono HB1.out.size))
  have HA2 := Lib.hid (HA1.out.later hb2)
  clear hb2 HA1 HB1
  by_cases hk : K = 0
  · have H2b := Lib.hid (H2.out hk)
    have H3b := Lib.hid (H3.out hk)
    subst hk
    obtain ⟨e0, e1, e2, e3, e4⟩ : w2.cell? ⟨w.heap.size, 2, none⟩ = some (.int .i64 o) ∧ w2.cell? ⟨w.heap.size, 3, none⟩ = some (.int .i64 n) ∧ w2.cell? ⟨w.heap.size, 4, none⟩ = some (.int .i64 u) ∧ w2.cell? ⟨w.heap.size, 5, none⟩ = some (.string s) ∧ w2.cell? ⟨w.heap.size, 6, none⟩ = some (.slice A l.length c) := ⟨HA2.out.cell 2, HA2.out.cell 3, HA2.out.cell 4, HA2.out.cell 5, HA2.out.cell 6⟩
    have ez := HA2.out.lt
    go_wp2_with (refine wpList_load_row rfl 27 (.tmp 3) rfl w.heap.size rfl 27 #[.string nm, .slice LA L.length Lc, .int .i64 o, .int .i64 n, .int .i64 u, .string s, .slice A l.length c, .int .i64 oB, .int .i64 nB, .int .i64 uB, .string sB, .slice AB lB.length cB, .int .i64 oC, .int .i64 nC, .int .i64 uC, .string sC, .slice AC lC.length cC, .int .i64 oD, .int .i64 nD, .int .i64 uD, .string sD, .slice AD lD.length cD, .int .i64 q, .int .i64 sh, .int .i64 ch] (0, 0) _ HA2.out Tryz.underlying27 rfl (by kernel_rfl) ?_)
    refine (HWH.out _ HB2.out).mono ?_
    rintro r w3 ⟨rfl, hb3⟩
    have HB3 : Hid (Below w.heap.size w w3) := Lib.hid (HB2.out.trans (hb3.mono HB2.out.size))
    have HA3 := Lib.hid (HA2.out.later hb3)
    clear hb3 HA2 e0 e1 e2 e3 e4 ez
    by_cases hz : Z.e = 0
    · have hv := H3b.out hz
      rw [hz]
      clear hz
      obtain ⟨t, ht⟩ : ∃ t, trF Z = t := ⟨_, rfl⟩
      rw [ht] at hv ⊢
      have HVV := Lib.hid hv
      clear hv ht
      have f6 : w3.cell? ⟨w.heap.size, 22, none⟩ = some (.int .i64 q) := HA3.out.cell 22
      have ez := HA3.out.lt
      go_wp2_with fail
      rcases t
      · skip
        refine wp_region_T (fun W => W.cell? ⟨w.heap.size, 22, none⟩ = some (.int .i64 q)) (fun _ => false) (by kernel_rfl) f6 (fun hHeld => ?_)
        refine qtq 0 ?_
        simp only [qsa, qsb, qsc]
        refine qtq 1 ?_
        simp only [qsa, qsb, qsc]
        clear hHeld
        refine qtn 2 ?_
        simp only [qsa, qsb, qsc]
        refine qtn 3 ?_
        simp only [qsa, qsb, qsc]
        refine qtn 4 ?_
        simp only [qsa, qsb, qsc]
        refine qtn 5 ?_
        simp only [qsa, qsb, qsc]
        refine qtn 6 ?_
        simp only [qsa, qsb, qsc]
        have hHeld : w3.drew.cell? ⟨w.heap.size, 22, none⟩ = some (.int .i64 q) := f6
        refine qtq 7 ?_
        simp only [qsa, qsb, qsc]
        refine qtq 8 ?_
        simp only [qsa, qsb, qsc]
        refine qtq 9 ?_
        simp only [qsa, qsb, qsc]
        refine wpAnyT_done (by kernel_rfl) ?_ _
        clear hHeld
        go_wp2_with fail
        try simp only [Exit.inBlock, Exit.then]
        refine bodyPost_ret (v := .tuple #[.bool false, .int .i64 0]) ?_ rfl ⟨by rw [HVV.out, Bool.false_and], HB3.out.drew⟩
        simp [results, Tryz.results15, go_sem, ]
      · skip
        refine wp_region_T (fun W => W.cell? ⟨w.heap.size, 22, none⟩ = some (.int .i64 q)) (fun _ => false) (by kernel_rfl) f6 (fun hHeld => ?_)
        refine qtq 0 ?_
        simp only [qsa, qsb, qsc]
        refine qtq 1 ?_
        simp only [qsa, qsb, qsc]
        refine qtq 2 ?_
        simp only [qsa, qsb, qsc]
        refine qtq 4 ?_
        simp only [qsa, qsb, qsc]
        refine qtq 5 ?_
        simp only [qsa, qsb, qsc]
        clear hHeld
        refine wpAnyT_next (i := 3) (by kernel_rfl) rfl ?_
        go_wp2_with fail
        refine (HTR.out _ HB3.out.drew).mono ?_
        rintro r w4 ⟨rfl, hb4⟩
        have HB4 : Hid (Below w.heap.size w w4) := Lib.hid (HB3.out.drew.trans (hb4.mono HB3.out.drew.size))
        have f7 : w4.cell? ⟨w.heap.size, 22, none⟩ = some (.int .i64 q) := (HA3.out.drew.later hb4).cell 22
        go_wp2_with fail
        refine And.intro (by first | exact fun _ => f7 | exact f7) ?_
        have hHeld := f7
        refine qtq 6 ?_
        simp only [qsa, qsb, qsc]
        refine qtq 7 ?_
        simp only [qsa, qsb, qsc]
        refine qtq 8 ?_
        simp only [qsa, qsb, qsc]
        refine qtq 9 ?_
        simp only [qsa, qsb, qsc]
        refine wpAnyT_done (by kernel_rfl) ?_ _
        clear hHeld
        go_wp2_with fail
        try simp only [Exit.inBlock, Exit.then]
        refine bodyPost_ret (v := .tuple #[.bool (decide (N < q)), .int .i64 0]) ?_ rfl ⟨by rw [HVV.out, Bool.true_and], HB4.out⟩
        simp [results, Tryz.results15, go_sem, ]
    · have HVV := Lib.hid (H2b.out hz)
      go_wp2_with fail
      try simp only [Exit.inBlock, Exit.then]
      refine bodyPost_ret (v := .tuple #[.bool false, .int .i64 Z.e]) ?_ rfl ⟨by rw [HVV.out], HB3.out⟩
      simp [results, Tryz.results15, go_sem, ]
  · have HVV := Lib.hid (H1.out hk)
    go_wp2_with fail
    try simp only [Exit.inBlock, Exit.then]
    refine bodyPost_ret (v := .tuple #[.bool false, .int .i64 K]) ?_ rfl ⟨by rw [HVV.out], HB2.out⟩
    simp [results, Tryz.results15, go_sem, ]
end Go.Proofs.YtcgocdhhneckhaaGreat
