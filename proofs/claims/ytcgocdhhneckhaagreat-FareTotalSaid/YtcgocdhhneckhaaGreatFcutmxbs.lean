/- Walks of package fare: Fare, Late, Noshow, Admit. -/
import Derived.Test.YtcgocdhhneckhaaGreatFcutmxbr
namespace Go.Proofs.YtcgocdhhneckhaaGreat
open Go.RowKit
set_option maxRecDepth 100000 in
set_option maxHeartbeats 1600000 in
theorem fare_Fare (b : Byl) (T M : Sl FT) (w : World) (hb : Byl.At (· < w.heap.size) w b) (h40 : b.lets.l.length ≤ 1000000) (hT : FactsAt (· < w.heap.size) w T) (hM : FactsAt (· < w.heap.size) w M) :
    Calls Tryz.prog 17 #[b.v, .slice T.A T.l.length T.c, .slice M.A M.l.length M.c] w fun r w' => r = .returned (.tuple #[.int .i64 (whC b b.fa T.l M.l).1, .int .i64 (whC b b.fa T.l M.l).2]) ∧ Below w.heap.size w w' := by
  have HB1 : Hid (Below w.heap.size w (w.alloc (.cells b.v.cells 27))) := Lib.hid (by repeat (first | (with_reducible exact Below.refl _ _) | ((with_reducible refine below_setr ?_ ?_); focus (first | (simp; done) | (simp; omega) | omega)) | ((with_reducible refine below_allocr ?_ ?_); focus (first | (simp; done) | (simp; omega) | omega)) | (with_reducible refine Below.drew ?_) | (with_reducible refine below_drewN ?_ _)))
  have hcall := fare_whole b b.fa T M _ (hb.later HB1.out) h40 (hb.fa.later HB1.out) (hT.later HB1.out) (hM.later HB1.out)
  obtain ⟨V, hV⟩ : ∃ V, whC b b.fa T.l M.l = V := ⟨_, rfl⟩
  rw [hV] at hcall ⊢
  clear hV hb h40 hT hM
  obtain ⟨nm, ⟨LA, Lc, L⟩, ⟨o, n, u, s, A, c, l⟩, ⟨oB, nB, uB, sB, AB, cB, lB⟩, ⟨oC, nC, uC, sC, AC, cC, lC⟩, ⟨oD, nD, uD, sD, AD, cD, lD⟩, q, sh, ch⟩ := b
  simp only [Byl.v, PT.v, Value.cells] at HB1 hcall ⊢
  have HA1 : Hid (Blk (w.alloc (.cells #[.string nm, .slice LA L.length Lc, .int .i64 o, .int .i64 n, .int .i64 u, .string s, .slice A l.length c, .int .i64 oB, .int .i64 nB, .int .i64 uB, .string sB, .slice AB lB.length cB, .int .i64 oC, .int .i64 nC, .int .i64 uC, .string sC, .slice AC lC.length cC, .int .i64 oD, .int .i64 nD, .int .i64 uD, .string sD, .slice AD lD.length cD, .int .i64 q, .int .i64 sh, .int .i64 ch] 27)) w.heap.size 27 #[.string nm, .slice LA L.length Lc, .int .i64 o, .int .i64 n, .int .i64 u, .string s, .slice A l.length c, .int .i64 oB, .int .i64 nB, .int .i64 uB, .string sB, .slice AB lB.length cB, .int .i64 oC, .int .i64 nC, .int .i64 uC, .string sC, .slice AC lC.length cC, .int .i64 oD, .int .i64 nD, .int .i64 uD, .string sD, .slice AD lD.length cD, .int .i64 q, .int .i64 sh, .int .i64 ch]) := Lib.hid (Blk.new _ _ _)
  go_enter Tryz.func17, Tryz.ntmps17
  go_wp2_with (refine wpList_load_row rfl 27 (.tmp 3) rfl w.heap.size rfl 27 #[.string nm, .slice LA L.length Lc, .int .i64 o, .int .i64 n, .int .i64 u, .string s, .slice A l.length c, .int .i64 oB, .int .i64 nB, .int .i64 uB, .string sB, .slice AB lB.length cB, .int .i64 oC, .int .i64 nC, .int .i64 uC, .string sC, .slice AC lC.length cC, .int .i64 oD, .int .i64 nD, .int .i64 uD, .string sD, .slice AD lD.length cD, .int .i64 q, .int .i64 sh, .int .i64 ch] (0, 0) _ HA1.out Tryz.underlying27 rfl (by kernel_rfl) ?_)
  refine hcall.mono ?_
  clear hcall HA1
  rintro r w2 ⟨rfl, hb2⟩
  have HB2 : Hid (Below w.heap.size w w2) := Lib.hid (HB1.out.trans (hb2.mono HB1.out.size))
  clear hb2 HB1
  go_wp2_with fail
  try simp only [Exit.inBlock, Exit.then]
  refine bodyPost_ret (v := .tuple #[.int .i64 V.1, .int .i64 V.2]) ?_ rfl ⟨rfl, HB2.out⟩
  simp [results, Tryz.results17, go_sem, ]
set_option maxRecDepth 100000 in
set_option maxHeartbeats 1600000 in
theorem fare_Late (b : Byl) (T M : Sl FT) (w : World) (hb : Byl.At (· < w.heap.size) w b) (h40 : b.lets.l.length ≤ 1000000) (hT : FactsAt (· < w.heap.size) w T) (hM : FactsAt (· < w.heap.size) w M) :
    Calls Tryz.prog 19 #[b.v, .slice T.A T.l.length T.c, .slice M.A M.l.length M.c] w fun r w' => r = .returned (.tuple #[.int .i64 (whC b b.la T.l M.l).1, .int .i64 (whC b b.la T.l M.l).2]) ∧ Below w.heap.size w w' := by
  have HB1 : Hid (Below w.heap.size w (w.alloc (.cells b.v.cells 27))) := Lib.hid (by repeat (first | (with_reducible exact Below.refl _ _) | ((with_reducible refine below_setr ?_ ?_); focus (first | (simp; done) | (simp; omega) | omega)) | ((with_reducible refine below_allocr ?_ ?_); focus (first | (simp; done) | (simp; omega) | omega)) | (with_reducible refine Below.drew ?_) | (with_reducible refine below_drewN ?_ _)))
  have hcall := fare_whole b b.la T M _ (hb.later HB1.out) h40 (hb.la.later HB1.out) (hT.later HB1.out) (hM.later HB1.out)
  obtain ⟨V, hV⟩ : ∃ V, whC b b.la T.l M.l = V := ⟨_, rfl⟩
  rw [hV] at hcall ⊢
  clear hV hb h40 hT hM
  obtain ⟨nm, ⟨LA, Lc, L⟩, ⟨o, n, u, s, A, c, l⟩, ⟨oB, nB, uB, sB, AB, cB, lB⟩, ⟨oC, nC, uC, sC, AC, cC, lC⟩, ⟨oD, nD, uD, sD, AD, cD, lD⟩, q, sh, ch⟩ := b
  simp only [Byl.v, PT.v, Value.cells] at HB1 hcall ⊢
  have HA1 : Hid (Blk (w.alloc (.cells #[.string nm, .slice LA L.length Lc, .int .i64 o, .int .i64 n, .int .i64 u, .string s, .slice A l.length c, .int .i64 oB, .int .i64 nB, .int .i64 uB, .string sB, .slice AB lB.length cB, .int .i64 oC, .int .i64 nC, .int .i64 uC, .string sC, .slice AC lC.length cC, .int .i64 oD, .int .i64 nD, .int .i64 uD, .string sD, .slice AD lD.length cD, .int .i64 q, .int .i64 sh, .int .i64 ch] 27)) w.heap.size 27 #[.string nm, .slice LA L.length Lc, .int .i64 o, .int .i64 n, .int .i64 u, .string s, .slice A l.length c, .int .i64 oB, .int .i64 nB, .int .i64 uB, .string sB, .slice AB lB.length cB, .int .i64 oC, .int .i64 nC, .int .i64 uC, .string sC, .slice AC lC.length cC, .int .i64 oD, .int .i64 nD, .int .i64 uD, .string sD, .slice AD lD.length cD, .int .i64 q, .int .i64 sh, .int .i64 ch]) := Lib.hid (Blk.new _ _ _)
  go_enter Tryz.func19, Tryz.ntmps19
  go_wp2_with (refine wpList_load_row rfl 27 (.tmp 3) rfl w.heap.size rfl 27 #[.string nm, .slice LA L.length Lc, .int .i64 o, .int .i64 n, .int .i64 u, .string s, .slice A l.length c, .int .i64 oB, .int .i64 nB, .int .i64 uB, .string sB, .slice AB lB.length cB, .int .i64 oC, .int .i64 nC, .int .i64 uC, .string sC, .slice AC lC.length cC, .int .i64 oD, .int .i64 nD, .int .i64 uD, .string sD, .slice AD lD.length cD, .int .i64 q, .int .i64 sh, .int .i64 ch] (0, 0) _ HA1.out Tryz.underlying27 rfl (by kernel_rfl) ?_)
  refine hcall.mono ?_
  clear hcall HA1
  rintro r w2 ⟨rfl, hb2⟩
  have HB2 : Hid (Below w.heap.size w w2) := Lib.hid (HB1.out.trans (hb2.mono HB1.out.size))
  clear hb2 HB1
  go_wp2_with fail
  try simp only [Exit.inBlock, Exit.then]
  refine bodyPost_ret (v := .tuple #[.int .i64 V.1, .int .i64 V.2]) ?_ rfl ⟨rfl, HB2.out⟩
  simp [results, Tryz.results19, go_sem, ]
set_option maxRecDepth 100000 in
set_option maxHeartbeats 1600000 in
theorem fare_Noshow (b : Byl) (T M : Sl FT) (w : World) (hb : Byl.At (· < w.heap.size) w b) (h40 : b.lets.l.length ≤ 1000000) (hT : FactsAt (· < w.heap.size) w T) (hM : FactsAt (· < w.heap.size) w M) :
    Calls Tryz.prog 20 #[b.v, .slice T.A T.l.length T.c, .slice M.A M.l.length M.c] w fun r w' => r = .returned (.tuple #[.int .i64 (whC b b.no T.l M.l).1, .int .i64 (whC b b.no T.l M.l).2]) ∧ Below w.heap.size w w' := by
  have HB1 : Hid (Below w.heap.size w (w.alloc (.cells b.v.cells 27))) := Lib.hid (by repeat (first | (with_reducible exact Below.refl _ _) | ((with_reducible refine below_setr ?_ ?_); focus (first | (simp; done) | (simp; omega) | omega)) | ((with_reducible refine below_allocr ?_ ?_); focus (first | (simp; done) | (simp; omega) | omega)) | (with_reducible refine Below.drew ?_) | (with_reducible refine below_drewN ?_ _)))
  have hcall := fare_whole b b.no T M _ (hb.later HB1.out) h40 (hb.no.later HB1.out) (hT.later HB1.out) (hM.later HB1.out)
  obtain ⟨V, hV⟩ : ∃ V, whC b b.no T.l M.l = V := ⟨_, rfl⟩
  rw [hV] at hcall ⊢
  clear hV hb h40 hT hM
  obtain ⟨nm, ⟨LA, Lc, L⟩, ⟨o, n, u, s, A, c, l⟩, ⟨oB, nB, uB, sB, AB, cB, lB⟩, ⟨oC, nC, uC, sC, AC, cC, lC⟩, ⟨oD, nD, uD, sD, AD, cD, lD⟩, q, sh, ch⟩ := b
  simp only [Byl.v, PT.v, Value.cells] at HB1 hcall ⊢
  have HA1 : Hid (Blk (w.alloc (.cells #[.string nm, .slice LA L.length Lc, .int .i64 o, .int .i64 n, .int .i64 u, .string s, .slice A l.length c, .int .i64 oB, .int .i64 nB, .int .i64 uB, .string sB, .slice AB lB.length cB, .int .i64 oC, .int .i64 nC, .int .i64 uC, .string sC, .slice AC lC.length cC, .int .i64 oD, .int .i64 nD, .int .i64 uD, .string sD, .slice AD lD.length cD, .int .i64 q, .int .i64 sh, .int .i64 ch] 27)) w.heap.size 27 #[.string nm, .slice LA L.length Lc, .int .i64 o, .int .i64 n, .int .i64 u, .string s, .slice A l.length c, .int .i64 oB, .int .i64 nB, .int .i64 uB, .string sB, .slice AB lB.length cB, .int .i64 oC, .int .i64 nC, .int .i64 uC, .string sC, .slice AC lC.length cC, .int .i64 oD, .int .i64 nD, .int .i64 uD, .string sD, .slice AD lD.length cD, .int .i64 q, .int .i64 sh, .int .i64 ch]) := Lib.hid (Blk.new _ _ _)
  go_enter Tryz.func20, Tryz.ntmps20
  go_wp2_with (refine wpList_load_row rfl 27 (.tmp 3) rfl w.heap.size rfl 27 #[.string nm, .slice LA L.length Lc, .int .i64 o, .int .i64 n, .int .i64 u, .string s, .slice A l.length c, .int .i64 oB, .int .i64 nB, .int .i64 uB, .string sB, .slice AB lB.length cB, .int .i64 oC, .int .i64 nC, .int .i64 uC, .string sC, .slice AC lC.length cC, .int .i64 oD, .int .i64 nD, .int .i64 uD, .string sD, .slice AD lD.length cD, .int .i64 q, .int .i64 sh, .int .i64 ch] (0, 0) _ HA1.out Tryz.underlying27 rfl (by kernel_rfl) ?_)
  refine hcall.mono ?_
  clear hcall HA1
  rintro r w2 ⟨rfl, hb2⟩
  have HB2 : Hid (Below w.heap.size w w2) := Lib.hid (HB1.out.trans (hb2.mono HB1.out.size))
  clear hb2 HB1
  go_wp2_with fail
  try simp only [Exit.inBlock, Exit.then]
  refine bodyPost_ret (v := .tuple #[.int .i64 V.1, .int .i64 V.2]) ?_ rfl ⟨rfl, HB2.out⟩
  simp [results, Tryz.results20, go_sem, ]
set_option maxRecDepth 100000 in
set_option maxHeartbeats 1600000 in
theorem fare_Admit (b : Byl) (T M : Sl FT) (w : World) (hb : Byl.At (· < w.heap.size) w b) (h40 : b.lets.l.length ≤ 1000000) (hT : FactsAt (· < w.heap.size) w T) (hM : FactsAt (· < w.heap.size) w M) :
    Calls Tryz.prog 15 #[b.v, .slice T.A T.l.length T.c, .slice M.A M.l.length M.c] w fun r w' => r = .returned (.tuple #[.bool (admC b T.l M.l).1, .int .i64 (admC b T.l M.l).2]) ∧ Below w.heap.size w w' := by
  have HB1 : Hid (Below w.heap.size w (w.alloc (.cells b.v.cells 27))) := Lib.hid (by repeat (first | (with_reducible exact Below.refl _ _) | ((with_reducible refine below_setr ?_ ?_); focus (first | (simp; done) | (simp; omega) | omega)) | ((with_reducible refine below_allocr ?_ ?_); focus (first | (simp; done) | (simp; omega) | omega)) | (with_reducible refine Below.drew ?_) | (with_reducible refine below_drewN ?_ _)))
  have hchk := un_Check b _ (hb.later HB1.out) h40
  have HWH := Lib.hid (fun W (hW : Below w.heap.size w W) => ev_Truth b b.ad T M W (hb.later hW) (hb.ad.later hW) (hT.later hW) (hM.later hW))
  have HTR := Lib.hid (fun W (hW : Below w.heap.size w W) => fare_trips M W (hM.later hW))
  obtain ⟨V, hV⟩ : ∃ V, admC b T.l M.l = V := ⟨_, rfl⟩
  have H1 := Lib.hid (admC_bad (b := b) (T := T.l) (M := M.l))
  have H2 := Lib.hid (admC_bad2 (b := b) (T := T.l) (M := M.l))
  have H3 := Lib.hid (admC_ok (b := b) (T := T.l) (M := M.l))
  obtain ⟨Z, hZ⟩ : ∃ Z, evalF b.lets.l b.ad T.l M.l = Z := ⟨_, rfl⟩
  obtain ⟨K, hK⟩ : ∃ K, chkU b = K := ⟨_, rfl⟩
  obtain ⟨N, hN⟩ : ∃ N, tripsN M.l = N := ⟨_, rfl⟩
  rw [hV] at H1 H2 H3 ⊢
  rw [hZ] at H2 H3 HWH
  rw [hK] at H1 H2 H3 hchk
  rw [hN] at H3 HTR
  clear hV hZ hK hb h40 hT hM hN
  obtain ⟨nm, ⟨LA, Lc, L⟩, ⟨o, n, u, s, A, c, l⟩, ⟨oB, nB, uB, sB, AB, cB, lB⟩, ⟨oC, nC, uC, sC, AC, cC, lC⟩, ⟨oD, nD, uD, sD, AD, cD, lD⟩, q, sh, ch⟩ := b
  simp only [Byl.v, PT.v, Value.cells] at HB1 hchk HWH ⊢
  have HA1 : Hid (Blk (w.alloc (.cells #[.string nm, .slice LA L.length Lc, .int .i64 o, .int .i64 n, .int .i64 u, .string s, .slice A l.length c, .int .i64 oB, .int .i64 nB, .int .i64 uB, .string sB, .slice AB lB.length cB, .int .i64 oC, .int .i64 nC, .int .i64 uC, .string sC, .slice AC lC.length cC, .int .i64 oD, .int .i64 nD, .int .i64 uD, .string sD, .slice AD lD.length cD, .int .i64 q, .int .i64 sh, .int .i64 ch] 27)) w.heap.size 27 #[.string nm, .slice LA L.length Lc, .int .i64 o, .int .i64 n, .int .i64 u, .string s, .slice A l.length c, .int .i64 oB, .int .i64 nB, .int .i64 uB, .string sB, .slice AB lB.length cB, .int .i64 oC, .int .i64 nC, .int .i64 uC, .string sC, .slice AC lC.length cC, .int .i64 oD, .int .i64 nD, .int .i64 uD, .string sD, .slice AD lD.length cD, .int .i64 q, .int .i64 sh, .int .i64 ch]) := Lib.hid (Blk.new _ _ _)
  go_enter Tryz.func15, Tryz.ntmps15
  go_wp2_with (refine wpList_load_row rfl 27 (.tmp 3) rfl w.heap.size rfl 27 #[.string nm, .slice LA L.length Lc, .int .i64 o, .int .i64 n, .int .i64 u, .string s, .slice A l.length c, .int .i64 oB, .int .i64 nB, .int .i64 uB, .string sB, .slice AB lB.length cB, .int .i64 oC, .int .i64 nC, .int .i64 uC, .string sC, .slice AC lC.length cC, .int .i64 oD, .int .i64 nD, .int .i64 uD, .string sD, .slice AD lD.length cD, .int .i64 q, .int .i64 sh, .int .i64 ch] (0, 0) _ HA1.out Tryz.underlying27 rfl (by kernel_rfl) ?_)
  refine hchk.mono ?_
  clear hchk
  generalize w.alloc (.cells #[.string nm, .slice LA L.length Lc, .int .i64 o, .int .i64 n, .int .i64 u, .string s, .slice A l.length c, .int .i64 oB, .int .i64 nB, .int .i64 uB, .string sB, .slice AB lB.length cB, .int .i64 oC, .int .i64 nC, .int .i64 uC, .string sC, .slice AC lC.length cC, .int .i64 oD, .int .i64 nD, .int .i64 uD, .string sD, .slice AD lD.length cD, .int .i64 q, .int .i64 sh, .int .i64 ch] 27) = w1 at *
  rintro r w2 ⟨rfl, hb2⟩
  have HB2 : Hid (Below w.heap.size w w2) := Lib.hid (HB1.out.trans (hb2.mono HB1.out.size))
  have HA2 := Lib.hid (HA1.out.later hb2)
  clear hb2 HA1 HB1
  by_cases hk : K = 0
  · have H2b := Lib.hid (H2.out hk)
    have H3b := Lib.hid (H3.out hk)
    subst hk
    obtain ⟨e0, e1, e2, e3, e4⟩ : w2.cell? ⟨w.heap.size, 2, none⟩ = some (.int .i64 o) ∧ w2.cell? ⟨w.heap.size, 3, none⟩ = some (.int .i64 n) ∧ w2.cell? ⟨w.heap.size, 4, none⟩ = some (.int .i64 u) ∧ w2.cell? ⟨w.heap.size, 5, none⟩ = some (.string s) ∧ w2.cell? ⟨w.heap.size, 6, none⟩ = some (.slice A l.length c) := ⟨HA2.out.cell 2, HA2.out.cell 3, HA2.out.cell 4, HA2.out.cell 5, HA2.out.cell 6⟩
    have ez := HA2.out.lt
    go_wp2_with (refine wpList_load_row rfl 27 (.tmp 3) rfl w.heap.size rfl 27 #[.string nm, .slice LA L.length Lc, .int .i64 o, .int .i64 n, .int .i64 u, .string s, .slice A l.length c, .int .i64 oB, .int .i64 nB, .int .i64 uB, .string sB, .slice AB lB.length cB, .int .i64 oC, .int .i64 nC, .int .i64 uC, .string sC, .slice AC lC.length cC, .int .i64 oD, .int .i64 nD, .int .i64 uD, .string sD, .slice AD lD.length cD, .int .i64 q, .int .i64 sh, .int .i64 ch] (0, 0) _ HA2.out Tryz.underlying27 rfl (by kernel_rfl) ?_)
    refine (HWH.out _ HB2.out).mono ?_
    rintro r w3 ⟨rfl, hb3⟩
    have HB3 : Hid (Below w.heap.size w w3) := Lib.hid (HB2.out.trans (hb3.mono HB2.out.size))
    have HA3 := Lib.hid (HA2.out.later hb3)
    clear hb3 HA2 e0 e1 e2 e3 e4 ez
    by_cases hz : Z.e = 0
    · have hv := H3b.out hz
      rw [hz]
      clear hz
      obtain ⟨t, ht⟩ : ∃ t, trF Z = t := ⟨_, rfl⟩
      rw [ht] at hv ⊢
      have HVV := Lib.hid hv
      clear hv ht
      have f6 : w3.cell? ⟨w.heap.size, 22, none⟩ = some (.int .i64 q) := HA3.out.cell 22
      have ez := HA3.out.lt
      go_wp2_with fail
      rcases t
      · skip
        refine wp_region_T (fun W => W.cell? ⟨w.heap.size, 22, none⟩ = some (.int .i64 q)) (fun _ => false) (by kernel_rfl) f6 (fun hHeld => ?_)
        refine wpAnyT_take2 (i := 0) (v := ?_) rfl rfl (by kernel_rfl) (by kernel_rfl) (by kernel_rfl) (by kernel_rfl) (fun _ _ _ h => h) (Or.inl ⟨by rfl, ?_⟩) (by first | assumption | trivial) ?_
        rotate_left
        · (intro w hSw; (try dsimp only at hSw); go_simp) <;> (with_reducible rfl)
        simp only [List.setIfInBounds_toArray, List.set_cons_zero, List.set_cons_succ]
        refine wpAnyT_take2 (i := 1) (v := ?_) rfl rfl (by kernel_rfl) (by kernel_rfl) (by kernel_rfl) (by kernel_rfl) (fun _ _ _ h => h) (Or.inl ⟨by rfl, ?_⟩) (by first | assumption | trivial) ?_
        rotate_left
        · (intro w hSw; (try dsimp only at hSw); go_simp) <;> (with_reducible rfl)
        simp only [List.setIfInBounds_toArray, List.set_cons_zero, List.set_cons_succ]
        clear hHeld
        refine wpAnyT_take2 (i := 2) (v := undef) rfl rfl (by kernel_rfl) (by kernel_rfl) (by kernel_rfl) (by kernel_rfl) (fun _ _ _ h => h) (Or.inr ⟨by rfl, rfl⟩) (by first | assumption | trivial) ?_
        simp only [List.setIfInBounds_toArray, List.set_cons_zero, List.set_cons_succ]
        refine wpAnyT_take2 (i := 3) (v := undef) rfl rfl (by kernel_rfl) (by kernel_rfl) (by kernel_rfl) (by kernel_rfl) (fun _ _ _ h => h) (Or.inr ⟨by rfl, rfl⟩) (by first | assumption | trivial) ?_
        simp only [List.setIfInBounds_toArray, List.set_cons_zero, List.set_cons_succ]
        refine wpAnyT_take2 (i := 4) (v := undef) rfl rfl (by kernel_rfl) (by kernel_rfl) (by kernel_rfl) (by kernel_rfl) (fun _ _ _ h => h) (Or.inr ⟨by rfl, rfl⟩) (by first | assumption | trivial) ?_
        simp only [List.setIfInBounds_toArray, List.set_cons_zero, List.set_cons_succ]
        refine wpAnyT_take2 (i := 5) (v := undef) rfl rfl (by kernel_rfl) (by kernel_rfl) (by kernel_rfl) (by kernel_rfl) (fun _ _ _ h => h) (Or.inr ⟨by rfl, rfl⟩) (by first | assumption | trivial) ?_
        simp only [List.setIfInBounds_toArray, List.set_cons_zero, List.set_cons_succ]
        refine wpAnyT_take2 (i := 6) (v := undef) rfl rfl (by kernel_rfl) (by kernel_rfl) (by kernel_rfl) (by kernel_rfl) (fun _ _ _ h => h) (Or.inr ⟨by rfl, rfl⟩) (by first | assumption | trivial) ?_
        simp only [List.setIfInBounds_toArray, List.set_cons_zero, List.set_cons_succ]
        have hHeld : w3.drew.cell? ⟨w.heap.size, 22, none⟩ = some (.int .i64 q) := f6
        refine wpAnyT_take2 (i := 7) (v := ?_) rfl rfl (by kernel_rfl) (by kernel_rfl) (by kernel_rfl) (by kernel_rfl) (fun _ _ _ h => h) (Or.inl ⟨by rfl, ?_⟩) (by first | assumption | trivial) ?_
        rotate_left
        · (intro w hSw; (try dsimp only at hSw); go_simp) <;> (with_reducible rfl)
        simp only [List.setIfInBounds_toArray, List.set_cons_zero, List.set_cons_succ]
        refine wpAnyT_take2 (i := 8) (v := ?_) rfl rfl (by kernel_rfl) (by kernel_rfl) (by kernel_rfl) (by kernel_rfl) (fun _ _ _ h => h) (Or.inl ⟨by rfl, ?_⟩) (by first | assumption | trivial) ?_
        rotate_left
        · (intro w hSw; (try dsimp only at hSw); go_simp) <;> (with_reducible rfl)
        simp only [List.setIfInBounds_toArray, List.set_cons_zero, List.set_cons_succ]
        refine wpAnyT_take2 (i := 9) (v := ?_) rfl rfl (by kernel_rfl) (by kernel_rfl) (by kernel_rfl) (by kernel_rfl) (fun _ _ _ h => h) (Or.inl ⟨by rfl, ?_⟩) (by first | assumption | trivial) ?_
        rotate_left
        · (intro w hSw; (try dsimp only at hSw); go_simp) <;> (with_reducible rfl)
        simp only [List.setIfInBounds_toArray, List.set_cons_zero, List.set_cons_succ]
        refine wpAnyT_done (by kernel_rfl) ?_ _
        clear hHeld
        go_wp2_with fail
        try simp only [Exit.inBlock, Exit.then]
        refine bodyPost_ret (v := .tuple #[.bool false, .int .i64 0]) ?_ rfl ⟨by rw [HVV.out, Bool.false_and], HB3.out.drew⟩
        simp [results, Tryz.results15, go_sem, ]
      · skip
        refine wp_region_T (fun W => W.cell? ⟨w.heap.size, 22, none⟩ = some (.int .i64 q)) (fun _ => false) (by kernel_rfl) f6 (fun hHeld => ?_)
        refine wpAnyT_take2 (i := 0) (v := ?_) rfl rfl (by kernel_rfl) (by kernel_rfl) (by kernel_rfl) (by kernel_rfl) (fun _ _ _ h => h) (Or.inl ⟨by rfl, ?_⟩) (by first | assumption | trivial) ?_
        rotate_left
        · (intro w hSw; (try dsimp only at hSw); go_simp) <;> (with_reducible rfl)
        simp only [List.setIfInBounds_toArray, List.set_cons_zero, List.set_cons_succ]
        refine wpAnyT_take2 (i := 1) (v := ?_) rfl rfl (by kernel_rfl) (by kernel_rfl) (by kernel_rfl) (by kernel_rfl) (fun _ _ _ h => h) (Or.inl ⟨by rfl, ?_⟩) (by first | assumption | trivial) ?_
        rotate_left
        · (intro w hSw; (try dsimp only at hSw); go_simp) <;> (with_reducible rfl)
        simp only [List.setIfInBounds_toArray, List.set_cons_zero, List.set_cons_succ]
        refine wpAnyT_take2 (i := 2) (v := ?_) rfl rfl (by kernel_rfl) (by kernel_rfl) (by kernel_rfl) (by kernel_rfl) (fun _ _ _ h => h) (Or.inl ⟨by rfl, ?_⟩) (by first | assumption | trivial) ?_
        rotate_left
        · (intro w hSw; (try dsimp only at hSw); go_simp) <;> (with_reducible rfl)
        simp only [List.setIfInBounds_toArray, List.set_cons_zero, List.set_cons_succ]
        refine wpAnyT_take2 (i := 4) (v := ?_) rfl rfl (by kernel_rfl) (by kernel_rfl) (by kernel_rfl) (by kernel_rfl) (fun _ _ _ h => h) (Or.inl ⟨by rfl, ?_⟩) (by first | assumption | trivial) ?_
        rotate_left
        · (intro w hSw; (try dsimp only at hSw); go_simp) <;> (with_reducible rfl)
        simp only [List.setIfInBounds_toArray, List.set_cons_zero, List.set_cons_succ]
        refine wpAnyT_take2 (i := 5) (v := ?_) rfl rfl (by kernel_rfl) (by kernel_rfl) (by kernel_rfl) (by kernel_rfl) (fun _ _ _ h => h) (Or.inl ⟨by rfl, ?_⟩) (by first | assumption | trivial) ?_
        rotate_left
        · (intro w hSw; (try dsimp only at hSw); go_simp) <;> (with_reducible rfl)
        simp only [List.setIfInBounds_toArray, List.set_cons_zero, List.set_cons_succ]
        clear hHeld
        refine wpAnyT_next (i := 3) (by kernel_rfl) rfl ?_
        go_wp2_with fail
        refine (HTR.out _ HB3.out.drew).mono ?_
        rintro r w4 ⟨rfl, hb4⟩
        have HB4 : Hid (Below w.heap.size w w4) := Lib.hid (HB3.out.drew.trans (hb4.mono HB3.out.drew.size))
        have f7 : w4.cell? ⟨w.heap.size, 22, none⟩ = some (.int .i64 q) := (HA3.out.drew.later hb4).cell 22
        go_wp2_with fail
        refine And.intro (by first | exact fun _ => f7 | exact f7) ?_
        have hHeld := f7
        refine wpAnyT_take2 (i := 6) (v := ?_) rfl rfl (by kernel_rfl) (by kernel_rfl) (by kernel_rfl) (by kernel_rfl) (fun _ _ _ h => h) (Or.inl ⟨by rfl, ?_⟩) (by first | assumption | trivial) ?_
        rotate_left
        · (intro w hSw; (try dsimp only at hSw); go_simp) <;> (with_reducible rfl)
        simp only [List.setIfInBounds_toArray, List.set_cons_zero, List.set_cons_succ]
        refine wpAnyT_take2 (i := 7) (v := ?_) rfl rfl (by kernel_rfl) (by kernel_rfl) (by kernel_rfl) (by kernel_rfl) (fun _ _ _ h => h) (Or.inl ⟨by rfl, ?_⟩) (by first | assumption | trivial) ?_
        rotate_left
        · (intro w hSw; (try dsimp only at hSw); go_simp) <;> (with_reducible rfl)
        simp only [List.setIfInBounds_toArray, List.set_cons_zero, List.set_cons_succ]
        refine wpAnyT_take2 (i := 8) (v := ?_) rfl rfl (by kernel_rfl) (by kernel_rfl) (by kernel_rfl) (by kernel_rfl) (fun _ _ _ h => h) (Or.inl ⟨by rfl, ?_⟩) (by first | assumption | trivial) ?_
        rotate_left
        · (intro w hSw; (try dsimp only at hSw); go_simp) <;> (with_reducible rfl)
        simp only [List.setIfInBounds_toArray, List.set_cons_zero, List.set_cons_succ]
        refine wpAnyT_take2 (i := 9) (v := ?_) rfl rfl (by kernel_rfl) (by kernel_rfl) (by kernel_rfl) (by kernel_rfl) (fun _ _ _ h => h) (Or.inl ⟨by rfl, ?_⟩) (by first | assumption | trivial) ?_
        rotate_left
        · (intro w hSw; (try dsimp only at hSw); go_simp) <;> (with_reducible rfl)
        simp only [List.setIfInBounds_toArray, List.set_cons_zero, List.set_cons_succ]
        refine wpAnyT_done (by kernel_rfl) ?_ _
        clear hHeld
        go_wp2_with fail
        try simp only [Exit.inBlock, Exit.then]
        refine bodyPost_ret (v := .tuple #[.bool (decide (N < q)), .int .i64 0]) ?_ rfl ⟨by rw [HVV.out, Bool.true_and], HB4.out⟩
        simp [results, Tryz.results15, go_sem, ]
    · have HVV := Lib.hid (H2b.out hz)
      go_wp2_with fail
      try simp only [Exit.inBlock, Exit.then]
      refine bodyPost_ret (v := .tuple #[.bool false, .int .i64 Z.e]) ?_ rfl ⟨by rw [HVV.out], HB3.out⟩
      simp [results, Tryz.results15, go_sem, ]
  · have HVV := Lib.hid (H1.out hk)
    go_wp2_with fail
    try simp only [Exit.inBlock, Exit.then]
    refine bodyPost_ret (v := .tuple #[.bool false, .int .i64 K]) ?_ rfl ⟨by rw [HVV.out], HB2.out⟩
    simp [results, Tryz.results15, go_sem, ]
end Go.Proofs.YtcgocdhhneckhaaGreat
/- Walks of the laws' helpers: num, of, two, rules. -/
namespace Go.Proofs.YtcgocdhhneckhaaGreat
open Go.RowKit
set_option maxHeartbeats 800000 in
theorem law_num (n u : Int) (w : World) : Calls Tryz.prog 40 #[.int .i64 n, .int .i64 u] w fun e w' => e = .returned (PT.v ⟨0, n, u, (⟨#[]⟩ : ByteArray), none, 0, []⟩) ∧ Below w.heap.size w w' := by
  go_enter Tryz.func40, Tryz.ntmps40
  go_wp2_with fail
  try simp only [Exit.inBlock, Exit.then]
  refine bodyPost_ret (v := .agg #[.int .i64 0, .int .i64 n, .int .i64 u, .string (⟨#[]⟩ : ByteArray), .slice none 0 0]) ?_ rfl ⟨rfl, (by repeat (first | (with_reducible exact Below.refl _ _) | ((with_reducible refine below_setr ?_ ?_); focus (first | (simp; done) | (simp; omega) | omega)) | ((with_reducible refine below_allocr ?_ ?_); focus (first | (simp; done) | (simp; omega) | omega)) | (with_reducible refine Below.drew ?_) | (with_reducible refine below_drewN ?_ _)))⟩
  simp [results, Tryz.results40, go_sem, ]
set_option maxHeartbeats 800000 in
theorem law_of (s : ByteArray) (w : World) : Calls Tryz.prog 42 #[.string s] w fun e w' => e = .returned (PT.v ⟨2, 0, 0, s, none, 0, []⟩) ∧ Below w.heap.size w w' := by
  go_enter Tryz.func42, Tryz.ntmps42
  go_wp2_with fail
  try simp only [Exit.inBlock, Exit.then]
  refine bodyPost_ret (v := .agg #[.int .i64 2, .int .i64 0, .int .i64 0, .string s, .slice none 0 0]) ?_ rfl ⟨rfl, (by repeat (first | (with_reducible exact Below.refl _ _) | ((with_reducible refine below_setr ?_ ?_); focus (first | (simp; done) | (simp; omega) | omega)) | ((with_reducible refine below_allocr ?_ ?_); focus (first | (simp; done) | (simp; omega) | omega)) | (with_reducible refine Below.drew ?_) | (with_reducible refine below_drewN ?_ _)))⟩
  simp [results, Tryz.results42, go_sem, ]
theorem pt_leaf (F : Nat → Prop) (w : World) (o n u : Int) (s : ByteArray) (h : s.size ≤ 9223372036854775807) : PT.At F w ⟨o, n, u, s, none, 0, []⟩ := .mk h (Rd.nil _ _ _ _) (fun x hx => by cases hx)
set_option maxHeartbeats 800000 in
theorem law_two (X : Nat → Prop) (o : Int) (a b : PT) (w : World) (hX : ∀ b, X b → b < w.heap.size) (ha : PT.At (Nm X w) w a) (hb : PT.At (Nm X w) w b) : Calls Tryz.prog 41 #[.int .i64 o, a.v, b.v] w fun e w' => ∃ (g c : Nat), e = .returned (PT.v ⟨o, 0, 0, (⟨#[]⟩ : ByteArray), some ⟨g, 0, none⟩, c, [a, b]⟩) ∧ PT.At (Nm X w') w' ⟨o, 0, 0, (⟨#[]⟩ : ByteArray), some ⟨g, 0, none⟩, c, [a, b]⟩ ∧ Below w.heap.size w w' := by
  have HA := Lib.hid ha
  have HB := Lib.hid hb
  clear ha hb
  obtain ⟨o1, n1, u1, s1, A1, c1, l1⟩ := a
  obtain ⟨o2, n2, u2, s2, A2, c2, l2⟩ := b
  simp only [PT.v]
  go_enter Tryz.func41, Tryz.ntmps41
  go_wp2_with fail
  have hz : (((w.alloc (.cells #[.int .i64 o1, .int .i64 n1, .int .i64 u1, .string s1, .slice A1 l1.length c1] 25)).alloc (.cells #[.int .i64 o2, .int .i64 n2, .int .i64 u2, .string s2, .slice A2 l2.length c2] 25)).alloc (.cells #[.int .i64 o, .int .i64 0, .int .i64 0, .string (⟨#[]⟩ : ByteArray), .slice (some ⟨w.heap.size + 1 + 1 + 1, 0, none⟩) 2 2] 25)).heap.size = w.heap.size + 1 + 1 + 1 := by simp
  have hB : Below w.heap.size w (((w.alloc (.cells #[.int .i64 o1, .int .i64 n1, .int .i64 u1, .string s1, .slice A1 l1.length c1] 25)).alloc (.cells #[.int .i64 o2, .int .i64 n2, .int .i64 u2, .string s2, .slice A2 l2.length c2] 25)).alloc (.cells #[.int .i64 o, .int .i64 0, .int .i64 0, .string (⟨#[]⟩ : ByteArray), .slice (some ⟨w.heap.size + 1 + 1 + 1, 0, none⟩) 2 2] 25)) := (by repeat (first | (with_reducible exact Below.refl _ _) | ((with_reducible refine below_setr ?_ ?_); focus (first | (simp; done) | (simp; omega) | omega)) | ((with_reducible refine below_allocr ?_ ?_); focus (first | (simp; done) | (simp; omega) | omega)) | (with_reducible refine Below.drew ?_) | (with_reducible refine below_drewN ?_ _)))
  have HR : Hid (Blk (((w.alloc (.cells #[.int .i64 o1, .int .i64 n1, .int .i64 u1, .string s1, .slice A1 l1.length c1] 25)).alloc (.cells #[.int .i64 o2, .int .i64 n2, .int .i64 u2, .string s2, .slice A2 l2.length c2] 25)).alloc (.cells #[.int .i64 o, .int .i64 0, .int .i64 0, .string (⟨#[]⟩ : ByteArray), .slice (some ⟨w.heap.size + 1 + 1 + 1, 0, none⟩) 2 2] 25)) (w.heap.size + 1 + 1) 25 #[.int .i64 o, .int .i64 0, .int .i64 0, .string (⟨#[]⟩ : ByteArray), .slice (some ⟨w.heap.size + 1 + 1 + 1, 0, none⟩) 2 2]) := Lib.hid (Blk.new' (by simp))
  generalize (((w.alloc (.cells #[.int .i64 o1, .int .i64 n1, .int .i64 u1, .string s1, .slice A1 l1.length c1] 25)).alloc (.cells #[.int .i64 o2, .int .i64 n2, .int .i64 u2, .string s2, .slice A2 l2.length c2] 25)).alloc (.cells #[.int .i64 o, .int .i64 0, .int .i64 0, .string (⟨#[]⟩ : ByteArray), .slice (some ⟨w.heap.size + 1 + 1 + 1, 0, none⟩) 2 2] 25)) = w3 at *
  have HO := (Own.lit (base := w3.heap.size) (e := 25) w3 #[.int .i64 o1, .int .i64 n1, .int .i64 u1, .string s1, .slice A1 l1.length c1, .int .i64 o2, .int .i64 n2, .int .i64 u2, .string s2, .slice A2 l2.length c2] [PT.mk o1 n1 u1 s1 A1 c1 l1, PT.mk o2 n2 u2 s2 A2 c2 l2] (Nat.le_refl _) (by simp [maxLen]) rfl PT.enc_k).rd PT.enc_k
  rw [hz] at HO
  have hB4 : Below w.heap.size w (w3.alloc (.cells #[.int .i64 o1, .int .i64 n1, .int .i64 u1, .string s1, .slice A1 l1.length c1, .int .i64 o2, .int .i64 n2, .int .i64 u2, .string s2, .slice A2 l2.length c2] 25)) := hB.alloc (by omega) _
  have hat : PT.At (Nm X (w3.alloc (.cells #[.int .i64 o1, .int .i64 n1, .int .i64 u1, .string s1, .slice A1 l1.length c1, .int .i64 o2, .int .i64 n2, .int .i64 u2, .string s2, .slice A2 l2.length c2] 25))) (w3.alloc (.cells #[.int .i64 o1, .int .i64 n1, .int .i64 u1, .string s1, .slice A1 l1.length c1, .int .i64 o2, .int .i64 n2, .int .i64 u2, .string s2, .slice A2 l2.length c2] 25)) ⟨o, 0, 0, (⟨#[]⟩ : ByteArray), some ⟨w.heap.size + 1 + 1 + 1, 0, none⟩, 2, [PT.mk o1 n1 u1 s1 A1 c1 l1, PT.mk o2 n2 u2 s2 A2 c2 l2]⟩ :=
    .mk (by decide) (HO.mono (fun b hb => ⟨hb.2, fun hx => by have := hX b hx; have := hb.1; omega⟩)) (fun x hx => by
      simp only [List.mem_cons, List.not_mem_nil, or_false] at hx
      rcases hx with rfl | rfl
      · exact HA.out.more hB4 (Mor.refl _ _ _)
      · exact HB.out.more hB4 (Mor.refl _ _ _))
  have HR4 := Lib.hid (HR.out.alloc (.cells #[.int .i64 o1, .int .i64 n1, .int .i64 u1, .string s1, .slice A1 l1.length c1, .int .i64 o2, .int .i64 n2, .int .i64 u2, .string s2, .slice A2 l2.length c2] 25))
  generalize w3.alloc (.cells #[.int .i64 o1, .int .i64 n1, .int .i64 u1, .string s1, .slice A1 l1.length c1, .int .i64 o2, .int .i64 n2, .int .i64 u2, .string s2, .slice A2 l2.length c2] 25) = w4 at *
  obtain ⟨r0, r1, r2, r3, r4, rf, rz⟩ := HR4.out.b5
  try simp only [Exit.inBlock, Exit.then]
  refine bodyPost_ret (v := .agg #[.int .i64 o, .int .i64 0, .int .i64 0, .string (⟨#[]⟩ : ByteArray), .slice (some ⟨w.heap.size + 1 + 1 + 1, 0, none⟩) 2 2]) ?_ rfl ⟨_, _, rfl, hat, hB4⟩
  simp [results, Tryz.results41, go_sem, r0, r1, r2, r3, r4]
/-- The rules of the examples; only the addresses are open. -/
def ruleB (A1 A2 A3 A4 A5 A6 : Option Addr) (c1 c2 c3 c4 c5 c6 : Nat) : Byl :=
  ⟨⟨#[99, 111, 111, 112]⟩, ⟨none, 0, []⟩,
    ⟨12, 0, 0, (⟨#[]⟩ : ByteArray), A3, c3, [⟨10, 0, 0, (⟨#[]⟩ : ByteArray), A2, c2, [⟨6, 0, 0, (⟨#[]⟩ : ByteArray), A1, c1, [⟨0, 2, 0, (⟨#[]⟩ : ByteArray), none, 0, []⟩, ⟨2, 0, 0, (⟨#[100, 105, 114, 101, 99, 116]⟩ : ByteArray), none, 0, []⟩]⟩, ⟨2, 0, 0, (⟨#[114, 105, 100, 101]⟩ : ByteArray), none, 0, []⟩]⟩]⟩,
    ⟨4, 0, 0, (⟨#[]⟩ : ByteArray), A6, c6, [⟨0, 100, 1, (⟨#[]⟩ : ByteArray), none, 0, []⟩, ⟨6, 0, 0, (⟨#[]⟩ : ByteArray), A5, c5, [⟨0, 10, 1, (⟨#[]⟩ : ByteArray), none, 0, []⟩, ⟨7, 0, 0, (⟨#[]⟩ : ByteArray), A4, c4, [⟨2, 0, 0, (⟨#[100, 105, 114, 101, 99, 116]⟩ : ByteArray), none, 0, []⟩, ⟨0, 1, 2, (⟨#[]⟩ : ByteArray), none, 0, []⟩]⟩]⟩]⟩,
    ⟨0, 50, 1, (⟨#[]⟩ : ByteArray), none, 0, []⟩, ⟨0, 200, 1, (⟨#[]⟩ : ByteArray), none, 0, []⟩, 4, 150, 501⟩
theorem rule_bylB (A1 A2 A3 A4 A5 A6 : Option Addr) (c1 c2 c3 c4 c5 c6 : Nat) : bylB (ruleB A1 A2 A3 A4 A5 A6 c1 c2 c3 c4 c5 c6) = true := by kernel_rfl
theorem rule_chk (A1 A2 A3 A4 A5 A6 : Option Addr) (c1 c2 c3 c4 c5 c6 : Nat) : chkU (ruleB A1 A2 A3 A4 A5 A6 c1 c2 c3 c4 c5 c6) = 0 := by kernel_rfl
theorem rule_fare (A1 A2 A3 A4 A5 A6 : Option Addr) (c1 c2 c3 c4 c5 c6 : Nat) : whC (ruleB A1 A2 A3 A4 A5 A6 c1 c2 c3 c4 c5 c6) (ruleB A1 A2 A3 A4 A5 A6 c1 c2 c3 c4 c5 c6).fa (tripL 12 20 0 0 0 0 0 1) [] = (220, 0) := by kernel_rfl
theorem rule_noshow (A1 A2 A3 A4 A5 A6 : Option Addr) (c1 c2 c3 c4 c5 c6 : Nat) : whC (ruleB A1 A2 A3 A4 A5 A6 c1 c2 c3 c4 c5 c6) (ruleB A1 A2 A3 A4 A5 A6 c1 c2 c3 c4 c5 c6).no [] [] = (200, 0) := by kernel_rfl
theorem rule_adm1 (A1 A2 A3 A4 A5 A6 : Option Addr) (c1 c2 c3 c4 c5 c6 : Nat) : admC (ruleB A1 A2 A3 A4 A5 A6 c1 c2 c3 c4 c5 c6) (tripL 10 20 0 0 2 0 0 1) (riderL 0 0 3 0) = (true, 0) := by kernel_rfl
theorem rule_adm2 (A1 A2 A3 A4 A5 A6 : Option Addr) (c1 c2 c3 c4 c5 c6 : Nat) : admC (ruleB A1 A2 A3 A4 A5 A6 c1 c2 c3 c4 c5 c6) (tripL 10 20 0 0 2 0 0 1) (riderL 0 0 4 0) = (false, 0) := by kernel_rfl
theorem rule_adm3 (A1 A2 A3 A4 A5 A6 : Option Addr) (c1 c2 c3 c4 c5 c6 : Nat) : admC (ruleB A1 A2 A3 A4 A5 A6 c1 c2 c3 c4 c5 c6) (tripL 10 21 0 0 0 0 0 1) (riderL 0 0 3 0) = (false, 0) := by kernel_rfl
end Go.Proofs.YtcgocdhhneckhaaGreat
