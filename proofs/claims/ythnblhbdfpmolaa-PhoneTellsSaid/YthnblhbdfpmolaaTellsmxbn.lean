/- Walks of the reference of layer 43: Lend, where there is a loan of the stock. -/
import Derived.Test.YthnblhbdfpmolaaTellsmxbm
namespace Go.Proofs.Ythnblhbdfpmolaa
open Go.RowKit
theorem Own.set3 {base g c i : Nat} {w : World} {l : List Stock} {x : Stock} (h : Own base 66 3 Stock.enc w ⟨some ⟨g, 0, none⟩, c, l⟩) (hx : l[i]? = some x) (y : Stock) :
    Own base 66 3 Stock.enc (((w.setCell ⟨g, i * 3, none⟩ (.int .i64 y.T)).setCell ⟨g, i * 3 + 1, none⟩ (.int .i64 y.U)).setCell ⟨g, i * 3 + 2, none⟩ (.slice y.L.A y.L.l.length y.L.c)) ⟨some ⟨g, 0, none⟩, c, l.set i y⟩ := by
  have hlt := (List.getElem?_eq_some_iff.1 hx).1
  have h1 := h.set Stock.k rfl hx (j := 0) (y := ⟨y.T, x.U, x.L⟩) (u := .int .i64 y.T) (by omega) rfl
  have h2 := h1.set Stock.k rfl (i := i) (x := ⟨y.T, x.U, x.L⟩) (by simp [hlt]) (j := 1) (y := ⟨y.T, y.U, x.L⟩) (u := .int .i64 y.U) (by omega) rfl
  have h3 := h2.set Stock.k rfl (i := i) (x := ⟨y.T, y.U, x.L⟩) (by simp [hlt]) (j := 2) (y := y) (u := .slice y.L.A y.L.l.length y.L.c) (by omega) rfl
  simpa using h3
set_option maxHeartbeats 2000000 in
theorem rlend43_had (p : Phone) (ss : Sl Stock) (j : Nat) (x : Stock) (n : Int) (i : Nat) (hx : Hold) (w : World) (hr : RdPhone (· < w.heap.size) w p) (hs : RdStocks (· < w.heap.size) w ss) (hb : ss.l.length * 40 ≤ 140737488355328) (HF : Hid (p.d.right = true)) (HG : Hid (p.d.fit (ss.l.map Stock.d) = true)) (hj : j < ss.l.length) (hc : p.cut = false)
    (HFK : Hid (findK Hold.st j 0 p.H.l = (i : Int))) (HHX : Hid (p.H.l[i]? = some hx)) (hx1 : 1 ≤ hx.u) (hx2 : hx.u ≤ 1000000000000000) (hn1 : 1 ≤ n) (hn2 : n ≤ 1000000000000000) (HX : Hid (ss.l[j]? = some x)) (HE : Hid ((x.d.lend p.id n).2 = 0)) (B : Nat) (hBB : B ≤ w.heap.size) (hFN : ∀ y ∈ p.N.l, Rd (· < B) 1 ienc w y.af) (hGS : ∀ y ∈ ss.l, Rd (· < B) 3 Loan.enc w y.L) :
    Calls Try.prog 22 #[p.v, .slice ss.A ss.l.length ss.c, .int .i64 j, .int .i64 n] w fun e w' => ∃ (p' : Phone) (s' : Sl Stock), e = .returned (.tuple #[p'.v, .slice s'.A s'.l.length s'.c, .int .i64 0]) ∧ p'.d = { p.d with H := p.d.H.set i { hx with u := hx.u + n } } ∧ s'.l.map Stock.d = (ss.l.map Stock.d).set j (x.d.lend p.id n).1 ∧
      RdPhone (fun b => b < B ∨ (w.heap.size ≤ b ∧ b < w'.heap.size)) w' p' ∧ RdStocks (fun b => b < B ∨ (w.heap.size ≤ b ∧ b < w'.heap.size)) w' s' ∧ Below w.heap.size w w' := by
  obtain ⟨id, cut, H, N, S⟩ := p
  simp only at hc
  subst hc
  try simp only at hFN
  have HFN := Lib.hid hFN
  have HGS := Lib.hid hGS
  clear hFN hGS
  have hib := (List.getElem?_eq_some_iff.1 HHX.out).1
  try simp only at hib
  have HR := Lib.hid hr
  have HS := Lib.hid hs
  clear hr hs
  simp only [Phone.v]
  go_enter Try.func22, Try.ntmps22
  go_wp2_with fail
  refine (rright43 ⟨id, false, H, N, S⟩ _ (HR.out.later qbl (Nat.le_refl _))).mono ?_
  rintro e w1 ⟨rfl, hb1⟩
  rw [HF.out]
  have K_a : Blk _ (w.heap.size) 26 #[.int .i64 id, .bool false, .slice H.A H.l.length H.c, .slice N.A N.l.length N.c, .slice S.A S.l.length S.c] := qkb hb1
  obtain ⟨a0, a1, a2, a3, a4, af, az⟩ := Blk.b5 K_a
  have B_a := Lib.hid K_a
  clear K_a
  have K_b : Blk _ (w.heap.size + 1) 26 #[.int .i64 0, .bool false, .slice none 0 0, .slice none 0 0, .slice none 0 0] := qkb hb1
  obtain ⟨b0, b1, b2, b3, b4, bf, bz⟩ := Blk.b5 K_b
  have B_b := Lib.hid K_b
  clear K_b
  have hB1 : Below w.heap.size w w1 := (by repeat (first | (with_reducible exact Below.refl _ _) | ((with_reducible refine below_setr ?_ ?_); focus (first | (simp; done) | (simp; omega) | omega)) | ((with_reducible refine below_allocr ?_ ?_); focus (first | (simp; done) | (simp; omega) | omega)) | (with_reducible refine Below.drew ?_) | (with_reducible refine below_drewN ?_ _) | ((with_reducible apply below_via); focus (with_reducible assumption))))
  clear hb1
  go_wp2_with fail
  refine (rfit43 ⟨id, false, H, N, S⟩ ss _ (HR.out.later hB1 (Nat.le_refl _)) (HS.out.later hB1 (Nat.le_refl _)) (PhoneD.right_iff HF.out).H).mono ?_
  rintro e w2 ⟨rfl, hb2⟩
  rw [HG.out]
  clear a0 a1 a2 a3 a4 af b0 b1 b2 b3 b4 bf
  have K_a : Blk _ (w.heap.size) 26 #[.int .i64 id, .bool false, .slice H.A H.l.length H.c, .slice N.A N.l.length N.c, .slice S.A S.l.length S.c] := qkc B_a hb2
  obtain ⟨a0, a1, a2, a3, a4, af, az⟩ := Blk.b5 K_a
  have B_a := Lib.hid K_a
  clear K_a
  have K_b : Blk _ (w.heap.size + 1) 26 #[.int .i64 0, .bool false, .slice none 0 0, .slice none 0 0, .slice none 0 0] := qkc B_b hb2
  obtain ⟨b0, b1, b2, b3, b4, bf, bz⟩ := Blk.b5 K_b
  have B_b := Lib.hid K_b
  clear K_b
  have hB2 : Below w.heap.size w w2 := (by repeat (first | (with_reducible exact hB1) | (with_reducible exact Below.refl _ _) | ((with_reducible refine below_setr ?_ ?_); focus (first | (simp; done) | (simp; omega) | omega)) | ((with_reducible refine below_allocr ?_ ?_); focus (first | (simp; done) | (simp; omega) | omega)) | (with_reducible refine Below.drew ?_) | (with_reducible refine below_drewN ?_ _) | ((with_reducible apply below_via); focus (with_reducible assumption))))
  clear hb2
  go_wp2_with fail
  refine (rat43 ⟨id, false, H, N, S⟩ j _ (HR.out.later hB2 (Nat.le_refl _)).1).mono ?_
  rintro e w3 ⟨rfl, hb3⟩
  try simp only
  rw [HFK.out]
  clear a0 a1 a2 a3 a4 af b0 b1 b2 b3 b4 bf
  have K_a : Blk _ (w.heap.size) 26 #[.int .i64 id, .bool false, .slice H.A H.l.length H.c, .slice N.A N.l.length N.c, .slice S.A S.l.length S.c] := qkc B_a hb3
  obtain ⟨a0, a1, a2, a3, a4, af, az⟩ := Blk.b5 K_a
  have B_a := Lib.hid K_a
  clear K_a
  have K_b : Blk _ (w.heap.size + 1) 26 #[.int .i64 0, .bool false, .slice none 0 0, .slice none 0 0, .slice none 0 0] := qkc B_b hb3
  obtain ⟨b0, b1, b2, b3, b4, bf, bz⟩ := Blk.b5 K_b
  have B_b := Lib.hid K_b
  clear K_b
  have hB3 : Below w.heap.size w w3 := (by repeat (first | (with_reducible exact hB2) | (with_reducible exact Below.refl _ _) | ((with_reducible refine below_setr ?_ ?_); focus (first | (simp; done) | (simp; omega) | omega)) | ((with_reducible refine below_allocr ?_ ?_); focus (first | (simp; done) | (simp; omega) | omega)) | (with_reducible refine Below.drew ?_) | (with_reducible refine below_drewN ?_ _) | ((with_reducible apply below_via); focus (with_reducible assumption))))
  clear hb3
  go_wp2_with fail
  obtain ⟨bb, oo, hsA, hsF, hcl⟩ := HS.out.1.2.2.2 j x HX.out
  have HXL := Lib.hid (HS.out.2 x (List.mem_of_getElem? HX.out))
  obtain ⟨xT, xU, xL⟩ := x
  obtain ⟨sA, sc, sl⟩ := ss
  simp only at hsA hj
  subst hsA
  obtain ⟨g0, g1, g2⟩ := Cells.c3 (hcl.keep (hB3.block bb hsF))
  clear hcl
  have hj1 : (j : Int) < (sl.length : Int) := by omega
  have hj0 : (0 : Int) ≤ (j : Int) := by omega
  refine wp_region_T (fun w' => w'.cell? ⟨bb, oo + j * 3, none⟩ = some (.int .i64 xT) ∧ w'.cell? ⟨bb, oo + j * 3 + 1, none⟩ = some (.int .i64 xU) ∧ w'.cell? ⟨bb, oo + j * 3 + 2, none⟩ = some (.slice xL.A xL.l.length xL.c) ∧ w'.cell? ⟨w.heap.size, 0, none⟩ = some (.int .i64 id)) (fun _ => false) (by kernel_rfl) ⟨g0, g1, g2, a0⟩ (fun hHeld => ?_)
  refine qtq 0 ?_
  simp only [qsa, qsb, qsc]
  refine qtq 1 ?_
  simp only [qsa, qsb, qsc]
  refine qtq 2 ?_
  simp only [qsa, qsb, qsc]
  refine qtq 3 ?_
  simp only [qsa, qsb, qsc]
  refine qtq 4 ?_
  simp only [qsa, qsb, qsc]
  refine qtq 5 ?_
  simp only [qsa, qsb, qsc]
  refine qtq 6 ?_
  simp only [qsa, qsb, qsc]
  clear hHeld
  generalize hsd : StockD.lend (Stock.d ⟨xT, xU, xL⟩) id n = sd at *
  have HSD := Lib.hid hsd
  clear hsd
  apply cutT
  intro fin
  refine wpAnyT_two (i := 7) (j := 11) (by kernel_rfl) rfl rfl ?_ ?_
  · go_wp2_with fail
    refine (rlend ⟨xT, xU, xL⟩ id n w3.drew (HXL.out.below' (by repeat (first | (with_reducible exact hB3) | (with_reducible exact Below.refl _ _) | ((with_reducible refine below_setr ?_ ?_); focus (first | (simp; done) | (simp; omega) | omega)) | ((with_reducible refine below_allocr ?_ ?_); focus (first | (simp; done) | (simp; omega) | omega)) | (with_reducible refine Below.drew ?_) | (with_reducible refine below_drewN ?_ _) | ((with_reducible apply below_via); focus (with_reducible assumption)))) (Nat.le_refl _))).mono ?_
    rintro e W ⟨⟨vT, vU, vL⟩, rfl, hvd, hvr, hb4⟩
    rw [HSD.out] at hvd hvr
    rw [HSD.out]
    have hb4' : Below w3.heap.size w3 W := Below.trans (Below.drew (Below.refl _ _)) hb4
    simp only [Stock.v]
    go_wp2_with fail
    have hHeld := And.intro (keep_cell hb4' g0) (And.intro (keep_cell hb4' g1) (And.intro (keep_cell hb4' g2) (keep_cell hb4' a0)))
    refine And.intro ?_ ?_
    · first
      | exact hHeld
      | exact fun _ => hHeld
    refine qtq 8 ?_
    simp only [qsa, qsb, qsc]
    refine qtq 9 ?_
    simp only [qsa, qsb, qsc]
    refine qtq 10 ?_
    simp only [qsa, qsb, qsc]
    clear hHeld
    refine wpAnyT_next (i := 11) (by kernel_rfl) rfl ?_
    go_wp2_with fail
    obtain ⟨gx, hgx⟩ : ∃ g, g = W.heap.size := ⟨_, rfl⟩
    have hn : ∀ X, X = W.alloc (.cells #[.int .i64 0, .int .i64 0, .slice none 0 0] 66) → Below w3.heap.size w3 X ∧ Blk X gx 66 #[.int .i64 0, .int .i64 0, .slice none 0 0] ∧ w3.heap.size ≤ gx ∧ (sd.2 = 0 → Rd (fun b => w3.heap.size ≤ b ∧ b ≠ gx ∧ b < X.heap.size) 3 Loan.enc X vL) := by
      rintro _ rfl
      have hz : w3.heap.size ≤ W.heap.size := hb4'.size
      refine ⟨hb4'.alloc hz _, by rw [hgx]; exact Blk.new _ _ _, by rw [hgx]; exact hz, fun h0 => ?_⟩
      refine Rd.mono ((hvr h0).keep fun b hb => Below.heap_alloc _ _ b hb.2) (fun b hb => ⟨hb.1, ?_, ?_⟩)
      · have := hb.2; omega
      · have := hb.2; simp; omega
    rw [← hgx]
    obtain ⟨X, hX⟩ : ∃ X, X = W.alloc (.cells #[.int .i64 0, .int .i64 0, .slice none 0 0] 66) := ⟨_, rfl⟩
    have hn2 := hn X hX
    rw [← hX]
    clear hn hX hgx hvr hb4 hb4'
    have hbX := hn2.1
    have hHeld := And.intro (keep_cell hbX g0) (And.intro (keep_cell hbX g1) (And.intro (keep_cell hbX g2) (keep_cell hbX a0)))
    refine And.intro ?_ ?_
    · first
      | exact hHeld
      | exact fun _ => hHeld
    clear hHeld hbX
    refine wpAnyT_relist (l' := #[true, true, true, true, true, true, true, true, true, true, true, true, false, false]) (by kernel_rfl) ?_
    revert hn2
    revert hvd
    revert X
    revert gx
    revert vL
    revert vU
    revert vT
    exact fin
  · go_wp2_with fail
    obtain ⟨gx, hgx⟩ : ∃ g, g = w3.heap.size := ⟨_, rfl⟩
    have hn : ∀ X, X = w3.drew.alloc (.cells #[.int .i64 0, .int .i64 0, .slice none 0 0] 66) → Below w3.heap.size w3 X ∧ Blk X gx 66 #[.int .i64 0, .int .i64 0, .slice none 0 0] ∧ X.heap.size = gx + 1 := by
      rintro _ rfl
      exact ⟨Below.alloc (Below.drew (Below.refl _ _)) (Nat.le_refl _) _, by rw [hgx]; exact Blk.new _ _ _, by rw [hgx]; show (w3.drew.alloc _).heap.size = w3.drew.heap.size + 1; simp only [World.size_alloc]⟩
    rw [← hgx]
    obtain ⟨W, hW⟩ : ∃ X, X = w3.drew.alloc (.cells #[.int .i64 0, .int .i64 0, .slice none 0 0] 66) := ⟨_, rfl⟩
    have hn1 := hn W hW
    have HN1 := Lib.hid hn1
    have hgw : w3.heap.size ≤ gx := Nat.le_of_eq hgx.symm
    have hW' : (w3.alloc (.cells #[.int .i64 0, .int .i64 0, .slice none 0 0] 66)).drew = W := hW.symm
    try rw [← hW]
    try rw [hW']
    try simp only [QT]
    clear hn hW hW' hgx
    have hbW := hn1.1
    clear hn1
    have hHeld := And.intro (keep_cell hbW g0) (And.intro (keep_cell hbW g1) (And.intro (keep_cell hbW g2) (keep_cell hbW a0)))
    refine And.intro ?_ ?_
    · first
      | exact hHeld
      | exact fun _ => hHeld
    clear hHeld
    refine wpAnyT_next (i := 7) (by kernel_rfl) rfl ?_
    go_wp2_with fail
    refine (rlend ⟨xT, xU, xL⟩ id n W (HXL.out.below' (below_via hbW hB3) (Nat.le_refl _))).mono ?_
    rintro e X ⟨⟨vT, vU, vL⟩, rfl, hvd, hvr, hb4⟩
    rw [HSD.out] at hvd hvr
    rw [HSD.out]
    have hn1 := HN1.out
    have hn2 : Below w3.heap.size w3 X ∧ Blk X gx 66 #[.int .i64 0, .int .i64 0, .slice none 0 0] ∧ w3.heap.size ≤ gx ∧ (sd.2 = 0 → Rd (fun b => w3.heap.size ≤ b ∧ b ≠ gx ∧ b < X.heap.size) 3 Loan.enc X vL) := by
      have hz := hn1.2.2
      refine ⟨below_via hb4 hbW, hn1.2.1.later hb4, hgw, fun h0 => ?_⟩
      exact Rd.mono (hvr h0) (fun b hb => by have := hb.1; have := hb.2; exact ⟨by omega, by omega, by omega⟩)
    clear hn1 HN1 hbW hvr hb4 hgw
    have hbX := hn2.1
    simp only [Stock.v]
    go_wp2_with fail
    have hHeld := And.intro (keep_cell hbX g0) (And.intro (keep_cell hbX g1) (And.intro (keep_cell hbX g2) (keep_cell hbX a0)))
    refine And.intro ?_ ?_
    · first
      | exact hHeld
      | exact fun _ => hHeld
    refine qtq 8 ?_
    simp only [qsa, qsb, qsc]
    refine qtq 9 ?_
    simp only [qsa, qsb, qsc]
    refine qtq 10 ?_
    simp only [qsa, qsb, qsc]
    clear hHeld hbX
    refine wpAnyT_relist (l' := #[true, true, true, true, true, true, true, true, true, true, true, true, false, false]) (by kernel_rfl) ?_
    revert hn2
    revert hvd
    revert X
    revert gx
    revert vL
    revert vU
    revert vT
    exact fin
  intro vT vU vL gx X hvd hn2
  have hz0 := B_b.out.lt
  obtain ⟨hbX, hblx, hgx, hvr⟩ := hn2
  have HVR := Lib.hid hvr
  have HVD := Lib.hid hvd
  clear hvr hvd
  have hB4 : Below w.heap.size w X := below_via hbX hB3
  have XA := B_a.out.later hbX
  have XB := B_b.out.later hbX
  have bz4 : w.heap.size + 1 < X.heap.size := XB.lt
  have G0 := keep_cell hbX g0
  have G1 := keep_cell hbX g1
  have G2 := keep_cell hbX g2
  have GA := keep_cell hbX a0
  clear a0 a1 a2 a3 a4 af b0 b1 b2 b3 b4 bf g0 g1 g2 B_a B_b
  have B_a := Lib.hid XA
  have B_b := Lib.hid XB
  have B_x := Lib.hid hblx
  clear XA XB hblx
  obtain ⟨a0, a1, a2, a3, a4, af, az4⟩ := B_a.out.b5
  obtain ⟨b0, b1, b2, b3, b4, bf, bz5⟩ := B_b.out.b5
  obtain ⟨x0, x1, x2, xf, xz4⟩ := B_x.out.b3
  have nb : bb ≠ gx := by have := hsF; omega
  have na : w.heap.size ≠ gx := by omega
  have nc : w.heap.size + 1 ≠ gx := by omega
  refine wpAnyT_next (i := 12) (by kernel_rfl) rfl ?_
  go_wp2_with fail
  have hHeld := And.intro (kset (q := ⟨gx, 2, none⟩) (.slice vL.A vL.l.length vL.c) nb (kset (q := ⟨gx, 1, none⟩) (.int .i64 vU) nb (kset (q := ⟨gx, 0, none⟩) (.int .i64 vT) nb G0))) (And.intro (kset (q := ⟨gx, 2, none⟩) (.slice vL.A vL.l.length vL.c) nb (kset (q := ⟨gx, 1, none⟩) (.int .i64 vU) nb (kset (q := ⟨gx, 0, none⟩) (.int .i64 vT) nb G1))) (And.intro (kset (q := ⟨gx, 2, none⟩) (.slice vL.A vL.l.length vL.c) nb (kset (q := ⟨gx, 1, none⟩) (.int .i64 vU) nb (kset (q := ⟨gx, 0, none⟩) (.int .i64 vT) nb G2))) (kset (q := ⟨gx, 2, none⟩) (.slice vL.A vL.l.length vL.c) na (kset (q := ⟨gx, 1, none⟩) (.int .i64 vU) na (kset (q := ⟨gx, 0, none⟩) (.int .i64 vT) na GA)))))
  refine And.intro ?_ ?_
  · first
    | exact hHeld
    | exact fun _ => hHeld
  refine qtq 13 ?_
  simp only [qsa, qsb, qsc]
  clear hHeld G0 G1 G2 GA
  refine wpAnyT_done (by kernel_rfl) ?_ _
  obtain ⟨w4, hw4⟩ : ∃ z, z = ((X.setCell ⟨gx, 0, none⟩ (.int .i64 vT)).setCell ⟨gx, 1, none⟩ (.int .i64 vU)).setCell ⟨gx, 2, none⟩ (.slice vL.A vL.l.length vL.c) := ⟨_, rfl⟩
  rw [← hw4]
  have XX : Hid (Blk w4 gx 66 #[.int .i64 vT, .int .i64 vU, .slice vL.A vL.l.length vL.c]) := Lib.hid (by rw [hw4]; simpa using (((B_x.out.set_ 0 (.int .i64 vT)).set_ 1 (.int .i64 vU)).set_ 2 (.slice vL.A vL.l.length vL.c)))
  have XA : Hid (Blk w4 w.heap.size 26 #[.int .i64 id, .bool false, .slice H.A H.l.length H.c, .slice N.A N.l.length N.c, .slice S.A S.l.length S.c]) := Lib.hid (by rw [hw4]; exact Blk.farr na (Blk.farr na (Blk.farr na B_a.out)))
  have XB : Hid (Blk w4 (w.heap.size + 1) 26 #[.int .i64 0, .bool false, .slice none 0 0, .slice none 0 0, .slice none 0 0]) := Lib.hid (by rw [hw4]; exact Blk.farr nc (Blk.farr nc (Blk.farr nc B_b.out)))
  have hB5 : Below w.heap.size w w4 := by rw [hw4]; exact (by repeat (first | (with_reducible exact hB4) | (with_reducible exact Below.refl _ _) | ((with_reducible refine below_setr ?_ ?_); focus (first | (simp; done) | (simp; omega) | omega)) | ((with_reducible refine below_allocr ?_ ?_); focus (first | (simp; done) | (simp; omega) | omega)) | (with_reducible refine Below.drew ?_) | (with_reducible refine below_drewN ?_ _) | ((with_reducible apply below_via); focus (with_reducible assumption))))
  have hz4 : gx < w4.heap.size := XX.out.lt
  have HVR4 : Hid (sd.2 = 0 → Rd (fun b => w3.heap.size ≤ b ∧ b ≠ gx ∧ b < w4.heap.size) 3 Loan.enc w4 vL) := Lib.hid (fun h0 => by
    rw [hw4]
    have := HVR.out h0
    simp only [World.size_setCell]
    exact Rd.setfarr (by simp) (Rd.setfarr (by simp) (Rd.setfarr (by simp) this)))
  clear hw4 a0 a1 a2 a3 a4 af b0 b1 b2 b3 b4 bf x0 x1 x2 xf B_a B_b B_x HVR hbX hB4
  obtain ⟨a0, a1, a2, a3, a4, af, az9⟩ := XA.out.b5
  obtain ⟨b0, b1, b2, b3, b4, bf, bz9⟩ := XB.out.b5
  obtain ⟨x0, x1, x2, xf, xz9⟩ := XX.out.b3
  have hsn : (sd.2 != 0) = false := by have h' := HE.out; (try simp only at h'); (try rw [HSD.out] at h'); simp [h']
  have hs0 : sd.2 = 0 := by simpa using hsn
  have HV4 := Lib.hid (HVR4.out hs0)
  clear hs0 HVR4
  go_wp2_with fail
  refine (rcopied43_r ⟨id, false, H, N, S⟩ _ (HR.out.later hB5 (Nat.le_refl _)) HF.out).mono ?_
  rintro e w5 ⟨HA', Hc', NA', Nc', SA', Sc', rfl, oH, oN, oS, aHN, aHS, aNS, hb6⟩
  have hsl2 : S.l.length = 12 := Phone.sle HF.out
  clear a0 a1 a2 a3 a4 af b0 b1 b2 b3 b4 bf x0 x1 x2 xf hsl2
  have K_a : Blk _ (w.heap.size) 26 #[.int .i64 id, .bool false, .slice H.A H.l.length H.c, .slice N.A N.l.length N.c, .slice S.A S.l.length S.c] := qkc XA hb6
  obtain ⟨a0, a1, a2, a3, a4, af, az⟩ := Blk.b5 K_a
  have B_a := Lib.hid K_a
  clear K_a
  have K_b : Blk _ (w.heap.size + 1) 26 #[.int .i64 0, .bool false, .slice none 0 0, .slice none 0 0, .slice none 0 0] := qkc XB hb6
  obtain ⟨b0, b1, b2, b3, b4, bf, bz⟩ := Blk.b5 K_b
  have B_b := Lib.hid K_b
  clear K_b
  have K_x : Blk _ (gx) 66 #[.int .i64 vT, .int .i64 vU, .slice vL.A vL.l.length vL.c] := qkc XX hb6
  obtain ⟨x0, x1, x2, xf, xz⟩ := Blk.b3 K_x
  have B_x := Lib.hid K_x
  clear K_x
  have hB6 : Below w.heap.size w w5 := (by repeat (first | (with_reducible exact hB5) | (with_reducible exact Below.refl _ _) | ((with_reducible refine below_setr ?_ ?_); focus (first | (simp; done) | (simp; omega) | omega)) | ((with_reducible refine below_allocr ?_ ?_); focus (first | (simp; done) | (simp; omega) | omega)) | (with_reducible refine Below.drew ?_) | (with_reducible refine below_drewN ?_ _) | ((with_reducible apply below_via); focus (with_reducible assumption))))
  have hz5 : w4.heap.size ≤ w5.heap.size := hb6.size
  have HV5 : Hid (Rd (fun b => w3.heap.size ≤ b ∧ b ≠ gx ∧ b < w4.heap.size) 3 Loan.enc w5 vL) := Lib.hid (HV4.out.keep fun b hb => hb6.block b hb.2.2)
  have HAP := Lib.hid (And.intro aHN (And.intro aHS aNS))
  clear hb6 aHN aHS aNS
  obtain ⟨g, hg, hgl, hgu, hcl, gf⟩ := oH.atk Hold.k (i := i) (x := hx) HHX.out
  simp only at hg
  subst hg
  obtain ⟨g0, g1, g2⟩ := Cells.c3 hcl
  clear hcl
  have HOH := Lib.hid oH
  have HON := Lib.hid oN
  have HOS := Lib.hid oS
  clear oH oN oS
  simp only [Phone.v]
  go_wp2_with fail
  obtain ⟨wq, hwq⟩ : ∃ z, z = w5.alloc (.cells #[.int .i64 id, .bool false, .slice (some ⟨g, 0, none⟩) H.l.length Hc', .slice NA' N.l.length Nc', .slice SA' S.l.length Sc'] 26) := ⟨_, rfl⟩
  rw [← hwq]
  have YA : Hid (Blk wq w.heap.size 26 #[.int .i64 id, .bool false, .slice H.A H.l.length H.c, .slice N.A N.l.length N.c, .slice S.A S.l.length S.c]) := Lib.hid (by rw [hwq]; exact B_a.out.alloc _)
  have YB : Hid (Blk wq (w.heap.size + 1) 26 #[.int .i64 0, .bool false, .slice none 0 0, .slice none 0 0, .slice none 0 0]) := Lib.hid (by rw [hwq]; exact B_b.out.alloc _)
  have YX : Hid (Blk wq gx 66 #[.int .i64 vT, .int .i64 vU, .slice vL.A vL.l.length vL.c]) := Lib.hid (by rw [hwq]; exact B_x.out.alloc _)
  have YD : Hid (Blk wq w5.heap.size 26 #[.int .i64 id, .bool false, .slice (some ⟨g, 0, none⟩) H.l.length Hc', .slice NA' N.l.length Nc', .slice SA' S.l.length Sc']) := Lib.hid (by rw [hwq]; exact Blk.new _ _ _)
  have QH : Hid (Own w4.heap.size 59 3 Hold.enc wq ⟨some ⟨g, 0, none⟩, Hc', H.l⟩) := Lib.hid (by rw [hwq]; exact HOH.out.alloc _)
  have QN : Hid (Own w4.heap.size 61 5 Note.enc wq ⟨NA', Nc', N.l⟩) := Lib.hid (by rw [hwq]; exact HON.out.alloc _)
  have QS : Hid (Own w4.heap.size 3 1 ienc wq ⟨SA', Sc', S.l⟩) := Lib.hid (by rw [hwq]; exact HOS.out.alloc _)
  have QV : Hid (Rd (fun b => w3.heap.size ≤ b ∧ b ≠ gx ∧ b < w4.heap.size) 3 Loan.enc wq vL) := Lib.hid (by rw [hwq]; exact HV5.out.keep fun b hb => Below.heap_alloc _ _ b (by omega))
  have hBq : Below w.heap.size w wq := by rw [hwq]; exact (by repeat (first | (with_reducible exact hB6) | (with_reducible exact Below.refl _ _) | ((with_reducible refine below_setr ?_ ?_); focus (first | (simp; done) | (simp; omega) | omega)) | ((with_reducible refine below_allocr ?_ ?_); focus (first | (simp; done) | (simp; omega) | omega)) | (with_reducible refine Below.drew ?_) | (with_reducible refine below_drewN ?_ _) | ((with_reducible apply below_via); focus (with_reducible assumption))))
  have hzq : w5.heap.size < wq.heap.size := YD.out.lt
  have QUN : Hid (∀ q, NA' = some ⟨q, 0, none⟩ → q < w5.heap.size) := Lib.hid HON.out.bound
  have QUS : Hid (∀ q, SA' = some ⟨q, 0, none⟩ → q < w5.heap.size) := Lib.hid HOS.out.bound
  have QGN : Hid (∀ q, NA' = some ⟨q, 0, none⟩ → q ≠ g) := Lib.hid (fun q h => Ne.symm (HAP.out.1 g q rfl h))
  have QGS : Hid (∀ q, SA' = some ⟨q, 0, none⟩ → q ≠ g) := Lib.hid (fun q h => Ne.symm (HAP.out.2.1 g q rfl h))
  have HQX : Hid (H.l[i]? = some hx) := HHX
  have hgD : g ≠ w5.heap.size := by omega
  have hgl2 : w4.heap.size ≤ g := hgl
  have hgq : g < wq.heap.size := by omega
  clear hwq hgl hgu HOH HON HOS HV5 HAP a0 a1 a2 a3 a4 af b0 b1 b2 b3 b4 bf x0 x1 x2 xf g0 g1 g2 gf B_a B_b B_x
  obtain ⟨a0, a1, a2, a3, a4, af, azq⟩ := YA.out.b5
  obtain ⟨b0, b1, b2, b3, b4, bf, bzq⟩ := YB.out.b5
  obtain ⟨x0, x1, x2, xf, xzq⟩ := YX.out.b3
  obtain ⟨d0, d1, d2, d3, d4, df, dzq⟩ := YD.out.b5
  have hqi := (List.getElem?_eq_some_iff.1 HQX.out).1
  obtain ⟨_, hg, _, _, hcl, gf⟩ := QH.out.atk Hold.k (i := i) (x := hx) HQX.out
  simp only [Option.some.injEq, Addr.mk.injEq, and_true] at hg
  subst hg
  obtain ⟨g0, g1, g2⟩ := Cells.c3 hcl
  clear hcl
  have hq1 : (i : Int) < (((H.l).length : Nat) : Int) := by omega
  have hq0 : (0 : Int) ≤ (i : Int) := by omega
  have hws : IntKind.i64.wrap (hx.u + n) = hx.u + n := by rw [IntKind.wrap_i64]; omega
  have e1 : w.heap.size ≠ g := by omega
  have e2 : w.heap.size + 1 ≠ g := by omega
  have e3 : gx ≠ g := by omega
  have e4 : w5.heap.size ≠ g := by omega
  refine wp_region_T (fun w' => w'.cell? ⟨w5.heap.size, 2, none⟩ = some (.slice (some ⟨g, 0, none⟩) (H.l).length Hc') ∧ w'.cell? ⟨g, i * 3 + 1, none⟩ = some (.int .i64 hx.u)) (fun i => 11 ≤ i) (by kernel_rfl) ⟨d2, g1⟩ (fun hHeld => ?_)
  refine qtq 0 ?_
  simp only [qsa, qsb, qsc]
  refine qtq 1 ?_
  simp only [qsa, qsb, qsc]
  refine qtq 2 ?_
  simp only [qsa, qsb, qsc]
  refine qtq 3 ?_
  simp only [qsa, qsb, qsc]
  refine qtq 4 ?_
  simp only [qsa, qsb, qsc]
  refine qtq 5 ?_
  simp only [qsa, qsb, qsc]
  refine qtq 6 ?_
  simp only [qsa, qsb, qsc]
  refine qtq 7 ?_
  simp only [qsa, qsb, qsc]
  refine qtq 8 ?_
  simp only [qsa, qsb, qsc]
  refine qtq 9 ?_
  simp only [qsa, qsb, qsc]
  refine qtq 10 ?_
  simp only [qsa, qsb, qsc]
  clear hHeld
  refine wpAnyT_next (i := 11) (by kernel_rfl) rfl ?_
  go_wp2_with fail
  try simp only [QT]
  try (with_reducible refine And.intro (fun h => by simp at h) ?_)
  refine wpAnyT_next (i := 12) (by kernel_rfl) rfl ?_
  go_wp2_with fail
  try simp only [QT]
  try (with_reducible refine And.intro (fun h => by simp at h) ?_)
  refine wpAnyT_next (i := 13) (by kernel_rfl) rfl ?_
  go_wp2_with fail
  try simp only [QT]
  try (with_reducible refine And.intro (fun h => by simp at h) ?_)
  refine wpAnyT_done (by kernel_rfl) ?_ _
  obtain ⟨w6, hw6⟩ : ∃ z, z = (wq.setCell ⟨g, i * 3 + 1, none⟩ (.int .i64 (hx.u + n))).drew := ⟨_, rfl⟩
  try rw [← hw6]
  have ZA : Hid (Blk w6 w.heap.size 26 #[.int .i64 id, .bool false, .slice H.A H.l.length H.c, .slice N.A N.l.length N.c, .slice S.A S.l.length S.c]) := Lib.hid (by rw [hw6]; exact YA.out.far (p := ⟨g, i * 3 + 1, none⟩) e1 _)
  have ZB : Hid (Blk w6 (w.heap.size + 1) 26 #[.int .i64 0, .bool false, .slice none 0 0, .slice none 0 0, .slice none 0 0]) := Lib.hid (by rw [hw6]; exact YB.out.far (p := ⟨g, i * 3 + 1, none⟩) e2 _)
  have ZX : Hid (Blk w6 gx 66 #[.int .i64 vT, .int .i64 vU, .slice vL.A vL.l.length vL.c]) := Lib.hid (by rw [hw6]; exact YX.out.far (p := ⟨g, i * 3 + 1, none⟩) e3 _)
  have ZD : Hid (Blk w6 w5.heap.size 26 #[.int .i64 id, .bool false, .slice (some ⟨g, 0, none⟩) (H.l).length Hc', .slice NA' N.l.length Nc', .slice SA' S.l.length Sc']) := Lib.hid (by rw [hw6]; exact YD.out.far (p := ⟨g, i * 3 + 1, none⟩) e4 _)
  have RH : Hid (Own w4.heap.size 59 3 Hold.enc w6 ⟨some ⟨g, 0, none⟩, Hc', (H.l).set i { hx with u := hx.u + n }⟩) := Lib.hid (by rw [hw6]; exact (QH.out.set Hold.k rfl HQX.out (j := 1) (y := { hx with u := hx.u + n }) (u := .int .i64 (hx.u + n)) (by omega) rfl).drew)
  have RN : Hid (Own w4.heap.size 61 5 Note.enc w6 ⟨NA', Nc', N.l⟩) := Lib.hid (by rw [hw6]; exact (QN.out.other (a := ⟨g, i * 3 + 1, none⟩) QGN.out (.int .i64 (hx.u + n))).drew)
  have RS : Hid (Own w4.heap.size 3 1 ienc w6 ⟨SA', Sc', S.l⟩) := Lib.hid (by rw [hw6]; exact (QS.out.other (a := ⟨g, i * 3 + 1, none⟩) QGS.out (.int .i64 (hx.u + n))).drew)
  have RV : Hid (Rd (fun b => w3.heap.size ≤ b ∧ b ≠ gx ∧ b < w4.heap.size) 3 Loan.enc w6 vL) := Lib.hid (by rw [hw6]; exact (QV.out.setfar (p := ⟨g, i * 3 + 1, none⟩) (by simp; omega) (.int .i64 (hx.u + n))))
  have hB7 : Below w.heap.size w w6 := by rw [hw6]; exact (by repeat (first | (with_reducible exact hBq) | (with_reducible exact Below.refl _ _) | ((with_reducible refine below_setr ?_ ?_); focus (first | (simp; done) | (simp; omega) | omega)) | ((with_reducible refine below_allocr ?_ ?_); focus (first | (simp; done) | (simp; omega) | omega)) | (with_reducible refine Below.drew ?_) | (with_reducible refine below_drewN ?_ _) | ((with_reducible apply below_via); focus (with_reducible assumption))))
  have hz6 : wq.heap.size ≤ w6.heap.size := by rw [hw6]; exact Nat.le_of_eq (World.size_setCell _ _ _).symm
  clear hw6 QH QN QS QV YA YB YX YD a0 a1 a2 a3 a4 af b0 b1 b2 b3 b4 bf x0 x1 x2 xf d0 d1 d2 d3 d4 df g0 g1 g2 gf hBq
  obtain ⟨a0, a1, a2, a3, a4, af, az6⟩ := ZA.out.b5
  obtain ⟨b0, b1, b2, b3, b4, bf, bz6⟩ := ZB.out.b5
  obtain ⟨x0, x1, x2, xf, xz6⟩ := ZX.out.b3
  obtain ⟨d0, d1, d2, d3, d4, df, dz6⟩ := ZD.out.b5
  go_wp2_with (at_builtin
               go_must (refine wpl_append_sl (base := w6.heap.size) _ rfl (.tmp 120) (.tmp 121) _ rfl Try.underlying27 infoStock (by omega) Stock.k Stock.one ⟨some ⟨w6.heap.size, 0, none⟩, 0, []⟩ ⟨some ⟨bb, oo, none⟩, sc, sl⟩ rfl rfl (Own.lit0 Stock.k (by first | rfl | simp) (by simp)) (HS.out.1.below' (by repeat (first | (with_reducible exact hB7) | (with_reducible exact Below.refl _ _) | ((with_reducible refine below_setr ?_ ?_); focus (first | (simp; done) | (simp; omega) | omega)) | ((with_reducible refine below_allocr ?_ ?_); focus (first | (simp; done) | (simp; omega) | omega)) | (with_reducible refine Below.drew ?_) | (with_reducible refine below_drewN ?_ _) | ((with_reducible apply below_via); focus (with_reducible assumption)))) (Nat.le_refl _)) (by have := HS.out.1.len; simp [maxLen] at this ⊢; omega) (by simp; omega) (by simp) ?_)
               intro oA oc w7 hown7 hg7 hat7
               apply Hid.out)
  refine Lib.hid ?_
  simp only [List.nil_append] at hown7
  clear a0 a1 a2 a3 a4 af b0 b1 b2 b3 b4 bf x0 x1 x2 xf d0 d1 d2 d3 d4 df
  have f1 : w6.heap.size ≠ w.heap.size := by omega
  have f2 : w6.heap.size ≠ w.heap.size + 1 := by omega
  have f3 : w6.heap.size ≠ gx := by omega
  have f4 : w6.heap.size ≠ w5.heap.size := by omega
  have K_a : Blk _ (w.heap.size) 26 #[.int .i64 id, .bool false, .slice H.A H.l.length H.c, .slice N.A N.l.length N.c, .slice S.A S.l.length S.c] := blk_grown hg7 (by simp [hp_past, hp_at, hp_other, hp_same, hp_drew, hp_drewN, ZA.out.eq, ZA.out.lt, hp_same ZA.out.eq]) (by simp [Value.ownBlock, f1])
  obtain ⟨a0, a1, a2, a3, a4, af, az⟩ := Blk.b5 K_a
  have B_a := Lib.hid K_a
  clear K_a
  have K_b : Blk _ (w.heap.size + 1) 26 #[.int .i64 0, .bool false, .slice none 0 0, .slice none 0 0, .slice none 0 0] := blk_grown hg7 (by simp [hp_past, hp_at, hp_other, hp_same, hp_drew, hp_drewN, ZB.out.eq, ZB.out.lt, hp_same ZB.out.eq]) (by simp [Value.ownBlock, f2])
  obtain ⟨b0, b1, b2, b3, b4, bf, bz⟩ := Blk.b5 K_b
  have B_b := Lib.hid K_b
  clear K_b
  have K_x : Blk _ (gx) 66 #[.int .i64 vT, .int .i64 vU, .slice vL.A vL.l.length vL.c] := blk_grown hg7 (by simp [hp_past, hp_at, hp_other, hp_same, hp_drew, hp_drewN, ZX.out.eq, ZX.out.lt, hp_same ZX.out.eq]) (by simp [Value.ownBlock, f3])
  obtain ⟨x0, x1, x2, xf, xz⟩ := Blk.b3 K_x
  have B_x := Lib.hid K_x
  clear K_x
  have K_d : Blk _ (w5.heap.size) 26 #[.int .i64 id, .bool false, .slice (some ⟨g, 0, none⟩) (H.l).length Hc', .slice NA' N.l.length Nc', .slice SA' S.l.length Sc'] := blk_grown hg7 (by simp [hp_past, hp_at, hp_other, hp_same, hp_drew, hp_drewN, ZD.out.eq, ZD.out.lt, hp_same ZD.out.eq]) (by simp [Value.ownBlock, f4])
  obtain ⟨d0, d1, d2, d3, d4, df, dz⟩ := Blk.b5 K_d
  have B_d := Lib.hid K_d
  clear K_d
  have hB8 : Below w.heap.size w w7 := Below.grown (by repeat (first | (with_reducible exact hB7) | (with_reducible exact Below.refl _ _) | ((with_reducible refine below_setr ?_ ?_); focus (first | (simp; done) | (simp; omega) | omega)) | ((with_reducible refine below_allocr ?_ ?_); focus (first | (simp; done) | (simp; omega) | omega)) | (with_reducible refine Below.drew ?_) | (with_reducible refine below_drewN ?_ _) | ((with_reducible apply below_via); focus (with_reducible assumption)))) hg7 (by first | omega | (simp; done) | (simp; omega)) (by simp [Value.ownBlock]; omega)
  have hz7 : w6.heap.size + 1 ≤ w7.heap.size := by have := hg7.size; simpa using this
  have hkp : ∀ b, b < w6.heap.size → w7.heap[b]? = w6.heap[b]? := fun b hb => (hg7.block b (by simp; omega) (by simp [Value.ownBlock]; omega)).trans (Below.heap_alloc _ _ b hb)
  have hlu : ∀ q, oA = some ⟨q, 0, none⟩ → w6.heap.size ≤ q := hown7.lo
  have SH : Hid (Rd (fun b => w4.heap.size ≤ b ∧ b < w5.heap.size ∨ b = g) 3 Hold.enc w7 ⟨some ⟨g, 0, none⟩, Hc', (H.l).set i { hx with u := hx.u + n }⟩) := Lib.hid (by
    refine Rd.mono ((RH.out.rdP Hold.k (P := fun b => b = g) (fun q h => by injection h with h; injection h with h; exact h.symm)).keep fun b hb => hkp b hb.2.2) (fun b hb => .inr hb.2.1))
  have SN : Hid (Rd (fun b => w4.heap.size ≤ b ∧ b < w5.heap.size) 5 Note.enc w7 ⟨NA', Nc', N.l⟩) := Lib.hid (by
    refine Rd.mono ((RN.out.rdP Note.k (P := fun b => b < w5.heap.size) QUN.out).keep fun b hb => hkp b hb.2.2) (fun b hb => ⟨hb.1, hb.2.1⟩))
  have SS : Hid (Rd (fun b => w4.heap.size ≤ b ∧ b < w5.heap.size) 1 ienc w7 ⟨SA', Sc', S.l⟩) := Lib.hid (by
    refine Rd.mono ((RS.out.rdP ienc_k (P := fun b => b < w5.heap.size) QUS.out).keep fun b hb => hkp b hb.2.2) (fun b hb => ⟨hb.1, hb.2.1⟩))
  have SV : Hid (Rd (fun b => w3.heap.size ≤ b ∧ b ≠ gx ∧ b < w4.heap.size) 3 Loan.enc w7 vL) := Lib.hid (RV.out.keep fun b hb => hkp b (by omega))
  have SO := Lib.hid hown7
  have SLU := Lib.hid hlu
  clear hg7 hown7 hat7 RH RN RS RV hkp hlu
  obtain ⟨gO, hgO, hgOl, hgOu, hclO, gOf⟩ := SO.out.atk Stock.k (i := j) (x := ⟨xT, xU, xL⟩) HX.out
  simp only at hgO
  subst hgO
  obtain ⟨k0, k1, k2⟩ := Cells.c3 hclO
  clear hclO
  have hgOl2 : w6.heap.size ≤ gO := hgOl
  have n1 : w.heap.size ≠ gO := by omega
  have n2 : w.heap.size + 1 ≠ gO := by omega
  have n3 : gx ≠ gO := by omega
  have n4 : w5.heap.size ≠ gO := by omega
  have n5 : gO ≠ w.heap.size + 1 := by omega
  go_wp2_with fail
  have SO3 := Lib.hid (SO.out.set3 (x := ⟨xT, xU, xL⟩) HX.out ⟨vT, vU, vL⟩)
  have TP : Hid (RdPhone (fun b => b < B ∨ (w.heap.size + 2 ≤ b ∧ b ≠ gO ∧ b < w7.heap.size)) w7 ⟨id, false, ⟨some ⟨g, 0, none⟩, Hc', (H.l).set i { hx with u := hx.u + n }⟩, ⟨NA', Nc', N.l⟩, ⟨SA', Sc', S.l⟩⟩) := Lib.hid (by
    refine ⟨SH.out.mono fun b hb => ?_, ⟨SN.out.mono fun b hb => by omega, fun y hy => ?_⟩, SS.out.mono fun b hb => by omega⟩
    · rcases hb with hb | hb
      · omega
      · omega
    · exact ((HFN.out y hy).keep fun b hb => hB8.block b (by omega)).mono fun b hb => .inl hb)
  have TS : Hid (RdStocks (fun b => b < B ∨ (w.heap.size + 2 ≤ b ∧ b < w7.heap.size)) (((w7.setCell ⟨gO, j * 3, none⟩ (.int .i64 vT)).setCell ⟨gO, j * 3 + 1, none⟩ (.int .i64 vU)).setCell ⟨gO, j * 3 + 2, none⟩ (.slice vL.A vL.l.length vL.c)) ⟨some ⟨gO, 0, none⟩, oc, sl.set j ⟨vT, vU, vL⟩⟩) := Lib.hid (by
    refine ⟨(SO3.out.rd Stock.k).mono fun b hb => .inr ⟨by have := hb.1; omega, by have := hb.2; simpa using this⟩, fun y hy => ?_⟩
    rcases List.mem_or_eq_of_mem_set hy with hy | hy
    · have h1 := (HGS.out y hy).keep fun b hb => hB8.block b (by omega)
      exact (Rd.setfarr (by simp; omega) (Rd.setfarr (by simp; omega) (Rd.setfarr (by simp; omega) h1))).mono fun b hb => .inl hb
    · subst hy
      exact (Rd.setfarr (by simp; omega) (Rd.setfarr (by simp; omega) (Rd.setfarr (by simp; omega) SV.out))).mono fun b hb => .inr ⟨by omega, by omega⟩)
  have TM : Hid ((sl.set j ⟨vT, vU, vL⟩).map Stock.d = (sl.map Stock.d).set j (StockD.lend (Stock.d ⟨xT, xU, xL⟩) id n).1) := Lib.hid (by rw [List.map_set, HVD.out, HSD.out])
  have TL : Hid ((sl.set j (⟨vT, vU, vL⟩ : Stock)).length = sl.length) := Lib.hid (by simp)
  have TL2 : Hid (((H.l).set i { hx with u := hx.u + n }).length = (H.l).length) := Lib.hid (by simp)
  try simp only [Exit.inBlock, Exit.then]
  refine bodyPost_ret (v := .tuple #[.agg #[.int .i64 id, .bool false, .slice (some ⟨g, 0, none⟩) (H.l).length Hc', .slice NA' N.l.length Nc', .slice SA' S.l.length Sc'], .slice (some ⟨gO, 0, none⟩) sl.length oc, .int .i64 0]) ?_ rfl ⟨⟨id, false, ⟨some ⟨g, 0, none⟩, Hc', (H.l).set i { hx with u := hx.u + n }⟩, ⟨NA', Nc', N.l⟩, ⟨SA', Sc', S.l⟩⟩, ⟨some ⟨gO, 0, none⟩, oc, sl.set j ⟨vT, vU, vL⟩⟩, by simp only [Phone.v, TL.out, TL2.out], rfl, TM.out, ?_, ?_, (by repeat (first | (with_reducible exact hB8) | (with_reducible exact Below.refl _ _) | ((with_reducible refine below_setr ?_ ?_); focus (first | (simp; done) | (simp; omega) | omega)) | ((with_reducible refine below_allocr ?_ ?_); focus (first | (simp; done) | (simp; omega) | omega)) | (with_reducible refine Below.drew ?_) | (with_reducible refine below_drewN ?_ _) | ((with_reducible apply below_via); focus (with_reducible assumption))))⟩
  simp [results, Try.results22, go_sem, a0, a1, a2, a3, a4, af, b0, b1, b2, b3, b4, bf, x0, x1, x2, xf, d0, d1, d2, d3, d4, df, az, bz, dz]
  · refine RdPhone.mono (F := fun b => b < B ∨ (w.heap.size + 2 ≤ b ∧ b ≠ gO ∧ b < w7.heap.size)) ?_ (fun b hb => by simp; omega)
    repeat (first | (with_reducible exact TP.out) | ((with_reducible refine RdPhone.setr ?_ ?_); focus (first | (simp; done) | (simp; omega))))
  · refine RdStocks.mono (F := fun b => b < B ∨ (w.heap.size + 2 ≤ b ∧ b < w7.heap.size)) ?_ (fun b hb => by simp; omega)
    repeat (first | (with_reducible exact TS.out) | ((with_reducible refine RdStocks.setr ?_ ?_); focus (first | (simp; done) | (simp; omega))))
end Go.Proofs.Ythnblhbdfpmolaa
