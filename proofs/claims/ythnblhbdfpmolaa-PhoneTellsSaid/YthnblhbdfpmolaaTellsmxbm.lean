/- Walks of the reference of layer 43: Lend, where the stock is asked. -/
import Derived.Test.YthnblhbdfpmolaaTellsmxbi
import Derived.Test.YthnblhbdfpmolaaTellsmxbl
namespace Go.Proofs.Ythnblhbdfpmolaa
open Go.RowKit
theorem wpAnyT_relist {P : Program} {ops : Array Oper} {Q : Exit → Act → World → Prop} {md : Region.Mode} {S : World → Prop} {T : Nat → Bool} {fuel : Nat} {l l' : Array Bool} {a : Act} {w : World} (h : l = l') (h2 : wpAnyT P md ops Q S T fuel l' a w) : wpAnyT P md ops Q S T fuel l a w := h ▸ h2
set_option maxHeartbeats 1600000 in
theorem rlend43_err (p : Phone) (ss : Sl Stock) (j : Nat) (x : Stock) (n : Int) (w : World) (hr : RdPhone (· < w.heap.size) w p) (hs : RdStocks (· < w.heap.size) w ss) (HF : Hid (p.d.right = true)) (HG : Hid (p.d.fit (ss.l.map Stock.d) = true)) (hj : j < ss.l.length) (hc : p.cut = false)
    (q : Int) (HFK : Hid (findK Hold.st j 0 p.H.l = q)) (hq : 0 ≤ q ∨ p.H.l.length < 100) (HX : Hid (ss.l[j]? = some x)) (HE : Hid ((x.d.lend p.id n).2 ≠ 0)) :
    Calls Try.prog 22 #[p.v, .slice ss.A ss.l.length ss.c, .int .i64 j, .int .i64 n] w fun e w' => e = .returned (.tuple #[p.v, .slice ss.A ss.l.length ss.c, .int .i64 (x.d.lend p.id n).2]) ∧ Below w.heap.size w w' := by
  obtain ⟨id, cut, H, N, S⟩ := p
  simp only at hc
  subst hc
  have hq2 : 0 ≤ q ∨ (q < 0 ∧ (H.l.length : Int) < 100) := by simp only at hq; omega
  clear hq
  have HQ2 := Lib.hid hq2
  clear hq2
  have HR := Lib.hid hr
  have HS := Lib.hid hs
  clear hr hs
  simp only [Phone.v]
  go_enter Try.func22, Try.ntmps22
  go_wp2_with fail
  refine (rright43 ⟨id, false, H, N, S⟩ _ (HR.out.later qbl (Nat.le_refl _))).mono ?_
  rintro e w1 ⟨rfl, hb1⟩
  rw [HF.out]
  have K_a : Blk _ (w.heap.size) 26 #[.int .i64 id, .bool false, .slice H.A H.l.length H.c, .slice N.A N.l.length N.c, .slice S.A S.l.length S.c] := qkb hb1
  obtain ⟨a0, a1, a2, a3, a4, af, az⟩ := Blk.b5 K_a
  have B_a := Lib.hid K_a
  clear K_a
  have K_b : Blk _ (w.heap.size + 1) 26 #[.int .i64 0, .bool false, .slice none 0 0, .slice none 0 0, .slice none 0 0] := qkb hb1
  obtain ⟨b0, b1, b2, b3, b4, bf, bz⟩ := Blk.b5 K_b
  have B_b := Lib.hid K_b
  clear K_b
  have hB1 : Below w.heap.size w w1 := (by repeat (first | (with_reducible exact Below.refl _ _) | ((with_reducible refine below_setr ?_ ?_); focus (first | (simp; done) | (simp; omega) | omega)) | ((with_reducible refine below_allocr ?_ ?_); focus (first | (simp; done) | (simp; omega) | omega)) | (with_reducible refine Below.drew ?_) | (with_reducible refine below_drewN ?_ _) | ((with_reducible apply below_via); focus (with_reducible assumption))))
  clear hb1
  go_wp2_with fail
  refine (rfit43 ⟨id, false, H, N, S⟩ ss _ (HR.out.later hB1 (Nat.le_refl _)) (HS.out.later hB1 (Nat.le_refl _)) (PhoneD.right_iff HF.out).H).mono ?_
  rintro e w2 ⟨rfl, hb2⟩
  rw [HG.out]
  clear a0 a1 a2 a3 a4 af b0 b1 b2 b3 b4 bf
  have K_a : Blk _ (w.heap.size) 26 #[.int .i64 id, .bool false, .slice H.A H.l.length H.c, .slice N.A N.l.length N.c, .slice S.A S.l.length S.c] := qkc B_a hb2
  obtain ⟨a0, a1, a2, a3, a4, af, az⟩ := Blk.b5 K_a
  have B_a := Lib.hid K_a
  clear K_a
  have K_b : Blk _ (w.heap.size + 1) 26 #[.int .i64 0, .bool false, .slice none 0 0, .slice none 0 0, .slice none 0 0] := qkc B_b hb2
  obtain ⟨b0, b1, b2, b3, b4, bf, bz⟩ := Blk.b5 K_b
  have B_b := Lib.hid K_b
  clear K_b
  have hB2 : Below w.heap.size w w2 := (by repeat (first | (with_reducible exact hB1) | (with_reducible exact Below.refl _ _) | ((with_reducible refine below_setr ?_ ?_); focus (first | (simp; done) | (simp; omega) | omega)) | ((with_reducible refine below_allocr ?_ ?_); focus (first | (simp; done) | (simp; omega) | omega)) | (with_reducible refine Below.drew ?_) | (with_reducible refine below_drewN ?_ _) | ((with_reducible apply below_via); focus (with_reducible assumption))))
  clear hb2
  go_wp2_with fail
  have hqq : (decide (q < 0) && decide ((100 : Int) ≤ (H.l.length : Int))) = false := by rcases HQ2.out with h | h <;> simp <;> omega
  rcases HQ2.out with hq | ⟨hq, hq3⟩
  · have hqn : ¬ q < 0 := by omega
    clear hqq
    refine (rat43 ⟨id, false, H, N, S⟩ j _ (HR.out.later hB2 (Nat.le_refl _)).1).mono ?_
    rintro e w3 ⟨rfl, hb3⟩
    try simp only
    rw [HFK.out]
    clear a0 a1 a2 a3 a4 af b0 b1 b2 b3 b4 bf
    have K_a : Blk _ (w.heap.size) 26 #[.int .i64 id, .bool false, .slice H.A H.l.length H.c, .slice N.A N.l.length N.c, .slice S.A S.l.length S.c] := qkc B_a hb3
    obtain ⟨a0, a1, a2, a3, a4, af, az⟩ := Blk.b5 K_a
    have B_a := Lib.hid K_a
    clear K_a
    have K_b : Blk _ (w.heap.size + 1) 26 #[.int .i64 0, .bool false, .slice none 0 0, .slice none 0 0, .slice none 0 0] := qkc B_b hb3
    obtain ⟨b0, b1, b2, b3, b4, bf, bz⟩ := Blk.b5 K_b
    have B_b := Lib.hid K_b
    clear K_b
    have hB3 : Below w.heap.size w w3 := (by repeat (first | (with_reducible exact hB2) | (with_reducible exact Below.refl _ _) | ((with_reducible refine below_setr ?_ ?_); focus (first | (simp; done) | (simp; omega) | omega)) | ((with_reducible refine below_allocr ?_ ?_); focus (first | (simp; done) | (simp; omega) | omega)) | (with_reducible refine Below.drew ?_) | (with_reducible refine below_drewN ?_ _) | ((with_reducible apply below_via); focus (with_reducible assumption))))
    clear hb3
    go_wp2_with fail
    obtain ⟨bb, oo, hsA, hsF, hcl⟩ := HS.out.1.2.2.2 j x HX.out
    have HXL := Lib.hid (HS.out.2 x (List.mem_of_getElem? HX.out))
    obtain ⟨xT, xU, xL⟩ := x
    obtain ⟨sA, sc, sl⟩ := ss
    simp only at hsA hj
    subst hsA
    obtain ⟨g0, g1, g2⟩ := Cells.c3 (hcl.keep (hB3.block bb hsF))
    clear hcl
    have hj1 : (j : Int) < (sl.length : Int) := by omega
    have hj0 : (0 : Int) ≤ (j : Int) := by omega
    refine wp_region_T (fun w' => w'.cell? ⟨bb, oo + j * 3, none⟩ = some (.int .i64 xT) ∧ w'.cell? ⟨bb, oo + j * 3 + 1, none⟩ = some (.int .i64 xU) ∧ w'.cell? ⟨bb, oo + j * 3 + 2, none⟩ = some (.slice xL.A xL.l.length xL.c) ∧ w'.cell? ⟨w.heap.size, 0, none⟩ = some (.int .i64 id)) (fun _ => false) (by kernel_rfl) ⟨g0, g1, g2, a0⟩ (fun hHeld => ?_)
    refine qtq 0 ?_
    simp only [qsa, qsb, qsc]
    refine qtq 1 ?_
    simp only [qsa, qsb, qsc]
    refine qtq 2 ?_
    simp only [qsa, qsb, qsc]
    refine qtq 3 ?_
    simp only [qsa, qsb, qsc]
    refine qtq 4 ?_
    simp only [qsa, qsb, qsc]
    refine qtq 5 ?_
    simp only [qsa, qsb, qsc]
    refine qtq 6 ?_
    simp only [qsa, qsb, qsc]
    clear hHeld
    generalize hsd : StockD.lend (Stock.d ⟨xT, xU, xL⟩) id n = sd at *
    have HSD := Lib.hid hsd
    clear hsd
    apply cutT
    intro fin
    refine wpAnyT_two (i := 7) (j := 11) (by kernel_rfl) rfl rfl ?_ ?_
    · go_wp2_with fail
      refine (rlend ⟨xT, xU, xL⟩ id n w3.drew (HXL.out.below' (by repeat (first | (with_reducible exact hB3) | (with_reducible exact Below.refl _ _) | ((with_reducible refine below_setr ?_ ?_); focus (first | (simp; done) | (simp; omega) | omega)) | ((with_reducible refine below_allocr ?_ ?_); focus (first | (simp; done) | (simp; omega) | omega)) | (with_reducible refine Below.drew ?_) | (with_reducible refine below_drewN ?_ _) | ((with_reducible apply below_via); focus (with_reducible assumption)))) (Nat.le_refl _))).mono ?_
      rintro e W ⟨⟨vT, vU, vL⟩, rfl, hvd, hvr, hb4⟩
      rw [HSD.out] at hvd hvr
      rw [HSD.out]
      have hb4' : Below w3.heap.size w3 W := Below.trans (Below.drew (Below.refl _ _)) hb4
      simp only [Stock.v]
      go_wp2_with fail
      have hHeld := And.intro (keep_cell hb4' g0) (And.intro (keep_cell hb4' g1) (And.intro (keep_cell hb4' g2) (keep_cell hb4' a0)))
      refine And.intro ?_ ?_
      · first
        | exact hHeld
        | exact fun _ => hHeld
      refine qtq 8 ?_
      simp only [qsa, qsb, qsc]
      refine qtq 9 ?_
      simp only [qsa, qsb, qsc]
      refine qtq 10 ?_
      simp only [qsa, qsb, qsc]
      clear hHeld
      refine wpAnyT_next (i := 11) (by kernel_rfl) rfl ?_
      go_wp2_with fail
      obtain ⟨gx, hgx⟩ : ∃ g, g = W.heap.size := ⟨_, rfl⟩
      have hn : ∀ X, X = W.alloc (.cells #[.int .i64 0, .int .i64 0, .slice none 0 0] 66) → Below w3.heap.size w3 X ∧ Blk X gx 66 #[.int .i64 0, .int .i64 0, .slice none 0 0] ∧ w3.heap.size ≤ gx ∧ (sd.2 = 0 → Rd (fun b => w3.heap.size ≤ b ∧ b ≠ gx ∧ b < X.heap.size) 3 Loan.enc X vL) := by
        rintro _ rfl
        have hz : w3.heap.size ≤ W.heap.size := hb4'.size
        refine ⟨hb4'.alloc hz _, by rw [hgx]; exact Blk.new _ _ _, by rw [hgx]; exact hz, fun h0 => ?_⟩
        refine Rd.mono ((hvr h0).keep fun b hb => Below.heap_alloc _ _ b hb.2) (fun b hb => ⟨hb.1, ?_, ?_⟩)
        · have := hb.2; omega
        · have := hb.2; simp; omega
      rw [← hgx]
      obtain ⟨X, hX⟩ : ∃ X, X = W.alloc (.cells #[.int .i64 0, .int .i64 0, .slice none 0 0] 66) := ⟨_, rfl⟩
      have hn2 := hn X hX
      rw [← hX]
      clear hn hX hgx hvr hb4 hb4'
      have hbX := hn2.1
      have hHeld := And.intro (keep_cell hbX g0) (And.intro (keep_cell hbX g1) (And.intro (keep_cell hbX g2) (keep_cell hbX a0)))
      refine And.intro ?_ ?_
      · first
        | exact hHeld
        | exact fun _ => hHeld
      clear hHeld hbX
      refine wpAnyT_relist (l' := #[true, true, true, true, true, true, true, true, true, true, true, true, false, false]) (by kernel_rfl) ?_
      revert hn2
      revert hvd
      revert X
      revert gx
      revert vL
      revert vU
      revert vT
      exact fin
    · go_wp2_with fail
      obtain ⟨gx, hgx⟩ : ∃ g, g = w3.heap.size := ⟨_, rfl⟩
      have hn : ∀ X, X = w3.drew.alloc (.cells #[.int .i64 0, .int .i64 0, .slice none 0 0] 66) → Below w3.heap.size w3 X ∧ Blk X gx 66 #[.int .i64 0, .int .i64 0, .slice none 0 0] ∧ X.heap.size = gx + 1 := by
        rintro _ rfl
        exact ⟨Below.alloc (Below.drew (Below.refl _ _)) (Nat.le_refl _) _, by rw [hgx]; exact Blk.new _ _ _, by rw [hgx]; show (w3.drew.alloc _).heap.size = w3.drew.heap.size + 1; simp only [World.size_alloc]⟩
      rw [← hgx]
      obtain ⟨W, hW⟩ : ∃ X, X = w3.drew.alloc (.cells #[.int .i64 0, .int .i64 0, .slice none 0 0] 66) := ⟨_, rfl⟩
      have hn1 := hn W hW
      have HN1 := Lib.hid hn1
      have hgw : w3.heap.size ≤ gx := Nat.le_of_eq hgx.symm
      have hW' : (w3.alloc (.cells #[.int .i64 0, .int .i64 0, .slice none 0 0] 66)).drew = W := hW.symm
      try rw [← hW]
      try rw [hW']
      try simp only [QT]
      clear hn hW hW' hgx
      have hbW := hn1.1
      clear hn1
      have hHeld := And.intro (keep_cell hbW g0) (And.intro (keep_cell hbW g1) (And.intro (keep_cell hbW g2) (keep_cell hbW a0)))
      refine And.intro ?_ ?_
      · first
        | exact hHeld
        | exact fun _ => hHeld
      clear hHeld
      refine wpAnyT_next (i := 7) (by kernel_rfl) rfl ?_
      go_wp2_with fail
      refine (rlend ⟨xT, xU, xL⟩ id n W (HXL.out.below' (below_via hbW hB3) (Nat.le_refl _))).mono ?_
      rintro e X ⟨⟨vT, vU, vL⟩, rfl, hvd, hvr, hb4⟩
      rw [HSD.out] at hvd hvr
      rw [HSD.out]
      have hn1 := HN1.out
      have hn2 : Below w3.heap.size w3 X ∧ Blk X gx 66 #[.int .i64 0, .int .i64 0, .slice none 0 0] ∧ w3.heap.size ≤ gx ∧ (sd.2 = 0 → Rd (fun b => w3.heap.size ≤ b ∧ b ≠ gx ∧ b < X.heap.size) 3 Loan.enc X vL) := by
        have hz := hn1.2.2
        refine ⟨below_via hb4 hbW, hn1.2.1.later hb4, hgw, fun h0 => ?_⟩
        exact Rd.mono (hvr h0) (fun b hb => by have := hb.1; have := hb.2; exact ⟨by omega, by omega, by omega⟩)
      clear hn1 HN1 hbW hvr hb4 hgw
      have hbX := hn2.1
      simp only [Stock.v]
      go_wp2_with fail
      have hHeld := And.intro (keep_cell hbX g0) (And.intro (keep_cell hbX g1) (And.intro (keep_cell hbX g2) (keep_cell hbX a0)))
      refine And.intro ?_ ?_
      · first
        | exact hHeld
        | exact fun _ => hHeld
      refine qtq 8 ?_
      simp only [qsa, qsb, qsc]
      refine qtq 9 ?_
      simp only [qsa, qsb, qsc]
      refine qtq 10 ?_
      simp only [qsa, qsb, qsc]
      clear hHeld hbX
      refine wpAnyT_relist (l' := #[true, true, true, true, true, true, true, true, true, true, true, true, false, false]) (by kernel_rfl) ?_
      revert hn2
      revert hvd
      revert X
      revert gx
      revert vL
      revert vU
      revert vT
      exact fin
    intro vT vU vL gx X hvd hn2
    have hz0 := B_b.out.lt
    obtain ⟨hbX, hblx, hgx, hvr⟩ := hn2
    have HVR := Lib.hid hvr
    have HVD := Lib.hid hvd
    clear hvr hvd
    have hB4 : Below w.heap.size w X := below_via hbX hB3
    have XA := B_a.out.later hbX
    have XB := B_b.out.later hbX
    have bz4 : w.heap.size + 1 < X.heap.size := XB.lt
    have G0 := keep_cell hbX g0
    have G1 := keep_cell hbX g1
    have G2 := keep_cell hbX g2
    have GA := keep_cell hbX a0
    clear a0 a1 a2 a3 a4 af b0 b1 b2 b3 b4 bf g0 g1 g2 B_a B_b
    have B_a := Lib.hid XA
    have B_b := Lib.hid XB
    have B_x := Lib.hid hblx
    clear XA XB hblx
    obtain ⟨a0, a1, a2, a3, a4, af, az4⟩ := B_a.out.b5
    obtain ⟨b0, b1, b2, b3, b4, bf, bz5⟩ := B_b.out.b5
    obtain ⟨x0, x1, x2, xf, xz4⟩ := B_x.out.b3
    have nb : bb ≠ gx := by have := hsF; omega
    have na : w.heap.size ≠ gx := by omega
    have nc : w.heap.size + 1 ≠ gx := by omega
    refine wpAnyT_next (i := 12) (by kernel_rfl) rfl ?_
    go_wp2_with fail
    have hHeld := And.intro (kset (q := ⟨gx, 2, none⟩) (.slice vL.A vL.l.length vL.c) nb (kset (q := ⟨gx, 1, none⟩) (.int .i64 vU) nb (kset (q := ⟨gx, 0, none⟩) (.int .i64 vT) nb G0))) (And.intro (kset (q := ⟨gx, 2, none⟩) (.slice vL.A vL.l.length vL.c) nb (kset (q := ⟨gx, 1, none⟩) (.int .i64 vU) nb (kset (q := ⟨gx, 0, none⟩) (.int .i64 vT) nb G1))) (And.intro (kset (q := ⟨gx, 2, none⟩) (.slice vL.A vL.l.length vL.c) nb (kset (q := ⟨gx, 1, none⟩) (.int .i64 vU) nb (kset (q := ⟨gx, 0, none⟩) (.int .i64 vT) nb G2))) (kset (q := ⟨gx, 2, none⟩) (.slice vL.A vL.l.length vL.c) na (kset (q := ⟨gx, 1, none⟩) (.int .i64 vU) na (kset (q := ⟨gx, 0, none⟩) (.int .i64 vT) na GA)))))
    refine And.intro ?_ ?_
    · first
      | exact hHeld
      | exact fun _ => hHeld
    refine qtq 13 ?_
    simp only [qsa, qsb, qsc]
    clear hHeld G0 G1 G2 GA
    refine wpAnyT_done (by kernel_rfl) ?_ _
    obtain ⟨w4, hw4⟩ : ∃ z, z = ((X.setCell ⟨gx, 0, none⟩ (.int .i64 vT)).setCell ⟨gx, 1, none⟩ (.int .i64 vU)).setCell ⟨gx, 2, none⟩ (.slice vL.A vL.l.length vL.c) := ⟨_, rfl⟩
    rw [← hw4]
    have XX : Hid (Blk w4 gx 66 #[.int .i64 vT, .int .i64 vU, .slice vL.A vL.l.length vL.c]) := Lib.hid (by rw [hw4]; simpa using (((B_x.out.set_ 0 (.int .i64 vT)).set_ 1 (.int .i64 vU)).set_ 2 (.slice vL.A vL.l.length vL.c)))
    have XA : Hid (Blk w4 w.heap.size 26 #[.int .i64 id, .bool false, .slice H.A H.l.length H.c, .slice N.A N.l.length N.c, .slice S.A S.l.length S.c]) := Lib.hid (by rw [hw4]; exact Blk.farr na (Blk.farr na (Blk.farr na B_a.out)))
    have XB : Hid (Blk w4 (w.heap.size + 1) 26 #[.int .i64 0, .bool false, .slice none 0 0, .slice none 0 0, .slice none 0 0]) := Lib.hid (by rw [hw4]; exact Blk.farr nc (Blk.farr nc (Blk.farr nc B_b.out)))
    have hB5 : Below w.heap.size w w4 := by rw [hw4]; exact (by repeat (first | (with_reducible exact hB4) | (with_reducible exact Below.refl _ _) | ((with_reducible refine below_setr ?_ ?_); focus (first | (simp; done) | (simp; omega) | omega)) | ((with_reducible refine below_allocr ?_ ?_); focus (first | (simp; done) | (simp; omega) | omega)) | (with_reducible refine Below.drew ?_) | (with_reducible refine below_drewN ?_ _) | ((with_reducible apply below_via); focus (with_reducible assumption))))
    have hz4 : gx < w4.heap.size := XX.out.lt
    have HVR4 : Hid (sd.2 = 0 → Rd (fun b => w3.heap.size ≤ b ∧ b ≠ gx ∧ b < w4.heap.size) 3 Loan.enc w4 vL) := Lib.hid (fun h0 => by
      rw [hw4]
      have := HVR.out h0
      simp only [World.size_setCell]
      exact Rd.setfarr (by simp) (Rd.setfarr (by simp) (Rd.setfarr (by simp) this)))
    clear hw4 a0 a1 a2 a3 a4 af b0 b1 b2 b3 b4 bf x0 x1 x2 xf B_a B_b B_x HVR hbX hB4
    obtain ⟨a0, a1, a2, a3, a4, af, az9⟩ := XA.out.b5
    obtain ⟨b0, b1, b2, b3, b4, bf, bz9⟩ := XB.out.b5
    obtain ⟨x0, x1, x2, xf, xz9⟩ := XX.out.b3
    have hsn : (sd.2 != 0) = true := by have h' := HE.out; (try simp only at h'); (try rw [HSD.out] at h'); simp [h']
    go_wp2_with fail
    try simp only [Exit.inBlock, Exit.then]
    refine bodyPost_ret (v := .tuple #[.agg #[.int .i64 id, .bool false, .slice H.A H.l.length H.c, .slice N.A N.l.length N.c, .slice S.A S.l.length S.c], .slice (some ⟨bb, oo, none⟩) sl.length sc, .int .i64 sd.2]) ?_ rfl ⟨by first | rfl | rw [HSD.out], (by repeat (first | (with_reducible exact hB5) | (with_reducible exact Below.refl _ _) | ((with_reducible refine below_setr ?_ ?_); focus (first | (simp; done) | (simp; omega) | omega)) | ((with_reducible refine below_allocr ?_ ?_); focus (first | (simp; done) | (simp; omega) | omega)) | (with_reducible refine Below.drew ?_) | (with_reducible refine below_drewN ?_ _) | ((with_reducible apply below_via); focus (with_reducible assumption))))⟩
    simp [results, Try.results22, go_sem, a0, a1, a2, a3, a4, af, b0, b1, b2, b3, b4, bf, x0, x1, x2, xf, bz9]
  · have hqn : ¬ (100 : Int) ≤ (H.l.length : Int) := by omega
    clear hqq
    refine (rat43 ⟨id, false, H, N, S⟩ j _ (HR.out.later hB2 (Nat.le_refl _)).1).mono ?_
    rintro e w3 ⟨rfl, hb3⟩
    try simp only
    rw [HFK.out]
    clear a0 a1 a2 a3 a4 af b0 b1 b2 b3 b4 bf
    have K_a : Blk _ (w.heap.size) 26 #[.int .i64 id, .bool false, .slice H.A H.l.length H.c, .slice N.A N.l.length N.c, .slice S.A S.l.length S.c] := qkc B_a hb3
    obtain ⟨a0, a1, a2, a3, a4, af, az⟩ := Blk.b5 K_a
    have B_a := Lib.hid K_a
    clear K_a
    have K_b : Blk _ (w.heap.size + 1) 26 #[.int .i64 0, .bool false, .slice none 0 0, .slice none 0 0, .slice none 0 0] := qkc B_b hb3
    obtain ⟨b0, b1, b2, b3, b4, bf, bz⟩ := Blk.b5 K_b
    have B_b := Lib.hid K_b
    clear K_b
    have hB3 : Below w.heap.size w w3 := (by repeat (first | (with_reducible exact hB2) | (with_reducible exact Below.refl _ _) | ((with_reducible refine below_setr ?_ ?_); focus (first | (simp; done) | (simp; omega) | omega)) | ((with_reducible refine below_allocr ?_ ?_); focus (first | (simp; done) | (simp; omega) | omega)) | (with_reducible refine Below.drew ?_) | (with_reducible refine below_drewN ?_ _) | ((with_reducible apply below_via); focus (with_reducible assumption))))
    clear hb3
    go_wp2_with fail
    obtain ⟨bb, oo, hsA, hsF, hcl⟩ := HS.out.1.2.2.2 j x HX.out
    have HXL := Lib.hid (HS.out.2 x (List.mem_of_getElem? HX.out))
    obtain ⟨xT, xU, xL⟩ := x
    obtain ⟨sA, sc, sl⟩ := ss
    simp only at hsA hj
    subst hsA
    obtain ⟨g0, g1, g2⟩ := Cells.c3 (hcl.keep (hB3.block bb hsF))
    clear hcl
    have hj1 : (j : Int) < (sl.length : Int) := by omega
    have hj0 : (0 : Int) ≤ (j : Int) := by omega
    refine wp_region_T (fun w' => w'.cell? ⟨bb, oo + j * 3, none⟩ = some (.int .i64 xT) ∧ w'.cell? ⟨bb, oo + j * 3 + 1, none⟩ = some (.int .i64 xU) ∧ w'.cell? ⟨bb, oo + j * 3 + 2, none⟩ = some (.slice xL.A xL.l.length xL.c) ∧ w'.cell? ⟨w.heap.size, 0, none⟩ = some (.int .i64 id)) (fun _ => false) (by kernel_rfl) ⟨g0, g1, g2, a0⟩ (fun hHeld => ?_)
    refine qtq 0 ?_
    simp only [qsa, qsb, qsc]
    refine qtq 1 ?_
    simp only [qsa, qsb, qsc]
    refine qtq 2 ?_
    simp only [qsa, qsb, qsc]
    refine qtq 3 ?_
    simp only [qsa, qsb, qsc]
    refine qtq 4 ?_
    simp only [qsa, qsb, qsc]
    refine qtq 5 ?_
    simp only [qsa, qsb, qsc]
    refine qtq 6 ?_
    simp only [qsa, qsb, qsc]
    clear hHeld
    generalize hsd : StockD.lend (Stock.d ⟨xT, xU, xL⟩) id n = sd at *
    have HSD := Lib.hid hsd
    clear hsd
    apply cutT
    intro fin
    refine wpAnyT_two (i := 7) (j := 11) (by kernel_rfl) rfl rfl ?_ ?_
    · go_wp2_with fail
      refine (rlend ⟨xT, xU, xL⟩ id n w3.drew (HXL.out.below' (by repeat (first | (with_reducible exact hB3) | (with_reducible exact Below.refl _ _) | ((with_reducible refine below_setr ?_ ?_); focus (first | (simp; done) | (simp; omega) | omega)) | ((with_reducible refine below_allocr ?_ ?_); focus (first | (simp; done) | (simp; omega) | omega)) | (with_reducible refine Below.drew ?_) | (with_reducible refine below_drewN ?_ _) | ((with_reducible apply below_via); focus (with_reducible assumption)))) (Nat.le_refl _))).mono ?_
      rintro e W ⟨⟨vT, vU, vL⟩, rfl, hvd, hvr, hb4⟩
      rw [HSD.out] at hvd hvr
      rw [HSD.out]
      have hb4' : Below w3.heap.size w3 W := Below.trans (Below.drew (Below.refl _ _)) hb4
      simp only [Stock.v]
      go_wp2_with fail
      have hHeld := And.intro (keep_cell hb4' g0) (And.intro (keep_cell hb4' g1) (And.intro (keep_cell hb4' g2) (keep_cell hb4' a0)))
      refine And.intro ?_ ?_
      · first
        | exact hHeld
        | exact fun _ => hHeld
      refine qtq 8 ?_
      simp only [qsa, qsb, qsc]
      refine qtq 9 ?_
      simp only [qsa, qsb, qsc]
      refine qtq 10 ?_
      simp only [qsa, qsb, qsc]
      clear hHeld
      refine wpAnyT_next (i := 11) (by kernel_rfl) rfl ?_
      go_wp2_with fail
      obtain ⟨gx, hgx⟩ : ∃ g, g = W.heap.size := ⟨_, rfl⟩
      have hn : ∀ X, X = W.alloc (.cells #[.int .i64 0, .int .i64 0, .slice none 0 0] 66) → Below w3.heap.size w3 X ∧ Blk X gx 66 #[.int .i64 0, .int .i64 0, .slice none 0 0] ∧ w3.heap.size ≤ gx ∧ (sd.2 = 0 → Rd (fun b => w3.heap.size ≤ b ∧ b ≠ gx ∧ b < X.heap.size) 3 Loan.enc X vL) := by
        rintro _ rfl
        have hz : w3.heap.size ≤ W.heap.size := hb4'.size
        refine ⟨hb4'.alloc hz _, by rw [hgx]; exact Blk.new _ _ _, by rw [hgx]; exact hz, fun h0 => ?_⟩
        refine Rd.mono ((hvr h0).keep fun b hb => Below.heap_alloc _ _ b hb.2) (fun b hb => ⟨hb.1, ?_, ?_⟩)
        · have := hb.2; omega
        · have := hb.2; simp; omega
      rw [← hgx]
      obtain ⟨X, hX⟩ : ∃ X, X = W.alloc (.cells #[.int .i64 0, .int .i64 0, .slice none 0 0] 66) := ⟨_, rfl⟩
      have hn2 := hn X hX
      rw [← hX]
      clear hn hX hgx hvr hb4 hb4'
      have hbX := hn2.1
      have hHeld := And.intro (keep_cell hbX g0) (And.intro (keep_cell hbX g1) (And.intro (keep_cell hbX g2) (keep_cell hbX a0)))
      refine And.intro ?_ ?_
      · first
        | exact hHeld
        | exact fun _ => hHeld
      clear hHeld hbX
      refine wpAnyT_relist (l' := #[true, true, true, true, true, true, true, true, true, true, true, true, false, false]) (by kernel_rfl) ?_
      revert hn2
      revert hvd
      revert X
      revert gx
      revert vL
      revert vU
      revert vT
      exact fin
    · go_wp2_with fail
      obtain ⟨gx, hgx⟩ : ∃ g, g = w3.heap.size := ⟨_, rfl⟩
      have hn : ∀ X, X = w3.drew.alloc (.cells #[.int .i64 0, .int .i64 0, .slice none 0 0] 66) → Below w3.heap.size w3 X ∧ Blk X gx 66 #[.int .i64 0, .int .i64 0, .slice none 0 0] ∧ X.heap.size = gx + 1 := by
        rintro _ rfl
        exact ⟨Below.alloc (Below.drew (Below.refl _ _)) (Nat.le_refl _) _, by rw [hgx]; exact Blk.new _ _ _, by rw [hgx]; show (w3.drew.alloc _).heap.size = w3.drew.heap.size + 1; simp only [World.size_alloc]⟩
      rw [← hgx]
      obtain ⟨W, hW⟩ : ∃ X, X = w3.drew.alloc (.cells #[.int .i64 0, .int .i64 0, .slice none 0 0] 66) := ⟨_, rfl⟩
      have hn1 := hn W hW
      have HN1 := Lib.hid hn1
      have hgw : w3.heap.size ≤ gx := Nat.le_of_eq hgx.symm
      have hW' : (w3.alloc (.cells #[.int .i64 0, .int .i64 0, .slice none 0 0] 66)).drew = W := hW.symm
      try rw [← hW]
      try rw [hW']
      try simp only [QT]
      clear hn hW hW' hgx
      have hbW := hn1.1
      clear hn1
      have hHeld := And.intro (keep_cell hbW g0) (And.intro (keep_cell hbW g1) (And.intro (keep_cell hbW g2) (keep_cell hbW a0)))
      refine And.intro ?_ ?_
      · first
        | exact hHeld
        | exact fun _ => hHeld
      clear hHeld
      refine wpAnyT_next (i := 7) (by kernel_rfl) rfl ?_
      go_wp2_with fail
      refine (rlend ⟨xT, xU, xL⟩ id n W (HXL.out.below' (below_via hbW hB3) (Nat.le_refl _))).mono ?_
      rintro e X ⟨⟨vT, vU, vL⟩, rfl, hvd, hvr, hb4⟩
      rw [HSD.out] at hvd hvr
      rw [HSD.out]
      have hn1 := HN1.out
      have hn2 : Below w3.heap.size w3 X ∧ Blk X gx 66 #[.int .i64 0, .int .i64 0, .slice none 0 0] ∧ w3.heap.size ≤ gx ∧ (sd.2 = 0 → Rd (fun b => w3.heap.size ≤ b ∧ b ≠ gx ∧ b < X.heap.size) 3 Loan.enc X vL) := by
        have hz := hn1.2.2
        refine ⟨below_via hb4 hbW, hn1.2.1.later hb4, hgw, fun h0 => ?_⟩
        exact Rd.mono (hvr h0) (fun b hb => by have := hb.1; have := hb.2; exact ⟨by omega, by omega, by omega⟩)
      clear hn1 HN1 hbW hvr hb4 hgw
      have hbX := hn2.1
      simp only [Stock.v]
      go_wp2_with fail
      have hHeld := And.intro (keep_cell hbX g0) (And.intro (keep_cell hbX g1) (And.intro (keep_cell hbX g2) (keep_cell hbX a0)))
      refine And.intro ?_ ?_
      · first
        | exact hHeld
        | exact fun _ => hHeld
      refine qtq 8 ?_
      simp only [qsa, qsb, qsc]
      refine qtq 9 ?_
      simp only [qsa, qsb, qsc]
      refine qtq 10 ?_
      simp only [qsa, qsb, qsc]
      clear hHeld hbX
      refine wpAnyT_relist (l' := #[true, true, true, true, true, true, true, true, true, true, true, true, false, false]) (by kernel_rfl) ?_
      revert hn2
      revert hvd
      revert X
      revert gx
      revert vL
      revert vU
      revert vT
      exact fin
    intro vT vU vL gx X hvd hn2
    have hz0 := B_b.out.lt
    obtain ⟨hbX, hblx, hgx, hvr⟩ := hn2
    have HVR := Lib.hid hvr
    have HVD := Lib.hid hvd
    clear hvr hvd
    have hB4 : Below w.heap.size w X := below_via hbX hB3
    have XA := B_a.out.later hbX
    have XB := B_b.out.later hbX
    have bz4 : w.heap.size + 1 < X.heap.size := XB.lt
    have G0 := keep_cell hbX g0
    have G1 := keep_cell hbX g1
    have G2 := keep_cell hbX g2
    have GA := keep_cell hbX a0
    clear a0 a1 a2 a3 a4 af b0 b1 b2 b3 b4 bf g0 g1 g2 B_a B_b
    have B_a := Lib.hid XA
    have B_b := Lib.hid XB
    have B_x := Lib.hid hblx
    clear XA XB hblx
    obtain ⟨a0, a1, a2, a3, a4, af, az4⟩ := B_a.out.b5
    obtain ⟨b0, b1, b2, b3, b4, bf, bz5⟩ := B_b.out.b5
    obtain ⟨x0, x1, x2, xf, xz4⟩ := B_x.out.b3
    have nb : bb ≠ gx := by have := hsF; omega
    have na : w.heap.size ≠ gx := by omega
    have nc : w.heap.size + 1 ≠ gx := by omega
    refine wpAnyT_next (i := 12) (by kernel_rfl) rfl ?_
    go_wp2_with fail
    have hHeld := And.intro (kset (q := ⟨gx, 2, none⟩) (.slice vL.A vL.l.length vL.c) nb (kset (q := ⟨gx, 1, none⟩) (.int .i64 vU) nb (kset (q := ⟨gx, 0, none⟩) (.int .i64 vT) nb G0))) (And.intro (kset (q := ⟨gx, 2, none⟩) (.slice vL.A vL.l.length vL.c) nb (kset (q := ⟨gx, 1, none⟩) (.int .i64 vU) nb (kset (q := ⟨gx, 0, none⟩) (.int .i64 vT) nb G1))) (And.intro (kset (q := ⟨gx, 2, none⟩) (.slice vL.A vL.l.length vL.c) nb (kset (q := ⟨gx, 1, none⟩) (.int .i64 vU) nb (kset (q := ⟨gx, 0, none⟩) (.int .i64 vT) nb G2))) (kset (q := ⟨gx, 2, none⟩) (.slice vL.A vL.l.length vL.c) na (kset (q := ⟨gx, 1, none⟩) (.int .i64 vU) na (kset (q := ⟨gx, 0, none⟩) (.int .i64 vT) na GA)))))
    refine And.intro ?_ ?_
    · first
      | exact hHeld
      | exact fun _ => hHeld
    refine qtq 13 ?_
    simp only [qsa, qsb, qsc]
    clear hHeld G0 G1 G2 GA
    refine wpAnyT_done (by kernel_rfl) ?_ _
    obtain ⟨w4, hw4⟩ : ∃ z, z = ((X.setCell ⟨gx, 0, none⟩ (.int .i64 vT)).setCell ⟨gx, 1, none⟩ (.int .i64 vU)).setCell ⟨gx, 2, none⟩ (.slice vL.A vL.l.length vL.c) := ⟨_, rfl⟩
    rw [← hw4]
    have XX : Hid (Blk w4 gx 66 #[.int .i64 vT, .int .i64 vU, .slice vL.A vL.l.length vL.c]) := Lib.hid (by rw [hw4]; simpa using (((B_x.out.set_ 0 (.int .i64 vT)).set_ 1 (.int .i64 vU)).set_ 2 (.slice vL.A vL.l.length vL.c)))
    have XA : Hid (Blk w4 w.heap.size 26 #[.int .i64 id, .bool false, .slice H.A H.l.length H.c, .slice N.A N.l.length N.c, .slice S.A S.l.length S.c]) := Lib.hid (by rw [hw4]; exact Blk.farr na (Blk.farr na (Blk.farr na B_a.out)))
    have XB : Hid (Blk w4 (w.heap.size + 1) 26 #[.int .i64 0, .bool false, .slice none 0 0, .slice none 0 0, .slice none 0 0]) := Lib.hid (by rw [hw4]; exact Blk.farr nc (Blk.farr nc (Blk.farr nc B_b.out)))
    have hB5 : Below w.heap.size w w4 := by rw [hw4]; exact (by repeat (first | (with_reducible exact hB4) | (with_reducible exact Below.refl _ _) | ((with_reducible refine below_setr ?_ ?_); focus (first | (simp; done) | (simp; omega) | omega)) | ((with_reducible refine below_allocr ?_ ?_); focus (first | (simp; done) | (simp; omega) | omega)) | (with_reducible refine Below.drew ?_) | (with_reducible refine below_drewN ?_ _) | ((with_reducible apply below_via); focus (with_reducible assumption))))
    have hz4 : gx < w4.heap.size := XX.out.lt
    have HVR4 : Hid (sd.2 = 0 → Rd (fun b => w3.heap.size ≤ b ∧ b ≠ gx ∧ b < w4.heap.size) 3 Loan.enc w4 vL) := Lib.hid (fun h0 => by
      rw [hw4]
      have := HVR.out h0
      simp only [World.size_setCell]
      exact Rd.setfarr (by simp) (Rd.setfarr (by simp) (Rd.setfarr (by simp) this)))
    clear hw4 a0 a1 a2 a3 a4 af b0 b1 b2 b3 b4 bf x0 x1 x2 xf B_a B_b B_x HVR hbX hB4
    obtain ⟨a0, a1, a2, a3, a4, af, az9⟩ := XA.out.b5
    obtain ⟨b0, b1, b2, b3, b4, bf, bz9⟩ := XB.out.b5
    obtain ⟨x0, x1, x2, xf, xz9⟩ := XX.out.b3
    have hsn : (sd.2 != 0) = true := by have h' := HE.out; (try simp only at h'); (try rw [HSD.out] at h'); simp [h']
    go_wp2_with fail
    try simp only [Exit.inBlock, Exit.then]
    refine bodyPost_ret (v := .tuple #[.agg #[.int .i64 id, .bool false, .slice H.A H.l.length H.c, .slice N.A N.l.length N.c, .slice S.A S.l.length S.c], .slice (some ⟨bb, oo, none⟩) sl.length sc, .int .i64 sd.2]) ?_ rfl ⟨by first | rfl | rw [HSD.out], (by repeat (first | (with_reducible exact hB5) | (with_reducible exact Below.refl _ _) | ((with_reducible refine below_setr ?_ ?_); focus (first | (simp; done) | (simp; omega) | omega)) | ((with_reducible refine below_allocr ?_ ?_); focus (first | (simp; done) | (simp; omega) | omega)) | (with_reducible refine Below.drew ?_) | (with_reducible refine below_drewN ?_ _) | ((with_reducible apply below_via); focus (with_reducible assumption))))⟩
    simp [results, Try.results22, go_sem, a0, a1, a2, a3, a4, af, b0, b1, b2, b3, b4, bf, x0, x1, x2, xf, bz9]
end Go.Proofs.Ythnblhbdfpmolaa
