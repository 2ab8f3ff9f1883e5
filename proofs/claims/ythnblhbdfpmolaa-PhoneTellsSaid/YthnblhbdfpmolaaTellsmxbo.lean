/- Walks of the reference of layer 43: Lend, a stock that is not held yet. -/
import Derived.Test.YthnblhbdfpmolaaTellsmxbn
import Derived.Test.YthnblhbdfpmolaaTellsmxbh
namespace Go.Proofs.Ythnblhbdfpmolaa
open Go.RowKit
theorem hidx_spec {l : List Hold} (hs : l.Pairwise (fun a b => a.st < b.st)) {p : Int} : ∀ {i : Nat} {x : Hold}, l[i]? = some x → (i < hidx l p ↔ x.st < p) := by
  induction l with
  | nil => intro i x h; simp at h
  | cons y r ih =>
    obtain ⟨h1, h2⟩ := List.pairwise_cons.1 hs
    intro i x h
    have hall : ∀ z, z ∈ r → y.st < z.st := h1
    by_cases hy : y.st < p
    · have e : hidx (y :: r) p = hidx r p + 1 := by simp [hidx, List.countP_cons, hy]
      rw [e]
      match i, h with
      | 0, h => simp at h; subst h; simp [hy]
      | i + 1, h => rw [Nat.add_lt_add_iff_right]; exact ih h2 (by simpa using h)
    · have e : hidx (y :: r) p = 0 := by
        unfold hidx
        rw [List.countP_eq_zero]
        intro z hz
        rcases List.mem_cons.1 hz with rfl | hz
        · simpa using hy
        · have := h1 z hz; simp; omega
      rw [e]
      have : ¬ x.st < p := by
        match i, h with
        | 0, h => simp at h; subst h; exact hy
        | i + 1, h => have := h1 x (List.mem_of_getElem? (by simpa using h)); omega
      simp [this]
theorem hhas_no {l : List Hold} {p : Int} (h : hhas l p = false) {i : Nat} {x : Hold} (hx : l[i]? = some x) : x.st ≠ p := fun e => by
  have : hhas l p = true := by simp only [hhas, List.any_eq_true, decide_eq_true_eq]; exact ⟨x, List.mem_of_getElem? hx, e⟩
  rw [h] at this; cases this
theorem Rd.of_blk {α : Type} {k : Nat} {enc : α → List Value} {W : World} {e : TypeId} {g : Nat} {cs : Array Value} (x : α) (h : Blk W g e cs) (hcs : cs.toList = enc x) : Rd (fun b => b = g) k enc W ⟨some ⟨g, 0, none⟩, 1, [x]⟩ := by
  refine ⟨by simp, by simp [maxLen], fun h => (by cases h), fun i y hy => ?_⟩
  match i, hy with
  | 0, hy =>
    simp at hy
    subst hy
    refine ⟨g, 0, rfl, rfl, fun j u hu => ?_⟩
    rw [Nat.zero_mul, Nat.add_zero, Nat.zero_add, h.cell, ← Array.getElem?_toList, hcs]
    exact hu
theorem rcopied43_rs (p : Phone) (w : World) (hr : RdPhone (· < w.heap.size) w p) (h : p.d.right = true) :
    Calls Try.prog 67 #[p.v] w fun e w' => ∃ HA Hc NA Nc SA Sc, e = .returned (Phone.v ⟨p.id, p.cut, ⟨HA, Hc, p.H.l⟩, ⟨NA, Nc, p.N.l⟩, ⟨SA, Sc, p.S.l⟩⟩) ∧
      Own w.heap.size 59 3 Hold.enc w' ⟨HA, Hc, p.H.l⟩ ∧ Own w.heap.size 61 5 Note.enc w' ⟨NA, Nc, p.N.l⟩ ∧ Own w.heap.size 3 1 ienc w' ⟨SA, Sc, p.S.l⟩ ∧ Apart HA NA ∧ Apart HA SA ∧ Apart NA SA ∧ HA ≠ none ∧ Below w.heap.size w w' := by
  have hr' := PhoneD.right_iff h
  have h1 := (holdsR_iff hr'.H).1
  have h2 := hr'.N
  have h3 := hr'.S
  simp only [Phone.d, List.length_map] at h1 h2 h3
  exact rcopied43s p w hr (by omega) (by omega) (by omega)
theorem Own.lecap2 {α : Type} {base : Nat} {e : TypeId} {k : Nat} {enc : α → List Value} {w : World} {s : Sl α} (h : Own base e k enc w s) : s.l.length ≤ s.c := by
  rcases h.form with ⟨_, h1, h2⟩ | ⟨_, _, _, _, h2, _⟩
  · rw [h1, h2]; simp
  · exact h2
set_option maxHeartbeats 4000000 in
theorem rlend43_new (p : Phone) (ss : Sl Stock) (j : Nat) (x : Stock) (n : Int) (i : Nat) (w : World) (hr : RdPhone (· < w.heap.size) w p) (hs : RdStocks (· < w.heap.size) w ss) (hb : ss.l.length * 40 ≤ 140737488355328) (HF : Hid (p.d.right = true)) (HG : Hid (p.d.fit (ss.l.map Stock.d) = true)) (hj : j < ss.l.length) (hc : p.cut = false)
    (HH : Hid (hhas p.H.l j = false)) (HI : Hid (hidx p.H.l j = i)) (h99 : p.H.l.length ≤ 99) (hn1 : 1 ≤ n) (hn2 : n ≤ 1000000000000000) (HX : Hid (ss.l[j]? = some x)) (HE : Hid ((x.d.lend p.id n).2 = 0)) (B : Nat) (hBB : B ≤ w.heap.size) (hFN : ∀ y ∈ p.N.l, Rd (· < B) 1 ienc w y.af) (hGS : ∀ y ∈ ss.l, Rd (· < B) 3 Loan.enc w y.L) :
    Calls Try.prog 22 #[p.v, .slice ss.A ss.l.length ss.c, .int .i64 j, .int .i64 n] w fun e w' => ∃ (p' : Phone) (s' : Sl Stock), e = .returned (.tuple #[p'.v, .slice s'.A s'.l.length s'.c, .int .i64 0]) ∧ p'.d = { p.d with H := p.d.H.take i ++ ⟨j, n, 0⟩ :: p.d.H.drop i } ∧ s'.l.map Stock.d = (ss.l.map Stock.d).set j (x.d.lend p.id n).1 ∧
      RdPhone (fun b => b < B ∨ (w.heap.size ≤ b ∧ b < w'.heap.size)) w' p' ∧ RdStocks (fun b => b < B ∨ (w.heap.size ≤ b ∧ b < w'.heap.size)) w' s' ∧ Below w.heap.size w w' := by
  obtain ⟨id, cut, H, N, S⟩ := p
  simp only at hc
  subst hc
  try simp only at hFN
  have HFN := Lib.hid hFN
  have HGS := Lib.hid hGS
  clear hFN hGS
  have HFK : Hid (findK Hold.st j 0 H.l = -1) := Lib.hid (findK_none HH.out)
  have hil : i ≤ H.l.length := by rw [← HI.out]; exact hidx_le _ _
  have HSO : Hid (H.l.Pairwise (fun a b => a.st < b.st)) := Lib.hid (holdsR_iff (PhoneD.right_iff HF.out).H).2.1
  simp only at h99
  have h99' : (H.l.length : Int) ≤ 99 := by omega
  have HR := Lib.hid hr
  have HS := Lib.hid hs
  clear hr hs
  simp only [Phone.v]
  go_enter Try.func22, Try.ntmps22
  go_wp2_with fail
  refine (rright43 ⟨id, false, H, N, S⟩ _ (HR.out.later qbl (Nat.le_refl _))).mono ?_
  rintro e w1 ⟨rfl, hb1⟩
  rw [HF.out]
  have K_a : Blk _ (w.heap.size) 26 #[.int .i64 id, .bool false, .slice H.A H.l.length H.c, .slice N.A N.l.length N.c, .slice S.A S.l.length S.c] := qkb hb1
  obtain ⟨a0, a1, a2, a3, a4, af, az⟩ := Blk.b5 K_a
  have B_a := Lib.hid K_a
  clear K_a
  have K_b : Blk _ (w.heap.size + 1) 26 #[.int .i64 0, .bool false, .slice none 0 0, .slice none 0 0, .slice none 0 0] := qkb hb1
  obtain ⟨b0, b1, b2, b3, b4, bf, bz⟩ := Blk.b5 K_b
  have B_b := Lib.hid K_b
  clear K_b
  have hB1 : Below w.heap.size w w1 := (by repeat (first | (with_reducible exact Below.refl _ _) | ((with_reducible refine below_setr ?_ ?_); focus (first | (simp; done) | (simp; omega) | omega)) | ((with_reducible refine below_allocr ?_ ?_); focus (first | (simp; done) | (simp; omega) | omega)) | (with_reducible refine Below.drew ?_) | (with_reducible refine below_drewN ?_ _) | ((with_reducible apply below_via); focus (with_reducible assumption))))
  clear hb1
  go_wp2_with fail
  refine (rfit43 ⟨id, false, H, N, S⟩ ss _ (HR.out.later hB1 (Nat.le_refl _)) (HS.out.later hB1 (Nat.le_refl _)) (PhoneD.right_iff HF.out).H).mono ?_
  rintro e w2 ⟨rfl, hb2⟩
  rw [HG.out]
  clear a0 a1 a2 a3 a4 af b0 b1 b2 b3 b4 bf
  have K_a : Blk _ (w.heap.size) 26 #[.int .i64 id, .bool false, .slice H.A H.l.length H.c, .slice N.A N.l.length N.c, .slice S.A S.l.length S.c] := qkc B_a hb2
  obtain ⟨a0, a1, a2, a3, a4, af, az⟩ := Blk.b5 K_a
  have B_a := Lib.hid K_a
  clear K_a
  have K_b : Blk _ (w.heap.size + 1) 26 #[.int .i64 0, .bool false, .slice none 0 0, .slice none 0 0, .slice none 0 0] := qkc B_b hb2
  obtain ⟨b0, b1, b2, b3, b4, bf, bz⟩ := Blk.b5 K_b
  have B_b := Lib.hid K_b
  clear K_b
  have hB2 : Below w.heap.size w w2 := (by repeat (first | (with_reducible exact hB1) | (with_reducible exact Below.refl _ _) | ((with_reducible refine below_setr ?_ ?_); focus (first | (simp; done) | (simp; omega) | omega)) | ((with_reducible refine below_allocr ?_ ?_); focus (first | (simp; done) | (simp; omega) | omega)) | (with_reducible refine Below.drew ?_) | (with_reducible refine below_drewN ?_ _) | ((with_reducible apply below_via); focus (with_reducible assumption))))
  clear hb2
  go_wp2_with fail
  refine (rat43 ⟨id, false, H, N, S⟩ j _ (HR.out.later hB2 (Nat.le_refl _)).1).mono ?_
  rintro e w3 ⟨rfl, hb3⟩
  try simp only
  rw [HFK.out]
  clear a0 a1 a2 a3 a4 af b0 b1 b2 b3 b4 bf
  have K_a : Blk _ (w.heap.size) 26 #[.int .i64 id, .bool false, .slice H.A H.l.length H.c, .slice N.A N.l.length N.c, .slice S.A S.l.length S.c] := qkc B_a hb3
  obtain ⟨a0, a1, a2, a3, a4, af, az⟩ := Blk.b5 K_a
  have B_a := Lib.hid K_a
  clear K_a
  have K_b : Blk _ (w.heap.size + 1) 26 #[.int .i64 0, .bool false, .slice none 0 0, .slice none 0 0, .slice none 0 0] := qkc B_b hb3
  obtain ⟨b0, b1, b2, b3, b4, bf, bz⟩ := Blk.b5 K_b
  have B_b := Lib.hid K_b
  clear K_b
  have hB3 : Below w.heap.size w w3 := (by repeat (first | (with_reducible exact hB2) | (with_reducible exact Below.refl _ _) | ((with_reducible refine below_setr ?_ ?_); focus (first | (simp; done) | (simp; omega) | omega)) | ((with_reducible refine below_allocr ?_ ?_); focus (first | (simp; done) | (simp; omega) | omega)) | (with_reducible refine Below.drew ?_) | (with_reducible refine below_drewN ?_ _) | ((with_reducible apply below_via); focus (with_reducible assumption))))
  clear hb3
  go_wp2_with fail
  obtain ⟨bb, oo, hsA, hsF, hcl⟩ := HS.out.1.2.2.2 j x HX.out
  have HXL := Lib.hid (HS.out.2 x (List.mem_of_getElem? HX.out))
  obtain ⟨xT, xU, xL⟩ := x
  obtain ⟨sA, sc, sl⟩ := ss
  simp only at hsA hj
  subst hsA
  obtain ⟨g0, g1, g2⟩ := Cells.c3 (hcl.keep (hB3.block bb hsF))
  clear hcl
  have hj1 : (j : Int) < (sl.length : Int) := by omega
  have hj0 : (0 : Int) ≤ (j : Int) := by omega
  refine wp_region_T (fun w' => w'.cell? ⟨bb, oo + j * 3, none⟩ = some (.int .i64 xT) ∧ w'.cell? ⟨bb, oo + j * 3 + 1, none⟩ = some (.int .i64 xU) ∧ w'.cell? ⟨bb, oo + j * 3 + 2, none⟩ = some (.slice xL.A xL.l.length xL.c) ∧ w'.cell? ⟨w.heap.size, 0, none⟩ = some (.int .i64 id)) (fun _ => false) (by kernel_rfl) ⟨g0, g1, g2, a0⟩ (fun hHeld => ?_)
  refine qtq 0 ?_
  simp only [qsa, qsb, qsc]
  refine qtq 1 ?_
  simp only [qsa, qsb, qsc]
  refine qtq 2 ?_
  simp only [qsa, qsb, qsc]
  refine qtq 3 ?_
  simp only [qsa, qsb, qsc]
  refine qtq 4 ?_
  simp only [qsa, qsb, qsc]
  refine qtq 5 ?_
  simp only [qsa, qsb, qsc]
  refine qtq 6 ?_
  simp only [qsa, qsb, qsc]
  clear hHeld
  generalize hsd : StockD.lend (Stock.d ⟨xT, xU, xL⟩) id n = sd at *
  have HSD := Lib.hid hsd
  clear hsd
  apply cutT
  intro fin
  refine wpAnyT_two (i := 7) (j := 11) (by kernel_rfl) rfl rfl ?_ ?_
  · go_wp2_with fail
    refine (rlend ⟨xT, xU, xL⟩ id n w3.drew (HXL.out.below' (by repeat (first | (with_reducible exact hB3) | (with_reducible exact Below.refl _ _) | ((with_reducible refine below_setr ?_ ?_); focus (first | (simp; done) | (simp; omega) | omega)) | ((with_reducible refine below_allocr ?_ ?_); focus (first | (simp; done) | (simp; omega) | omega)) | (with_reducible refine Below.drew ?_) | (with_reducible refine below_drewN ?_ _) | ((with_reducible apply below_via); focus (with_reducible assumption)))) (Nat.le_refl _))).mono ?_
    rintro e W ⟨⟨vT, vU, vL⟩, rfl, hvd, hvr, hb4⟩
    rw [HSD.out] at hvd hvr
    rw [HSD.out]
    have hb4' : Below w3.heap.size w3 W := Below.trans (Below.drew (Below.refl _ _)) hb4
    simp only [Stock.v]
    go_wp2_with fail
    have hHeld := And.intro (keep_cell hb4' g0) (And.intro (keep_cell hb4' g1) (And.intro (keep_cell hb4' g2) (keep_cell hb4' a0)))
    refine And.intro ?_ ?_
    · first
      | exact hHeld
      | exact fun _ => hHeld
    refine qtq 8 ?_
    simp only [qsa, qsb, qsc]
    refine qtq 9 ?_
    simp only [qsa, qsb, qsc]
    refine qtq 10 ?_
    simp only [qsa, qsb, qsc]
    clear hHeld
    refine wpAnyT_next (i := 11) (by kernel_rfl) rfl ?_
    go_wp2_with fail
    obtain ⟨gx, hgx⟩ : ∃ g, g = W.heap.size := ⟨_, rfl⟩
    have hn : ∀ X, X = W.alloc (.cells #[.int .i64 0, .int .i64 0, .slice none 0 0] 66) → Below w3.heap.size w3 X ∧ Blk X gx 66 #[.int .i64 0, .int .i64 0, .slice none 0 0] ∧ w3.heap.size ≤ gx ∧ (sd.2 = 0 → Rd (fun b => w3.heap.size ≤ b ∧ b ≠ gx ∧ b < X.heap.size) 3 Loan.enc X vL) := by
      rintro _ rfl
      have hz : w3.heap.size ≤ W.heap.size := hb4'.size
      refine ⟨hb4'.alloc hz _, by rw [hgx]; exact Blk.new _ _ _, by rw [hgx]; exact hz, fun h0 => ?_⟩
      refine Rd.mono ((hvr h0).keep fun b hb => Below.heap_alloc _ _ b hb.2) (fun b hb => ⟨hb.1, ?_, ?_⟩)
      · have := hb.2; omega
      · have := hb.2; simp; omega
    rw [← hgx]
    obtain ⟨X, hX⟩ : ∃ X, X = W.alloc (.cells #[.int .i64 0, .int .i64 0, .slice none 0 0] 66) := ⟨_, rfl⟩
    have hn2 := hn X hX
    rw [← hX]
    clear hn hX hgx hvr hb4 hb4'
    have hbX := hn2.1
    have hHeld := And.intro (keep_cell hbX g0) (And.intro (keep_cell hbX g1) (And.intro (keep_cell hbX g2) (keep_cell hbX a0)))
    refine And.intro ?_ ?_
    · first
      | exact hHeld
      | exact fun _ => hHeld
    clear hHeld hbX
    refine wpAnyT_relist (l' := #[true, true, true, true, true, true, true, true, true, true, true, true, false, false]) (by kernel_rfl) ?_
    revert hn2
    revert hvd
    revert X
    revert gx
    revert vL
    revert vU
    revert vT
    exact fin
  · go_wp2_with fail
    obtain ⟨gx, hgx⟩ : ∃ g, g = w3.heap.size := ⟨_, rfl⟩
    have hn : ∀ X, X = w3.drew.alloc (.cells #[.int .i64 0, .int .i64 0, .slice none 0 0] 66) → Below w3.heap.size w3 X ∧ Blk X gx 66 #[.int .i64 0, .int .i64 0, .slice none 0 0] ∧ X.heap.size = gx + 1 := by
      rintro _ rfl
      exact ⟨Below.alloc (Below.drew (Below.refl _ _)) (Nat.le_refl _) _, by rw [hgx]; exact Blk.new _ _ _, by rw [hgx]; show (w3.drew.alloc _).heap.size = w3.drew.heap.size + 1; simp only [World.size_alloc]⟩
    rw [← hgx]
    obtain ⟨W, hW⟩ : ∃ X, X = w3.drew.alloc (.cells #[.int .i64 0, .int .i64 0, .slice none 0 0] 66) := ⟨_, rfl⟩
    have hn1 := hn W hW
    have HN1 := Lib.hid hn1
    have hgw : w3.heap.size ≤ gx := Nat.le_of_eq hgx.symm
    have hW' : (w3.alloc (.cells #[.int .i64 0, .int .i64 0, .slice none 0 0] 66)).drew = W := hW.symm
    try rw [← hW]
    try rw [hW']
    try simp only [QT]
    clear hn hW hW' hgx
    have hbW := hn1.1
    clear hn1
    have hHeld := And.intro (keep_cell hbW g0) (And.intro (keep_cell hbW g1) (And.intro (keep_cell hbW g2) (keep_cell hbW a0)))
    refine And.intro ?_ ?_
    · first
      | exact hHeld
      | exact fun _ => hHeld
    clear hHeld
    refine wpAnyT_next (i := 7) (by kernel_rfl) rfl ?_
    go_wp2_with fail
    refine (rlend ⟨xT, xU, xL⟩ id n W (HXL.out.below' (below_via hbW hB3) (Nat.le_refl _))).mono ?_
    rintro e X ⟨⟨vT, vU, vL⟩, rfl, hvd, hvr, hb4⟩
    rw [HSD.out] at hvd hvr
    rw [HSD.out]
    have hn1 := HN1.out
    have hn2 : Below w3.heap.size w3 X ∧ Blk X gx 66 #[.int .i64 0, .int .i64 0, .slice none 0 0] ∧ w3.heap.size ≤ gx ∧ (sd.2 = 0 → Rd (fun b => w3.heap.size ≤ b ∧ b ≠ gx ∧ b < X.heap.size) 3 Loan.enc X vL) := by
      have hz := hn1.2.2
      refine ⟨below_via hb4 hbW, hn1.2.1.later hb4, hgw, fun h0 => ?_⟩
      exact Rd.mono (hvr h0) (fun b hb => by have := hb.1; have := hb.2; exact ⟨by omega, by omega, by omega⟩)
    clear hn1 HN1 hbW hvr hb4 hgw
    have hbX := hn2.1
    simp only [Stock.v]
    go_wp2_with fail
    have hHeld := And.intro (keep_cell hbX g0) (And.intro (keep_cell hbX g1) (And.intro (keep_cell hbX g2) (keep_cell hbX a0)))
    refine And.intro ?_ ?_
    · first
      | exact hHeld
      | exact fun _ => hHeld
    refine qtq 8 ?_
    simp only [qsa, qsb, qsc]
    refine qtq 9 ?_
    simp only [qsa, qsb, qsc]
    refine qtq 10 ?_
    simp only [qsa, qsb, qsc]
    clear hHeld hbX
    refine wpAnyT_relist (l' := #[true, true, true, true, true, true, true, true, true, true, true, true, false, false]) (by kernel_rfl) ?_
    revert hn2
    revert hvd
    revert X
    revert gx
    revert vL
    revert vU
    revert vT
    exact fin
  intro vT vU vL gx X hvd hn2
  have hz0 := B_b.out.lt
  obtain ⟨hbX, hblx, hgx, hvr⟩ := hn2
  have HVR := Lib.hid hvr
  have HVD := Lib.hid hvd
  clear hvr hvd
  have hB4 : Below w.heap.size w X := below_via hbX hB3
  have XA := B_a.out.later hbX
  have XB := B_b.out.later hbX
  have bz4 : w.heap.size + 1 < X.heap.size := XB.lt
  have G0 := keep_cell hbX g0
  have G1 := keep_cell hbX g1
  have G2 := keep_cell hbX g2
  have GA := keep_cell hbX a0
  clear a0 a1 a2 a3 a4 af b0 b1 b2 b3 b4 bf g0 g1 g2 B_a B_b
  have B_a := Lib.hid XA
  have B_b := Lib.hid XB
  have B_x := Lib.hid hblx
  clear XA XB hblx
  obtain ⟨a0, a1, a2, a3, a4, af, az4⟩ := B_a.out.b5
  obtain ⟨b0, b1, b2, b3, b4, bf, bz5⟩ := B_b.out.b5
  obtain ⟨x0, x1, x2, xf, xz4⟩ := B_x.out.b3
  have nb : bb ≠ gx := by have := hsF; omega
  have na : w.heap.size ≠ gx := by omega
  have nc : w.heap.size + 1 ≠ gx := by omega
  refine wpAnyT_next (i := 12) (by kernel_rfl) rfl ?_
  go_wp2_with fail
  have hHeld := And.intro (kset (q := ⟨gx, 2, none⟩) (.slice vL.A vL.l.length vL.c) nb (kset (q := ⟨gx, 1, none⟩) (.int .i64 vU) nb (kset (q := ⟨gx, 0, none⟩) (.int .i64 vT) nb G0))) (And.intro (kset (q := ⟨gx, 2, none⟩) (.slice vL.A vL.l.length vL.c) nb (kset (q := ⟨gx, 1, none⟩) (.int .i64 vU) nb (kset (q := ⟨gx, 0, none⟩) (.int .i64 vT) nb G1))) (And.intro (kset (q := ⟨gx, 2, none⟩) (.slice vL.A vL.l.length vL.c) nb (kset (q := ⟨gx, 1, none⟩) (.int .i64 vU) nb (kset (q := ⟨gx, 0, none⟩) (.int .i64 vT) nb G2))) (kset (q := ⟨gx, 2, none⟩) (.slice vL.A vL.l.length vL.c) na (kset (q := ⟨gx, 1, none⟩) (.int .i64 vU) na (kset (q := ⟨gx, 0, none⟩) (.int .i64 vT) na GA)))))
  refine And.intro ?_ ?_
  · first
    | exact hHeld
    | exact fun _ => hHeld
  refine qtq 13 ?_
  simp only [qsa, qsb, qsc]
  clear hHeld G0 G1 G2 GA
  refine wpAnyT_done (by kernel_rfl) ?_ _
  obtain ⟨w4, hw4⟩ : ∃ z, z = ((X.setCell ⟨gx, 0, none⟩ (.int .i64 vT)).setCell ⟨gx, 1, none⟩ (.int .i64 vU)).setCell ⟨gx, 2, none⟩ (.slice vL.A vL.l.length vL.c) := ⟨_, rfl⟩
  rw [← hw4]
  have XX : Hid (Blk w4 gx 66 #[.int .i64 vT, .int .i64 vU, .slice vL.A vL.l.length vL.c]) := Lib.hid (by rw [hw4]; simpa using (((B_x.out.set_ 0 (.int .i64 vT)).set_ 1 (.int .i64 vU)).set_ 2 (.slice vL.A vL.l.length vL.c)))
  have XA : Hid (Blk w4 w.heap.size 26 #[.int .i64 id, .bool false, .slice H.A H.l.length H.c, .slice N.A N.l.length N.c, .slice S.A S.l.length S.c]) := Lib.hid (by rw [hw4]; exact Blk.farr na (Blk.farr na (Blk.farr na B_a.out)))
  have XB : Hid (Blk w4 (w.heap.size + 1) 26 #[.int .i64 0, .bool false, .slice none 0 0, .slice none 0 0, .slice none 0 0]) := Lib.hid (by rw [hw4]; exact Blk.farr nc (Blk.farr nc (Blk.farr nc B_b.out)))
  have hB5 : Below w.heap.size w w4 := by rw [hw4]; exact (by repeat (first | (with_reducible exact hB4) | (with_reducible exact Below.refl _ _) | ((with_reducible refine below_setr ?_ ?_); focus (first | (simp; done) | (simp; omega) | omega)) | ((with_reducible refine below_allocr ?_ ?_); focus (first | (simp; done) | (simp; omega) | omega)) | (with_reducible refine Below.drew ?_) | (with_reducible refine below_drewN ?_ _) | ((with_reducible apply below_via); focus (with_reducible assumption))))
  have hz4 : gx < w4.heap.size := XX.out.lt
  have HVR4 : Hid (sd.2 = 0 → Rd (fun b => w3.heap.size ≤ b ∧ b ≠ gx ∧ b < w4.heap.size) 3 Loan.enc w4 vL) := Lib.hid (fun h0 => by
    rw [hw4]
    have := HVR.out h0
    simp only [World.size_setCell]
    exact Rd.setfarr (by simp) (Rd.setfarr (by simp) (Rd.setfarr (by simp) this)))
  clear hw4 a0 a1 a2 a3 a4 af b0 b1 b2 b3 b4 bf x0 x1 x2 xf B_a B_b B_x HVR hbX hB4
  obtain ⟨a0, a1, a2, a3, a4, af, az9⟩ := XA.out.b5
  obtain ⟨b0, b1, b2, b3, b4, bf, bz9⟩ := XB.out.b5
  obtain ⟨x0, x1, x2, xf, xz9⟩ := XX.out.b3
  have hsn : (sd.2 != 0) = false := by have h' := HE.out; (try simp only at h'); (try rw [HSD.out] at h'); simp [h']
  have hs0 : sd.2 = 0 := by simpa using hsn
  have HV4 := Lib.hid (HVR4.out hs0)
  clear hs0 HVR4
  go_wp2_with fail
  refine (rcopied43_rs ⟨id, false, H, N, S⟩ _ (HR.out.later hB5 (Nat.le_refl _)) HF.out).mono ?_
  rintro e w5 ⟨HA', Hc', NA', Nc', SA', Sc', rfl, oH, oN, oS, aHN, aHS, aNS, hnnA, hb6⟩
  have HNNA := Lib.hid hnnA
  clear hnnA
  have hsl2 : S.l.length = 12 := Phone.sle HF.out
  clear a0 a1 a2 a3 a4 af b0 b1 b2 b3 b4 bf x0 x1 x2 xf hsl2
  have K_a : Blk _ (w.heap.size) 26 #[.int .i64 id, .bool false, .slice H.A H.l.length H.c, .slice N.A N.l.length N.c, .slice S.A S.l.length S.c] := qkc XA hb6
  obtain ⟨a0, a1, a2, a3, a4, af, az⟩ := Blk.b5 K_a
  have B_a := Lib.hid K_a
  clear K_a
  have K_b : Blk _ (w.heap.size + 1) 26 #[.int .i64 0, .bool false, .slice none 0 0, .slice none 0 0, .slice none 0 0] := qkc XB hb6
  obtain ⟨b0, b1, b2, b3, b4, bf, bz⟩ := Blk.b5 K_b
  have B_b := Lib.hid K_b
  clear K_b
  have K_x : Blk _ (gx) 66 #[.int .i64 vT, .int .i64 vU, .slice vL.A vL.l.length vL.c] := qkc XX hb6
  obtain ⟨x0, x1, x2, xf, xz⟩ := Blk.b3 K_x
  have B_x := Lib.hid K_x
  clear K_x
  have hB6 : Below w.heap.size w w5 := (by repeat (first | (with_reducible exact hB5) | (with_reducible exact Below.refl _ _) | ((with_reducible refine below_setr ?_ ?_); focus (first | (simp; done) | (simp; omega) | omega)) | ((with_reducible refine below_allocr ?_ ?_); focus (first | (simp; done) | (simp; omega) | omega)) | (with_reducible refine Below.drew ?_) | (with_reducible refine below_drewN ?_ _) | ((with_reducible apply below_via); focus (with_reducible assumption))))
  have hz5 : w4.heap.size ≤ w5.heap.size := hb6.size
  have HV5 : Hid (Rd (fun b => w3.heap.size ≤ b ∧ b ≠ gx ∧ b < w4.heap.size) 3 Loan.enc w5 vL) := Lib.hid (HV4.out.keep fun b hb => hb6.block b hb.2.2)
  have HAP := Lib.hid (And.intro aHN (And.intro aHS aNS))
  clear hb6 aHN aHS aNS
  have HOH := Lib.hid oH
  have HON := Lib.hid oN
  have HOS := Lib.hid oS
  clear oH oN oS
  simp only [Phone.v]
  go_wp2_with fail
  obtain ⟨wp0, hwq⟩ : ∃ z, z = w5.alloc (.cells #[.int .i64 id, .bool false, .slice HA' H.l.length Hc', .slice NA' N.l.length Nc', .slice SA' S.l.length Sc'] 26) := ⟨_, rfl⟩
  rw [← hwq]
  have YA : Hid (Blk wp0 w.heap.size 26 #[.int .i64 id, .bool false, .slice H.A H.l.length H.c, .slice N.A N.l.length N.c, .slice S.A S.l.length S.c]) := Lib.hid (by rw [hwq]; exact B_a.out.alloc _)
  have YB : Hid (Blk wp0 (w.heap.size + 1) 26 #[.int .i64 0, .bool false, .slice none 0 0, .slice none 0 0, .slice none 0 0]) := Lib.hid (by rw [hwq]; exact B_b.out.alloc _)
  have YX : Hid (Blk wp0 gx 66 #[.int .i64 vT, .int .i64 vU, .slice vL.A vL.l.length vL.c]) := Lib.hid (by rw [hwq]; exact B_x.out.alloc _)
  have YD : Hid (Blk wp0 w5.heap.size 26 #[.int .i64 id, .bool false, .slice HA' H.l.length Hc', .slice NA' N.l.length Nc', .slice SA' S.l.length Sc']) := Lib.hid (by rw [hwq]; exact Blk.new _ _ _)
  have PH : Hid (Own w4.heap.size 59 3 Hold.enc wp0 ⟨HA', Hc', H.l⟩) := Lib.hid (by rw [hwq]; exact HOH.out.alloc _)
  have PN : Hid (Own w4.heap.size 61 5 Note.enc wp0 ⟨NA', Nc', N.l⟩) := Lib.hid (by rw [hwq]; exact HON.out.alloc _)
  have PS : Hid (Own w4.heap.size 3 1 ienc wp0 ⟨SA', Sc', S.l⟩) := Lib.hid (by rw [hwq]; exact HOS.out.alloc _)
  have PV : Hid (Rd (fun b => w3.heap.size ≤ b ∧ b ≠ gx ∧ b < w4.heap.size) 3 Loan.enc wp0 vL) := Lib.hid (by rw [hwq]; exact HV5.out.keep fun b hb => Below.heap_alloc _ _ b (by omega))
  have hBp : Below w.heap.size w wp0 := by rw [hwq]; exact (by repeat (first | (with_reducible exact hB6) | (with_reducible exact Below.refl _ _) | ((with_reducible refine below_setr ?_ ?_); focus (first | (simp; done) | (simp; omega) | omega)) | ((with_reducible refine below_allocr ?_ ?_); focus (first | (simp; done) | (simp; omega) | omega)) | (with_reducible refine Below.drew ?_) | (with_reducible refine below_drewN ?_ _) | ((with_reducible apply below_via); focus (with_reducible assumption))))
  have hzp : w5.heap.size < wp0.heap.size := YD.out.lt
  have QUN : Hid (∀ q, NA' = some ⟨q, 0, none⟩ → q < w5.heap.size) := Lib.hid HON.out.bound
  have QUS : Hid (∀ q, SA' = some ⟨q, 0, none⟩ → q < w5.heap.size) := Lib.hid HOS.out.bound
  clear hwq HOH HON HOS HV5 a0 a1 a2 a3 a4 af b0 b1 b2 b3 b4 bf x0 x1 x2 xf B_a B_b B_x
  obtain ⟨a0, a1, a2, a3, a4, af, azp⟩ := YA.out.b5
  obtain ⟨b0, b1, b2, b3, b4, bf, bzp⟩ := YB.out.b5
  obtain ⟨x0, x1, x2, xf, xzp⟩ := YX.out.b3
  obtain ⟨d0, d1, d2, d3, d4, df, dzp⟩ := YD.out.b5
  go_loop [11] (fun v => ∃ k : Nat, k ≤ i ∧ v = .int .i64 k) (fun v => i - (intOf v).toNat)
  case atStart => exact ⟨0, by omega, rfl⟩
  case round =>
    obtain ⟨k, hk, rfl⟩ := hrel
    by_cases hki : k < i
    · have hkl : k < H.l.length := by omega
      obtain ⟨bq, oq, rfl, hbq, hcq⟩ := (PH.out.rd Hold.k).at1 (i := k) hkl
      obtain ⟨g0, g1, g2⟩ := Cells.c3 hcq
      have hlt : H.l[k].st < (j : Int) := (hidx_spec HSO.out (List.getElem?_eq_getElem hkl)).1 (by rw [HI.out]; exact hki)
      try simp only at g0
      generalize H.l[k].st = st at *
      have hkl1 : (k : Int) < (H.l.length : Int) := by omega
      clear hcq g1 g2
      go_wp2_with fail
      go_round
      case rel => exact ⟨k + 1, by omega, by go_num⟩
      case measure => simp [intOf]; omega
    · have hik : i = k := by omega
      subst hik
      clear hki hk
      have hHc : H.l.length ≤ Hc' := PH.out.lecap2
      have hm1 : H.l.length ≤ maxLen := by simp only [maxLen]; omega
      by_cases hkl : i < H.l.length
      · obtain ⟨bq, oq, hA, hbq, hcq⟩ := (PH.out.rd Hold.k).at1 (i := i) hkl
        obtain ⟨g, rfl⟩ : ∃ g, HA' = some ⟨g, 0, none⟩ := by
          rcases PH.out.form with ⟨h0, _⟩ | ⟨g, h0, _⟩
          · simp only at h0 hA; rw [h0] at hA; cases hA
          · exact ⟨g, h0⟩
        simp only [Option.some.injEq, Addr.mk.injEq, and_true] at hA
        obtain ⟨rfl, rfl⟩ := hA
        obtain ⟨g0, g1, g2⟩ := Cells.c3 hcq
        have hge : (j : Int) ≤ H.l[i].st := by
          have := (hidx_spec HSO.out (p := (j : Int)) (List.getElem?_eq_getElem hkl))
          rw [HI.out] at this
          omega
        try simp only [Nat.zero_add] at g0
        generalize H.l[i].st = st at *
        have hkl1 : (i : Int) < (H.l.length : Int) := by omega
        clear hcq g1 g2
        go_wp2_with fail
        clear g0
        have hic : i ≤ Hc' := by omega
        have hq0 : (0 : Int) ≤ (i : Int) := by omega
        have hq1 : (i : Int) ≤ (H.l.length : Int) := by omega
        obtain ⟨A9, hA9⟩ : ∃ A, (if Hc' = i then some (⟨g, 0, none⟩ : Addr) else some ⟨g, i * 3, none⟩) = A := ⟨_, rfl⟩
        obtain ⟨C9, hC9⟩ : ∃ c, c = Hc' - i := ⟨_, rfl⟩
        have HRP := (PH.out.rd Hold.k).mono (G := fun b => b < wp0.heap.size) (fun b hb => hb.2)
        have HS1 : Hid (Rd (· < wp0.heap.size) 3 Hold.enc wp0 ⟨some ⟨g, 0, none⟩, Hc', H.l.take i⟩) := Lib.hid (HRP.take_ i)
        have HS2 : Hid (Rd (· < wp0.heap.size) 3 Hold.enc wp0 ⟨A9, Hc' - i, H.l.drop i⟩) := Lib.hid (HRP.drop_ hil (by simpa using hA9))
        have HA9 := Lib.hid hA9
        have hl1 : (H.l.take i).length = i := by rw [List.length_take]; omega
        have hl2 : (H.l.drop i).length = H.l.length - i := by rw [List.length_drop]
        obtain ⟨l1, e1⟩ : ∃ l, l = H.l.take i := ⟨_, rfl⟩
        obtain ⟨l2, e2⟩ : ∃ l, l = H.l.drop i := ⟨_, rfl⟩
        rw [← e1] at HS1 hl1
        rw [← e2] at HS2 hl2
        have HE1 : Hid (Value.slice (some ⟨g, 0, none⟩) i Hc' = Value.slice (some ⟨g, 0, none⟩) l1.length Hc') := Lib.hid (by rw [hl1])
        have HE2 : Hid (Value.slice A9 (H.l.length - i) (Hc' - i) = Value.slice A9 l2.length (Hc' - i)) := Lib.hid (by rw [hl2])
        have HM1 : Hid (([] : List Hold).length + l1.length ≤ maxLen) := Lib.hid (by rw [hl1]; simp only [maxLen, List.length_nil]; omega)
        have HM2 : Hid ((([] : List Hold).length + l1.length) * 24 ≤ 140737488355328) := Lib.hid (by rw [hl1]; simp only [List.length_nil]; omega)
        have HQ1 := Lib.hid e1
        have HQ2 := Lib.hid e2
        have HM3 : Hid (l1.length + ([(⟨j, 0, 0⟩ : Hold)]).length ≤ maxLen) := Lib.hid (by rw [hl1]; simp only [maxLen, List.length_cons, List.length_nil]; omega)
        have HM4 : Hid ((l1.length + ([(⟨j, 0, 0⟩ : Hold)]).length) * 24 ≤ 140737488355328) := Lib.hid (by rw [hl1]; simp only [List.length_cons, List.length_nil]; omega)
        have HM5 : Hid (100 ≤ maxLen) := Lib.hid (by decide)
        have HLE := Lib.hid hl1
        have hs12 : l1.length + l2.length ≤ 99 := by omega
        clear e1 e2 hl1 hl2 HRP hC9
        refine wp_region_T (fun w' => w'.cell? ⟨w5.heap.size, 2, none⟩ = some (.slice ((some ⟨g, 0, none⟩)) H.l.length Hc')) (fun i => 15 ≤ i) (by kernel_rfl) d2 (fun hHeld => ?_)
        refine qtq 1 ?_
        simp only [qsa, qsb, qsc]
        refine qtq 2 ?_
        simp only [qsa, qsb, qsc]
        refine qtq 3 ?_
        simp only [qsa, qsb, qsc]
        refine qtq 4 ?_
        simp only [qsa, qsb, qsc]
        refine qtq 6 ?_
        simp only [qsa, qsb, qsc]
        refine qtq 7 ?_
        simp only [qsa, qsb, qsc]
        refine qtq 10 ?_
        simp only [qsa, qsb, qsc]
        refine qtq 11 ?_
        simp only [qsa, qsb, qsc]
        refine qtq 12 ?_
        simp only [qsa, qsb, qsc]
        refine qtq 13 ?_
        simp only [qsa, qsb, qsc]
        clear hHeld
        apply cutT
        intro fin0
        have FIN := Lib.hid fin0
        clear fin0
        refine wpAnyT_two (i := 0) (j := 8) (by kernel_rfl) rfl rfl ?_ ?_
        · go_wp2_with fail
          try simp only [QT]
          have hb1 : Below wp0.heap.size wp0 (wp0.alloc (.cells #[] 59)).drew := Below.drew (Below.alloc (Below.refl _ _) (Nat.le_refl _) _)
          have h2d := keep_cell hb1 d2
          refine And.intro ?_ ?_
          · first
            | exact h2d
            | exact fun _ => h2d
          refine wpAnyT_two (i := 5) (j := 8) (by kernel_rfl) rfl rfl ?_ ?_
          · skip
            refine wpl_append_sl (base := wp0.heap.size) _ rfl (.tmp 91) (.tmp 95) _ rfl Try.underlying22 infoRHold (by omega) Hold.k Hold.one ⟨some ⟨wp0.heap.size, 0, none⟩, 0, []⟩ ⟨(some ⟨g, 0, none⟩), Hc', l1⟩ rfl HE1.out (Own.lit0 Hold.k (by rfl) (by simp)) (HS1.out.below' hb1 (Nat.le_refl _)) HM1.out HM2.out (by first | exact Nat.le_refl _ | (simp; done) | (simp; omega)) ?_
            intro A5 c5 w6 hown6 hg6 hat6
            simp only [List.nil_append] at hown6
            have hb2 : Below wp0.heap.size wp0 w6 := Below.grown hb1 hg6 (by simp) (by simp [Value.ownBlock])
            have hz6 : wp0.heap.size ≤ w6.heap.size := hb2.size
            have HUB := Lib.hid hown6.bound
            have HOW6 := Lib.hid hown6
            clear hg6 hat6 hown6 h2d
            have h2d := keep_cell hb2 d2
            go_wp2_with fail
            try simp only [QT]
            refine And.intro ?_ ?_
            · first
              | exact h2d
              | exact fun _ => h2d
            refine wpAnyT_next (i := 8) (by kernel_rfl) rfl ?_
            go_wp2_with fail
            try simp only [QT]
            have hn : ∀ W, W = w6.alloc (.cells #[.int .i64 j, .int .i64 0, .int .i64 0] 59) → ∀ g8, g8 = w6.heap.size → Below wp0.heap.size wp0 W ∧ Own wp0.heap.size 59 3 Hold.enc W ⟨A5, c5, l1⟩ ∧ Blk W g8 59 #[.int .i64 j, .int .i64 0, .int .i64 0] ∧ wp0.heap.size ≤ g8 ∧ (∀ q, A5 = some ⟨q, 0, none⟩ → q ≠ g8) := by
              rintro _ rfl _ rfl
              exact ⟨hb2.alloc hz6 _, HOW6.out.alloc _, Blk.new _ _ _, hz6, fun q h => Nat.ne_of_lt (HUB.out q h)⟩
            obtain ⟨W, hW⟩ : ∃ W, W = w6.alloc (.cells #[.int .i64 j, .int .i64 0, .int .i64 0] 59) := ⟨_, rfl⟩
            obtain ⟨g8, hg8⟩ : ∃ g, g = w6.heap.size := ⟨_, rfl⟩
            have hn2 := hn W hW g8 hg8
            rw [← hW, ← hg8]
            clear hn hW hg8 hb2 hz6 HUB HOW6 h2d hb1
            have h2e := keep_cell hn2.1 d2
            refine And.intro ?_ ?_
            · first
              | exact h2e
              | exact fun _ => h2e
            clear h2e
            obtain ⟨g0, hg0⟩ : ∃ g, g = wp0.heap.size := ⟨_, rfl⟩
            rw [← hg0]
            clear hg0
            refine wpAnyT_relist (l' := #[true, true, true, true, true, true, true, true, true, false, true, true, true, true, false, false, false]) (by kernel_rfl) ?_
            revert hn2
            revert W
            revert c5
            revert A5
            revert g8
            revert g0
            exact FIN.out
          · go_wp2_with fail
            try simp only [QT]
            have hb2 : Below wp0.heap.size wp0 ((wp0.alloc (.cells #[] 59)).alloc (.cells #[.int .i64 j, .int .i64 0, .int .i64 0] 59)).drew := Below.drew (Below.alloc (Below.alloc (Below.refl _ _) (Nat.le_refl _) _) (by first | omega | (simp; done) | (simp; omega)) _)
            have HBL : Hid (Blk ((wp0.alloc (.cells #[] 59)).alloc (.cells #[.int .i64 j, .int .i64 0, .int .i64 0] 59)).drew (wp0.heap.size + 1) 59 #[.int .i64 j, .int .i64 0, .int .i64 0]) := Lib.hid (Blk.new' (by simp))
            clear h2d hb1
            have h2d := keep_cell hb2 d2
            refine And.intro ?_ ?_
            · first
              | exact h2d
              | exact fun _ => h2d
            clear h2d
            refine wpAnyT_next (i := 5) (by kernel_rfl) rfl ?_
            refine wpl_append_sl (base := wp0.heap.size) _ rfl (.tmp 91) (.tmp 95) _ rfl Try.underlying22 infoRHold (by omega) Hold.k Hold.one ⟨some ⟨wp0.heap.size, 0, none⟩, 0, []⟩ ⟨(some ⟨g, 0, none⟩), Hc', l1⟩ rfl HE1.out ((Own.lit0 Hold.k (by rfl) (by simp)).alloc _) (HS1.out.below' hb2 (Nat.le_refl _)) HM1.out HM2.out (by first | exact Nat.le_refl _ | (simp; done) | (simp; omega)) ?_
            intro A5 c5 w6 hown6 hg6 hat6
            simp only [List.nil_append] at hown6
            have hn : ∀ g8, g8 = wp0.heap.size + 1 → Below wp0.heap.size wp0 w6 ∧ Own wp0.heap.size 59 3 Hold.enc w6 ⟨A5, c5, l1⟩ ∧ Blk w6 g8 59 #[.int .i64 j, .int .i64 0, .int .i64 0] ∧ wp0.heap.size ≤ g8 ∧ (∀ q, A5 = some ⟨q, 0, none⟩ → q ≠ g8) := by
              rintro _ rfl
              refine ⟨Below.grown hb2 hg6 (by first | (simp; done) | (simp; omega)) (by simp [Value.ownBlock]), hown6, blk_grown hg6 HBL.out.eq (by simp [Value.ownBlock]), by omega, fun q h => ?_⟩
              rcases hat6 with h' | h'
              · rw [h] at h'; simp at h'; omega
              · rw [h] at h'; simp at h'; omega
            obtain ⟨g8, hg8⟩ : ∃ g, g = wp0.heap.size + 1 := ⟨_, rfl⟩
            have hn2 := hn g8 hg8
            obtain ⟨W, hW⟩ : ∃ W, W = w6 := ⟨_, rfl⟩
            rw [← hW] at hn2
            obtain ⟨g0, hg0⟩ : ∃ g, g = wp0.heap.size := ⟨_, rfl⟩
            rw [← hg8, ← hg0]
            rw [← hW]
            clear hn hg6 hown6 hat6 hg8 hW hb2 HBL hg0
            go_wp2_with fail
            try simp only [QT]
            have h2e := keep_cell hn2.1 d2
            refine And.intro ?_ ?_
            · first
              | exact h2e
              | exact fun _ => h2e
            clear h2e
            refine wpAnyT_relist (l' := #[true, true, true, true, true, true, true, true, true, false, true, true, true, true, false, false, false]) (by kernel_rfl) ?_
            revert hn2
            revert W
            revert c5
            revert A5
            revert g8
            revert g0
            exact FIN.out
        · go_wp2_with fail
          try simp only [QT]
          have hb1 : Below wp0.heap.size wp0 (wp0.alloc (.cells #[.int .i64 j, .int .i64 0, .int .i64 0] 59)).drew := Below.drew (Below.alloc (Below.refl _ _) (Nat.le_refl _) _)
          have h2d := keep_cell hb1 d2
          refine And.intro ?_ ?_
          · first
            | exact h2d
            | exact fun _ => h2d
          clear h2d hb1
          refine wpAnyT_next (i := 0) (by kernel_rfl) rfl ?_
          go_wp2_with fail
          try simp only [QT]
          have hb2 : Below wp0.heap.size wp0 ((wp0.alloc (.cells #[.int .i64 j, .int .i64 0, .int .i64 0] 59)).alloc (.cells #[] 59)).drew := Below.drew (Below.alloc (Below.alloc (Below.refl _ _) (Nat.le_refl _) _) (by first | omega | (simp; done) | (simp; omega)) _)
          have HBL : Hid (Blk ((wp0.alloc (.cells #[.int .i64 j, .int .i64 0, .int .i64 0] 59)).alloc (.cells #[] 59)).drew wp0.heap.size 59 #[.int .i64 j, .int .i64 0, .int .i64 0]) := Lib.hid ((Blk.new _ _ _).alloc _)
          have h2d := keep_cell hb2 d2
          refine And.intro ?_ ?_
          · first
            | exact h2d
            | exact fun _ => h2d
          clear h2d
          refine wpAnyT_next (i := 5) (by kernel_rfl) rfl ?_
          refine wpl_append_sl (base := wp0.heap.size) _ rfl (.tmp 91) (.tmp 95) _ rfl Try.underlying22 infoRHold (by omega) Hold.k Hold.one ⟨some ⟨wp0.heap.size + 1, 0, none⟩, 0, []⟩ ⟨(some ⟨g, 0, none⟩), Hc', l1⟩ rfl HE1.out (Own.lit0 Hold.k (by simp) (by simp)) (HS1.out.below' hb2 (Nat.le_refl _)) HM1.out HM2.out (by first | exact Nat.le_refl _ | (simp; done) | (simp; omega)) ?_
          intro A5 c5 w6 hown6 hg6 hat6
          simp only [List.nil_append] at hown6
          have hn : ∀ g8, g8 = wp0.heap.size → Below wp0.heap.size wp0 w6 ∧ Own wp0.heap.size 59 3 Hold.enc w6 ⟨A5, c5, l1⟩ ∧ Blk w6 g8 59 #[.int .i64 j, .int .i64 0, .int .i64 0] ∧ wp0.heap.size ≤ g8 ∧ (∀ q, A5 = some ⟨q, 0, none⟩ → q ≠ g8) := by
            rintro _ rfl
            refine ⟨Below.grown hb2 hg6 (by first | (simp; done) | (simp; omega)) (by simp [Value.ownBlock]), hown6, blk_grown hg6 HBL.out.eq (by simp [Value.ownBlock]), by omega, fun q h => ?_⟩
            rcases hat6 with h' | h'
            · rw [h] at h'; simp at h'; omega
            · rw [h] at h'; simp at h'; omega
          obtain ⟨g8, hg8⟩ : ∃ g, g = wp0.heap.size := ⟨_, rfl⟩
          have hn2 := hn g8 hg8
          obtain ⟨W, hW⟩ : ∃ W, W = w6 := ⟨_, rfl⟩
          rw [← hW] at hn2
          obtain ⟨g0, hg0⟩ : ∃ g, g = wp0.heap.size + 1 := ⟨_, rfl⟩
          rw [← hg0, ← hg8]
          rw [← hW]
          clear hn hg6 hown6 hat6 hg8 hW hb2 HBL hg0
          go_wp2_with fail
          try simp only [QT]
          have h2e := keep_cell hn2.1 d2
          refine And.intro ?_ ?_
          · first
            | exact h2e
            | exact fun _ => h2e
          clear h2e
          refine wpAnyT_relist (l' := #[true, true, true, true, true, true, true, true, true, false, true, true, true, true, false, false, false]) (by kernel_rfl) ?_
          revert hn2
          revert W
          revert c5
          revert A5
          revert g8
          revert g0
          exact FIN.out
        intro g0 g8 A5 c5 W hn2
        obtain ⟨hbW, hoW, hblW, hg8, hneW⟩ := hn2
        have hzW : wp0.heap.size ≤ W.heap.size := hbW.size
        have HOW := Lib.hid hoW
        have HBW := Lib.hid hblW
        have HNW := Lib.hid hneW
        clear hoW hblW hneW
        refine wpAnyT_next (i := 9) (by kernel_rfl) rfl ?_
        refine wpl_append_sl (base := wp0.heap.size) _ rfl (.tmp 96) (.tmp 99) _ rfl Try.underlying22 infoRHold (by omega) Hold.k Hold.one ⟨A5, c5, l1⟩ ⟨some ⟨g8, 0, none⟩, 1, [⟨j, 0, 0⟩]⟩ rfl rfl HOW.out (Rd.of_blk (⟨j, 0, 0⟩ : Hold) HBW.out rfl) HM3.out HM4.out hzW ?_
        intro A6 c6 v6 hown6 hg6 hat6
        have hb6 : Below wp0.heap.size wp0 v6 := Below.grown hbW hg6 hzW (fun q hq => by
          rcases HOW.out.form with ⟨h0, _⟩ | ⟨g', h0, h1, _⟩
          · simp only at h0; rw [h0] at hq; simp [Value.ownBlock] at hq
          · simp only at h0; rw [h0] at hq; simp [Value.ownBlock] at hq; omega)
        obtain ⟨lq, hlq⟩ : ∃ l, l = l1 ++ [(⟨j, 0, 0⟩ : Hold)] := ⟨_, rfl⟩
        rw [← hlq] at hown6
        have hlq2 : lq.length = l1.length + 1 := by rw [hlq]; simp
        have HLQ := Lib.hid hlq
        have HLQ2 := Lib.hid hlq2
        have HO6 := Lib.hid hown6
        clear hg6 hat6 hown6 hlq hlq2
        go_wp2_with fail
        rw [← HLQ2.out]
        have h2d := keep_cell hb6 d2
        refine And.intro ?_ ?_
        · first
          | exact h2d
          | exact fun _ => h2d
        clear h2d
        refine wpAnyT_next (i := 14) (by kernel_rfl) rfl ?_
        refine wpl_append_sl (base := wp0.heap.size) _ rfl (.tmp 100) (.tmp 104) _ rfl Try.underlying22 infoRHold (by omega) Hold.k Hold.one ⟨A6, c6, lq⟩ ⟨A9, Hc' - i, l2⟩ rfl HE2.out HO6.out (HS2.out.below' hb6 (Nat.le_refl _)) (by have := HLQ2.out; exact Nat.le_trans (by omega : lq.length + l2.length ≤ 100) HM5.out) (by have := HLQ2.out; exact (by omega : (lq.length + l2.length) * 24 ≤ 140737488355328)) hb6.size ?_
        intro A7 c7 v7 hown7 hg7 hat7
        have hb7 : Below wp0.heap.size wp0 v7 := Below.grown hb6 hg7 hb6.size (fun q hq => by
          rcases HO6.out.form with ⟨h0, _⟩ | ⟨g', h0, h1, _⟩
          · simp only at h0; rw [h0] at hq; simp [Value.ownBlock] at hq
          · simp only at h0; rw [h0] at hq; simp [Value.ownBlock] at hq; omega)
        obtain ⟨LI, hli⟩ : ∃ l, l = lq ++ l2 := ⟨_, rfl⟩
        rw [← hli] at hown7
        have hli2 : LI.length = lq.length + l2.length := by rw [hli]; simp
        have HLI := Lib.hid hli
        have HLI2 := Lib.hid hli2
        have HO7 := Lib.hid hown7
        clear hg7 hat7 hown7 hli hli2
        go_wp2_with fail
        rw [← HLI2.out]
        have h2d := keep_cell hb7 d2
        refine And.intro ?_ ?_
        · first
          | exact h2d
          | exact fun _ => h2d
        clear h2d
        refine wpAnyT_next (i := 15) (by kernel_rfl) rfl ?_
        go_wp2_with fail
        try simp only [QT]
        try (with_reducible refine And.intro (fun h => by simp at h) ?_)
        have h2d := keep_cell hb7 d2
        have hfrz := keep_frozen hb7 d2 (df 2)
        refine wpAnyT_next (i := 16) (by kernel_rfl) rfl ?_
        go_wp2_with fail
        try simp only [QT]
        try (with_reducible refine And.intro (fun h => by simp at h) ?_)
        refine wpAnyT_done (by kernel_rfl) ?_ _
        have hQI : LI[i]? = some ⟨j, 0, 0⟩ := by
          have h1 := HLE.out
          rw [HLI.out, HLQ.out, List.append_assoc, List.getElem?_append_right (by omega), h1, Nat.sub_self]
          rfl
        obtain ⟨g, hgA⟩ : ∃ g, A7 = some ⟨g, 0, none⟩ := by
          rcases HO7.out.form with ⟨_, _, h0⟩ | ⟨g, h0, _⟩
          · simp only at h0; rw [h0] at hQI; simp at hQI
          · exact ⟨g, h0⟩
        subst hgA
        have HQX0 := Lib.hid hQI
        have hgl0 : wp0.heap.size ≤ g := HO7.out.lo g rfl
        have hgu0 : g < v7.heap.size := HO7.out.bound g rfl
        obtain ⟨wq, hwq⟩ : ∃ z, z = v7.setCell ⟨w5.heap.size, 2, none⟩ (.slice (some ⟨g, 0, none⟩) LI.length c7) := ⟨_, rfl⟩
        rw [← hwq]
        have p1 : w.heap.size ≠ w5.heap.size := by omega
        have p2 : w.heap.size + 1 ≠ w5.heap.size := by omega
        have p3 : gx ≠ w5.heap.size := by omega
        have p4 : g ≠ w5.heap.size := by omega
        have VA : Hid (Blk wq w.heap.size 26 #[.int .i64 id, .bool false, .slice H.A H.l.length H.c, .slice N.A N.l.length N.c, .slice S.A S.l.length S.c]) := Lib.hid (by rw [hwq]; exact Blk.farr p1 (YA.out.later hb7))
        have VB : Hid (Blk wq (w.heap.size + 1) 26 #[.int .i64 0, .bool false, .slice none 0 0, .slice none 0 0, .slice none 0 0]) := Lib.hid (by rw [hwq]; exact Blk.farr p2 (YB.out.later hb7))
        have VX : Hid (Blk wq gx 66 #[.int .i64 vT, .int .i64 vU, .slice vL.A vL.l.length vL.c]) := Lib.hid (by rw [hwq]; exact Blk.farr p3 (YX.out.later hb7))
        have VD : Hid (Blk wq w5.heap.size 26 #[.int .i64 id, .bool false, .slice (some ⟨g, 0, none⟩) LI.length c7, .slice NA' N.l.length Nc', .slice SA' S.l.length Sc']) := Lib.hid (by rw [hwq]; simpa using (YD.out.later hb7).set_ 2 (.slice (some ⟨g, 0, none⟩) LI.length c7))
        have QH : Hid (Own w4.heap.size 59 3 Hold.enc wq ⟨some ⟨g, 0, none⟩, c7, LI⟩) := Lib.hid (by rw [hwq]; exact (HO7.out.other (a := ⟨w5.heap.size, 2, none⟩) (fun q h => by injection h with h; injection h with h; exact h ▸ p4) _).mono (by omega))
        have QN : Hid (Own w4.heap.size 61 5 Note.enc wq ⟨NA', Nc', N.l⟩) := Lib.hid (by rw [hwq]; exact (PN.out.below hb7).other (a := ⟨w5.heap.size, 2, none⟩) (fun q h => Nat.ne_of_lt (QUN.out q h)) _)
        have QS : Hid (Own w4.heap.size 3 1 ienc wq ⟨SA', Sc', S.l⟩) := Lib.hid (by rw [hwq]; exact (PS.out.below hb7).other (a := ⟨w5.heap.size, 2, none⟩) (fun q h => Nat.ne_of_lt (QUS.out q h)) _)
        have QV : Hid (Rd (fun b => w3.heap.size ≤ b ∧ b ≠ gx ∧ b < w4.heap.size) 3 Loan.enc wq vL) := Lib.hid (by rw [hwq]; exact (PV.out.keep fun b hb => hb7.block b (by omega)).setfar (p := ⟨w5.heap.size, 2, none⟩) (by simp; omega) _)
        have hBq : Below w.heap.size w wq := by rw [hwq]; exact below_setr (by simp; omega) (below_via hb7 hBp)
        have hzv : wq.heap.size = v7.heap.size := by rw [hwq]; exact World.size_setCell _ _ _
        have hz7 : wp0.heap.size ≤ v7.heap.size := hb7.size
        have hzq : w5.heap.size < wq.heap.size := by omega
        have QGN : Hid (∀ q, NA' = some ⟨q, 0, none⟩ → q ≠ g) := Lib.hid (fun q h => by have := QUN.out q h; omega)
        have QGS : Hid (∀ q, SA' = some ⟨q, 0, none⟩ → q ≠ g) := Lib.hid (fun q h => by have := QUS.out q h; omega)
        have hgD : g ≠ w5.heap.size := p4
        have hgl2 : w4.heap.size ≤ g := by omega
        have hgq : g < wq.heap.size := by omega
        have HLL : Hid (LI = H.l.take i ++ ⟨j, 0, 0⟩ :: H.l.drop i) := Lib.hid (by rw [HLI.out, HLQ.out, HQ1.out, HQ2.out]; simp)
        obtain ⟨hx, hhx⟩ : ∃ hx : Hold, hx = ⟨j, 0, 0⟩ := ⟨_, rfl⟩
        have HQX : Hid (LI[i]? = some hx) := Lib.hid (by rw [hhx]; exact HQX0.out)
        have HXX := Lib.hid hhx
        have hxu0 : 0 ≤ hx.u := by rw [hhx]; exact Int.le_refl _
        have hxu1 : hx.u ≤ 0 := by rw [hhx]; exact Int.le_refl _
        clear hwq hQI hhx hzv HQX0 h2d hfrz a0 a1 a2 a3 a4 af b0 b1 b2 b3 b4 bf x0 x1 x2 xf d0 d1 d2 d3 d4 df YA YB YX YD PN PS PV HO7 HO6 HOW HBW HNW HLI HLI2 HLQ HLQ2 hb6 hb7 hbW HS1 HS2 HE1 HE2 HM1 HM2 HM3 HM4 HM5 HLE
        have YA := VA
        have YB := VB
        have YX := VX
        have YD := VD
        clear VA VB VX VD
        go_wp2_with fail
        obtain ⟨a0, a1, a2, a3, a4, af, azq⟩ := YA.out.b5
        obtain ⟨b0, b1, b2, b3, b4, bf, bzq⟩ := YB.out.b5
        obtain ⟨x0, x1, x2, xf, xzq⟩ := YX.out.b3
        obtain ⟨d0, d1, d2, d3, d4, df, dzq⟩ := YD.out.b5
        have hqi := (List.getElem?_eq_some_iff.1 HQX.out).1
        obtain ⟨_, hg, _, _, hcl, gf⟩ := QH.out.atk Hold.k (i := i) (x := hx) HQX.out
        simp only [Option.some.injEq, Addr.mk.injEq, and_true] at hg
        subst hg
        obtain ⟨g0, g1, g2⟩ := Cells.c3 hcl
        clear hcl
        have hq1 : (i : Int) < (((LI).length : Nat) : Int) := by omega
        have hq0 : (0 : Int) ≤ (i : Int) := by omega
        have hws : IntKind.i64.wrap (hx.u + n) = hx.u + n := by rw [IntKind.wrap_i64]; omega
        have e1 : w.heap.size ≠ g := by omega
        have e2 : w.heap.size + 1 ≠ g := by omega
        have e3 : gx ≠ g := by omega
        have e4 : w5.heap.size ≠ g := by omega
        refine wp_region_T (fun w' => w'.cell? ⟨w5.heap.size, 2, none⟩ = some (.slice (some ⟨g, 0, none⟩) (LI).length c7) ∧ w'.cell? ⟨g, i * 3 + 1, none⟩ = some (.int .i64 hx.u)) (fun i => 11 ≤ i) (by kernel_rfl) ⟨d2, g1⟩ (fun hHeld => ?_)
        refine qtq 0 ?_
        simp only [qsa, qsb, qsc]
        refine qtq 1 ?_
        simp only [qsa, qsb, qsc]
        refine qtq 2 ?_
        simp only [qsa, qsb, qsc]
        refine qtq 3 ?_
        simp only [qsa, qsb, qsc]
        refine qtq 4 ?_
        simp only [qsa, qsb, qsc]
        refine qtq 5 ?_
        simp only [qsa, qsb, qsc]
        refine qtq 6 ?_
        simp only [qsa, qsb, qsc]
        refine qtq 7 ?_
        simp only [qsa, qsb, qsc]
        refine qtq 8 ?_
        simp only [qsa, qsb, qsc]
        refine qtq 9 ?_
        simp only [qsa, qsb, qsc]
        refine qtq 10 ?_
        simp only [qsa, qsb, qsc]
        clear hHeld
        refine wpAnyT_next (i := 11) (by kernel_rfl) rfl ?_
        go_wp2_with fail
        try simp only [QT]
        try (with_reducible refine And.intro (fun h => by simp at h) ?_)
        refine wpAnyT_next (i := 12) (by kernel_rfl) rfl ?_
        go_wp2_with fail
        try simp only [QT]
        try (with_reducible refine And.intro (fun h => by simp at h) ?_)
        refine wpAnyT_next (i := 13) (by kernel_rfl) rfl ?_
        go_wp2_with fail
        try simp only [QT]
        try (with_reducible refine And.intro (fun h => by simp at h) ?_)
        refine wpAnyT_done (by kernel_rfl) ?_ _
        obtain ⟨w6, hw6⟩ : ∃ z, z = (wq.setCell ⟨g, i * 3 + 1, none⟩ (.int .i64 (hx.u + n))).drew := ⟨_, rfl⟩
        try rw [← hw6]
        have ZA : Hid (Blk w6 w.heap.size 26 #[.int .i64 id, .bool false, .slice H.A H.l.length H.c, .slice N.A N.l.length N.c, .slice S.A S.l.length S.c]) := Lib.hid (by rw [hw6]; exact YA.out.far (p := ⟨g, i * 3 + 1, none⟩) e1 _)
        have ZB : Hid (Blk w6 (w.heap.size + 1) 26 #[.int .i64 0, .bool false, .slice none 0 0, .slice none 0 0, .slice none 0 0]) := Lib.hid (by rw [hw6]; exact YB.out.far (p := ⟨g, i * 3 + 1, none⟩) e2 _)
        have ZX : Hid (Blk w6 gx 66 #[.int .i64 vT, .int .i64 vU, .slice vL.A vL.l.length vL.c]) := Lib.hid (by rw [hw6]; exact YX.out.far (p := ⟨g, i * 3 + 1, none⟩) e3 _)
        have ZD : Hid (Blk w6 w5.heap.size 26 #[.int .i64 id, .bool false, .slice (some ⟨g, 0, none⟩) (LI).length c7, .slice NA' N.l.length Nc', .slice SA' S.l.length Sc']) := Lib.hid (by rw [hw6]; exact YD.out.far (p := ⟨g, i * 3 + 1, none⟩) e4 _)
        have RH : Hid (Own w4.heap.size 59 3 Hold.enc w6 ⟨some ⟨g, 0, none⟩, c7, (LI).set i { hx with u := hx.u + n }⟩) := Lib.hid (by rw [hw6]; exact (QH.out.set Hold.k rfl HQX.out (j := 1) (y := { hx with u := hx.u + n }) (u := .int .i64 (hx.u + n)) (by omega) rfl).drew)
        have RN : Hid (Own w4.heap.size 61 5 Note.enc w6 ⟨NA', Nc', N.l⟩) := Lib.hid (by rw [hw6]; exact (QN.out.other (a := ⟨g, i * 3 + 1, none⟩) QGN.out (.int .i64 (hx.u + n))).drew)
        have RS : Hid (Own w4.heap.size 3 1 ienc w6 ⟨SA', Sc', S.l⟩) := Lib.hid (by rw [hw6]; exact (QS.out.other (a := ⟨g, i * 3 + 1, none⟩) QGS.out (.int .i64 (hx.u + n))).drew)
        have RV : Hid (Rd (fun b => w3.heap.size ≤ b ∧ b ≠ gx ∧ b < w4.heap.size) 3 Loan.enc w6 vL) := Lib.hid (by rw [hw6]; exact (QV.out.setfar (p := ⟨g, i * 3 + 1, none⟩) (by simp; omega) (.int .i64 (hx.u + n))))
        have hB7 : Below w.heap.size w w6 := by rw [hw6]; exact (by repeat (first | (with_reducible exact hBq) | (with_reducible exact Below.refl _ _) | ((with_reducible refine below_setr ?_ ?_); focus (first | (simp; done) | (simp; omega) | omega)) | ((with_reducible refine below_allocr ?_ ?_); focus (first | (simp; done) | (simp; omega) | omega)) | (with_reducible refine Below.drew ?_) | (with_reducible refine below_drewN ?_ _) | ((with_reducible apply below_via); focus (with_reducible assumption))))
        have hz6 : wq.heap.size ≤ w6.heap.size := by rw [hw6]; exact Nat.le_of_eq (World.size_setCell _ _ _).symm
        clear hw6 QH QN QS QV YA YB YX YD a0 a1 a2 a3 a4 af b0 b1 b2 b3 b4 bf x0 x1 x2 xf d0 d1 d2 d3 d4 df g0 g1 g2 gf hBq
        obtain ⟨a0, a1, a2, a3, a4, af, az6⟩ := ZA.out.b5
        obtain ⟨b0, b1, b2, b3, b4, bf, bz6⟩ := ZB.out.b5
        obtain ⟨x0, x1, x2, xf, xz6⟩ := ZX.out.b3
        obtain ⟨d0, d1, d2, d3, d4, df, dz6⟩ := ZD.out.b5
        go_wp2_with (at_builtin
                     go_must (refine wpl_append_sl (base := w6.heap.size) _ rfl (.tmp 120) (.tmp 121) _ rfl Try.underlying27 infoStock (by omega) Stock.k Stock.one ⟨some ⟨w6.heap.size, 0, none⟩, 0, []⟩ ⟨some ⟨bb, oo, none⟩, sc, sl⟩ rfl rfl (Own.lit0 Stock.k (by first | rfl | simp) (by simp)) (HS.out.1.below' (by repeat (first | (with_reducible exact hB7) | (with_reducible exact Below.refl _ _) | ((with_reducible refine below_setr ?_ ?_); focus (first | (simp; done) | (simp; omega) | omega)) | ((with_reducible refine below_allocr ?_ ?_); focus (first | (simp; done) | (simp; omega) | omega)) | (with_reducible refine Below.drew ?_) | (with_reducible refine below_drewN ?_ _) | ((with_reducible apply below_via); focus (with_reducible assumption)))) (Nat.le_refl _)) (by have := HS.out.1.len; simp [maxLen] at this ⊢; omega) (by simp; omega) (by simp) ?_)
                     intro oA oc w7 hown7 hg7 hat7
                     apply Hid.out)
        refine Lib.hid ?_
        simp only [List.nil_append] at hown7
        clear a0 a1 a2 a3 a4 af b0 b1 b2 b3 b4 bf x0 x1 x2 xf d0 d1 d2 d3 d4 df
        have f1 : w6.heap.size ≠ w.heap.size := by omega
        have f2 : w6.heap.size ≠ w.heap.size + 1 := by omega
        have f3 : w6.heap.size ≠ gx := by omega
        have f4 : w6.heap.size ≠ w5.heap.size := by omega
        have K_a : Blk _ (w.heap.size) 26 #[.int .i64 id, .bool false, .slice H.A H.l.length H.c, .slice N.A N.l.length N.c, .slice S.A S.l.length S.c] := blk_grown hg7 (by simp [hp_past, hp_at, hp_other, hp_same, hp_drew, hp_drewN, ZA.out.eq, ZA.out.lt, hp_same ZA.out.eq]) (by simp [Value.ownBlock, f1])
        obtain ⟨a0, a1, a2, a3, a4, af, az⟩ := Blk.b5 K_a
        have B_a := Lib.hid K_a
        clear K_a
        have K_b : Blk _ (w.heap.size + 1) 26 #[.int .i64 0, .bool false, .slice none 0 0, .slice none 0 0, .slice none 0 0] := blk_grown hg7 (by simp [hp_past, hp_at, hp_other, hp_same, hp_drew, hp_drewN, ZB.out.eq, ZB.out.lt, hp_same ZB.out.eq]) (by simp [Value.ownBlock, f2])
        obtain ⟨b0, b1, b2, b3, b4, bf, bz⟩ := Blk.b5 K_b
        have B_b := Lib.hid K_b
        clear K_b
        have K_x : Blk _ (gx) 66 #[.int .i64 vT, .int .i64 vU, .slice vL.A vL.l.length vL.c] := blk_grown hg7 (by simp [hp_past, hp_at, hp_other, hp_same, hp_drew, hp_drewN, ZX.out.eq, ZX.out.lt, hp_same ZX.out.eq]) (by simp [Value.ownBlock, f3])
        obtain ⟨x0, x1, x2, xf, xz⟩ := Blk.b3 K_x
        have B_x := Lib.hid K_x
        clear K_x
        have K_d : Blk _ (w5.heap.size) 26 #[.int .i64 id, .bool false, .slice (some ⟨g, 0, none⟩) (LI).length c7, .slice NA' N.l.length Nc', .slice SA' S.l.length Sc'] := blk_grown hg7 (by simp [hp_past, hp_at, hp_other, hp_same, hp_drew, hp_drewN, ZD.out.eq, ZD.out.lt, hp_same ZD.out.eq]) (by simp [Value.ownBlock, f4])
        obtain ⟨d0, d1, d2, d3, d4, df, dz⟩ := Blk.b5 K_d
        have B_d := Lib.hid K_d
        clear K_d
        have hB8 : Below w.heap.size w w7 := Below.grown (by repeat (first | (with_reducible exact hB7) | (with_reducible exact Below.refl _ _) | ((with_reducible refine below_setr ?_ ?_); focus (first | (simp; done) | (simp; omega) | omega)) | ((with_reducible refine below_allocr ?_ ?_); focus (first | (simp; done) | (simp; omega) | omega)) | (with_reducible refine Below.drew ?_) | (with_reducible refine below_drewN ?_ _) | ((with_reducible apply below_via); focus (with_reducible assumption)))) hg7 (by first | omega | (simp; done) | (simp; omega)) (by simp [Value.ownBlock]; omega)
        have hz7 : w6.heap.size + 1 ≤ w7.heap.size := by have := hg7.size; simpa using this
        have hkp : ∀ b, b < w6.heap.size → w7.heap[b]? = w6.heap[b]? := fun b hb => (hg7.block b (by simp; omega) (by simp [Value.ownBlock]; omega)).trans (Below.heap_alloc _ _ b hb)
        have hlu : ∀ q, oA = some ⟨q, 0, none⟩ → w6.heap.size ≤ q := hown7.lo
        have SH : Hid (Rd (fun b => w4.heap.size ≤ b ∧ b < w5.heap.size ∨ b = g) 3 Hold.enc w7 ⟨some ⟨g, 0, none⟩, c7, (LI).set i { hx with u := hx.u + n }⟩) := Lib.hid (by
          refine Rd.mono ((RH.out.rdP Hold.k (P := fun b => b = g) (fun q h => by injection h with h; injection h with h; exact h.symm)).keep fun b hb => hkp b hb.2.2) (fun b hb => .inr hb.2.1))
        have SN : Hid (Rd (fun b => w4.heap.size ≤ b ∧ b < w5.heap.size) 5 Note.enc w7 ⟨NA', Nc', N.l⟩) := Lib.hid (by
          refine Rd.mono ((RN.out.rdP Note.k (P := fun b => b < w5.heap.size) QUN.out).keep fun b hb => hkp b hb.2.2) (fun b hb => ⟨hb.1, hb.2.1⟩))
        have SS : Hid (Rd (fun b => w4.heap.size ≤ b ∧ b < w5.heap.size) 1 ienc w7 ⟨SA', Sc', S.l⟩) := Lib.hid (by
          refine Rd.mono ((RS.out.rdP ienc_k (P := fun b => b < w5.heap.size) QUS.out).keep fun b hb => hkp b hb.2.2) (fun b hb => ⟨hb.1, hb.2.1⟩))
        have SV : Hid (Rd (fun b => w3.heap.size ≤ b ∧ b ≠ gx ∧ b < w4.heap.size) 3 Loan.enc w7 vL) := Lib.hid (RV.out.keep fun b hb => hkp b (by omega))
        have SO := Lib.hid hown7
        have SLU := Lib.hid hlu
        clear hg7 hown7 hat7 RH RN RS RV hkp hlu
        obtain ⟨gO, hgO, hgOl, hgOu, hclO, gOf⟩ := SO.out.atk Stock.k (i := j) (x := ⟨xT, xU, xL⟩) HX.out
        simp only at hgO
        subst hgO
        obtain ⟨k0, k1, k2⟩ := Cells.c3 hclO
        clear hclO
        have hgOl2 : w6.heap.size ≤ gO := hgOl
        have n1 : w.heap.size ≠ gO := by omega
        have n2 : w.heap.size + 1 ≠ gO := by omega
        have n3 : gx ≠ gO := by omega
        have n4 : w5.heap.size ≠ gO := by omega
        have n5 : gO ≠ w.heap.size + 1 := by omega
        go_wp2_with fail
        have SO3 := Lib.hid (SO.out.set3 (x := ⟨xT, xU, xL⟩) HX.out ⟨vT, vU, vL⟩)
        have HPD : Hid (Phone.d ⟨id, false, ⟨some ⟨g, 0, none⟩, c7, LI.set i { hx with u := hx.u + n }⟩, ⟨NA', Nc', N.l⟩, ⟨SA', Sc', S.l⟩⟩ = { Phone.d ⟨id, false, H, N, S⟩ with H := H.l.take i ++ ⟨j, n, 0⟩ :: H.l.drop i }) := Lib.hid (by
          simp only [Phone.d, PhoneD.mk.injEq, true_and, and_true]
          rw [HLL.out, set_ins hil, HXX.out]
          simp)
        have TP : Hid (RdPhone (fun b => b < B ∨ (w.heap.size + 2 ≤ b ∧ b ≠ gO ∧ b < w7.heap.size)) w7 ⟨id, false, ⟨some ⟨g, 0, none⟩, c7, (LI).set i { hx with u := hx.u + n }⟩, ⟨NA', Nc', N.l⟩, ⟨SA', Sc', S.l⟩⟩) := Lib.hid (by
          refine ⟨SH.out.mono fun b hb => ?_, ⟨SN.out.mono fun b hb => by omega, fun y hy => ?_⟩, SS.out.mono fun b hb => by omega⟩
          · rcases hb with hb | hb
            · omega
            · omega
          · exact ((HFN.out y hy).keep fun b hb => hB8.block b (by omega)).mono fun b hb => .inl hb)
        have TS : Hid (RdStocks (fun b => b < B ∨ (w.heap.size + 2 ≤ b ∧ b < w7.heap.size)) (((w7.setCell ⟨gO, j * 3, none⟩ (.int .i64 vT)).setCell ⟨gO, j * 3 + 1, none⟩ (.int .i64 vU)).setCell ⟨gO, j * 3 + 2, none⟩ (.slice vL.A vL.l.length vL.c)) ⟨some ⟨gO, 0, none⟩, oc, sl.set j ⟨vT, vU, vL⟩⟩) := Lib.hid (by
          refine ⟨(SO3.out.rd Stock.k).mono fun b hb => .inr ⟨by have := hb.1; omega, by have := hb.2; simpa using this⟩, fun y hy => ?_⟩
          rcases List.mem_or_eq_of_mem_set hy with hy | hy
          · have h1 := (HGS.out y hy).keep fun b hb => hB8.block b (by omega)
            exact (Rd.setfarr (by simp; omega) (Rd.setfarr (by simp; omega) (Rd.setfarr (by simp; omega) h1))).mono fun b hb => .inl hb
          · subst hy
            exact (Rd.setfarr (by simp; omega) (Rd.setfarr (by simp; omega) (Rd.setfarr (by simp; omega) SV.out))).mono fun b hb => .inr ⟨by omega, by omega⟩)
        have TM : Hid ((sl.set j ⟨vT, vU, vL⟩).map Stock.d = (sl.map Stock.d).set j (StockD.lend (Stock.d ⟨xT, xU, xL⟩) id n).1) := Lib.hid (by rw [List.map_set, HVD.out, HSD.out])
        have TL : Hid ((sl.set j (⟨vT, vU, vL⟩ : Stock)).length = sl.length) := Lib.hid (by simp)
        have TL2 : Hid (((LI).set i { hx with u := hx.u + n }).length = (LI).length) := Lib.hid (by simp)
        try simp only [Exit.inBlock, Exit.then]
        refine bodyPost_ret (v := .tuple #[.agg #[.int .i64 id, .bool false, .slice (some ⟨g, 0, none⟩) (LI).length c7, .slice NA' N.l.length Nc', .slice SA' S.l.length Sc'], .slice (some ⟨gO, 0, none⟩) sl.length oc, .int .i64 0]) ?_ rfl ⟨⟨id, false, ⟨some ⟨g, 0, none⟩, c7, (LI).set i { hx with u := hx.u + n }⟩, ⟨NA', Nc', N.l⟩, ⟨SA', Sc', S.l⟩⟩, ⟨some ⟨gO, 0, none⟩, oc, sl.set j ⟨vT, vU, vL⟩⟩, by simp only [Phone.v, TL.out, TL2.out], HPD.out, TM.out, ?_, ?_, (by repeat (first | (with_reducible exact hB8) | (with_reducible exact Below.refl _ _) | ((with_reducible refine below_setr ?_ ?_); focus (first | (simp; done) | (simp; omega) | omega)) | ((with_reducible refine below_allocr ?_ ?_); focus (first | (simp; done) | (simp; omega) | omega)) | (with_reducible refine Below.drew ?_) | (with_reducible refine below_drewN ?_ _) | ((with_reducible apply below_via); focus (with_reducible assumption))))⟩
        simp [results, Try.results22, go_sem, a0, a1, a2, a3, a4, af, b0, b1, b2, b3, b4, bf, x0, x1, x2, xf, d0, d1, d2, d3, d4, df, az, bz, dz]
        · refine RdPhone.mono (F := fun b => b < B ∨ (w.heap.size + 2 ≤ b ∧ b ≠ gO ∧ b < w7.heap.size)) ?_ (fun b hb => by simp; omega)
          repeat (first | (with_reducible exact TP.out) | ((with_reducible refine RdPhone.setr ?_ ?_); focus (first | (simp; done) | (simp; omega))))
        · refine RdStocks.mono (F := fun b => b < B ∨ (w.heap.size + 2 ≤ b ∧ b < w7.heap.size)) ?_ (fun b hb => by simp; omega)
          repeat (first | (with_reducible exact TS.out) | ((with_reducible refine RdStocks.setr ?_ ?_); focus (first | (simp; done) | (simp; omega))))
      · have hkl1 : (H.l.length : Int) ≤ (i : Int) := by omega
        rcases PH.out.form with ⟨h0, h1, h2⟩ | ⟨g, h0, h1, h2, h3, h4⟩
        · simp only at h0 h1 h2
          subst h0
          exact absurd rfl HNNA.out
        · simp only at h0 h1 h2
          subst h0
          go_wp2_with fail
          have hic : i ≤ Hc' := by omega
          have hq0 : (0 : Int) ≤ (i : Int) := by omega
          have hq1 : (i : Int) ≤ (H.l.length : Int) := by omega
          obtain ⟨A9, hA9⟩ : ∃ A, (if Hc' = i then some (⟨g, 0, none⟩ : Addr) else some ⟨g, i * 3, none⟩) = A := ⟨_, rfl⟩
          obtain ⟨C9, hC9⟩ : ∃ c, c = Hc' - i := ⟨_, rfl⟩
          have HRP := (PH.out.rd Hold.k).mono (G := fun b => b < wp0.heap.size) (fun b hb => hb.2)
          have HS1 : Hid (Rd (· < wp0.heap.size) 3 Hold.enc wp0 ⟨some ⟨g, 0, none⟩, Hc', H.l.take i⟩) := Lib.hid (HRP.take_ i)
          have HS2 : Hid (Rd (· < wp0.heap.size) 3 Hold.enc wp0 ⟨A9, Hc' - i, H.l.drop i⟩) := Lib.hid (HRP.drop_ hil (by simpa using hA9))
          have HA9 := Lib.hid hA9
          have hl1 : (H.l.take i).length = i := by rw [List.length_take]; omega
          have hl2 : (H.l.drop i).length = H.l.length - i := by rw [List.length_drop]
          obtain ⟨l1, e1⟩ : ∃ l, l = H.l.take i := ⟨_, rfl⟩
          obtain ⟨l2, e2⟩ : ∃ l, l = H.l.drop i := ⟨_, rfl⟩
          rw [← e1] at HS1 hl1
          rw [← e2] at HS2 hl2
          have HE1 : Hid (Value.slice (some ⟨g, 0, none⟩) i Hc' = Value.slice (some ⟨g, 0, none⟩) l1.length Hc') := Lib.hid (by rw [hl1])
          have HE2 : Hid (Value.slice A9 (H.l.length - i) (Hc' - i) = Value.slice A9 l2.length (Hc' - i)) := Lib.hid (by rw [hl2])
          have HM1 : Hid (([] : List Hold).length + l1.length ≤ maxLen) := Lib.hid (by rw [hl1]; simp only [maxLen, List.length_nil]; omega)
          have HM2 : Hid ((([] : List Hold).length + l1.length) * 24 ≤ 140737488355328) := Lib.hid (by rw [hl1]; simp only [List.length_nil]; omega)
          have HQ1 := Lib.hid e1
          have HQ2 := Lib.hid e2
          have HM3 : Hid (l1.length + ([(⟨j, 0, 0⟩ : Hold)]).length ≤ maxLen) := Lib.hid (by rw [hl1]; simp only [maxLen, List.length_cons, List.length_nil]; omega)
          have HM4 : Hid ((l1.length + ([(⟨j, 0, 0⟩ : Hold)]).length) * 24 ≤ 140737488355328) := Lib.hid (by rw [hl1]; simp only [List.length_cons, List.length_nil]; omega)
          have HM5 : Hid (100 ≤ maxLen) := Lib.hid (by decide)
          have HLE := Lib.hid hl1
          have hs12 : l1.length + l2.length ≤ 99 := by omega
          clear e1 e2 hl1 hl2 HRP hC9
          refine wp_region_T (fun w' => w'.cell? ⟨w5.heap.size, 2, none⟩ = some (.slice ((some ⟨g, 0, none⟩)) H.l.length Hc')) (fun i => 15 ≤ i) (by kernel_rfl) d2 (fun hHeld => ?_)
          refine qtq 1 ?_
          simp only [qsa, qsb, qsc]
          refine qtq 2 ?_
          simp only [qsa, qsb, qsc]
          refine qtq 3 ?_
          simp only [qsa, qsb, qsc]
          refine qtq 4 ?_
          simp only [qsa, qsb, qsc]
          refine qtq 6 ?_
          simp only [qsa, qsb, qsc]
          refine qtq 7 ?_
          simp only [qsa, qsb, qsc]
          refine qtq 10 ?_
          simp only [qsa, qsb, qsc]
          refine qtq 11 ?_
          simp only [qsa, qsb, qsc]
          refine qtq 12 ?_
          simp only [qsa, qsb, qsc]
          refine qtq 13 ?_
          simp only [qsa, qsb, qsc]
          clear hHeld
          apply cutT
          intro fin0
          have FIN := Lib.hid fin0
          clear fin0
          refine wpAnyT_two (i := 0) (j := 8) (by kernel_rfl) rfl rfl ?_ ?_
          · go_wp2_with fail
            try simp only [QT]
            have hb1 : Below wp0.heap.size wp0 (wp0.alloc (.cells #[] 59)).drew := Below.drew (Below.alloc (Below.refl _ _) (Nat.le_refl _) _)
            have h2d := keep_cell hb1 d2
            refine And.intro ?_ ?_
            · first
              | exact h2d
              | exact fun _ => h2d
            refine wpAnyT_two (i := 5) (j := 8) (by kernel_rfl) rfl rfl ?_ ?_
            · skip
              refine wpl_append_sl (base := wp0.heap.size) _ rfl (.tmp 91) (.tmp 95) _ rfl Try.underlying22 infoRHold (by omega) Hold.k Hold.one ⟨some ⟨wp0.heap.size, 0, none⟩, 0, []⟩ ⟨(some ⟨g, 0, none⟩), Hc', l1⟩ rfl HE1.out (Own.lit0 Hold.k (by rfl) (by simp)) (HS1.out.below' hb1 (Nat.le_refl _)) HM1.out HM2.out (by first | exact Nat.le_refl _ | (simp; done) | (simp; omega)) ?_
              intro A5 c5 w6 hown6 hg6 hat6
              simp only [List.nil_append] at hown6
              have hb2 : Below wp0.heap.size wp0 w6 := Below.grown hb1 hg6 (by simp) (by simp [Value.ownBlock])
              have hz6 : wp0.heap.size ≤ w6.heap.size := hb2.size
              have HUB := Lib.hid hown6.bound
              have HOW6 := Lib.hid hown6
              clear hg6 hat6 hown6 h2d
              have h2d := keep_cell hb2 d2
              go_wp2_with fail
              try simp only [QT]
              refine And.intro ?_ ?_
              · first
                | exact h2d
                | exact fun _ => h2d
              refine wpAnyT_next (i := 8) (by kernel_rfl) rfl ?_
              go_wp2_with fail
              try simp only [QT]
              have hn : ∀ W, W = w6.alloc (.cells #[.int .i64 j, .int .i64 0, .int .i64 0] 59) → ∀ g8, g8 = w6.heap.size → Below wp0.heap.size wp0 W ∧ Own wp0.heap.size 59 3 Hold.enc W ⟨A5, c5, l1⟩ ∧ Blk W g8 59 #[.int .i64 j, .int .i64 0, .int .i64 0] ∧ wp0.heap.size ≤ g8 ∧ (∀ q, A5 = some ⟨q, 0, none⟩ → q ≠ g8) := by
                rintro _ rfl _ rfl
                exact ⟨hb2.alloc hz6 _, HOW6.out.alloc _, Blk.new _ _ _, hz6, fun q h => Nat.ne_of_lt (HUB.out q h)⟩
              obtain ⟨W, hW⟩ : ∃ W, W = w6.alloc (.cells #[.int .i64 j, .int .i64 0, .int .i64 0] 59) := ⟨_, rfl⟩
              obtain ⟨g8, hg8⟩ : ∃ g, g = w6.heap.size := ⟨_, rfl⟩
              have hn2 := hn W hW g8 hg8
              rw [← hW, ← hg8]
              clear hn hW hg8 hb2 hz6 HUB HOW6 h2d hb1
              have h2e := keep_cell hn2.1 d2
              refine And.intro ?_ ?_
              · first
                | exact h2e
                | exact fun _ => h2e
              clear h2e
              obtain ⟨g0, hg0⟩ : ∃ g, g = wp0.heap.size := ⟨_, rfl⟩
              rw [← hg0]
              clear hg0
              refine wpAnyT_relist (l' := #[true, true, true, true, true, true, true, true, true, false, true, true, true, true, false, false, false]) (by kernel_rfl) ?_
              revert hn2
              revert W
              revert c5
              revert A5
              revert g8
              revert g0
              exact FIN.out
            · go_wp2_with fail
              try simp only [QT]
              have hb2 : Below wp0.heap.size wp0 ((wp0.alloc (.cells #[] 59)).alloc (.cells #[.int .i64 j, .int .i64 0, .int .i64 0] 59)).drew := Below.drew (Below.alloc (Below.alloc (Below.refl _ _) (Nat.le_refl _) _) (by first | omega | (simp; done) | (simp; omega)) _)
              have HBL : Hid (Blk ((wp0.alloc (.cells #[] 59)).alloc (.cells #[.int .i64 j, .int .i64 0, .int .i64 0] 59)).drew (wp0.heap.size + 1) 59 #[.int .i64 j, .int .i64 0, .int .i64 0]) := Lib.hid (Blk.new' (by simp))
              clear h2d hb1
              have h2d := keep_cell hb2 d2
              refine And.intro ?_ ?_
              · first
                | exact h2d
                | exact fun _ => h2d
              clear h2d
              refine wpAnyT_next (i := 5) (by kernel_rfl) rfl ?_
              refine wpl_append_sl (base := wp0.heap.size) _ rfl (.tmp 91) (.tmp 95) _ rfl Try.underlying22 infoRHold (by omega) Hold.k Hold.one ⟨some ⟨wp0.heap.size, 0, none⟩, 0, []⟩ ⟨(some ⟨g, 0, none⟩), Hc', l1⟩ rfl HE1.out ((Own.lit0 Hold.k (by rfl) (by simp)).alloc _) (HS1.out.below' hb2 (Nat.le_refl _)) HM1.out HM2.out (by first | exact Nat.le_refl _ | (simp; done) | (simp; omega)) ?_
              intro A5 c5 w6 hown6 hg6 hat6
              simp only [List.nil_append] at hown6
              have hn : ∀ g8, g8 = wp0.heap.size + 1 → Below wp0.heap.size wp0 w6 ∧ Own wp0.heap.size 59 3 Hold.enc w6 ⟨A5, c5, l1⟩ ∧ Blk w6 g8 59 #[.int .i64 j, .int .i64 0, .int .i64 0] ∧ wp0.heap.size ≤ g8 ∧ (∀ q, A5 = some ⟨q, 0, none⟩ → q ≠ g8) := by
                rintro _ rfl
                refine ⟨Below.grown hb2 hg6 (by first | (simp; done) | (simp; omega)) (by simp [Value.ownBlock]), hown6, blk_grown hg6 HBL.out.eq (by simp [Value.ownBlock]), by omega, fun q h => ?_⟩
                rcases hat6 with h' | h'
                · rw [h] at h'; simp at h'; omega
                · rw [h] at h'; simp at h'; omega
              obtain ⟨g8, hg8⟩ : ∃ g, g = wp0.heap.size + 1 := ⟨_, rfl⟩
              have hn2 := hn g8 hg8
              obtain ⟨W, hW⟩ : ∃ W, W = w6 := ⟨_, rfl⟩
              rw [← hW] at hn2
              obtain ⟨g0, hg0⟩ : ∃ g, g = wp0.heap.size := ⟨_, rfl⟩
              rw [← hg8, ← hg0]
              rw [← hW]
              clear hn hg6 hown6 hat6 hg8 hW hb2 HBL hg0
              go_wp2_with fail
              try simp only [QT]
              have h2e := keep_cell hn2.1 d2
              refine And.intro ?_ ?_
              · first
                | exact h2e
                | exact fun _ => h2e
              clear h2e
              refine wpAnyT_relist (l' := #[true, true, true, true, true, true, true, true, true, false, true, true, true, true, false, false, false]) (by kernel_rfl) ?_
              revert hn2
              revert W
              revert c5
              revert A5
              revert g8
              revert g0
              exact FIN.out
          · go_wp2_with fail
            try simp only [QT]
            have hb1 : Below wp0.heap.size wp0 (wp0.alloc (.cells #[.int .i64 j, .int .i64 0, .int .i64 0] 59)).drew := Below.drew (Below.alloc (Below.refl _ _) (Nat.le_refl _) _)
            have h2d := keep_cell hb1 d2
            refine And.intro ?_ ?_
            · first
              | exact h2d
              | exact fun _ => h2d
            clear h2d hb1
            refine wpAnyT_next (i := 0) (by kernel_rfl) rfl ?_
            go_wp2_with fail
            try simp only [QT]
            have hb2 : Below wp0.heap.size wp0 ((wp0.alloc (.cells #[.int .i64 j, .int .i64 0, .int .i64 0] 59)).alloc (.cells #[] 59)).drew := Below.drew (Below.alloc (Below.alloc (Below.refl _ _) (Nat.le_refl _) _) (by first | omega | (simp; done) | (simp; omega)) _)
            have HBL : Hid (Blk ((wp0.alloc (.cells #[.int .i64 j, .int .i64 0, .int .i64 0] 59)).alloc (.cells #[] 59)).drew wp0.heap.size 59 #[.int .i64 j, .int .i64 0, .int .i64 0]) := Lib.hid ((Blk.new _ _ _).alloc _)
            have h2d := keep_cell hb2 d2
            refine And.intro ?_ ?_
            · first
              | exact h2d
              | exact fun _ => h2d
            clear h2d
            refine wpAnyT_next (i := 5) (by kernel_rfl) rfl ?_
            refine wpl_append_sl (base := wp0.heap.size) _ rfl (.tmp 91) (.tmp 95) _ rfl Try.underlying22 infoRHold (by omega) Hold.k Hold.one ⟨some ⟨wp0.heap.size + 1, 0, none⟩, 0, []⟩ ⟨(some ⟨g, 0, none⟩), Hc', l1⟩ rfl HE1.out (Own.lit0 Hold.k (by simp) (by simp)) (HS1.out.below' hb2 (Nat.le_refl _)) HM1.out HM2.out (by first | exact Nat.le_refl _ | (simp; done) | (simp; omega)) ?_
            intro A5 c5 w6 hown6 hg6 hat6
            simp only [List.nil_append] at hown6
            have hn : ∀ g8, g8 = wp0.heap.size → Below wp0.heap.size wp0 w6 ∧ Own wp0.heap.size 59 3 Hold.enc w6 ⟨A5, c5, l1⟩ ∧ Blk w6 g8 59 #[.int .i64 j, .int .i64 0, .int .i64 0] ∧ wp0.heap.size ≤ g8 ∧ (∀ q, A5 = some ⟨q, 0, none⟩ → q ≠ g8) := by
              rintro _ rfl
              refine ⟨Below.grown hb2 hg6 (by first | (simp; done) | (simp; omega)) (by simp [Value.ownBlock]), hown6, blk_grown hg6 HBL.out.eq (by simp [Value.ownBlock]), by omega, fun q h => ?_⟩
              rcases hat6 with h' | h'
              · rw [h] at h'; simp at h'; omega
              · rw [h] at h'; simp at h'; omega
            obtain ⟨g8, hg8⟩ : ∃ g, g = wp0.heap.size := ⟨_, rfl⟩
            have hn2 := hn g8 hg8
            obtain ⟨W, hW⟩ : ∃ W, W = w6 := ⟨_, rfl⟩
            rw [← hW] at hn2
            obtain ⟨g0, hg0⟩ : ∃ g, g = wp0.heap.size + 1 := ⟨_, rfl⟩
            rw [← hg0, ← hg8]
            rw [← hW]
            clear hn hg6 hown6 hat6 hg8 hW hb2 HBL hg0
            go_wp2_with fail
            try simp only [QT]
            have h2e := keep_cell hn2.1 d2
            refine And.intro ?_ ?_
            · first
              | exact h2e
              | exact fun _ => h2e
            clear h2e
            refine wpAnyT_relist (l' := #[true, true, true, true, true, true, true, true, true, false, true, true, true, true, false, false, false]) (by kernel_rfl) ?_
            revert hn2
            revert W
            revert c5
            revert A5
            revert g8
            revert g0
            exact FIN.out
          intro g0 g8 A5 c5 W hn2
          obtain ⟨hbW, hoW, hblW, hg8, hneW⟩ := hn2
          have hzW : wp0.heap.size ≤ W.heap.size := hbW.size
          have HOW := Lib.hid hoW
          have HBW := Lib.hid hblW
          have HNW := Lib.hid hneW
          clear hoW hblW hneW
          refine wpAnyT_next (i := 9) (by kernel_rfl) rfl ?_
          refine wpl_append_sl (base := wp0.heap.size) _ rfl (.tmp 96) (.tmp 99) _ rfl Try.underlying22 infoRHold (by omega) Hold.k Hold.one ⟨A5, c5, l1⟩ ⟨some ⟨g8, 0, none⟩, 1, [⟨j, 0, 0⟩]⟩ rfl rfl HOW.out (Rd.of_blk (⟨j, 0, 0⟩ : Hold) HBW.out rfl) HM3.out HM4.out hzW ?_
          intro A6 c6 v6 hown6 hg6 hat6
          have hb6 : Below wp0.heap.size wp0 v6 := Below.grown hbW hg6 hzW (fun q hq => by
            rcases HOW.out.form with ⟨h0, _⟩ | ⟨g', h0, h1, _⟩
            · simp only at h0; rw [h0] at hq; simp [Value.ownBlock] at hq
            · simp only at h0; rw [h0] at hq; simp [Value.ownBlock] at hq; omega)
          obtain ⟨lq, hlq⟩ : ∃ l, l = l1 ++ [(⟨j, 0, 0⟩ : Hold)] := ⟨_, rfl⟩
          rw [← hlq] at hown6
          have hlq2 : lq.length = l1.length + 1 := by rw [hlq]; simp
          have HLQ := Lib.hid hlq
          have HLQ2 := Lib.hid hlq2
          have HO6 := Lib.hid hown6
          clear hg6 hat6 hown6 hlq hlq2
          go_wp2_with fail
          rw [← HLQ2.out]
          have h2d := keep_cell hb6 d2
          refine And.intro ?_ ?_
          · first
            | exact h2d
            | exact fun _ => h2d
          clear h2d
          refine wpAnyT_next (i := 14) (by kernel_rfl) rfl ?_
          refine wpl_append_sl (base := wp0.heap.size) _ rfl (.tmp 100) (.tmp 104) _ rfl Try.underlying22 infoRHold (by omega) Hold.k Hold.one ⟨A6, c6, lq⟩ ⟨A9, Hc' - i, l2⟩ rfl HE2.out HO6.out (HS2.out.below' hb6 (Nat.le_refl _)) (by have := HLQ2.out; exact Nat.le_trans (by omega : lq.length + l2.length ≤ 100) HM5.out) (by have := HLQ2.out; exact (by omega : (lq.length + l2.length) * 24 ≤ 140737488355328)) hb6.size ?_
          intro A7 c7 v7 hown7 hg7 hat7
          have hb7 : Below wp0.heap.size wp0 v7 := Below.grown hb6 hg7 hb6.size (fun q hq => by
            rcases HO6.out.form with ⟨h0, _⟩ | ⟨g', h0, h1, _⟩
            · simp only at h0; rw [h0] at hq; simp [Value.ownBlock] at hq
            · simp only at h0; rw [h0] at hq; simp [Value.ownBlock] at hq; omega)
          obtain ⟨LI, hli⟩ : ∃ l, l = lq ++ l2 := ⟨_, rfl⟩
          rw [← hli] at hown7
          have hli2 : LI.length = lq.length + l2.length := by rw [hli]; simp
          have HLI := Lib.hid hli
          have HLI2 := Lib.hid hli2
          have HO7 := Lib.hid hown7
          clear hg7 hat7 hown7 hli hli2
          go_wp2_with fail
          rw [← HLI2.out]
          have h2d := keep_cell hb7 d2
          refine And.intro ?_ ?_
          · first
            | exact h2d
            | exact fun _ => h2d
          clear h2d
          refine wpAnyT_next (i := 15) (by kernel_rfl) rfl ?_
          go_wp2_with fail
          try simp only [QT]
          try (with_reducible refine And.intro (fun h => by simp at h) ?_)
          have h2d := keep_cell hb7 d2
          have hfrz := keep_frozen hb7 d2 (df 2)
          refine wpAnyT_next (i := 16) (by kernel_rfl) rfl ?_
          go_wp2_with fail
          try simp only [QT]
          try (with_reducible refine And.intro (fun h => by simp at h) ?_)
          refine wpAnyT_done (by kernel_rfl) ?_ _
          have hQI : LI[i]? = some ⟨j, 0, 0⟩ := by
            have h1 := HLE.out
            rw [HLI.out, HLQ.out, List.append_assoc, List.getElem?_append_right (by omega), h1, Nat.sub_self]
            rfl
          obtain ⟨g, hgA⟩ : ∃ g, A7 = some ⟨g, 0, none⟩ := by
            rcases HO7.out.form with ⟨_, _, h0⟩ | ⟨g, h0, _⟩
            · simp only at h0; rw [h0] at hQI; simp at hQI
            · exact ⟨g, h0⟩
          subst hgA
          have HQX0 := Lib.hid hQI
          have hgl0 : wp0.heap.size ≤ g := HO7.out.lo g rfl
          have hgu0 : g < v7.heap.size := HO7.out.bound g rfl
          obtain ⟨wq, hwq⟩ : ∃ z, z = v7.setCell ⟨w5.heap.size, 2, none⟩ (.slice (some ⟨g, 0, none⟩) LI.length c7) := ⟨_, rfl⟩
          rw [← hwq]
          have p1 : w.heap.size ≠ w5.heap.size := by omega
          have p2 : w.heap.size + 1 ≠ w5.heap.size := by omega
          have p3 : gx ≠ w5.heap.size := by omega
          have p4 : g ≠ w5.heap.size := by omega
          have VA : Hid (Blk wq w.heap.size 26 #[.int .i64 id, .bool false, .slice H.A H.l.length H.c, .slice N.A N.l.length N.c, .slice S.A S.l.length S.c]) := Lib.hid (by rw [hwq]; exact Blk.farr p1 (YA.out.later hb7))
          have VB : Hid (Blk wq (w.heap.size + 1) 26 #[.int .i64 0, .bool false, .slice none 0 0, .slice none 0 0, .slice none 0 0]) := Lib.hid (by rw [hwq]; exact Blk.farr p2 (YB.out.later hb7))
          have VX : Hid (Blk wq gx 66 #[.int .i64 vT, .int .i64 vU, .slice vL.A vL.l.length vL.c]) := Lib.hid (by rw [hwq]; exact Blk.farr p3 (YX.out.later hb7))
          have VD : Hid (Blk wq w5.heap.size 26 #[.int .i64 id, .bool false, .slice (some ⟨g, 0, none⟩) LI.length c7, .slice NA' N.l.length Nc', .slice SA' S.l.length Sc']) := Lib.hid (by rw [hwq]; simpa using (YD.out.later hb7).set_ 2 (.slice (some ⟨g, 0, none⟩) LI.length c7))
          have QH : Hid (Own w4.heap.size 59 3 Hold.enc wq ⟨some ⟨g, 0, none⟩, c7, LI⟩) := Lib.hid (by rw [hwq]; exact (HO7.out.other (a := ⟨w5.heap.size, 2, none⟩) (fun q h => by injection h with h; injection h with h; exact h ▸ p4) _).mono (by omega))
          have QN : Hid (Own w4.heap.size 61 5 Note.enc wq ⟨NA', Nc', N.l⟩) := Lib.hid (by rw [hwq]; exact (PN.out.below hb7).other (a := ⟨w5.heap.size, 2, none⟩) (fun q h => Nat.ne_of_lt (QUN.out q h)) _)
          have QS : Hid (Own w4.heap.size 3 1 ienc wq ⟨SA', Sc', S.l⟩) := Lib.hid (by rw [hwq]; exact (PS.out.below hb7).other (a := ⟨w5.heap.size, 2, none⟩) (fun q h => Nat.ne_of_lt (QUS.out q h)) _)
          have QV : Hid (Rd (fun b => w3.heap.size ≤ b ∧ b ≠ gx ∧ b < w4.heap.size) 3 Loan.enc wq vL) := Lib.hid (by rw [hwq]; exact (PV.out.keep fun b hb => hb7.block b (by omega)).setfar (p := ⟨w5.heap.size, 2, none⟩) (by simp; omega) _)
          have hBq : Below w.heap.size w wq := by rw [hwq]; exact below_setr (by simp; omega) (below_via hb7 hBp)
          have hzv : wq.heap.size = v7.heap.size := by rw [hwq]; exact World.size_setCell _ _ _
          have hz7 : wp0.heap.size ≤ v7.heap.size := hb7.size
          have hzq : w5.heap.size < wq.heap.size := by omega
          have QGN : Hid (∀ q, NA' = some ⟨q, 0, none⟩ → q ≠ g) := Lib.hid (fun q h => by have := QUN.out q h; omega)
          have QGS : Hid (∀ q, SA' = some ⟨q, 0, none⟩ → q ≠ g) := Lib.hid (fun q h => by have := QUS.out q h; omega)
          have hgD : g ≠ w5.heap.size := p4
          have hgl2 : w4.heap.size ≤ g := by omega
          have hgq : g < wq.heap.size := by omega
          have HLL : Hid (LI = H.l.take i ++ ⟨j, 0, 0⟩ :: H.l.drop i) := Lib.hid (by rw [HLI.out, HLQ.out, HQ1.out, HQ2.out]; simp)
          obtain ⟨hx, hhx⟩ : ∃ hx : Hold, hx = ⟨j, 0, 0⟩ := ⟨_, rfl⟩
          have HQX : Hid (LI[i]? = some hx) := Lib.hid (by rw [hhx]; exact HQX0.out)
          have HXX := Lib.hid hhx
          have hxu0 : 0 ≤ hx.u := by rw [hhx]; exact Int.le_refl _
          have hxu1 : hx.u ≤ 0 := by rw [hhx]; exact Int.le_refl _
          clear hwq hQI hhx hzv HQX0 h2d hfrz a0 a1 a2 a3 a4 af b0 b1 b2 b3 b4 bf x0 x1 x2 xf d0 d1 d2 d3 d4 df YA YB YX YD PN PS PV HO7 HO6 HOW HBW HNW HLI HLI2 HLQ HLQ2 hb6 hb7 hbW HS1 HS2 HE1 HE2 HM1 HM2 HM3 HM4 HM5 HLE
          have YA := VA
          have YB := VB
          have YX := VX
          have YD := VD
          clear VA VB VX VD
          go_wp2_with fail
          obtain ⟨a0, a1, a2, a3, a4, af, azq⟩ := YA.out.b5
          obtain ⟨b0, b1, b2, b3, b4, bf, bzq⟩ := YB.out.b5
          obtain ⟨x0, x1, x2, xf, xzq⟩ := YX.out.b3
          obtain ⟨d0, d1, d2, d3, d4, df, dzq⟩ := YD.out.b5
          have hqi := (List.getElem?_eq_some_iff.1 HQX.out).1
          obtain ⟨_, hg, _, _, hcl, gf⟩ := QH.out.atk Hold.k (i := i) (x := hx) HQX.out
          simp only [Option.some.injEq, Addr.mk.injEq, and_true] at hg
          subst hg
          obtain ⟨g0, g1, g2⟩ := Cells.c3 hcl
          clear hcl
          have hq1 : (i : Int) < (((LI).length : Nat) : Int) := by omega
          have hq0 : (0 : Int) ≤ (i : Int) := by omega
          have hws : IntKind.i64.wrap (hx.u + n) = hx.u + n := by rw [IntKind.wrap_i64]; omega
          have e1 : w.heap.size ≠ g := by omega
          have e2 : w.heap.size + 1 ≠ g := by omega
          have e3 : gx ≠ g := by omega
          have e4 : w5.heap.size ≠ g := by omega
          refine wp_region_T (fun w' => w'.cell? ⟨w5.heap.size, 2, none⟩ = some (.slice (some ⟨g, 0, none⟩) (LI).length c7) ∧ w'.cell? ⟨g, i * 3 + 1, none⟩ = some (.int .i64 hx.u)) (fun i => 11 ≤ i) (by kernel_rfl) ⟨d2, g1⟩ (fun hHeld => ?_)
          refine qtq 0 ?_
          simp only [qsa, qsb, qsc]
          refine qtq 1 ?_
          simp only [qsa, qsb, qsc]
          refine qtq 2 ?_
          simp only [qsa, qsb, qsc]
          refine qtq 3 ?_
          simp only [qsa, qsb, qsc]
          refine qtq 4 ?_
          simp only [qsa, qsb, qsc]
          refine qtq 5 ?_
          simp only [qsa, qsb, qsc]
          refine qtq 6 ?_
          simp only [qsa, qsb, qsc]
          refine qtq 7 ?_
          simp only [qsa, qsb, qsc]
          refine qtq 8 ?_
          simp only [qsa, qsb, qsc]
          refine qtq 9 ?_
          simp only [qsa, qsb, qsc]
          refine qtq 10 ?_
          simp only [qsa, qsb, qsc]
          clear hHeld
          refine wpAnyT_next (i := 11) (by kernel_rfl) rfl ?_
          go_wp2_with fail
          try simp only [QT]
          try (with_reducible refine And.intro (fun h => by simp at h) ?_)
          refine wpAnyT_next (i := 12) (by kernel_rfl) rfl ?_
          go_wp2_with fail
          try simp only [QT]
          try (with_reducible refine And.intro (fun h => by simp at h) ?_)
          refine wpAnyT_next (i := 13) (by kernel_rfl) rfl ?_
          go_wp2_with fail
          try simp only [QT]
          try (with_reducible refine And.intro (fun h => by simp at h) ?_)
          refine wpAnyT_done (by kernel_rfl) ?_ _
          obtain ⟨w6, hw6⟩ : ∃ z, z = (wq.setCell ⟨g, i * 3 + 1, none⟩ (.int .i64 (hx.u + n))).drew := ⟨_, rfl⟩
          try rw [← hw6]
          have ZA : Hid (Blk w6 w.heap.size 26 #[.int .i64 id, .bool false, .slice H.A H.l.length H.c, .slice N.A N.l.length N.c, .slice S.A S.l.length S.c]) := Lib.hid (by rw [hw6]; exact YA.out.far (p := ⟨g, i * 3 + 1, none⟩) e1 _)
          have ZB : Hid (Blk w6 (w.heap.size + 1) 26 #[.int .i64 0, .bool false, .slice none 0 0, .slice none 0 0, .slice none 0 0]) := Lib.hid (by rw [hw6]; exact YB.out.far (p := ⟨g, i * 3 + 1, none⟩) e2 _)
          have ZX : Hid (Blk w6 gx 66 #[.int .i64 vT, .int .i64 vU, .slice vL.A vL.l.length vL.c]) := Lib.hid (by rw [hw6]; exact YX.out.far (p := ⟨g, i * 3 + 1, none⟩) e3 _)
          have ZD : Hid (Blk w6 w5.heap.size 26 #[.int .i64 id, .bool false, .slice (some ⟨g, 0, none⟩) (LI).length c7, .slice NA' N.l.length Nc', .slice SA' S.l.length Sc']) := Lib.hid (by rw [hw6]; exact YD.out.far (p := ⟨g, i * 3 + 1, none⟩) e4 _)
          have RH : Hid (Own w4.heap.size 59 3 Hold.enc w6 ⟨some ⟨g, 0, none⟩, c7, (LI).set i { hx with u := hx.u + n }⟩) := Lib.hid (by rw [hw6]; exact (QH.out.set Hold.k rfl HQX.out (j := 1) (y := { hx with u := hx.u + n }) (u := .int .i64 (hx.u + n)) (by omega) rfl).drew)
          have RN : Hid (Own w4.heap.size 61 5 Note.enc w6 ⟨NA', Nc', N.l⟩) := Lib.hid (by rw [hw6]; exact (QN.out.other (a := ⟨g, i * 3 + 1, none⟩) QGN.out (.int .i64 (hx.u + n))).drew)
          have RS : Hid (Own w4.heap.size 3 1 ienc w6 ⟨SA', Sc', S.l⟩) := Lib.hid (by rw [hw6]; exact (QS.out.other (a := ⟨g, i * 3 + 1, none⟩) QGS.out (.int .i64 (hx.u + n))).drew)
          have RV : Hid (Rd (fun b => w3.heap.size ≤ b ∧ b ≠ gx ∧ b < w4.heap.size) 3 Loan.enc w6 vL) := Lib.hid (by rw [hw6]; exact (QV.out.setfar (p := ⟨g, i * 3 + 1, none⟩) (by simp; omega) (.int .i64 (hx.u + n))))
          have hB7 : Below w.heap.size w w6 := by rw [hw6]; exact (by repeat (first | (with_reducible exact hBq) | (with_reducible exact Below.refl _ _) | ((with_reducible refine below_setr ?_ ?_); focus (first | (simp; done) | (simp; omega) | omega)) | ((with_reducible refine below_allocr ?_ ?_); focus (first | (simp; done) | (simp; omega) | omega)) | (with_reducible refine Below.drew ?_) | (with_reducible refine below_drewN ?_ _) | ((with_reducible apply below_via); focus (with_reducible assumption))))
          have hz6 : wq.heap.size ≤ w6.heap.size := by rw [hw6]; exact Nat.le_of_eq (World.size_setCell _ _ _).symm
          clear hw6 QH QN QS QV YA YB YX YD a0 a1 a2 a3 a4 af b0 b1 b2 b3 b4 bf x0 x1 x2 xf d0 d1 d2 d3 d4 df g0 g1 g2 gf hBq
          obtain ⟨a0, a1, a2, a3, a4, af, az6⟩ := ZA.out.b5
          obtain ⟨b0, b1, b2, b3, b4, bf, bz6⟩ := ZB.out.b5
          obtain ⟨x0, x1, x2, xf, xz6⟩ := ZX.out.b3
          obtain ⟨d0, d1, d2, d3, d4, df, dz6⟩ := ZD.out.b5
          go_wp2_with (at_builtin
                       go_must (refine wpl_append_sl (base := w6.heap.size) _ rfl (.tmp 120) (.tmp 121) _ rfl Try.underlying27 infoStock (by omega) Stock.k Stock.one ⟨some ⟨w6.heap.size, 0, none⟩, 0, []⟩ ⟨some ⟨bb, oo, none⟩, sc, sl⟩ rfl rfl (Own.lit0 Stock.k (by first | rfl | simp) (by simp)) (HS.out.1.below' (by repeat (first | (with_reducible exact hB7) | (with_reducible exact Below.refl _ _) | ((with_reducible refine below_setr ?_ ?_); focus (first | (simp; done) | (simp; omega) | omega)) | ((with_reducible refine below_allocr ?_ ?_); focus (first | (simp; done) | (simp; omega) | omega)) | (with_reducible refine Below.drew ?_) | (with_reducible refine below_drewN ?_ _) | ((with_reducible apply below_via); focus (with_reducible assumption)))) (Nat.le_refl _)) (by have := HS.out.1.len; simp [maxLen] at this ⊢; omega) (by simp; omega) (by simp) ?_)
                       intro oA oc w7 hown7 hg7 hat7
                       apply Hid.out)
          refine Lib.hid ?_
          simp only [List.nil_append] at hown7
          clear a0 a1 a2 a3 a4 af b0 b1 b2 b3 b4 bf x0 x1 x2 xf d0 d1 d2 d3 d4 df
          have f1 : w6.heap.size ≠ w.heap.size := by omega
          have f2 : w6.heap.size ≠ w.heap.size + 1 := by omega
          have f3 : w6.heap.size ≠ gx := by omega
          have f4 : w6.heap.size ≠ w5.heap.size := by omega
          have K_a : Blk _ (w.heap.size) 26 #[.int .i64 id, .bool false, .slice H.A H.l.length H.c, .slice N.A N.l.length N.c, .slice S.A S.l.length S.c] := blk_grown hg7 (by simp [hp_past, hp_at, hp_other, hp_same, hp_drew, hp_drewN, ZA.out.eq, ZA.out.lt, hp_same ZA.out.eq]) (by simp [Value.ownBlock, f1])
          obtain ⟨a0, a1, a2, a3, a4, af, az⟩ := Blk.b5 K_a
          have B_a := Lib.hid K_a
          clear K_a
          have K_b : Blk _ (w.heap.size + 1) 26 #[.int .i64 0, .bool false, .slice none 0 0, .slice none 0 0, .slice none 0 0] := blk_grown hg7 (by simp [hp_past, hp_at, hp_other, hp_same, hp_drew, hp_drewN, ZB.out.eq, ZB.out.lt, hp_same ZB.out.eq]) (by simp [Value.ownBlock, f2])
          obtain ⟨b0, b1, b2, b3, b4, bf, bz⟩ := Blk.b5 K_b
          have B_b := Lib.hid K_b
          clear K_b
          have K_x : Blk _ (gx) 66 #[.int .i64 vT, .int .i64 vU, .slice vL.A vL.l.length vL.c] := blk_grown hg7 (by simp [hp_past, hp_at, hp_other, hp_same, hp_drew, hp_drewN, ZX.out.eq, ZX.out.lt, hp_same ZX.out.eq]) (by simp [Value.ownBlock, f3])
          obtain ⟨x0, x1, x2, xf, xz⟩ := Blk.b3 K_x
          have B_x := Lib.hid K_x
          clear K_x
          have K_d : Blk _ (w5.heap.size) 26 #[.int .i64 id, .bool false, .slice (some ⟨g, 0, none⟩) (LI).length c7, .slice NA' N.l.length Nc', .slice SA' S.l.length Sc'] := blk_grown hg7 (by simp [hp_past, hp_at, hp_other, hp_same, hp_drew, hp_drewN, ZD.out.eq, ZD.out.lt, hp_same ZD.out.eq]) (by simp [Value.ownBlock, f4])
          obtain ⟨d0, d1, d2, d3, d4, df, dz⟩ := Blk.b5 K_d
          have B_d := Lib.hid K_d
          clear K_d
          have hB8 : Below w.heap.size w w7 := Below.grown (by repeat (first | (with_reducible exact hB7) | (with_reducible exact Below.refl _ _) | ((with_reducible refine below_setr ?_ ?_); focus (first | (simp; done) | (simp; omega) | omega)) | ((with_reducible refine below_allocr ?_ ?_); focus (first | (simp; done) | (simp; omega) | omega)) | (with_reducible refine Below.drew ?_) | (with_reducible refine below_drewN ?_ _) | ((with_reducible apply below_via); focus (with_reducible assumption)))) hg7 (by first | omega | (simp; done) | (simp; omega)) (by simp [Value.ownBlock]; omega)
          have hz7 : w6.heap.size + 1 ≤ w7.heap.size := by have := hg7.size; simpa using this
          have hkp : ∀ b, b < w6.heap.size → w7.heap[b]? = w6.heap[b]? := fun b hb => (hg7.block b (by simp; omega) (by simp [Value.ownBlock]; omega)).trans (Below.heap_alloc _ _ b hb)
          have hlu : ∀ q, oA = some ⟨q, 0, none⟩ → w6.heap.size ≤ q := hown7.lo
          have SH : Hid (Rd (fun b => w4.heap.size ≤ b ∧ b < w5.heap.size ∨ b = g) 3 Hold.enc w7 ⟨some ⟨g, 0, none⟩, c7, (LI).set i { hx with u := hx.u + n }⟩) := Lib.hid (by
            refine Rd.mono ((RH.out.rdP Hold.k (P := fun b => b = g) (fun q h => by injection h with h; injection h with h; exact h.symm)).keep fun b hb => hkp b hb.2.2) (fun b hb => .inr hb.2.1))
          have SN : Hid (Rd (fun b => w4.heap.size ≤ b ∧ b < w5.heap.size) 5 Note.enc w7 ⟨NA', Nc', N.l⟩) := Lib.hid (by
            refine Rd.mono ((RN.out.rdP Note.k (P := fun b => b < w5.heap.size) QUN.out).keep fun b hb => hkp b hb.2.2) (fun b hb => ⟨hb.1, hb.2.1⟩))
          have SS : Hid (Rd (fun b => w4.heap.size ≤ b ∧ b < w5.heap.size) 1 ienc w7 ⟨SA', Sc', S.l⟩) := Lib.hid (by
            refine Rd.mono ((RS.out.rdP ienc_k (P := fun b => b < w5.heap.size) QUS.out).keep fun b hb => hkp b hb.2.2) (fun b hb => ⟨hb.1, hb.2.1⟩))
          have SV : Hid (Rd (fun b => w3.heap.size ≤ b ∧ b ≠ gx ∧ b < w4.heap.size) 3 Loan.enc w7 vL) := Lib.hid (RV.out.keep fun b hb => hkp b (by omega))
          have SO := Lib.hid hown7
          have SLU := Lib.hid hlu
          clear hg7 hown7 hat7 RH RN RS RV hkp hlu
          obtain ⟨gO, hgO, hgOl, hgOu, hclO, gOf⟩ := SO.out.atk Stock.k (i := j) (x := ⟨xT, xU, xL⟩) HX.out
          simp only at hgO
          subst hgO
          obtain ⟨k0, k1, k2⟩ := Cells.c3 hclO
          clear hclO
          have hgOl2 : w6.heap.size ≤ gO := hgOl
          have n1 : w.heap.size ≠ gO := by omega
          have n2 : w.heap.size + 1 ≠ gO := by omega
          have n3 : gx ≠ gO := by omega
          have n4 : w5.heap.size ≠ gO := by omega
          have n5 : gO ≠ w.heap.size + 1 := by omega
          go_wp2_with fail
          have SO3 := Lib.hid (SO.out.set3 (x := ⟨xT, xU, xL⟩) HX.out ⟨vT, vU, vL⟩)
          have HPD : Hid (Phone.d ⟨id, false, ⟨some ⟨g, 0, none⟩, c7, LI.set i { hx with u := hx.u + n }⟩, ⟨NA', Nc', N.l⟩, ⟨SA', Sc', S.l⟩⟩ = { Phone.d ⟨id, false, H, N, S⟩ with H := H.l.take i ++ ⟨j, n, 0⟩ :: H.l.drop i }) := Lib.hid (by
            simp only [Phone.d, PhoneD.mk.injEq, true_and, and_true]
            rw [HLL.out, set_ins hil, HXX.out]
            simp)
          have TP : Hid (RdPhone (fun b => b < B ∨ (w.heap.size + 2 ≤ b ∧ b ≠ gO ∧ b < w7.heap.size)) w7 ⟨id, false, ⟨some ⟨g, 0, none⟩, c7, (LI).set i { hx with u := hx.u + n }⟩, ⟨NA', Nc', N.l⟩, ⟨SA', Sc', S.l⟩⟩) := Lib.hid (by
            refine ⟨SH.out.mono fun b hb => ?_, ⟨SN.out.mono fun b hb => by omega, fun y hy => ?_⟩, SS.out.mono fun b hb => by omega⟩
            · rcases hb with hb | hb
              · omega
              · omega
            · exact ((HFN.out y hy).keep fun b hb => hB8.block b (by omega)).mono fun b hb => .inl hb)
          have TS : Hid (RdStocks (fun b => b < B ∨ (w.heap.size + 2 ≤ b ∧ b < w7.heap.size)) (((w7.setCell ⟨gO, j * 3, none⟩ (.int .i64 vT)).setCell ⟨gO, j * 3 + 1, none⟩ (.int .i64 vU)).setCell ⟨gO, j * 3 + 2, none⟩ (.slice vL.A vL.l.length vL.c)) ⟨some ⟨gO, 0, none⟩, oc, sl.set j ⟨vT, vU, vL⟩⟩) := Lib.hid (by
            refine ⟨(SO3.out.rd Stock.k).mono fun b hb => .inr ⟨by have := hb.1; omega, by have := hb.2; simpa using this⟩, fun y hy => ?_⟩
            rcases List.mem_or_eq_of_mem_set hy with hy | hy
            · have h1 := (HGS.out y hy).keep fun b hb => hB8.block b (by omega)
              exact (Rd.setfarr (by simp; omega) (Rd.setfarr (by simp; omega) (Rd.setfarr (by simp; omega) h1))).mono fun b hb => .inl hb
            · subst hy
              exact (Rd.setfarr (by simp; omega) (Rd.setfarr (by simp; omega) (Rd.setfarr (by simp; omega) SV.out))).mono fun b hb => .inr ⟨by omega, by omega⟩)
          have TM : Hid ((sl.set j ⟨vT, vU, vL⟩).map Stock.d = (sl.map Stock.d).set j (StockD.lend (Stock.d ⟨xT, xU, xL⟩) id n).1) := Lib.hid (by rw [List.map_set, HVD.out, HSD.out])
          have TL : Hid ((sl.set j (⟨vT, vU, vL⟩ : Stock)).length = sl.length) := Lib.hid (by simp)
          have TL2 : Hid (((LI).set i { hx with u := hx.u + n }).length = (LI).length) := Lib.hid (by simp)
          try simp only [Exit.inBlock, Exit.then]
          refine bodyPost_ret (v := .tuple #[.agg #[.int .i64 id, .bool false, .slice (some ⟨g, 0, none⟩) (LI).length c7, .slice NA' N.l.length Nc', .slice SA' S.l.length Sc'], .slice (some ⟨gO, 0, none⟩) sl.length oc, .int .i64 0]) ?_ rfl ⟨⟨id, false, ⟨some ⟨g, 0, none⟩, c7, (LI).set i { hx with u := hx.u + n }⟩, ⟨NA', Nc', N.l⟩, ⟨SA', Sc', S.l⟩⟩, ⟨some ⟨gO, 0, none⟩, oc, sl.set j ⟨vT, vU, vL⟩⟩, by simp only [Phone.v, TL.out, TL2.out], HPD.out, TM.out, ?_, ?_, (by repeat (first | (with_reducible exact hB8) | (with_reducible exact Below.refl _ _) | ((with_reducible refine below_setr ?_ ?_); focus (first | (simp; done) | (simp; omega) | omega)) | ((with_reducible refine below_allocr ?_ ?_); focus (first | (simp; done) | (simp; omega) | omega)) | (with_reducible refine Below.drew ?_) | (with_reducible refine below_drewN ?_ _) | ((with_reducible apply below_via); focus (with_reducible assumption))))⟩
          simp [results, Try.results22, go_sem, a0, a1, a2, a3, a4, af, b0, b1, b2, b3, b4, bf, x0, x1, x2, xf, d0, d1, d2, d3, d4, df, az, bz, dz]
          · refine RdPhone.mono (F := fun b => b < B ∨ (w.heap.size + 2 ≤ b ∧ b ≠ gO ∧ b < w7.heap.size)) ?_ (fun b hb => by simp; omega)
            repeat (first | (with_reducible exact TP.out) | ((with_reducible refine RdPhone.setr ?_ ?_); focus (first | (simp; done) | (simp; omega))))
          · refine RdStocks.mono (F := fun b => b < B ∨ (w.heap.size + 2 ≤ b ∧ b < w7.heap.size)) ?_ (fun b hb => by simp; omega)
            repeat (first | (with_reducible exact TS.out) | ((with_reducible refine RdStocks.setr ?_ ?_); focus (first | (simp; done) | (simp; omega))))
end Go.Proofs.Ythnblhbdfpmolaa
