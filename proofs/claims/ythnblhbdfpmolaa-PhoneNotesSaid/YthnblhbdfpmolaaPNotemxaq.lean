/- Walks of package phone: Lend, the way through. -/
import Derived.Test.YthnblhbdfpmolaaPNotemxap
namespace Go.Proofs.Ythnblhbdfpmolaa
open Go.RowKit
/-- The row of stocks lies apart from what the phone and the stocks lead to. -/
def SepR (p' : Phone) (s' : Sl Stock) : Prop := ∃ W : World, ∀ g, s'.A = some ⟨g, 0, none⟩ → RdPhone (fun b => b ≠ g) W p' ∧ ∀ x, x ∈ s'.l → Rd (fun b => b ≠ g) 3 Loan.enc W x.L
theorem SepR.mk {F F' : Nat → Prop} {W : World} {p' : Phone} {gO c : Nat} {l : List Stock} (h1 : RdPhone (fun b => F b ∧ b ≠ gO) W p') (h2 : ∀ x, x ∈ l → Rd (fun b => F' b ∧ b ≠ gO) 3 Loan.enc W x.L) : SepR p' ⟨some ⟨gO, 0, none⟩, c, l⟩ := by
  refine ⟨W, fun g hg => ?_⟩
  injection hg with hg
  injection hg with hg
  subst hg
  exact ⟨h1.mono (fun b hb => hb.2), fun x hx => (h2 x hx).mono (fun b hb => hb.2)⟩
theorem StockD.lend_TU (x : StockD) (p n : Int) : (x.lend p n).1 = ⟨x.T, x.U, (x.lend p n).1.L⟩ := by
  unfold StockD.lend
  split
  · split <;> rfl
  · rfl
theorem Rd.to7 {α : Type} {F : Nat → Prop} {k : Nat} {enc : α → List Value} {w w' : World} {s : Sl α} (h : Rd F k enc w s) (hb : Below w.heap.size w w') (hF : ∀ b, F b → b < w.heap.size) : Rd F k enc w' s := h.keep fun b hb' => hb.block b (hF b hb')
set_option maxHeartbeats 1600000 in
theorem phone_lend_had (p : Phone) (ss : Sl Stock) (j : Nat) (x : Stock) (n : Int) (i : Nat) (hx : Hold) (w : World) (hr : RdPhone (· < w.heap.size) w p) (hs : RdStocks (· < w.heap.size) w ss) (hb : ss.l.length * 40 ≤ 140737488355328) (HF : Hid (p.d.right = true)) (HG : Hid (p.d.fit (ss.l.map Stock.d) = true)) (hk : rngB (j : Int) 0 ((ss.l.length : Int) - 1) = true) (hj : j < ss.l.length) (hc : p.cut = false)
    (HH : Hid (hhas p.H.l j = true)) (HI : Hid (hidx p.H.l j = i)) (HHX : Hid (p.H.l[i]? = some hx)) (hx1 : 1 ≤ hx.u) (hx2 : hx.u ≤ 1000000000000000) (hn1 : 1 ≤ n) (hn2 : n ≤ 1000000000000000) (HX : Hid (ss.l[j]? = some x)) (HE : Hid ((x.d.lend p.id n).2 = 0)) :
    Calls Try.prog 21 #[p.v, .slice ss.A ss.l.length ss.c, .int .i64 j, .int .i64 n] w fun e w' => ∃ (p' : Phone) (s' : Sl Stock), e = .returned (.tuple #[p'.v, .slice s'.A s'.l.length s'.c, .int .i64 0]) ∧ p'.d = { p.d with H := p.d.H.set i { hx with u := hx.u + n } } ∧ s'.l.map Stock.d = (ss.l.map Stock.d).set j (x.d.lend p.id n).1 ∧ RdPhone (fun b => w.heap.size ≤ b ∧ b < w'.heap.size) w' p' ∧ RdStocks (fun b => w.heap.size ≤ b ∧ b < w'.heap.size) w' s' ∧ (Own w.heap.size 66 3 Stock.enc w' s' ∧ SepR p' s') ∧ Below w.heap.size w w' := by
  obtain ⟨id, cut, H, N, S⟩ := p
  simp only at hc
  subst hc
  have HR := Lib.hid hr
  have HS := Lib.hid hs
  clear hr hs
  simp only [Phone.v]
  go_enter Try.func21, Try.ntmps21
  go_wp2_with fail
  refine (phone_right ⟨id, false, H, N, S⟩ _ (HR.out.later qbl (Nat.le_refl _))).mono ?_
  rintro e w1 ⟨rfl, hb1⟩
  rw [HF.out]
  have K_a : Blk _ (w.heap.size) 33 #[.int .i64 id, .bool false, .slice H.A H.l.length H.c, .slice N.A N.l.length N.c, .slice S.A S.l.length S.c] := qkb hb1
  obtain ⟨a0, a1, a2, a3, a4, af, az⟩ := Blk.b5 K_a
  have B_a := Lib.hid K_a
  clear K_a
  have K_b : Blk _ (w.heap.size + 1) 33 #[.int .i64 0, .bool false, .slice none 0 0, .slice none 0 0, .slice none 0 0] := qkb hb1
  obtain ⟨b0, b1, b2, b3, b4, bf, bz⟩ := Blk.b5 K_b
  have B_b := Lib.hid K_b
  clear K_b
  have hB1 : Below w.heap.size w w1 := qbv
  clear hb1
  go_wp2_with fail
  refine (phone_fit ⟨id, false, H, N, S⟩ ss _ (HR.out.later hB1 (Nat.le_refl _)) (HS.out.later hB1 (Nat.le_refl _)) (PhoneD.right_iff HF.out).H hb).mono ?_
  rintro e w2 ⟨rfl, hb2⟩
  rw [HG.out]
  clear a0 a1 a2 a3 a4 af b0 b1 b2 b3 b4 bf
  have K_a : Blk _ (w.heap.size) 33 #[.int .i64 id, .bool false, .slice H.A H.l.length H.c, .slice N.A N.l.length N.c, .slice S.A S.l.length S.c] := qkc B_a hb2
  obtain ⟨a0, a1, a2, a3, a4, af, az⟩ := Blk.b5 K_a
  have B_a := Lib.hid K_a
  clear K_a
  have K_b : Blk _ (w.heap.size + 1) 33 #[.int .i64 0, .bool false, .slice none 0 0, .slice none 0 0, .slice none 0 0] := qkc B_b hb2
  obtain ⟨b0, b1, b2, b3, b4, bf, bz⟩ := Blk.b5 K_b
  have B_b := Lib.hid K_b
  clear K_b
  have hB2 : Below w.heap.size w w2 := qbv
  clear hb2
  have hsl := HS.out.1.len
  go_wp2_with (go_at_call 59; refine (pto_any _ _ _ _).mono ?_; rintro e w' ⟨rfl, rfl⟩)
  refine (phone_find ⟨id, false, H, N, S⟩ j _ (HR.out.later hB2 (Nat.le_refl _)) (PhoneD.right_iff HF.out).H).mono ?_
  rintro e w3 ⟨rfl, hb3⟩
  rw [HH.out]
  clear a0 a1 a2 a3 a4 af b0 b1 b2 b3 b4 bf
  have K_a : Blk _ (w.heap.size) 33 #[.int .i64 id, .bool false, .slice H.A H.l.length H.c, .slice N.A N.l.length N.c, .slice S.A S.l.length S.c] := qkc B_a hb3
  obtain ⟨a0, a1, a2, a3, a4, af, az⟩ := Blk.b5 K_a
  have B_a := Lib.hid K_a
  clear K_a
  have K_b : Blk _ (w.heap.size + 1) 33 #[.int .i64 0, .bool false, .slice none 0 0, .slice none 0 0, .slice none 0 0] := qkc B_b hb3
  obtain ⟨b0, b1, b2, b3, b4, bf, bz⟩ := Blk.b5 K_b
  have B_b := Lib.hid K_b
  clear K_b
  have hB3 : Below w.heap.size w w3 := qbv
  clear hb3
  go_wp2_with fail
  obtain ⟨bb, oo, hsA, hsF, hcl⟩ := HS.out.1.2.2.2 j x HX.out
  have hRL := HS.out.2 x (List.mem_of_getElem? HX.out)
  have hxr := PhoneD.fit_right HG.out x.d (List.mem_map_of_mem (f := Stock.d) (List.mem_of_getElem? HX.out))
  have hxl := StockD.right_len hxr
  have HRL := Lib.hid hRL
  have HXR := Lib.hid hxr
  clear hRL hxr
  obtain ⟨xT, xU, xL⟩ := x
  obtain ⟨sA, sc, sl⟩ := ss
  simp only at hsA hj hsl
  simp only [Stock.d] at hxl
  subst hsA
  have hcl := hcl.keep (hB3.block bb hsF)
  obtain ⟨g0, g1, g2⟩ := Cells.c3 hcl
  clear hcl
  refine wp_region_T (fun w' => w'.cell? ⟨bb, oo + j * 3, none⟩ = some (.int .i64 xT) ∧ w'.cell? ⟨bb, oo + j * 3 + 1, none⟩ = some (.int .i64 xU) ∧ w'.cell? ⟨bb, oo + j * 3 + 2, none⟩ = some (.slice xL.A xL.l.length xL.c) ∧ w'.cell? ⟨w.heap.size, 0, none⟩ = some (.int .i64 id)) (fun _ => false) (by kernel_rfl) ⟨g0, g1, g2, a0⟩ (fun hHeld => ?_)
  refine wpAnyT_take (i := 0) (v := ?_) rfl (by kernel_rfl) (by kernel_rfl) (by kernel_rfl) (by kernel_rfl) (fun _ _ _ h => h) (Or.inl ⟨by rfl, ?_⟩) (by first | assumption | trivial) ?_
  rotate_left
  · (intro w hSw; (try dsimp only at hSw); go_simp) <;> (with_reducible rfl)
  try simp only [Act.put, List.setIfInBounds_toArray, List.set_cons_zero, List.set_cons_succ]
  refine wpAnyT_take (i := 1) (v := ?_) rfl (by kernel_rfl) (by kernel_rfl) (by kernel_rfl) (by kernel_rfl) (fun _ _ _ h => h) (Or.inl ⟨by rfl, ?_⟩) (by first | assumption | trivial) ?_
  rotate_left
  · (intro w hSw; (try dsimp only at hSw); go_simp) <;> (with_reducible rfl)
  try simp only [Act.put, List.setIfInBounds_toArray, List.set_cons_zero, List.set_cons_succ]
  refine wpAnyT_take (i := 2) (v := ?_) rfl (by kernel_rfl) (by kernel_rfl) (by kernel_rfl) (by kernel_rfl) (fun _ _ _ h => h) (Or.inl ⟨by rfl, ?_⟩) (by first | assumption | trivial) ?_
  rotate_left
  · (intro w hSw; (try dsimp only at hSw); go_simp) <;> (with_reducible rfl)
  try simp only [Act.put, List.setIfInBounds_toArray, List.set_cons_zero, List.set_cons_succ]
  refine wpAnyT_take (i := 3) (v := ?_) rfl (by kernel_rfl) (by kernel_rfl) (by kernel_rfl) (by kernel_rfl) (fun _ _ _ h => h) (Or.inl ⟨by rfl, ?_⟩) (by first | assumption | trivial) ?_
  rotate_left
  · (intro w hSw; (try dsimp only at hSw); go_simp) <;> (with_reducible rfl)
  try simp only [Act.put, List.setIfInBounds_toArray, List.set_cons_zero, List.set_cons_succ]
  refine wpAnyT_take (i := 4) (v := ?_) rfl (by kernel_rfl) (by kernel_rfl) (by kernel_rfl) (by kernel_rfl) (fun _ _ _ h => h) (Or.inl ⟨by rfl, ?_⟩) (by first | assumption | trivial) ?_
  rotate_left
  · (intro w hSw; (try dsimp only at hSw); go_simp) <;> (with_reducible rfl)
  try simp only [Act.put, List.setIfInBounds_toArray, List.set_cons_zero, List.set_cons_succ]
  refine wpAnyT_take (i := 5) (v := ?_) rfl (by kernel_rfl) (by kernel_rfl) (by kernel_rfl) (by kernel_rfl) (fun _ _ _ h => h) (Or.inl ⟨by rfl, ?_⟩) (by first | assumption | trivial) ?_
  rotate_left
  · (intro w hSw; (try dsimp only at hSw); go_simp) <;> (with_reducible rfl)
  try simp only [Act.put, List.setIfInBounds_toArray, List.set_cons_zero, List.set_cons_succ]
  refine wpAnyT_take (i := 6) (v := ?_) rfl (by kernel_rfl) (by kernel_rfl) (by kernel_rfl) (by kernel_rfl) (fun _ _ _ h => h) (Or.inl ⟨by rfl, ?_⟩) (by first | assumption | trivial) ?_
  rotate_left
  · (intro w hSw; (try dsimp only at hSw); go_simp) <;> (with_reducible rfl)
  try simp only [Act.put, List.setIfInBounds_toArray, List.set_cons_zero, List.set_cons_succ]
  clear hHeld
  refine wpAnyT_two (i := 7) (j := 11) (by kernel_rfl) rfl rfl ?_ ?_
  · skip
    go_wp2_with fail
    refine (stock_lend ⟨xT, xU, xL⟩ id n _ (HRL.out.below' qbv (Nat.le_refl _)) (by simp only; omega)).mono ?_
    rintro e w4 ⟨A4, q4, rfl, hown4, hb4⟩
    have G0 := keep_cell hb4 (show (World.drew _).cell? ⟨bb, oo + j * 3, none⟩ = _ from g0)
    have G1 := keep_cell hb4 (show (World.drew _).cell? ⟨bb, oo + j * 3 + 1, none⟩ = _ from g1)
    have G2 := keep_cell hb4 (show (World.drew _).cell? ⟨bb, oo + j * 3 + 2, none⟩ = _ from g2)
    clear a0 a1 a2 a3 a4 af b0 b1 b2 b3 b4 bf g0 g1 g2
    have K_a : Blk _ (w.heap.size) 33 #[.int .i64 id, .bool false, .slice H.A H.l.length H.c, .slice N.A N.l.length N.c, .slice S.A S.l.length S.c] := qkc B_a hb4
    obtain ⟨a0, a1, a2, a3, a4, af, az⟩ := Blk.b5 K_a
    have B_a := Lib.hid K_a
    clear K_a
    have K_b : Blk _ (w.heap.size + 1) 33 #[.int .i64 0, .bool false, .slice none 0 0, .slice none 0 0, .slice none 0 0] := qkc B_b hb4
    obtain ⟨b0, b1, b2, b3, b4, bf, bz⟩ := Blk.b5 K_b
    have B_b := Lib.hid K_b
    clear K_b
    have hB4 : Below w.heap.size w w4 := qbv
    have z4 : w3.heap.size ≤ w4.heap.size := by have := hb4.size; first | exact this | (simp [World.drew] at this; omega)
    have HOWN4 := Lib.hid (hown4.mono (base' := w3.heap.size) (by first | exact Nat.le_refl _ | simp [World.drew]))
    have HLO4 := Lib.hid hown4.lo
    have HUP4 := Lib.hid hown4.bound
    clear hb4 hown4
    generalize hsd : StockD.lend (Stock.d ⟨xT, xU, xL⟩) id n = sd at *
    have HSD := Lib.hid hsd
    clear hsd
    have hsn : (sd.2 != 0) = false := by have h' := HE.out; (try simp only at h'); (try rw [HSD.out] at h'); simp [h']
    go_wp2_with fail
    have hHeld := And.intro G0 (And.intro G1 (And.intro G2 a0))
    refine ⟨(by first | exact hHeld | exact fun _ => hHeld), ?_⟩
    refine wpAnyT_take (i := 8) (v := ?_) rfl (by kernel_rfl) (by kernel_rfl) (by kernel_rfl) (by kernel_rfl) (fun _ _ _ h => h) (Or.inl ⟨by rfl, ?_⟩) (by first | assumption | trivial) ?_
    rotate_left
    · (intro w hSw; (try dsimp only at hSw); go_simp) <;> (with_reducible rfl)
    try simp only [Act.put, List.setIfInBounds_toArray, List.set_cons_zero, List.set_cons_succ]
    refine wpAnyT_take (i := 9) (v := ?_) rfl (by kernel_rfl) (by kernel_rfl) (by kernel_rfl) (by kernel_rfl) (fun _ _ _ h => h) (Or.inl ⟨by rfl, ?_⟩) (by first | assumption | trivial) ?_
    rotate_left
    · (intro w hSw; (try dsimp only at hSw); go_simp) <;> (with_reducible rfl)
    try simp only [Act.put, List.setIfInBounds_toArray, List.set_cons_zero, List.set_cons_succ]
    refine wpAnyT_take (i := 10) (v := ?_) rfl (by kernel_rfl) (by kernel_rfl) (by kernel_rfl) (by kernel_rfl) (fun _ _ _ h => h) (Or.inl ⟨by rfl, ?_⟩) (by first | assumption | trivial) ?_
    rotate_left
    · (intro w hSw; (try dsimp only at hSw); go_simp) <;> (with_reducible rfl)
    try simp only [Act.put, List.setIfInBounds_toArray, List.set_cons_zero, List.set_cons_succ]
    clear hHeld
    refine wpAnyT_next (i := 11) (by kernel_rfl) rfl ?_
    go_wp2_with fail
    have hHeld : ∀ o, _ := fun o => And.intro (kalloc o G0) (And.intro (kalloc o G1) (And.intro (kalloc o G2) (kalloc o a0)))
    refine ⟨(by first | exact hHeld _ | exact fun _ => hHeld _), ?_⟩
    refine wpAnyT_next (i := 12) (by kernel_rfl) rfl ?_
    go_wp2_with fail
    refine ⟨(by first | exact hHeld _ | exact fun _ => hHeld _), ?_⟩
    refine wpAnyT_next (i := 13) (by kernel_rfl) rfl ?_
    go_wp2_with fail
    refine ⟨(by first | exact hHeld _ | exact fun _ => hHeld _), ?_⟩
    refine wpAnyT_done (by kernel_rfl) ?_ _
    clear hHeld G0 G1 G2
    go_wp2_with fail
    obtain ⟨bx, hbx⟩ : ∃ b, b = w4.heap.size := ⟨_, rfl⟩
    obtain ⟨w5, hw5⟩ : ∃ x, x = w4.alloc (.cells #[.int .i64 xT, .int .i64 xU, .slice A4 sd.1.L.length q4] 66) := ⟨_, rfl⟩
    have B_x : Hid (Blk w5 bx 66 #[.int .i64 xT, .int .i64 xU, .slice A4 sd.1.L.length q4]) := Lib.hid (by rw [hw5, hbx]; exact Blk.new _ _ _)
    have B_a : Hid (Blk w5 w.heap.size 33 #[.int .i64 id, .bool false, .slice H.A H.l.length H.c, .slice N.A N.l.length N.c, .slice S.A S.l.length S.c]) := Lib.hid (by rw [hw5]; exact B_a.out.alloc _)
    have B_b : Hid (Blk w5 (w.heap.size + 1) 33 #[.int .i64 0, .bool false, .slice none 0 0, .slice none 0 0, .slice none 0 0]) := Lib.hid (by rw [hw5]; exact B_b.out.alloc _)
    have hB5 : Below w.heap.size w w5 := by rw [hw5]; exact qbv
    have HL5 : Hid (Own w3.heap.size 136 3 Loan.enc w5 ⟨A4, q4, sd.1.L⟩) := Lib.hid (by rw [hw5]; exact HOWN4.out.alloc _)
    have HN5 : Hid (∀ g, A4 = some ⟨g, 0, none⟩ → g ≠ bx) := Lib.hid (by rw [hbx]; exact fun g h => Nat.ne_of_lt (HUP4.out g h))
    have zx1 : w3.heap.size ≤ bx := by omega
    have zx2 : bx < w5.heap.size := B_x.out.lt
    have zx3 : w.heap.size + 1 < w3.heap.size := by omega
    rw [← hw5, ← hbx]
    clear hw5 hbx HLO4 HUP4 HOWN4 hB4 a0 a1 a2 a3 a4 af b0 b1 b2 b3 b4 bf
    refine (phone_copied_r ⟨id, false, H, N, S⟩ _ (HR.out.later hB5 (Nat.le_refl _)) HF.out).mono ?_
    rintro e w6 ⟨⟨id', cut', ⟨HA', HC', HL'⟩, N', S'⟩, rfl, hd, ⟨mm, hO⟩, hb6⟩
    have K_a : Blk _ (w.heap.size) 33 #[.int .i64 id, .bool false, .slice H.A H.l.length H.c, .slice N.A N.l.length N.c, .slice S.A S.l.length S.c] := qkc B_a hb6
    obtain ⟨a0, a1, a2, a3, a4, af, az⟩ := Blk.b5 K_a
    have B_a := Lib.hid K_a
    clear K_a
    have K_b : Blk _ (w.heap.size + 1) 33 #[.int .i64 0, .bool false, .slice none 0 0, .slice none 0 0, .slice none 0 0] := qkc B_b hb6
    obtain ⟨b0, b1, b2, b3, b4, bf, bz⟩ := Blk.b5 K_b
    have B_b := Lib.hid K_b
    clear K_b
    have K_x : Blk _ (bx) 66 #[.int .i64 xT, .int .i64 xU, .slice A4 sd.1.L.length q4] := qkc B_x hb6
    obtain ⟨x0, x1, x2, xf, xz⟩ := Blk.b3 K_x
    have B_x := Lib.hid K_x
    clear K_x
    have hB6 : Below w.heap.size w w6 := qbv
    have z6 : w5.heap.size ≤ w6.heap.size := hb6.size
    have HL6 := Lib.hid (HL5.out.below hb6)
    have HO := Lib.hid hO
    have HD := Lib.hid hd
    clear hb6 hO hd
    simp only [Phone.v]
    go_wp2_with fail
    refine (phone_copies _ _ (HS.out.later hB6 (Nat.le_refl _)) hb ?_).mono ?_
    · intro y hy
      have := StockD.right_len (PhoneD.fit_right HG.out y.d (List.mem_map_of_mem (f := Stock.d) hy))
      simp only [Stock.d] at this
      omega
    rintro e w7 ⟨⟨oA, oc, ol⟩, rfl, hmap, ⟨m2, hO2⟩, hb7⟩
    clear a0 a1 a2 a3 a4 af b0 b1 b2 b3 b4 bf x0 x1 x2 xf
    have K_a : Blk _ (w.heap.size) 33 #[.int .i64 id, .bool false, .slice H.A H.l.length H.c, .slice N.A N.l.length N.c, .slice S.A S.l.length S.c] := qkc B_a hb7
    obtain ⟨a0, a1, a2, a3, a4, af, az⟩ := Blk.b5 K_a
    have B_a := Lib.hid K_a
    clear K_a
    have K_b : Blk _ (w.heap.size + 1) 33 #[.int .i64 0, .bool false, .slice none 0 0, .slice none 0 0, .slice none 0 0] := qkc B_b hb7
    obtain ⟨b0, b1, b2, b3, b4, bf, bz⟩ := Blk.b5 K_b
    have B_b := Lib.hid K_b
    clear K_b
    have K_x : Blk _ (bx) 66 #[.int .i64 xT, .int .i64 xU, .slice A4 sd.1.L.length q4] := qkc B_x hb7
    obtain ⟨x0, x1, x2, xf, xz⟩ := Blk.b3 K_x
    have B_x := Lib.hid K_x
    clear K_x
    have hB7 : Below w.heap.size w w7 := qbv
    have z7 : w6.heap.size ≤ w7.heap.size := hb7.size
    have HL7 := Lib.hid (HL6.out.below hb7)
    have HO2 := Lib.hid hO2
    have HMAP := Lib.hid hmap
    have HB7 := Lib.hid hb7
    clear hb7 hO2 hmap
    rw [HI.out]
    have hd' := HD.out
    simp only [Phone.d, PhoneD.mk.injEq] at hd'
    obtain ⟨hd1, hd2, hd3, hd4, hd5⟩ := hd'
    subst hd3
    have HD1 := Lib.hid hd1
    have HD2 := Lib.hid hd2
    have HD4 := Lib.hid hd4
    have HD5 := Lib.hid hd5
    clear hd1 hd2 hd4 hd5
    have hol : ol.length = sl.length := by have := congrArg List.length HMAP.out; simpa using this
    have hoj : ol[j]? = some ol[j] := List.getElem?_eq_getElem (by omega)
    generalize ol[j] = ox at hoj
    obtain ⟨gO, hgO, hgOl, hgOu, hclO, gOf⟩ := HO2.out.O.atk Stock.k hoj
    simp only at hgO
    subst hgO
    obtain ⟨k0, k1, k2⟩ := Cells.c3 hclO
    have HOJ := Lib.hid hoj
    have HOL := Lib.hid hol
    clear hoj hol hclO
    obtain ⟨g, hg, hgl, hgu, hcl, gf⟩ := (HO.out.H.below HB7.out).atk Hold.k (i := i) (x := hx) HHX.out
    simp only at hg
    subst hg
    have hgm := HO.out.bH g rfl
    have hmz := HO.out.bm
    obtain ⟨g0, g1, g2⟩ := Cells.c3 hcl
    clear hcl
    have hjo : j < ol.length := by have := HOL.out; omega
    have hil : i < H.l.length := (List.getElem?_eq_some_iff.1 HHX.out).1
    have hgl : w5.heap.size ≤ g := hgl
    have hgOl : w6.heap.size ≤ gO := hgOl
    have n1 : bx ≠ g := by omega
    have n2 : g ≠ bx := by omega
    have n3 : gO ≠ g := by omega
    have n4 : g ≠ gO := by omega
    have n5 : w.heap.size + 1 ≠ g := by omega
    have n6 : g ≠ w.heap.size + 1 := by omega
    have n7 : w.heap.size + 1 ≠ gO := by omega
    have n8 : gO ≠ w.heap.size + 1 := by omega
    have n9 : gO ≠ bx := by omega
    have n10 : bx ≠ gO := by omega
    have n11 : gO ≠ w7.heap.size := by omega
    have n12 : g ≠ w7.heap.size := by omega
    go_wp2_with fail
    have HFPx : Hid (RdPhone (fun b => (w5.heap.size ≤ b ∧ b < w7.heap.size) ∧ b ≠ gO) ((((w7.setCell ⟨g, i * 3 + 1, none⟩ (.int .i64 (hx.u + n))).setCell ⟨gO, j * 3, none⟩ (.int .i64 xT)).setCell ⟨gO, j * 3 + 1, none⟩ (.int .i64 xU)).setCell ⟨gO, j * 3 + 2, none⟩ (.slice A4 sd.1.L.length q4)) ⟨id', cut', ⟨some ⟨g, 0, none⟩, HC', H.l.set i { hx with u := hx.u + n }⟩, N', S'⟩) := Lib.hid (by
      have hH := (HO.out.H.below HB7.out).set Hold.k rfl HHX.out (j := 1) (y := { hx with u := hx.u + n }) (u := .int .i64 (hx.u + n)) (by omega) rfl
      have hH := ((hH.other (a := ⟨gO, j * 3, none⟩) (fun g' h => by injection h with h; injection h with h; simp only; omega) (.int .i64 xT)).other (a := ⟨gO, j * 3 + 1, none⟩) (fun g' h => by injection h with h; injection h with h; simp only; omega) (.int .i64 xU)).other (a := ⟨gO, j * 3 + 2, none⟩) (fun g' h => by injection h with h; injection h with h; simp only; omega) (.slice A4 sd.1.L.length q4)
      refine ⟨(hH.rdP Hold.k (P := fun b => b ≠ gO) (fun g' h => by injection h with h; injection h with h; omega)).mono (fun b hb => ⟨⟨hb.1, by simpa using hb.2.2⟩, hb.2.1⟩), ⟨?_, fun y hy => ?_⟩, ?_⟩
      · refine Rd.mono (F := fun b => w5.heap.size ≤ b ∧ b ≠ g ∧ b < w6.heap.size) ?_ (fun b hb => ⟨⟨hb.1, by omega⟩, by omega⟩)
        refine Rd.setfarr (by first | (simp; done) | (simp; omega)) (Rd.setfarr (by first | (simp; done) | (simp; omega)) (Rd.setfarr (by first | (simp; done) | (simp; omega)) (Rd.setfarr (by first | (simp; done) | (simp; omega)) ?_)))
        exact (HO.out.N.rdP Note.k (P := fun b => b ≠ g) (fun g' h => Ne.symm (HO.out.HN g g' rfl h))).to7 HB7.out (fun b hb => hb.2.2)
      · refine Rd.mono (F := fun b => mm ≤ b ∧ b < w6.heap.size) ?_ (fun b hb => ⟨⟨Nat.le_trans HO.out.mb hb.1, by omega⟩, by omega⟩)
        refine Rd.setfarr (by first | (simp; done) | (simp; omega)) (Rd.setfarr (by first | (simp; done) | (simp; omega)) (Rd.setfarr (by first | (simp; done) | (simp; omega)) (Rd.setfarr (by first | (simp; done) | (simp; omega)) ?_)))
        exact (HO.out.af y hy).to7 HB7.out (fun b hb => hb.2)
      · refine Rd.mono (F := fun b => w5.heap.size ≤ b ∧ b ≠ g ∧ b < w6.heap.size) ?_ (fun b hb => ⟨⟨hb.1, by omega⟩, by omega⟩)
        refine Rd.setfarr (by first | (simp; done) | (simp; omega)) (Rd.setfarr (by first | (simp; done) | (simp; omega)) (Rd.setfarr (by first | (simp; done) | (simp; omega)) (Rd.setfarr (by first | (simp; done) | (simp; omega)) ?_)))
        exact (HO.out.S.rdP ienc_k (P := fun b => b ≠ g) (fun g' h => Ne.symm (HO.out.HS g g' rfl h))).to7 HB7.out (fun b hb => hb.2.2))
    have HFP := Lib.hid (HFPx.out.mono (G := fun b => w5.heap.size ≤ b ∧ b < w7.heap.size) (fun b hb => hb.1))
    have HOW : Hid (Own w6.heap.size 66 3 Stock.enc ((((w7.setCell ⟨g, i * 3 + 1, none⟩ (.int .i64 (hx.u + n))).setCell ⟨gO, j * 3, none⟩ (.int .i64 xT)).setCell ⟨gO, j * 3 + 1, none⟩ (.int .i64 xU)).setCell ⟨gO, j * 3 + 2, none⟩ (.slice A4 sd.1.L.length q4)) ⟨some ⟨gO, 0, none⟩, oc, ol.set j ⟨xT, xU, ⟨A4, q4, sd.1.L⟩⟩⟩) := Lib.hid (by
      have h0 := (HO2.out.O.other (a := ⟨g, i * 3 + 1, none⟩) (fun g' h => by injection h with h; injection h with h; simp only; omega) (.int .i64 (hx.u + n)))
      have h1 := h0.set Stock.k rfl HOJ.out (j := 0) (y := ⟨xT, ox.U, ox.L⟩) (u := .int .i64 xT) (by omega) rfl
      have h2 := h1.set Stock.k rfl (i := j) (x := ⟨xT, ox.U, ox.L⟩) (by simp only [List.getElem?_set_self hjo]) (j := 1) (y := ⟨xT, xU, ox.L⟩) (u := .int .i64 xU) (by omega) rfl
      have h3 := h2.set Stock.k rfl (i := j) (x := ⟨xT, xU, ox.L⟩) (by simp only [List.set_set, List.getElem?_set_self hjo]) (j := 2) (y := ⟨xT, xU, ⟨A4, q4, sd.1.L⟩⟩) (u := .slice A4 sd.1.L.length q4) (by omega) rfl
      simp only [List.set_set, Nat.add_zero] at h3
      exact h3)
    have HFL : Hid (∀ y, y ∈ ol.set j ⟨xT, xU, ⟨A4, q4, sd.1.L⟩⟩ → Rd (fun b => (w3.heap.size ≤ b ∧ b < w7.heap.size) ∧ b ≠ gO) 3 Loan.enc ((((w7.setCell ⟨g, i * 3 + 1, none⟩ (.int .i64 (hx.u + n))).setCell ⟨gO, j * 3, none⟩ (.int .i64 xT)).setCell ⟨gO, j * 3 + 1, none⟩ (.int .i64 xU)).setCell ⟨gO, j * 3 + 2, none⟩ (.slice A4 sd.1.L.length q4)) y.L) := Lib.hid (by
      intro y hy
      rcases List.mem_or_eq_of_mem_set hy with hy | rfl
      · have hm2 := HO2.out.b gO rfl
        have hm3 := HO2.out.mb
        refine Rd.mono (F := fun b => m2 ≤ b ∧ b < w7.heap.size) ?_ (fun b hb => ⟨⟨by omega, by omega⟩, by omega⟩)
        refine Rd.setfarr (by first | (simp; done) | (simp; omega)) (Rd.setfarr (by first | (simp; done) | (simp; omega)) (Rd.setfarr (by first | (simp; done) | (simp; omega)) (Rd.setfarr (by first | (simp; done) | (simp; omega)) ?_)))
        exact HO2.out.L y hy
      · refine Rd.mono (F := fun b => w3.heap.size ≤ b ∧ b < w5.heap.size ∧ b < w7.heap.size) ?_ (fun b hb => ⟨⟨hb.1, by omega⟩, by omega⟩)
        refine Rd.setfarr (by first | (simp; done) | (simp; omega)) (Rd.setfarr (by first | (simp; done) | (simp; omega)) (Rd.setfarr (by first | (simp; done) | (simp; omega)) (Rd.setfarr (by first | (simp; done) | (simp; omega)) ?_)))
        exact HL7.out.rdP Loan.k (P := fun b => b < w5.heap.size) HL5.out.bound)
    have HFS : Hid (RdStocks (fun b => w3.heap.size ≤ b ∧ b < w7.heap.size) ((((w7.setCell ⟨g, i * 3 + 1, none⟩ (.int .i64 (hx.u + n))).setCell ⟨gO, j * 3, none⟩ (.int .i64 xT)).setCell ⟨gO, j * 3 + 1, none⟩ (.int .i64 xU)).setCell ⟨gO, j * 3 + 2, none⟩ (.slice A4 sd.1.L.length q4)) ⟨some ⟨gO, 0, none⟩, oc, ol.set j ⟨xT, xU, ⟨A4, q4, sd.1.L⟩⟩⟩) := Lib.hid ⟨(HOW.out.rd Stock.k).mono (fun b hb => ⟨by have := hb.1; omega, by simpa using hb.2⟩), fun y hy => (HFL.out y hy).mono (fun b hb => hb.1)⟩
    have HDP : Hid (Phone.d ⟨id', cut', ⟨some ⟨g, 0, none⟩, HC', H.l.set i { hx with u := hx.u + n }⟩, N', S'⟩ = ⟨id, false, H.l.set i { hx with u := hx.u + n }, N.l.map Note.d, S.l⟩) := Lib.hid (by
      simp only [Phone.d, PhoneD.mk.injEq]
      exact ⟨HD1.out, HD2.out, trivial, HD4.out, HD5.out⟩)
    have HDS : Hid ((ol.set j ⟨xT, xU, ⟨A4, q4, sd.1.L⟩⟩).map Stock.d = (sl.map Stock.d).set j (StockD.lend (Stock.d ⟨xT, xU, xL⟩) id n).1) := Lib.hid (by
      have := HMAP.out
      rw [List.map_set]
      try simp only at this
      rw [this, HSD.out]
      have h := StockD.lend_TU (Stock.d ⟨xT, xU, xL⟩) id n
      rw [HSD.out] at h
      rw [h]; rfl)
    try simp only [Exit.inBlock, Exit.then]
    refine bodyPost_ret (v := .tuple #[.agg #[.int .i64 id', .bool cut', .slice (some ⟨g, 0, none⟩) H.l.length HC', .slice N'.A N'.l.length N'.c, .slice S'.A S'.l.length S'.c], .slice (some ⟨gO, 0, none⟩) ol.length oc, .int .i64 0]) ?_ rfl ⟨⟨id', cut', ⟨some ⟨g, 0, none⟩, HC', H.l.set i { hx with u := hx.u + n }⟩, N', S'⟩, ⟨some ⟨gO, 0, none⟩, oc, ol.set j ⟨xT, xU, ⟨A4, q4, sd.1.L⟩⟩⟩, by simp, HDP.out, HDS.out, ?_, ?_, ⟨?_, ?_⟩, ?_⟩
    simp [results, Try.results21, go_sem, a0, a1, a2, a3, a4, af, b0, b1, b2, b3, b4, bf, az, bz, n1, n2, n3, n4, n5, n6, n7, n8]
    · exact (by refine RdPhone.fin2 (A := w.heap.size) (B := w5.heap.size) (C := w7.heap.size) ?_ (by first | omega | (simp; omega)) (by first | omega | (simp; done) | (simp; omega)); repeat (first | (with_reducible exact HFP.out) | ((with_reducible refine RdPhone.setr ?_ ?_); focus (first | (simp; done) | (simp; omega))) | ((with_reducible refine RdPhone.allocr ?_ ?_); focus (intro b hb; have hb2 := hb.2; first | omega | (simp; omega))) | (with_reducible refine RdPhone.drewr ?_) | (with_reducible refine RdPhone.drewNr ?_ _)))
    · exact (by refine RdStocks.fin2 (A := w.heap.size) (B := w3.heap.size) (C := w7.heap.size) ?_ (by first | omega | (simp; omega)) (by first | omega | (simp; done) | (simp; omega)); repeat (first | (with_reducible exact HFS.out) | ((with_reducible refine RdStocks.setr ?_ ?_); focus (first | (simp; done) | (simp; omega))) | ((with_reducible refine RdStocks.allocr ?_ ?_); focus (intro b hb; have hb2 := hb.2; first | omega | (simp; omega))) | (with_reducible refine RdStocks.drewr ?_) | (with_reducible refine RdStocks.drewNr ?_ _)))
    · exact Own.mono (base := w6.heap.size) (by repeat (first | (with_reducible exact HOW.out) | ((with_reducible refine Own.farr ?_ ?_); focus (first | (simp; done) | (simp; omega) | omega)) | (with_reducible refine Own.alloc ?_ _) | (with_reducible refine Own.drew ?_) | (with_reducible refine Own.drewN ?_ _))) (by omega)
    · exact SepR.mk HFPx.out HFL.out
    · exact qbv
  · skip
    go_wp2_with fail
    refine ⟨(by first | exact ⟨kalloc _ g0, kalloc _ g1, kalloc _ g2, kalloc _ a0⟩ | exact fun _ => ⟨kalloc _ g0, kalloc _ g1, kalloc _ g2, kalloc _ a0⟩), ?_⟩
    refine wpAnyT_next (i := 7) (by kernel_rfl) rfl ?_
    go_wp2_with fail
    refine (stock_lend ⟨xT, xU, xL⟩ id n _ (HRL.out.below' qbv (Nat.le_refl _)) (by simp only; omega)).mono ?_
    rintro e w4 ⟨A4, q4, rfl, hown4, hb4⟩
    have G0 := keep_cell hb4 (show (World.drew _).cell? ⟨bb, oo + j * 3, none⟩ = _ from kalloc _ g0)
    have G1 := keep_cell hb4 (show (World.drew _).cell? ⟨bb, oo + j * 3 + 1, none⟩ = _ from kalloc _ g1)
    have G2 := keep_cell hb4 (show (World.drew _).cell? ⟨bb, oo + j * 3 + 2, none⟩ = _ from kalloc _ g2)
    clear a0 a1 a2 a3 a4 af b0 b1 b2 b3 b4 bf g0 g1 g2
    have K_a : Blk _ (w.heap.size) 33 #[.int .i64 id, .bool false, .slice H.A H.l.length H.c, .slice N.A N.l.length N.c, .slice S.A S.l.length S.c] := qkc B_a hb4
    obtain ⟨a0, a1, a2, a3, a4, af, az⟩ := Blk.b5 K_a
    have B_a := Lib.hid K_a
    clear K_a
    have K_b : Blk _ (w.heap.size + 1) 33 #[.int .i64 0, .bool false, .slice none 0 0, .slice none 0 0, .slice none 0 0] := qkc B_b hb4
    obtain ⟨b0, b1, b2, b3, b4, bf, bz⟩ := Blk.b5 K_b
    have B_b := Lib.hid K_b
    clear K_b
    have K_d : Blk _ (w3.heap.size) 66 #[.int .i64 0, .int .i64 0, .slice none 0 0] := qkb hb4
    obtain ⟨d0, d1, d2, df, dz⟩ := Blk.b3 K_d
    have B_d := Lib.hid K_d
    clear K_d
    have nb : bb ≠ w3.heap.size := by have := hB3.size; omega
    have na : w.heap.size ≠ w3.heap.size := by omega
    have hB4 : Below w.heap.size w w4 := qbv
    have z4 : w3.heap.size ≤ w4.heap.size := by have := hb4.size; first | exact this | (simp [World.drew] at this; omega)
    have HOWN4 := Lib.hid (hown4.mono (base' := w3.heap.size) (by first | exact Nat.le_refl _ | simp [World.drew]))
    have HLO4 := Lib.hid hown4.lo
    have HUP4 := Lib.hid hown4.bound
    clear hb4 hown4
    generalize hsd : StockD.lend (Stock.d ⟨xT, xU, xL⟩) id n = sd at *
    have HSD := Lib.hid hsd
    clear hsd
    have hsn : (sd.2 != 0) = false := by have h' := HE.out; (try simp only at h'); (try rw [HSD.out] at h'); simp [h']
    go_wp2_with fail
    have hHeld := And.intro G0 (And.intro G1 (And.intro G2 a0))
    refine ⟨(by first | exact hHeld | exact fun _ => hHeld), ?_⟩
    refine wpAnyT_take (i := 8) (v := ?_) rfl (by kernel_rfl) (by kernel_rfl) (by kernel_rfl) (by kernel_rfl) (fun _ _ _ h => h) (Or.inl ⟨by rfl, ?_⟩) (by first | assumption | trivial) ?_
    rotate_left
    · (intro w hSw; (try dsimp only at hSw); go_simp) <;> (with_reducible rfl)
    try simp only [Act.put, List.setIfInBounds_toArray, List.set_cons_zero, List.set_cons_succ]
    refine wpAnyT_take (i := 9) (v := ?_) rfl (by kernel_rfl) (by kernel_rfl) (by kernel_rfl) (by kernel_rfl) (fun _ _ _ h => h) (Or.inl ⟨by rfl, ?_⟩) (by first | assumption | trivial) ?_
    rotate_left
    · (intro w hSw; (try dsimp only at hSw); go_simp) <;> (with_reducible rfl)
    try simp only [Act.put, List.setIfInBounds_toArray, List.set_cons_zero, List.set_cons_succ]
    refine wpAnyT_take (i := 10) (v := ?_) rfl (by kernel_rfl) (by kernel_rfl) (by kernel_rfl) (by kernel_rfl) (fun _ _ _ h => h) (Or.inl ⟨by rfl, ?_⟩) (by first | assumption | trivial) ?_
    rotate_left
    · (intro w hSw; (try dsimp only at hSw); go_simp) <;> (with_reducible rfl)
    try simp only [Act.put, List.setIfInBounds_toArray, List.set_cons_zero, List.set_cons_succ]
    clear hHeld
    have hHeld : ∀ u0 u1 u2, _ := fun u0 u1 u2 => And.intro (kset (q := ⟨w3.heap.size, 2, none⟩) u2 nb (kset (q := ⟨w3.heap.size, 1, none⟩) u1 nb (kset (q := ⟨w3.heap.size, 0, none⟩) u0 nb G0))) (And.intro (kset (q := ⟨w3.heap.size, 2, none⟩) u2 nb (kset (q := ⟨w3.heap.size, 1, none⟩) u1 nb (kset (q := ⟨w3.heap.size, 0, none⟩) u0 nb G1))) (And.intro (kset (q := ⟨w3.heap.size, 2, none⟩) u2 nb (kset (q := ⟨w3.heap.size, 1, none⟩) u1 nb (kset (q := ⟨w3.heap.size, 0, none⟩) u0 nb G2))) (kset (q := ⟨w3.heap.size, 2, none⟩) u2 na (kset (q := ⟨w3.heap.size, 1, none⟩) u1 na (kset (q := ⟨w3.heap.size, 0, none⟩) u0 na a0)))))
    refine wpAnyT_next (i := 12) (by kernel_rfl) rfl ?_
    go_wp2_with fail
    refine ⟨(by first | exact hHeld _ _ _ | exact fun _ => hHeld _ _ _), ?_⟩
    refine wpAnyT_next (i := 13) (by kernel_rfl) rfl ?_
    go_wp2_with fail
    refine ⟨(by first | exact hHeld _ _ _ | exact fun _ => hHeld _ _ _), ?_⟩
    refine wpAnyT_done (by kernel_rfl) ?_ _
    clear hHeld G0 G1 G2
    go_wp2_with fail
    have nlo : ∀ g, A4 = some ⟨g, 0, none⟩ → g ≠ w3.heap.size := fun g h => by
      have h' := HLO4.out g h
      simp [World.drew] at h'
      omega
    have nbb : w.heap.size + 1 ≠ w3.heap.size := by omega
    clear d0 d1 d2 df
    obtain ⟨bx, hbx⟩ : ∃ b, b = w3.heap.size := ⟨_, rfl⟩
    obtain ⟨w5, hw5⟩ : ∃ x, x = ((w4.setCell ⟨w3.heap.size, 0, none⟩ (.int .i64 xT)).setCell ⟨w3.heap.size, 1, none⟩ (.int .i64 xU)).setCell ⟨w3.heap.size, 2, none⟩ (.slice A4 sd.1.L.length q4) := ⟨_, rfl⟩
    have B_x : Hid (Blk w5 bx 66 #[.int .i64 xT, .int .i64 xU, .slice A4 sd.1.L.length q4]) := Lib.hid (by rw [hw5, hbx]; simpa using (((B_d.out.set_ 0 (.int .i64 xT)).set_ 1 (.int .i64 xU)).set_ 2 (.slice A4 sd.1.L.length q4)))
    have B_a : Hid (Blk w5 w.heap.size 33 #[.int .i64 id, .bool false, .slice H.A H.l.length H.c, .slice N.A N.l.length N.c, .slice S.A S.l.length S.c]) := Lib.hid (by rw [hw5]; exact Blk.farr na (Blk.farr na (Blk.farr na B_a.out)))
    have B_b : Hid (Blk w5 (w.heap.size + 1) 33 #[.int .i64 0, .bool false, .slice none 0 0, .slice none 0 0, .slice none 0 0]) := Lib.hid (by rw [hw5]; exact Blk.farr nbb (Blk.farr nbb (Blk.farr nbb B_b.out)))
    have hB5 : Below w.heap.size w w5 := by rw [hw5]; exact qbv
    have HL5 : Hid (Own w3.heap.size 136 3 Loan.enc w5 ⟨A4, q4, sd.1.L⟩) := Lib.hid (by rw [hw5]; exact ((HOWN4.out.other nlo (.int .i64 xT)).other nlo (.int .i64 xU)).other nlo (.slice A4 sd.1.L.length q4))
    have HN5 : Hid (∀ g, A4 = some ⟨g, 0, none⟩ → g ≠ bx) := Lib.hid (by rw [hbx]; exact nlo)
    have zx1 : w3.heap.size ≤ bx := by omega
    have zx2 : bx < w5.heap.size := B_x.out.lt
    have zx3 : w.heap.size + 1 < w3.heap.size := by omega
    rw [← hw5, ← hbx]
    clear hw5 hbx HLO4 HUP4 HOWN4 hB4 a0 a1 a2 a3 a4 af b0 b1 b2 b3 b4 bf
    refine (phone_copied_r ⟨id, false, H, N, S⟩ _ (HR.out.later hB5 (Nat.le_refl _)) HF.out).mono ?_
    rintro e w6 ⟨⟨id', cut', ⟨HA', HC', HL'⟩, N', S'⟩, rfl, hd, ⟨mm, hO⟩, hb6⟩
    have K_a : Blk _ (w.heap.size) 33 #[.int .i64 id, .bool false, .slice H.A H.l.length H.c, .slice N.A N.l.length N.c, .slice S.A S.l.length S.c] := qkc B_a hb6
    obtain ⟨a0, a1, a2, a3, a4, af, az⟩ := Blk.b5 K_a
    have B_a := Lib.hid K_a
    clear K_a
    have K_b : Blk _ (w.heap.size + 1) 33 #[.int .i64 0, .bool false, .slice none 0 0, .slice none 0 0, .slice none 0 0] := qkc B_b hb6
    obtain ⟨b0, b1, b2, b3, b4, bf, bz⟩ := Blk.b5 K_b
    have B_b := Lib.hid K_b
    clear K_b
    have K_x : Blk _ (bx) 66 #[.int .i64 xT, .int .i64 xU, .slice A4 sd.1.L.length q4] := qkc B_x hb6
    obtain ⟨x0, x1, x2, xf, xz⟩ := Blk.b3 K_x
    have B_x := Lib.hid K_x
    clear K_x
    have hB6 : Below w.heap.size w w6 := qbv
    have z6 : w5.heap.size ≤ w6.heap.size := hb6.size
    have HL6 := Lib.hid (HL5.out.below hb6)
    have HO := Lib.hid hO
    have HD := Lib.hid hd
    clear hb6 hO hd
    simp only [Phone.v]
    go_wp2_with fail
    refine (phone_copies _ _ (HS.out.later hB6 (Nat.le_refl _)) hb ?_).mono ?_
    · intro y hy
      have := StockD.right_len (PhoneD.fit_right HG.out y.d (List.mem_map_of_mem (f := Stock.d) hy))
      simp only [Stock.d] at this
      omega
    rintro e w7 ⟨⟨oA, oc, ol⟩, rfl, hmap, ⟨m2, hO2⟩, hb7⟩
    clear a0 a1 a2 a3 a4 af b0 b1 b2 b3 b4 bf x0 x1 x2 xf
    have K_a : Blk _ (w.heap.size) 33 #[.int .i64 id, .bool false, .slice H.A H.l.length H.c, .slice N.A N.l.length N.c, .slice S.A S.l.length S.c] := qkc B_a hb7
    obtain ⟨a0, a1, a2, a3, a4, af, az⟩ := Blk.b5 K_a
    have B_a := Lib.hid K_a
    clear K_a
    have K_b : Blk _ (w.heap.size + 1) 33 #[.int .i64 0, .bool false, .slice none 0 0, .slice none 0 0, .slice none 0 0] := qkc B_b hb7
    obtain ⟨b0, b1, b2, b3, b4, bf, bz⟩ := Blk.b5 K_b
    have B_b := Lib.hid K_b
    clear K_b
    have K_x : Blk _ (bx) 66 #[.int .i64 xT, .int .i64 xU, .slice A4 sd.1.L.length q4] := qkc B_x hb7
    obtain ⟨x0, x1, x2, xf, xz⟩ := Blk.b3 K_x
    have B_x := Lib.hid K_x
    clear K_x
    have hB7 : Below w.heap.size w w7 := qbv
    have z7 : w6.heap.size ≤ w7.heap.size := hb7.size
    have HL7 := Lib.hid (HL6.out.below hb7)
    have HO2 := Lib.hid hO2
    have HMAP := Lib.hid hmap
    have HB7 := Lib.hid hb7
    clear hb7 hO2 hmap
    rw [HI.out]
    have hd' := HD.out
    simp only [Phone.d, PhoneD.mk.injEq] at hd'
    obtain ⟨hd1, hd2, hd3, hd4, hd5⟩ := hd'
    subst hd3
    have HD1 := Lib.hid hd1
    have HD2 := Lib.hid hd2
    have HD4 := Lib.hid hd4
    have HD5 := Lib.hid hd5
    clear hd1 hd2 hd4 hd5
    have hol : ol.length = sl.length := by have := congrArg List.length HMAP.out; simpa using this
    have hoj : ol[j]? = some ol[j] := List.getElem?_eq_getElem (by omega)
    generalize ol[j] = ox at hoj
    obtain ⟨gO, hgO, hgOl, hgOu, hclO, gOf⟩ := HO2.out.O.atk Stock.k hoj
    simp only at hgO
    subst hgO
    obtain ⟨k0, k1, k2⟩ := Cells.c3 hclO
    have HOJ := Lib.hid hoj
    have HOL := Lib.hid hol
    clear hoj hol hclO
    obtain ⟨g, hg, hgl, hgu, hcl, gf⟩ := (HO.out.H.below HB7.out).atk Hold.k (i := i) (x := hx) HHX.out
    simp only at hg
    subst hg
    have hgm := HO.out.bH g rfl
    have hmz := HO.out.bm
    obtain ⟨g0, g1, g2⟩ := Cells.c3 hcl
    clear hcl
    have hjo : j < ol.length := by have := HOL.out; omega
    have hil : i < H.l.length := (List.getElem?_eq_some_iff.1 HHX.out).1
    have hgl : w5.heap.size ≤ g := hgl
    have hgOl : w6.heap.size ≤ gO := hgOl
    have n1 : bx ≠ g := by omega
    have n2 : g ≠ bx := by omega
    have n3 : gO ≠ g := by omega
    have n4 : g ≠ gO := by omega
    have n5 : w.heap.size + 1 ≠ g := by omega
    have n6 : g ≠ w.heap.size + 1 := by omega
    have n7 : w.heap.size + 1 ≠ gO := by omega
    have n8 : gO ≠ w.heap.size + 1 := by omega
    have n9 : gO ≠ bx := by omega
    have n10 : bx ≠ gO := by omega
    have n11 : gO ≠ w7.heap.size := by omega
    have n12 : g ≠ w7.heap.size := by omega
    go_wp2_with fail
    have HFPx : Hid (RdPhone (fun b => (w5.heap.size ≤ b ∧ b < w7.heap.size) ∧ b ≠ gO) ((((w7.setCell ⟨g, i * 3 + 1, none⟩ (.int .i64 (hx.u + n))).setCell ⟨gO, j * 3, none⟩ (.int .i64 xT)).setCell ⟨gO, j * 3 + 1, none⟩ (.int .i64 xU)).setCell ⟨gO, j * 3 + 2, none⟩ (.slice A4 sd.1.L.length q4)) ⟨id', cut', ⟨some ⟨g, 0, none⟩, HC', H.l.set i { hx with u := hx.u + n }⟩, N', S'⟩) := Lib.hid (by
      have hH := (HO.out.H.below HB7.out).set Hold.k rfl HHX.out (j := 1) (y := { hx with u := hx.u + n }) (u := .int .i64 (hx.u + n)) (by omega) rfl
      have hH := ((hH.other (a := ⟨gO, j * 3, none⟩) (fun g' h => by injection h with h; injection h with h; simp only; omega) (.int .i64 xT)).other (a := ⟨gO, j * 3 + 1, none⟩) (fun g' h => by injection h with h; injection h with h; simp only; omega) (.int .i64 xU)).other (a := ⟨gO, j * 3 + 2, none⟩) (fun g' h => by injection h with h; injection h with h; simp only; omega) (.slice A4 sd.1.L.length q4)
      refine ⟨(hH.rdP Hold.k (P := fun b => b ≠ gO) (fun g' h => by injection h with h; injection h with h; omega)).mono (fun b hb => ⟨⟨hb.1, by simpa using hb.2.2⟩, hb.2.1⟩), ⟨?_, fun y hy => ?_⟩, ?_⟩
      · refine Rd.mono (F := fun b => w5.heap.size ≤ b ∧ b ≠ g ∧ b < w6.heap.size) ?_ (fun b hb => ⟨⟨hb.1, by omega⟩, by omega⟩)
        refine Rd.setfarr (by first | (simp; done) | (simp; omega)) (Rd.setfarr (by first | (simp; done) | (simp; omega)) (Rd.setfarr (by first | (simp; done) | (simp; omega)) (Rd.setfarr (by first | (simp; done) | (simp; omega)) ?_)))
        exact (HO.out.N.rdP Note.k (P := fun b => b ≠ g) (fun g' h => Ne.symm (HO.out.HN g g' rfl h))).to7 HB7.out (fun b hb => hb.2.2)
      · refine Rd.mono (F := fun b => mm ≤ b ∧ b < w6.heap.size) ?_ (fun b hb => ⟨⟨Nat.le_trans HO.out.mb hb.1, by omega⟩, by omega⟩)
        refine Rd.setfarr (by first | (simp; done) | (simp; omega)) (Rd.setfarr (by first | (simp; done) | (simp; omega)) (Rd.setfarr (by first | (simp; done) | (simp; omega)) (Rd.setfarr (by first | (simp; done) | (simp; omega)) ?_)))
        exact (HO.out.af y hy).to7 HB7.out (fun b hb => hb.2)
      · refine Rd.mono (F := fun b => w5.heap.size ≤ b ∧ b ≠ g ∧ b < w6.heap.size) ?_ (fun b hb => ⟨⟨hb.1, by omega⟩, by omega⟩)
        refine Rd.setfarr (by first | (simp; done) | (simp; omega)) (Rd.setfarr (by first | (simp; done) | (simp; omega)) (Rd.setfarr (by first | (simp; done) | (simp; omega)) (Rd.setfarr (by first | (simp; done) | (simp; omega)) ?_)))
        exact (HO.out.S.rdP ienc_k (P := fun b => b ≠ g) (fun g' h => Ne.symm (HO.out.HS g g' rfl h))).to7 HB7.out (fun b hb => hb.2.2))
    have HFP := Lib.hid (HFPx.out.mono (G := fun b => w5.heap.size ≤ b ∧ b < w7.heap.size) (fun b hb => hb.1))
    have HOW : Hid (Own w6.heap.size 66 3 Stock.enc ((((w7.setCell ⟨g, i * 3 + 1, none⟩ (.int .i64 (hx.u + n))).setCell ⟨gO, j * 3, none⟩ (.int .i64 xT)).setCell ⟨gO, j * 3 + 1, none⟩ (.int .i64 xU)).setCell ⟨gO, j * 3 + 2, none⟩ (.slice A4 sd.1.L.length q4)) ⟨some ⟨gO, 0, none⟩, oc, ol.set j ⟨xT, xU, ⟨A4, q4, sd.1.L⟩⟩⟩) := Lib.hid (by
      have h0 := (HO2.out.O.other (a := ⟨g, i * 3 + 1, none⟩) (fun g' h => by injection h with h; injection h with h; simp only; omega) (.int .i64 (hx.u + n)))
      have h1 := h0.set Stock.k rfl HOJ.out (j := 0) (y := ⟨xT, ox.U, ox.L⟩) (u := .int .i64 xT) (by omega) rfl
      have h2 := h1.set Stock.k rfl (i := j) (x := ⟨xT, ox.U, ox.L⟩) (by simp only [List.getElem?_set_self hjo]) (j := 1) (y := ⟨xT, xU, ox.L⟩) (u := .int .i64 xU) (by omega) rfl
      have h3 := h2.set Stock.k rfl (i := j) (x := ⟨xT, xU, ox.L⟩) (by simp only [List.set_set, List.getElem?_set_self hjo]) (j := 2) (y := ⟨xT, xU, ⟨A4, q4, sd.1.L⟩⟩) (u := .slice A4 sd.1.L.length q4) (by omega) rfl
      simp only [List.set_set, Nat.add_zero] at h3
      exact h3)
    have HFL : Hid (∀ y, y ∈ ol.set j ⟨xT, xU, ⟨A4, q4, sd.1.L⟩⟩ → Rd (fun b => (w3.heap.size ≤ b ∧ b < w7.heap.size) ∧ b ≠ gO) 3 Loan.enc ((((w7.setCell ⟨g, i * 3 + 1, none⟩ (.int .i64 (hx.u + n))).setCell ⟨gO, j * 3, none⟩ (.int .i64 xT)).setCell ⟨gO, j * 3 + 1, none⟩ (.int .i64 xU)).setCell ⟨gO, j * 3 + 2, none⟩ (.slice A4 sd.1.L.length q4)) y.L) := Lib.hid (by
      intro y hy
      rcases List.mem_or_eq_of_mem_set hy with hy | rfl
      · have hm2 := HO2.out.b gO rfl
        have hm3 := HO2.out.mb
        refine Rd.mono (F := fun b => m2 ≤ b ∧ b < w7.heap.size) ?_ (fun b hb => ⟨⟨by omega, by omega⟩, by omega⟩)
        refine Rd.setfarr (by first | (simp; done) | (simp; omega)) (Rd.setfarr (by first | (simp; done) | (simp; omega)) (Rd.setfarr (by first | (simp; done) | (simp; omega)) (Rd.setfarr (by first | (simp; done) | (simp; omega)) ?_)))
        exact HO2.out.L y hy
      · refine Rd.mono (F := fun b => w3.heap.size ≤ b ∧ b < w5.heap.size ∧ b < w7.heap.size) ?_ (fun b hb => ⟨⟨hb.1, by omega⟩, by omega⟩)
        refine Rd.setfarr (by first | (simp; done) | (simp; omega)) (Rd.setfarr (by first | (simp; done) | (simp; omega)) (Rd.setfarr (by first | (simp; done) | (simp; omega)) (Rd.setfarr (by first | (simp; done) | (simp; omega)) ?_)))
        exact HL7.out.rdP Loan.k (P := fun b => b < w5.heap.size) HL5.out.bound)
    have HFS : Hid (RdStocks (fun b => w3.heap.size ≤ b ∧ b < w7.heap.size) ((((w7.setCell ⟨g, i * 3 + 1, none⟩ (.int .i64 (hx.u + n))).setCell ⟨gO, j * 3, none⟩ (.int .i64 xT)).setCell ⟨gO, j * 3 + 1, none⟩ (.int .i64 xU)).setCell ⟨gO, j * 3 + 2, none⟩ (.slice A4 sd.1.L.length q4)) ⟨some ⟨gO, 0, none⟩, oc, ol.set j ⟨xT, xU, ⟨A4, q4, sd.1.L⟩⟩⟩) := Lib.hid ⟨(HOW.out.rd Stock.k).mono (fun b hb => ⟨by have := hb.1; omega, by simpa using hb.2⟩), fun y hy => (HFL.out y hy).mono (fun b hb => hb.1)⟩
    have HDP : Hid (Phone.d ⟨id', cut', ⟨some ⟨g, 0, none⟩, HC', H.l.set i { hx with u := hx.u + n }⟩, N', S'⟩ = ⟨id, false, H.l.set i { hx with u := hx.u + n }, N.l.map Note.d, S.l⟩) := Lib.hid (by
      simp only [Phone.d, PhoneD.mk.injEq]
      exact ⟨HD1.out, HD2.out, trivial, HD4.out, HD5.out⟩)
    have HDS : Hid ((ol.set j ⟨xT, xU, ⟨A4, q4, sd.1.L⟩⟩).map Stock.d = (sl.map Stock.d).set j (StockD.lend (Stock.d ⟨xT, xU, xL⟩) id n).1) := Lib.hid (by
      have := HMAP.out
      rw [List.map_set]
      try simp only at this
      rw [this, HSD.out]
      have h := StockD.lend_TU (Stock.d ⟨xT, xU, xL⟩) id n
      rw [HSD.out] at h
      rw [h]; rfl)
    try simp only [Exit.inBlock, Exit.then]
    refine bodyPost_ret (v := .tuple #[.agg #[.int .i64 id', .bool cut', .slice (some ⟨g, 0, none⟩) H.l.length HC', .slice N'.A N'.l.length N'.c, .slice S'.A S'.l.length S'.c], .slice (some ⟨gO, 0, none⟩) ol.length oc, .int .i64 0]) ?_ rfl ⟨⟨id', cut', ⟨some ⟨g, 0, none⟩, HC', H.l.set i { hx with u := hx.u + n }⟩, N', S'⟩, ⟨some ⟨gO, 0, none⟩, oc, ol.set j ⟨xT, xU, ⟨A4, q4, sd.1.L⟩⟩⟩, by simp, HDP.out, HDS.out, ?_, ?_, ⟨?_, ?_⟩, ?_⟩
    simp [results, Try.results21, go_sem, a0, a1, a2, a3, a4, af, b0, b1, b2, b3, b4, bf, az, bz, n1, n2, n3, n4, n5, n6, n7, n8]
    · exact (by refine RdPhone.fin2 (A := w.heap.size) (B := w5.heap.size) (C := w7.heap.size) ?_ (by first | omega | (simp; omega)) (by first | omega | (simp; done) | (simp; omega)); repeat (first | (with_reducible exact HFP.out) | ((with_reducible refine RdPhone.setr ?_ ?_); focus (first | (simp; done) | (simp; omega))) | ((with_reducible refine RdPhone.allocr ?_ ?_); focus (intro b hb; have hb2 := hb.2; first | omega | (simp; omega))) | (with_reducible refine RdPhone.drewr ?_) | (with_reducible refine RdPhone.drewNr ?_ _)))
    · exact (by refine RdStocks.fin2 (A := w.heap.size) (B := w3.heap.size) (C := w7.heap.size) ?_ (by first | omega | (simp; omega)) (by first | omega | (simp; done) | (simp; omega)); repeat (first | (with_reducible exact HFS.out) | ((with_reducible refine RdStocks.setr ?_ ?_); focus (first | (simp; done) | (simp; omega))) | ((with_reducible refine RdStocks.allocr ?_ ?_); focus (intro b hb; have hb2 := hb.2; first | omega | (simp; omega))) | (with_reducible refine RdStocks.drewr ?_) | (with_reducible refine RdStocks.drewNr ?_ _)))
    · exact Own.mono (base := w6.heap.size) (by repeat (first | (with_reducible exact HOW.out) | ((with_reducible refine Own.farr ?_ ?_); focus (first | (simp; done) | (simp; omega) | omega)) | (with_reducible refine Own.alloc ?_ _) | (with_reducible refine Own.drew ?_) | (with_reducible refine Own.drewN ?_ _))) (by omega)
    · exact SepR.mk HFPx.out HFL.out
    · exact qbv
end Go.Proofs.Ythnblhbdfpmolaa
