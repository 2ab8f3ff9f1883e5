/- Walks of package phone: Lend, the lower call's error. -/
import Derived.Test.YthnblhbdfpmolaaPNotemxao
namespace Go.Proofs.Ythnblhbdfpmolaa
open Go.RowKit
theorem kalloc {w : World} {p : Addr} {v : Value} (o : Obj) (h : w.cell? p = some v) : (w.alloc o).cell? p = some v := by rw [World.cell?_alloc_some w p o (by rw [h]; rfl), h]
theorem kset {w : World} {p q : Addr} {v : Value} (u : Value) (hne : p.block ≠ q.block) (h : w.cell? p = some v) : (w.setCell q u).cell? p = some v := by rw [World.cell?_setCell_far w q p u (Ne.symm hne), h]

set_option maxHeartbeats 1600000 in
theorem phone_lend_err (p : Phone) (ss : Sl Stock) (j : Nat) (x : Stock) (n : Int) (w : World) (hr : RdPhone (· < w.heap.size) w p) (hs : RdStocks (· < w.heap.size) w ss) (hb : ss.l.length * 40 ≤ 140737488355328) (HF : Hid (p.d.right = true)) (HG : Hid (p.d.fit (ss.l.map Stock.d) = true)) (hk : rngB (j : Int) 0 ((ss.l.length : Int) - 1) = true) (hj : j < ss.l.length) (hc : p.cut = false)
    (ok : Bool) (HH : Hid (hhas p.H.l j = ok)) (hl : (!ok && ((p.H.l.length : Int) == 100)) = false) (HX : Hid (ss.l[j]? = some x)) (HE : Hid ((x.d.lend p.id n).2 ≠ 0)) :
    Calls Try.prog 21 #[p.v, .slice ss.A ss.l.length ss.c, .int .i64 j, .int .i64 n] w fun e w' => e = .returned (.tuple #[p.v, .slice ss.A ss.l.length ss.c, .int .i64 (x.d.lend p.id n).2]) ∧ Below w.heap.size w w' := by
  obtain ⟨id, cut, H, N, S⟩ := p
  simp only at hc
  subst hc
  rcases ok
  · have hfull : ((H.l.length : Int) == 100) = false := by simpa using hl
    clear hl
    have HR := Lib.hid hr
    have HS := Lib.hid hs
    clear hr hs
    simp only [Phone.v]
    go_enter Try.func21, Try.ntmps21
    go_wp2_with fail
    refine (phone_right ⟨id, false, H, N, S⟩ _ (HR.out.later qbl (Nat.le_refl _))).mono ?_
    rintro e w1 ⟨rfl, hb1⟩
    rw [HF.out]
    have K_a : Blk _ (w.heap.size) 33 #[.int .i64 id, .bool false, .slice H.A H.l.length H.c, .slice N.A N.l.length N.c, .slice S.A S.l.length S.c] := qkb hb1
    obtain ⟨a0, a1, a2, a3, a4, af, az⟩ := Blk.b5 K_a
    have B_a := Lib.hid K_a
    clear K_a
    have K_b : Blk _ (w.heap.size + 1) 33 #[.int .i64 0, .bool false, .slice none 0 0, .slice none 0 0, .slice none 0 0] := qkb hb1
    obtain ⟨b0, b1, b2, b3, b4, bf, bz⟩ := Blk.b5 K_b
    have B_b := Lib.hid K_b
    clear K_b
    have hB1 : Below w.heap.size w w1 := qbv
    clear hb1
    go_wp2_with fail
    refine (phone_fit ⟨id, false, H, N, S⟩ ss _ (HR.out.later hB1 (Nat.le_refl _)) (HS.out.later hB1 (Nat.le_refl _)) (PhoneD.right_iff HF.out).H hb).mono ?_
    rintro e w2 ⟨rfl, hb2⟩
    rw [HG.out]
    clear a0 a1 a2 a3 a4 af b0 b1 b2 b3 b4 bf
    have K_a : Blk _ (w.heap.size) 33 #[.int .i64 id, .bool false, .slice H.A H.l.length H.c, .slice N.A N.l.length N.c, .slice S.A S.l.length S.c] := qkc B_a hb2
    obtain ⟨a0, a1, a2, a3, a4, af, az⟩ := Blk.b5 K_a
    have B_a := Lib.hid K_a
    clear K_a
    have K_b : Blk _ (w.heap.size + 1) 33 #[.int .i64 0, .bool false, .slice none 0 0, .slice none 0 0, .slice none 0 0] := qkc B_b hb2
    obtain ⟨b0, b1, b2, b3, b4, bf, bz⟩ := Blk.b5 K_b
    have B_b := Lib.hid K_b
    clear K_b
    have hB2 : Below w.heap.size w w2 := qbv
    clear hb2
    have hsl := HS.out.1.len
    go_wp2_with (go_at_call 59; refine (pto_any _ _ _ _).mono ?_; rintro e w' ⟨rfl, rfl⟩)
    refine (phone_find ⟨id, false, H, N, S⟩ j _ (HR.out.later hB2 (Nat.le_refl _)) (PhoneD.right_iff HF.out).H).mono ?_
    rintro e w3 ⟨rfl, hb3⟩
    rw [HH.out]
    clear a0 a1 a2 a3 a4 af b0 b1 b2 b3 b4 bf
    have K_a : Blk _ (w.heap.size) 33 #[.int .i64 id, .bool false, .slice H.A H.l.length H.c, .slice N.A N.l.length N.c, .slice S.A S.l.length S.c] := qkc B_a hb3
    obtain ⟨a0, a1, a2, a3, a4, af, az⟩ := Blk.b5 K_a
    have B_a := Lib.hid K_a
    clear K_a
    have K_b : Blk _ (w.heap.size + 1) 33 #[.int .i64 0, .bool false, .slice none 0 0, .slice none 0 0, .slice none 0 0] := qkc B_b hb3
    obtain ⟨b0, b1, b2, b3, b4, bf, bz⟩ := Blk.b5 K_b
    have B_b := Lib.hid K_b
    clear K_b
    have hB3 : Below w.heap.size w w3 := qbv
    clear hb3
    go_wp2_with fail
    obtain ⟨bb, oo, hsA, hsF, hcl⟩ := HS.out.1.2.2.2 j x HX.out
    have hRL := HS.out.2 x (List.mem_of_getElem? HX.out)
    have hxr := PhoneD.fit_right HG.out x.d (List.mem_map_of_mem (f := Stock.d) (List.mem_of_getElem? HX.out))
    have hxl := StockD.right_len hxr
    have HRL := Lib.hid hRL
    have HXR := Lib.hid hxr
    clear hRL hxr
    obtain ⟨xT, xU, xL⟩ := x
    obtain ⟨sA, sc, sl⟩ := ss
    simp only at hsA hj hsl
    simp only [Stock.d] at hxl
    subst hsA
    have hcl := hcl.keep (hB3.block bb hsF)
    obtain ⟨g0, g1, g2⟩ := Cells.c3 hcl
    clear hcl
    refine wp_region_T (fun w' => w'.cell? ⟨bb, oo + j * 3, none⟩ = some (.int .i64 xT) ∧ w'.cell? ⟨bb, oo + j * 3 + 1, none⟩ = some (.int .i64 xU) ∧ w'.cell? ⟨bb, oo + j * 3 + 2, none⟩ = some (.slice xL.A xL.l.length xL.c) ∧ w'.cell? ⟨w.heap.size, 0, none⟩ = some (.int .i64 id)) (fun _ => false) (by kernel_rfl) ⟨g0, g1, g2, a0⟩ (fun hHeld => ?_)
    refine wpAnyT_take (i := 0) (v := ?_) rfl (by kernel_rfl) (by kernel_rfl) (by kernel_rfl) (by kernel_rfl) (fun _ _ _ h => h) (Or.inl ⟨by rfl, ?_⟩) (by first | assumption | trivial) ?_
    rotate_left
    · (intro w hSw; (try dsimp only at hSw); go_simp) <;> (with_reducible rfl)
    try simp only [Act.put, List.setIfInBounds_toArray, List.set_cons_zero, List.set_cons_succ]
    refine wpAnyT_take (i := 1) (v := ?_) rfl (by kernel_rfl) (by kernel_rfl) (by kernel_rfl) (by kernel_rfl) (fun _ _ _ h => h) (Or.inl ⟨by rfl, ?_⟩) (by first | assumption | trivial) ?_
    rotate_left
    · (intro w hSw; (try dsimp only at hSw); go_simp) <;> (with_reducible rfl)
    try simp only [Act.put, List.setIfInBounds_toArray, List.set_cons_zero, List.set_cons_succ]
    refine wpAnyT_take (i := 2) (v := ?_) rfl (by kernel_rfl) (by kernel_rfl) (by kernel_rfl) (by kernel_rfl) (fun _ _ _ h => h) (Or.inl ⟨by rfl, ?_⟩) (by first | assumption | trivial) ?_
    rotate_left
    · (intro w hSw; (try dsimp only at hSw); go_simp) <;> (with_reducible rfl)
    try simp only [Act.put, List.setIfInBounds_toArray, List.set_cons_zero, List.set_cons_succ]
    refine wpAnyT_take (i := 3) (v := ?_) rfl (by kernel_rfl) (by kernel_rfl) (by kernel_rfl) (by kernel_rfl) (fun _ _ _ h => h) (Or.inl ⟨by rfl, ?_⟩) (by first | assumption | trivial) ?_
    rotate_left
    · (intro w hSw; (try dsimp only at hSw); go_simp) <;> (with_reducible rfl)
    try simp only [Act.put, List.setIfInBounds_toArray, List.set_cons_zero, List.set_cons_succ]
    refine wpAnyT_take (i := 4) (v := ?_) rfl (by kernel_rfl) (by kernel_rfl) (by kernel_rfl) (by kernel_rfl) (fun _ _ _ h => h) (Or.inl ⟨by rfl, ?_⟩) (by first | assumption | trivial) ?_
    rotate_left
    · (intro w hSw; (try dsimp only at hSw); go_simp) <;> (with_reducible rfl)
    try simp only [Act.put, List.setIfInBounds_toArray, List.set_cons_zero, List.set_cons_succ]
    refine wpAnyT_take (i := 5) (v := ?_) rfl (by kernel_rfl) (by kernel_rfl) (by kernel_rfl) (by kernel_rfl) (fun _ _ _ h => h) (Or.inl ⟨by rfl, ?_⟩) (by first | assumption | trivial) ?_
    rotate_left
    · (intro w hSw; (try dsimp only at hSw); go_simp) <;> (with_reducible rfl)
    try simp only [Act.put, List.setIfInBounds_toArray, List.set_cons_zero, List.set_cons_succ]
    refine wpAnyT_take (i := 6) (v := ?_) rfl (by kernel_rfl) (by kernel_rfl) (by kernel_rfl) (by kernel_rfl) (fun _ _ _ h => h) (Or.inl ⟨by rfl, ?_⟩) (by first | assumption | trivial) ?_
    rotate_left
    · (intro w hSw; (try dsimp only at hSw); go_simp) <;> (with_reducible rfl)
    try simp only [Act.put, List.setIfInBounds_toArray, List.set_cons_zero, List.set_cons_succ]
    clear hHeld
    refine wpAnyT_two (i := 7) (j := 11) (by kernel_rfl) rfl rfl ?_ ?_
    · skip
      go_wp2_with fail
      refine (stock_lend ⟨xT, xU, xL⟩ id n _ (HRL.out.below' qbv (Nat.le_refl _)) (by simp only; omega)).mono ?_
      rintro e w4 ⟨A4, q4, rfl, hown4, hb4⟩
      have G0 := keep_cell hb4 (show (World.drew _).cell? ⟨bb, oo + j * 3, none⟩ = _ from g0)
      have G1 := keep_cell hb4 (show (World.drew _).cell? ⟨bb, oo + j * 3 + 1, none⟩ = _ from g1)
      have G2 := keep_cell hb4 (show (World.drew _).cell? ⟨bb, oo + j * 3 + 2, none⟩ = _ from g2)
      clear a0 a1 a2 a3 a4 af b0 b1 b2 b3 b4 bf g0 g1 g2
      have K_a : Blk _ (w.heap.size) 33 #[.int .i64 id, .bool false, .slice H.A H.l.length H.c, .slice N.A N.l.length N.c, .slice S.A S.l.length S.c] := qkc B_a hb4
      obtain ⟨a0, a1, a2, a3, a4, af, az⟩ := Blk.b5 K_a
      have B_a := Lib.hid K_a
      clear K_a
      have K_b : Blk _ (w.heap.size + 1) 33 #[.int .i64 0, .bool false, .slice none 0 0, .slice none 0 0, .slice none 0 0] := qkc B_b hb4
      obtain ⟨b0, b1, b2, b3, b4, bf, bz⟩ := Blk.b5 K_b
      have B_b := Lib.hid K_b
      clear K_b
      have hB4 : Below w.heap.size w w4 := qbv
      have z4 : w3.heap.size ≤ w4.heap.size := by have := hb4.size; first | exact this | (simp [World.drew] at this; omega)
      have HOWN4 := Lib.hid (hown4.mono (base' := w3.heap.size) (by first | exact Nat.le_refl _ | simp [World.drew]))
      clear hb4 hown4
      generalize hsd : StockD.lend (Stock.d ⟨xT, xU, xL⟩) id n = sd at *
      have HSD := Lib.hid hsd
      clear hsd
      have hsn : (sd.2 != 0) = true := by have h' := HE.out; (try simp only at h'); (try rw [HSD.out] at h'); simp [h']
      go_wp2_with fail
      have hHeld := And.intro G0 (And.intro G1 (And.intro G2 a0))
      refine ⟨(by first | exact hHeld | exact fun _ => hHeld), ?_⟩
      refine wpAnyT_take (i := 8) (v := ?_) rfl (by kernel_rfl) (by kernel_rfl) (by kernel_rfl) (by kernel_rfl) (fun _ _ _ h => h) (Or.inl ⟨by rfl, ?_⟩) (by first | assumption | trivial) ?_
      rotate_left
      · (intro w hSw; (try dsimp only at hSw); go_simp) <;> (with_reducible rfl)
      try simp only [Act.put, List.setIfInBounds_toArray, List.set_cons_zero, List.set_cons_succ]
      refine wpAnyT_take (i := 9) (v := ?_) rfl (by kernel_rfl) (by kernel_rfl) (by kernel_rfl) (by kernel_rfl) (fun _ _ _ h => h) (Or.inl ⟨by rfl, ?_⟩) (by first | assumption | trivial) ?_
      rotate_left
      · (intro w hSw; (try dsimp only at hSw); go_simp) <;> (with_reducible rfl)
      try simp only [Act.put, List.setIfInBounds_toArray, List.set_cons_zero, List.set_cons_succ]
      refine wpAnyT_take (i := 10) (v := ?_) rfl (by kernel_rfl) (by kernel_rfl) (by kernel_rfl) (by kernel_rfl) (fun _ _ _ h => h) (Or.inl ⟨by rfl, ?_⟩) (by first | assumption | trivial) ?_
      rotate_left
      · (intro w hSw; (try dsimp only at hSw); go_simp) <;> (with_reducible rfl)
      try simp only [Act.put, List.setIfInBounds_toArray, List.set_cons_zero, List.set_cons_succ]
      clear hHeld
      refine wpAnyT_next (i := 11) (by kernel_rfl) rfl ?_
      go_wp2_with fail
      have hHeld : ∀ o, _ := fun o => And.intro (kalloc o G0) (And.intro (kalloc o G1) (And.intro (kalloc o G2) (kalloc o a0)))
      refine ⟨(by first | exact hHeld _ | exact fun _ => hHeld _), ?_⟩
      refine wpAnyT_next (i := 12) (by kernel_rfl) rfl ?_
      go_wp2_with fail
      refine ⟨(by first | exact hHeld _ | exact fun _ => hHeld _), ?_⟩
      refine wpAnyT_next (i := 13) (by kernel_rfl) rfl ?_
      go_wp2_with fail
      refine ⟨(by first | exact hHeld _ | exact fun _ => hHeld _), ?_⟩
      refine wpAnyT_done (by kernel_rfl) ?_ _
      clear hHeld G0 G1 G2
      go_wp2_with fail
      try simp only [Exit.inBlock, Exit.then]
      refine bodyPost_ret (v := .tuple #[.agg #[.int .i64 id, .bool false, .slice H.A H.l.length H.c, .slice N.A N.l.length N.c, .slice S.A S.l.length S.c], .slice (some ⟨bb, oo, none⟩) sl.length sc, .int .i64 sd.2]) ?_ rfl ⟨by rw [← HSD.out], qbv⟩
      simp [results, Try.results21, go_sem, a0, a1, a2, a3, a4, af, b0, b1, b2, b3, b4, bf, az, bz]
    · skip
      go_wp2_with fail
      refine ⟨(by first | exact ⟨kalloc _ g0, kalloc _ g1, kalloc _ g2, kalloc _ a0⟩ | exact fun _ => ⟨kalloc _ g0, kalloc _ g1, kalloc _ g2, kalloc _ a0⟩), ?_⟩
      refine wpAnyT_next (i := 7) (by kernel_rfl) rfl ?_
      go_wp2_with fail
      refine (stock_lend ⟨xT, xU, xL⟩ id n _ (HRL.out.below' qbv (Nat.le_refl _)) (by simp only; omega)).mono ?_
      rintro e w4 ⟨A4, q4, rfl, hown4, hb4⟩
      have G0 := keep_cell hb4 (show (World.drew _).cell? ⟨bb, oo + j * 3, none⟩ = _ from kalloc _ g0)
      have G1 := keep_cell hb4 (show (World.drew _).cell? ⟨bb, oo + j * 3 + 1, none⟩ = _ from kalloc _ g1)
      have G2 := keep_cell hb4 (show (World.drew _).cell? ⟨bb, oo + j * 3 + 2, none⟩ = _ from kalloc _ g2)
      clear a0 a1 a2 a3 a4 af b0 b1 b2 b3 b4 bf g0 g1 g2
      have K_a : Blk _ (w.heap.size) 33 #[.int .i64 id, .bool false, .slice H.A H.l.length H.c, .slice N.A N.l.length N.c, .slice S.A S.l.length S.c] := qkc B_a hb4
      obtain ⟨a0, a1, a2, a3, a4, af, az⟩ := Blk.b5 K_a
      have B_a := Lib.hid K_a
      clear K_a
      have K_b : Blk _ (w.heap.size + 1) 33 #[.int .i64 0, .bool false, .slice none 0 0, .slice none 0 0, .slice none 0 0] := qkc B_b hb4
      obtain ⟨b0, b1, b2, b3, b4, bf, bz⟩ := Blk.b5 K_b
      have B_b := Lib.hid K_b
      clear K_b
      have K_d : Blk _ (w3.heap.size) 66 #[.int .i64 0, .int .i64 0, .slice none 0 0] := qkb hb4
      obtain ⟨d0, d1, d2, df, dz⟩ := Blk.b3 K_d
      have B_d := Lib.hid K_d
      clear K_d
      have nb : bb ≠ w3.heap.size := by have := hB3.size; omega
      have na : w.heap.size ≠ w3.heap.size := by omega
      have hB4 : Below w.heap.size w w4 := qbv
      have z4 : w3.heap.size ≤ w4.heap.size := by have := hb4.size; first | exact this | (simp [World.drew] at this; omega)
      have HOWN4 := Lib.hid (hown4.mono (base' := w3.heap.size) (by first | exact Nat.le_refl _ | simp [World.drew]))
      clear hb4 hown4
      generalize hsd : StockD.lend (Stock.d ⟨xT, xU, xL⟩) id n = sd at *
      have HSD := Lib.hid hsd
      clear hsd
      have hsn : (sd.2 != 0) = true := by have h' := HE.out; (try simp only at h'); (try rw [HSD.out] at h'); simp [h']
      go_wp2_with fail
      have hHeld := And.intro G0 (And.intro G1 (And.intro G2 a0))
      refine ⟨(by first | exact hHeld | exact fun _ => hHeld), ?_⟩
      refine wpAnyT_take (i := 8) (v := ?_) rfl (by kernel_rfl) (by kernel_rfl) (by kernel_rfl) (by kernel_rfl) (fun _ _ _ h => h) (Or.inl ⟨by rfl, ?_⟩) (by first | assumption | trivial) ?_
      rotate_left
      · (intro w hSw; (try dsimp only at hSw); go_simp) <;> (with_reducible rfl)
      try simp only [Act.put, List.setIfInBounds_toArray, List.set_cons_zero, List.set_cons_succ]
      refine wpAnyT_take (i := 9) (v := ?_) rfl (by kernel_rfl) (by kernel_rfl) (by kernel_rfl) (by kernel_rfl) (fun _ _ _ h => h) (Or.inl ⟨by rfl, ?_⟩) (by first | assumption | trivial) ?_
      rotate_left
      · (intro w hSw; (try dsimp only at hSw); go_simp) <;> (with_reducible rfl)
      try simp only [Act.put, List.setIfInBounds_toArray, List.set_cons_zero, List.set_cons_succ]
      refine wpAnyT_take (i := 10) (v := ?_) rfl (by kernel_rfl) (by kernel_rfl) (by kernel_rfl) (by kernel_rfl) (fun _ _ _ h => h) (Or.inl ⟨by rfl, ?_⟩) (by first | assumption | trivial) ?_
      rotate_left
      · (intro w hSw; (try dsimp only at hSw); go_simp) <;> (with_reducible rfl)
      try simp only [Act.put, List.setIfInBounds_toArray, List.set_cons_zero, List.set_cons_succ]
      clear hHeld
      have hHeld : ∀ u0 u1 u2, _ := fun u0 u1 u2 => And.intro (kset (q := ⟨w3.heap.size, 2, none⟩) u2 nb (kset (q := ⟨w3.heap.size, 1, none⟩) u1 nb (kset (q := ⟨w3.heap.size, 0, none⟩) u0 nb G0))) (And.intro (kset (q := ⟨w3.heap.size, 2, none⟩) u2 nb (kset (q := ⟨w3.heap.size, 1, none⟩) u1 nb (kset (q := ⟨w3.heap.size, 0, none⟩) u0 nb G1))) (And.intro (kset (q := ⟨w3.heap.size, 2, none⟩) u2 nb (kset (q := ⟨w3.heap.size, 1, none⟩) u1 nb (kset (q := ⟨w3.heap.size, 0, none⟩) u0 nb G2))) (kset (q := ⟨w3.heap.size, 2, none⟩) u2 na (kset (q := ⟨w3.heap.size, 1, none⟩) u1 na (kset (q := ⟨w3.heap.size, 0, none⟩) u0 na a0)))))
      refine wpAnyT_next (i := 12) (by kernel_rfl) rfl ?_
      go_wp2_with fail
      refine ⟨(by first | exact hHeld _ _ _ | exact fun _ => hHeld _ _ _), ?_⟩
      refine wpAnyT_next (i := 13) (by kernel_rfl) rfl ?_
      go_wp2_with fail
      refine ⟨(by first | exact hHeld _ _ _ | exact fun _ => hHeld _ _ _), ?_⟩
      refine wpAnyT_done (by kernel_rfl) ?_ _
      clear hHeld G0 G1 G2
      go_wp2_with fail
      try simp only [Exit.inBlock, Exit.then]
      refine bodyPost_ret (v := .tuple #[.agg #[.int .i64 id, .bool false, .slice H.A H.l.length H.c, .slice N.A N.l.length N.c, .slice S.A S.l.length S.c], .slice (some ⟨bb, oo, none⟩) sl.length sc, .int .i64 sd.2]) ?_ rfl ⟨by rw [← HSD.out], qbv⟩
      simp [results, Try.results21, go_sem, a0, a1, a2, a3, a4, af, b0, b1, b2, b3, b4, bf, az, bz]
  · clear hl
    have HR := Lib.hid hr
    have HS := Lib.hid hs
    clear hr hs
    simp only [Phone.v]
    go_enter Try.func21, Try.ntmps21
    go_wp2_with fail
    refine (phone_right ⟨id, false, H, N, S⟩ _ (HR.out.later qbl (Nat.le_refl _))).mono ?_
    rintro e w1 ⟨rfl, hb1⟩
    rw [HF.out]
    have K_a : Blk _ (w.heap.size) 33 #[.int .i64 id, .bool false, .slice H.A H.l.length H.c, .slice N.A N.l.length N.c, .slice S.A S.l.length S.c] := qkb hb1
    obtain ⟨a0, a1, a2, a3, a4, af, az⟩ := Blk.b5 K_a
    have B_a := Lib.hid K_a
    clear K_a
    have K_b : Blk _ (w.heap.size + 1) 33 #[.int .i64 0, .bool false, .slice none 0 0, .slice none 0 0, .slice none 0 0] := qkb hb1
    obtain ⟨b0, b1, b2, b3, b4, bf, bz⟩ := Blk.b5 K_b
    have B_b := Lib.hid K_b
    clear K_b
    have hB1 : Below w.heap.size w w1 := qbv
    clear hb1
    go_wp2_with fail
    refine (phone_fit ⟨id, false, H, N, S⟩ ss _ (HR.out.later hB1 (Nat.le_refl _)) (HS.out.later hB1 (Nat.le_refl _)) (PhoneD.right_iff HF.out).H hb).mono ?_
    rintro e w2 ⟨rfl, hb2⟩
    rw [HG.out]
    clear a0 a1 a2 a3 a4 af b0 b1 b2 b3 b4 bf
    have K_a : Blk _ (w.heap.size) 33 #[.int .i64 id, .bool false, .slice H.A H.l.length H.c, .slice N.A N.l.length N.c, .slice S.A S.l.length S.c] := qkc B_a hb2
    obtain ⟨a0, a1, a2, a3, a4, af, az⟩ := Blk.b5 K_a
    have B_a := Lib.hid K_a
    clear K_a
    have K_b : Blk _ (w.heap.size + 1) 33 #[.int .i64 0, .bool false, .slice none 0 0, .slice none 0 0, .slice none 0 0] := qkc B_b hb2
    obtain ⟨b0, b1, b2, b3, b4, bf, bz⟩ := Blk.b5 K_b
    have B_b := Lib.hid K_b
    clear K_b
    have hB2 : Below w.heap.size w w2 := qbv
    clear hb2
    have hsl := HS.out.1.len
    go_wp2_with (go_at_call 59; refine (pto_any _ _ _ _).mono ?_; rintro e w' ⟨rfl, rfl⟩)
    refine (phone_find ⟨id, false, H, N, S⟩ j _ (HR.out.later hB2 (Nat.le_refl _)) (PhoneD.right_iff HF.out).H).mono ?_
    rintro e w3 ⟨rfl, hb3⟩
    rw [HH.out]
    clear a0 a1 a2 a3 a4 af b0 b1 b2 b3 b4 bf
    have K_a : Blk _ (w.heap.size) 33 #[.int .i64 id, .bool false, .slice H.A H.l.length H.c, .slice N.A N.l.length N.c, .slice S.A S.l.length S.c] := qkc B_a hb3
    obtain ⟨a0, a1, a2, a3, a4, af, az⟩ := Blk.b5 K_a
    have B_a := Lib.hid K_a
    clear K_a
    have K_b : Blk _ (w.heap.size + 1) 33 #[.int .i64 0, .bool false, .slice none 0 0, .slice none 0 0, .slice none 0 0] := qkc B_b hb3
    obtain ⟨b0, b1, b2, b3, b4, bf, bz⟩ := Blk.b5 K_b
    have B_b := Lib.hid K_b
    clear K_b
    have hB3 : Below w.heap.size w w3 := qbv
    clear hb3
    go_wp2_with fail
    obtain ⟨bb, oo, hsA, hsF, hcl⟩ := HS.out.1.2.2.2 j x HX.out
    have hRL := HS.out.2 x (List.mem_of_getElem? HX.out)
    have hxr := PhoneD.fit_right HG.out x.d (List.mem_map_of_mem (f := Stock.d) (List.mem_of_getElem? HX.out))
    have hxl := StockD.right_len hxr
    have HRL := Lib.hid hRL
    have HXR := Lib.hid hxr
    clear hRL hxr
    obtain ⟨xT, xU, xL⟩ := x
    obtain ⟨sA, sc, sl⟩ := ss
    simp only at hsA hj hsl
    simp only [Stock.d] at hxl
    subst hsA
    have hcl := hcl.keep (hB3.block bb hsF)
    obtain ⟨g0, g1, g2⟩ := Cells.c3 hcl
    clear hcl
    refine wp_region_T (fun w' => w'.cell? ⟨bb, oo + j * 3, none⟩ = some (.int .i64 xT) ∧ w'.cell? ⟨bb, oo + j * 3 + 1, none⟩ = some (.int .i64 xU) ∧ w'.cell? ⟨bb, oo + j * 3 + 2, none⟩ = some (.slice xL.A xL.l.length xL.c) ∧ w'.cell? ⟨w.heap.size, 0, none⟩ = some (.int .i64 id)) (fun _ => false) (by kernel_rfl) ⟨g0, g1, g2, a0⟩ (fun hHeld => ?_)
    refine wpAnyT_take (i := 0) (v := ?_) rfl (by kernel_rfl) (by kernel_rfl) (by kernel_rfl) (by kernel_rfl) (fun _ _ _ h => h) (Or.inl ⟨by rfl, ?_⟩) (by first | assumption | trivial) ?_
    rotate_left
    · (intro w hSw; (try dsimp only at hSw); go_simp) <;> (with_reducible rfl)
    try simp only [Act.put, List.setIfInBounds_toArray, List.set_cons_zero, List.set_cons_succ]
    refine wpAnyT_take (i := 1) (v := ?_) rfl (by kernel_rfl) (by kernel_rfl) (by kernel_rfl) (by kernel_rfl) (fun _ _ _ h => h) (Or.inl ⟨by rfl, ?_⟩) (by first | assumption | trivial) ?_
    rotate_left
    · (intro w hSw; (try dsimp only at hSw); go_simp) <;> (with_reducible rfl)
    try simp only [Act.put, List.setIfInBounds_toArray, List.set_cons_zero, List.set_cons_succ]
    refine wpAnyT_take (i := 2) (v := ?_) rfl (by kernel_rfl) (by kernel_rfl) (by kernel_rfl) (by kernel_rfl) (fun _ _ _ h => h) (Or.inl ⟨by rfl, ?_⟩) (by first | assumption | trivial) ?_
    rotate_left
    · (intro w hSw; (try dsimp only at hSw); go_simp) <;> (with_reducible rfl)
    try simp only [Act.put, List.setIfInBounds_toArray, List.set_cons_zero, List.set_cons_succ]
    refine wpAnyT_take (i := 3) (v := ?_) rfl (by kernel_rfl) (by kernel_rfl) (by kernel_rfl) (by kernel_rfl) (fun _ _ _ h => h) (Or.inl ⟨by rfl, ?_⟩) (by first | assumption | trivial) ?_
    rotate_left
    · (intro w hSw; (try dsimp only at hSw); go_simp) <;> (with_reducible rfl)
    try simp only [Act.put, List.setIfInBounds_toArray, List.set_cons_zero, List.set_cons_succ]
    refine wpAnyT_take (i := 4) (v := ?_) rfl (by kernel_rfl) (by kernel_rfl) (by kernel_rfl) (by kernel_rfl) (fun _ _ _ h => h) (Or.inl ⟨by rfl, ?_⟩) (by first | assumption | trivial) ?_
    rotate_left
    · (intro w hSw; (try dsimp only at hSw); go_simp) <;> (with_reducible rfl)
    try simp only [Act.put, List.setIfInBounds_toArray, List.set_cons_zero, List.set_cons_succ]
    refine wpAnyT_take (i := 5) (v := ?_) rfl (by kernel_rfl) (by kernel_rfl) (by kernel_rfl) (by kernel_rfl) (fun _ _ _ h => h) (Or.inl ⟨by rfl, ?_⟩) (by first | assumption | trivial) ?_
    rotate_left
    · (intro w hSw; (try dsimp only at hSw); go_simp) <;> (with_reducible rfl)
    try simp only [Act.put, List.setIfInBounds_toArray, List.set_cons_zero, List.set_cons_succ]
    refine wpAnyT_take (i := 6) (v := ?_) rfl (by kernel_rfl) (by kernel_rfl) (by kernel_rfl) (by kernel_rfl) (fun _ _ _ h => h) (Or.inl ⟨by rfl, ?_⟩) (by first | assumption | trivial) ?_
    rotate_left
    · (intro w hSw; (try dsimp only at hSw); go_simp) <;> (with_reducible rfl)
    try simp only [Act.put, List.setIfInBounds_toArray, List.set_cons_zero, List.set_cons_succ]
    clear hHeld
    refine wpAnyT_two (i := 7) (j := 11) (by kernel_rfl) rfl rfl ?_ ?_
    · skip
      go_wp2_with fail
      refine (stock_lend ⟨xT, xU, xL⟩ id n _ (HRL.out.below' qbv (Nat.le_refl _)) (by simp only; omega)).mono ?_
      rintro e w4 ⟨A4, q4, rfl, hown4, hb4⟩
      have G0 := keep_cell hb4 (show (World.drew _).cell? ⟨bb, oo + j * 3, none⟩ = _ from g0)
      have G1 := keep_cell hb4 (show (World.drew _).cell? ⟨bb, oo + j * 3 + 1, none⟩ = _ from g1)
      have G2 := keep_cell hb4 (show (World.drew _).cell? ⟨bb, oo + j * 3 + 2, none⟩ = _ from g2)
      clear a0 a1 a2 a3 a4 af b0 b1 b2 b3 b4 bf g0 g1 g2
      have K_a : Blk _ (w.heap.size) 33 #[.int .i64 id, .bool false, .slice H.A H.l.length H.c, .slice N.A N.l.length N.c, .slice S.A S.l.length S.c] := qkc B_a hb4
      obtain ⟨a0, a1, a2, a3, a4, af, az⟩ := Blk.b5 K_a
      have B_a := Lib.hid K_a
      clear K_a
      have K_b : Blk _ (w.heap.size + 1) 33 #[.int .i64 0, .bool false, .slice none 0 0, .slice none 0 0, .slice none 0 0] := qkc B_b hb4
      obtain ⟨b0, b1, b2, b3, b4, bf, bz⟩ := Blk.b5 K_b
      have B_b := Lib.hid K_b
      clear K_b
      have hB4 : Below w.heap.size w w4 := qbv
      have z4 : w3.heap.size ≤ w4.heap.size := by have := hb4.size; first | exact this | (simp [World.drew] at this; omega)
      have HOWN4 := Lib.hid (hown4.mono (base' := w3.heap.size) (by first | exact Nat.le_refl _ | simp [World.drew]))
      clear hb4 hown4
      generalize hsd : StockD.lend (Stock.d ⟨xT, xU, xL⟩) id n = sd at *
      have HSD := Lib.hid hsd
      clear hsd
      have hsn : (sd.2 != 0) = true := by have h' := HE.out; (try simp only at h'); (try rw [HSD.out] at h'); simp [h']
      go_wp2_with fail
      have hHeld := And.intro G0 (And.intro G1 (And.intro G2 a0))
      refine ⟨(by first | exact hHeld | exact fun _ => hHeld), ?_⟩
      refine wpAnyT_take (i := 8) (v := ?_) rfl (by kernel_rfl) (by kernel_rfl) (by kernel_rfl) (by kernel_rfl) (fun _ _ _ h => h) (Or.inl ⟨by rfl, ?_⟩) (by first | assumption | trivial) ?_
      rotate_left
      · (intro w hSw; (try dsimp only at hSw); go_simp) <;> (with_reducible rfl)
      try simp only [Act.put, List.setIfInBounds_toArray, List.set_cons_zero, List.set_cons_succ]
      refine wpAnyT_take (i := 9) (v := ?_) rfl (by kernel_rfl) (by kernel_rfl) (by kernel_rfl) (by kernel_rfl) (fun _ _ _ h => h) (Or.inl ⟨by rfl, ?_⟩) (by first | assumption | trivial) ?_
      rotate_left
      · (intro w hSw; (try dsimp only at hSw); go_simp) <;> (with_reducible rfl)
      try simp only [Act.put, List.setIfInBounds_toArray, List.set_cons_zero, List.set_cons_succ]
      refine wpAnyT_take (i := 10) (v := ?_) rfl (by kernel_rfl) (by kernel_rfl) (by kernel_rfl) (by kernel_rfl) (fun _ _ _ h => h) (Or.inl ⟨by rfl, ?_⟩) (by first | assumption | trivial) ?_
      rotate_left
      · (intro w hSw; (try dsimp only at hSw); go_simp) <;> (with_reducible rfl)
      try simp only [Act.put, List.setIfInBounds_toArray, List.set_cons_zero, List.set_cons_succ]
      clear hHeld
      refine wpAnyT_next (i := 11) (by kernel_rfl) rfl ?_
      go_wp2_with fail
      have hHeld : ∀ o, _ := fun o => And.intro (kalloc o G0) (And.intro (kalloc o G1) (And.intro (kalloc o G2) (kalloc o a0)))
      refine ⟨(by first | exact hHeld _ | exact fun _ => hHeld _), ?_⟩
      refine wpAnyT_next (i := 12) (by kernel_rfl) rfl ?_
      go_wp2_with fail
      refine ⟨(by first | exact hHeld _ | exact fun _ => hHeld _), ?_⟩
      refine wpAnyT_next (i := 13) (by kernel_rfl) rfl ?_
      go_wp2_with fail
      refine ⟨(by first | exact hHeld _ | exact fun _ => hHeld _), ?_⟩
      refine wpAnyT_done (by kernel_rfl) ?_ _
      clear hHeld G0 G1 G2
      go_wp2_with fail
      try simp only [Exit.inBlock, Exit.then]
      refine bodyPost_ret (v := .tuple #[.agg #[.int .i64 id, .bool false, .slice H.A H.l.length H.c, .slice N.A N.l.length N.c, .slice S.A S.l.length S.c], .slice (some ⟨bb, oo, none⟩) sl.length sc, .int .i64 sd.2]) ?_ rfl ⟨by rw [← HSD.out], qbv⟩
      simp [results, Try.results21, go_sem, a0, a1, a2, a3, a4, af, b0, b1, b2, b3, b4, bf, az, bz]
    · skip
      go_wp2_with fail
      refine ⟨(by first | exact ⟨kalloc _ g0, kalloc _ g1, kalloc _ g2, kalloc _ a0⟩ | exact fun _ => ⟨kalloc _ g0, kalloc _ g1, kalloc _ g2, kalloc _ a0⟩), ?_⟩
      refine wpAnyT_next (i := 7) (by kernel_rfl) rfl ?_
      go_wp2_with fail
      refine (stock_lend ⟨xT, xU, xL⟩ id n _ (HRL.out.below' qbv (Nat.le_refl _)) (by simp only; omega)).mono ?_
      rintro e w4 ⟨A4, q4, rfl, hown4, hb4⟩
      have G0 := keep_cell hb4 (show (World.drew _).cell? ⟨bb, oo + j * 3, none⟩ = _ from kalloc _ g0)
      have G1 := keep_cell hb4 (show (World.drew _).cell? ⟨bb, oo + j * 3 + 1, none⟩ = _ from kalloc _ g1)
      have G2 := keep_cell hb4 (show (World.drew _).cell? ⟨bb, oo + j * 3 + 2, none⟩ = _ from kalloc _ g2)
      clear a0 a1 a2 a3 a4 af b0 b1 b2 b3 b4 bf g0 g1 g2
      have K_a : Blk _ (w.heap.size) 33 #[.int .i64 id, .bool false, .slice H.A H.l.length H.c, .slice N.A N.l.length N.c, .slice S.A S.l.length S.c] := qkc B_a hb4
      obtain ⟨a0, a1, a2, a3, a4, af, az⟩ := Blk.b5 K_a
      have B_a := Lib.hid K_a
      clear K_a
      have K_b : Blk _ (w.heap.size + 1) 33 #[.int .i64 0, .bool false, .slice none 0 0, .slice none 0 0, .slice none 0 0] := qkc B_b hb4
      obtain ⟨b0, b1, b2, b3, b4, bf, bz⟩ := Blk.b5 K_b
      have B_b := Lib.hid K_b
      clear K_b
      have K_d : Blk _ (w3.heap.size) 66 #[.int .i64 0, .int .i64 0, .slice none 0 0] := qkb hb4
      obtain ⟨d0, d1, d2, df, dz⟩ := Blk.b3 K_d
      have B_d := Lib.hid K_d
      clear K_d
      have nb : bb ≠ w3.heap.size := by have := hB3.size; omega
      have na : w.heap.size ≠ w3.heap.size := by omega
      have hB4 : Below w.heap.size w w4 := qbv
      have z4 : w3.heap.size ≤ w4.heap.size := by have := hb4.size; first | exact this | (simp [World.drew] at this; omega)
      have HOWN4 := Lib.hid (hown4.mono (base' := w3.heap.size) (by first | exact Nat.le_refl _ | simp [World.drew]))
      clear hb4 hown4
      generalize hsd : StockD.lend (Stock.d ⟨xT, xU, xL⟩) id n = sd at *
      have HSD := Lib.hid hsd
      clear hsd
      have hsn : (sd.2 != 0) = true := by have h' := HE.out; (try simp only at h'); (try rw [HSD.out] at h'); simp [h']
      go_wp2_with fail
      have hHeld := And.intro G0 (And.intro G1 (And.intro G2 a0))
      refine ⟨(by first | exact hHeld | exact fun _ => hHeld), ?_⟩
      refine wpAnyT_take (i := 8) (v := ?_) rfl (by kernel_rfl) (by kernel_rfl) (by kernel_rfl) (by kernel_rfl) (fun _ _ _ h => h) (Or.inl ⟨by rfl, ?_⟩) (by first | assumption | trivial) ?_
      rotate_left
      · (intro w hSw; (try dsimp only at hSw); go_simp) <;> (with_reducible rfl)
      try simp only [Act.put, List.setIfInBounds_toArray, List.set_cons_zero, List.set_cons_succ]
      refine wpAnyT_take (i := 9) (v := ?_) rfl (by kernel_rfl) (by kernel_rfl) (by kernel_rfl) (by kernel_rfl) (fun _ _ _ h => h) (Or.inl ⟨by rfl, ?_⟩) (by first | assumption | trivial) ?_
      rotate_left
      · (intro w hSw; (try dsimp only at hSw); go_simp) <;> (with_reducible rfl)
      try simp only [Act.put, List.setIfInBounds_toArray, List.set_cons_zero, List.set_cons_succ]
      refine wpAnyT_take (i := 10) (v := ?_) rfl (by kernel_rfl) (by kernel_rfl) (by kernel_rfl) (by kernel_rfl) (fun _ _ _ h => h) (Or.inl ⟨by rfl, ?_⟩) (by first | assumption | trivial) ?_
      rotate_left
      · (intro w hSw; (try dsimp only at hSw); go_simp) <;> (with_reducible rfl)
      try simp only [Act.put, List.setIfInBounds_toArray, List.set_cons_zero, List.set_cons_succ]
      clear hHeld
      have hHeld : ∀ u0 u1 u2, _ := fun u0 u1 u2 => And.intro (kset (q := ⟨w3.heap.size, 2, none⟩) u2 nb (kset (q := ⟨w3.heap.size, 1, none⟩) u1 nb (kset (q := ⟨w3.heap.size, 0, none⟩) u0 nb G0))) (And.intro (kset (q := ⟨w3.heap.size, 2, none⟩) u2 nb (kset (q := ⟨w3.heap.size, 1, none⟩) u1 nb (kset (q := ⟨w3.heap.size, 0, none⟩) u0 nb G1))) (And.intro (kset (q := ⟨w3.heap.size, 2, none⟩) u2 nb (kset (q := ⟨w3.heap.size, 1, none⟩) u1 nb (kset (q := ⟨w3.heap.size, 0, none⟩) u0 nb G2))) (kset (q := ⟨w3.heap.size, 2, none⟩) u2 na (kset (q := ⟨w3.heap.size, 1, none⟩) u1 na (kset (q := ⟨w3.heap.size, 0, none⟩) u0 na a0)))))
      refine wpAnyT_next (i := 12) (by kernel_rfl) rfl ?_
      go_wp2_with fail
      refine ⟨(by first | exact hHeld _ _ _ | exact fun _ => hHeld _ _ _), ?_⟩
      refine wpAnyT_next (i := 13) (by kernel_rfl) rfl ?_
      go_wp2_with fail
      refine ⟨(by first | exact hHeld _ _ _ | exact fun _ => hHeld _ _ _), ?_⟩
      refine wpAnyT_done (by kernel_rfl) ?_ _
      clear hHeld G0 G1 G2
      go_wp2_with fail
      try simp only [Exit.inBlock, Exit.then]
      refine bodyPost_ret (v := .tuple #[.agg #[.int .i64 id, .bool false, .slice H.A H.l.length H.c, .slice N.A N.l.length N.c, .slice S.A S.l.length S.c], .slice (some ⟨bb, oo, none⟩) sl.length sc, .int .i64 sd.2]) ?_ rfl ⟨by rw [← HSD.out], qbv⟩
      simp [results, Try.results21, go_sem, a0, a1, a2, a3, a4, af, b0, b1, b2, b3, b4, bf, az, bz]
end Go.Proofs.Ythnblhbdfpmolaa
