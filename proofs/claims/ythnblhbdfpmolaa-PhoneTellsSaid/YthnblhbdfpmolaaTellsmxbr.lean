/- Walks of the reference of layer 43: Join, the way through. -/
import Derived.Test.YthnblhbdfpmolaaTellsmxbq
import Derived.Test.YthnblhbdfpmolaaTellsmxbk
namespace Go.Proofs.Ythnblhbdfpmolaa
open Go.RowKit
set_option maxRecDepth 20000 in
set_option maxHeartbeats 4000000 in
theorem rjoin_ok (p : Phone) (ss : Sl Stock) (now : Sl Int) (w : World) (hr : RdPhone (· < w.heap.size) w p) (hs : RdStocks (· < w.heap.size) w ss) (hw : Rd (· < w.heap.size) 1 ienc w now) (hb : ss.l.length * 40 ≤ 140737488355328) (HF : Hid (p.d.right = true)) (HG : Hid (p.d.fit (ss.l.map Stock.d) = true)) (HK : Hid (seenR now.l = true)) (hc : p.cut = true) (B : Nat) (hBB : B ≤ w.heap.size) (hFN : ∀ y ∈ p.N.l, Rd (· < B) 1 ienc w y.af) (hGS : ∀ y ∈ ss.l, Rd (· < B) 3 Loan.enc w y.L) :
    Calls Try.prog 29 #[p.v, .slice ss.A ss.l.length ss.c, .slice now.A now.l.length now.c] w fun e w' => ∃ (p' : Phone) (s' : Sl Stock) (n' : Sl Note), e = .returned (.tuple #[p'.v, .slice s'.A s'.l.length s'.c, .slice n'.A n'.l.length n'.c, .int .i64 0]) ∧ p'.d = { p.d with cut := false, H := [], S := seenJ p.id 0 p.S.l now.l } ∧ s'.l.map Stock.d = joinGo p.id p.H.l (ss.l.map Stock.d) ∧ n'.l.map Note.d = p.N.l.map Note.d ∧
      RdPhone (fun b => b < B ∨ (w.heap.size ≤ b ∧ b < w'.heap.size)) w' p' ∧ RdStocks (fun b => b < B ∨ (w.heap.size ≤ b ∧ b < w'.heap.size)) w' s' ∧ RdNotes (fun b => b < B ∨ (w.heap.size ≤ b ∧ b < w'.heap.size)) w' n' ∧ Below w.heap.size w w' := by
  obtain ⟨id, cut, H, N, S⟩ := p
  simp only at hc
  subst hc
  try simp only at hFN
  have HFN := Lib.hid hFN
  have HGS := Lib.hid hGS
  clear hFN hGS
  have HR := Lib.hid hr
  have HS := Lib.hid hs
  have HW := Lib.hid hw
  clear hr hs hw
  simp only [Phone.v]
  go_enter Try.func29, Try.ntmps29
  go_wp2_with fail
  refine (rright43 ⟨id, true, H, N, S⟩ _ (HR.out.later qbl (Nat.le_refl _))).mono ?_
  rintro e w1 ⟨rfl, hb1⟩
  rw [HF.out]
  have K_a : Blk _ (w.heap.size) 26 #[.int .i64 id, .bool true, .slice H.A H.l.length H.c, .slice N.A N.l.length N.c, .slice S.A S.l.length S.c] := qkb hb1
  obtain ⟨a0, a1, a2, a3, a4, af, az⟩ := Blk.b5 K_a
  have B_a := Lib.hid K_a
  clear K_a
  have K_b : Blk _ (w.heap.size + 1) 26 #[.int .i64 0, .bool false, .slice none 0 0, .slice none 0 0, .slice none 0 0] := qkb hb1
  obtain ⟨b0, b1, b2, b3, b4, bf, bz⟩ := Blk.b5 K_b
  have B_b := Lib.hid K_b
  clear K_b
  have hB1 : Below w.heap.size w w1 := qbv
  clear hb1
  go_wp2_with fail
  refine (rfit43 ⟨id, true, H, N, S⟩ ss _ (HR.out.later hB1 (Nat.le_refl _)) (HS.out.later hB1 (Nat.le_refl _)) (PhoneD.right_iff HF.out).H).mono ?_
  rintro e w2 ⟨rfl, hb2⟩
  rw [HG.out]
  clear a0 a1 a2 a3 a4 af b0 b1 b2 b3 b4 bf
  have K_a : Blk _ (w.heap.size) 26 #[.int .i64 id, .bool true, .slice H.A H.l.length H.c, .slice N.A N.l.length N.c, .slice S.A S.l.length S.c] := qkc B_a hb2
  obtain ⟨a0, a1, a2, a3, a4, af, az⟩ := Blk.b5 K_a
  have B_a := Lib.hid K_a
  clear K_a
  have K_b : Blk _ (w.heap.size + 1) 26 #[.int .i64 0, .bool false, .slice none 0 0, .slice none 0 0, .slice none 0 0] := qkc B_b hb2
  obtain ⟨b0, b1, b2, b3, b4, bf, bz⟩ := Blk.b5 K_b
  have B_b := Lib.hid K_b
  clear K_b
  have hB2 : Below w.heap.size w w2 := qbv
  clear hb2
  go_wp2_with fail
  refine (rseen43 now _ (HW.out.below' hB2 (Nat.le_refl _))).mono ?_
  rintro e w3 ⟨rfl, hb3⟩
  rw [HK.out]
  clear a0 a1 a2 a3 a4 af b0 b1 b2 b3 b4 bf
  have K_a : Blk _ (w.heap.size) 26 #[.int .i64 id, .bool true, .slice H.A H.l.length H.c, .slice N.A N.l.length N.c, .slice S.A S.l.length S.c] := qkc B_a hb3
  obtain ⟨a0, a1, a2, a3, a4, af, az⟩ := Blk.b5 K_a
  have B_a := Lib.hid K_a
  clear K_a
  have K_b : Blk _ (w.heap.size + 1) 26 #[.int .i64 0, .bool false, .slice none 0 0, .slice none 0 0, .slice none 0 0] := qkc B_b hb3
  obtain ⟨b0, b1, b2, b3, b4, bf, bz⟩ := Blk.b5 K_b
  have B_b := Lib.hid K_b
  clear K_b
  have hB3 : Below w.heap.size w w3 := qbv
  clear hb3
  obtain ⟨sA, sc, sl⟩ := ss
  try simp only at hb
  go_wp2_with (at_builtin
               go_must (refine wpl_append_sl (base := w3.heap.size) _ rfl (.tmp 41) (.tmp 42) _ rfl Try.underlying27 infoStock (by omega) Stock.k Stock.one ⟨some ⟨w3.heap.size, 0, none⟩, 0, []⟩ ⟨sA, sc, sl⟩ rfl rfl (Own.lit0 Stock.k (by first | rfl | simp) (by simp)) (HS.out.1.below' qbv (Nat.le_refl _)) (by have := HS.out.1.len; simp [maxLen] at this ⊢; omega) (by simp; omega) (by simp) ?_)
               intro oA oc w4 hown4 hg4 hat4
               apply Hid.out)
  refine Lib.hid ?_
  simp only [List.nil_append] at hown4
  clear a0 a1 a2 a3 a4 af b0 b1 b2 b3 b4 bf
  have f1 : w3.heap.size ≠ w.heap.size := by omega
  have f2 : w3.heap.size ≠ w.heap.size + 1 := by omega
  have K_a : Blk _ (w.heap.size) 26 #[.int .i64 id, .bool true, .slice H.A H.l.length H.c, .slice N.A N.l.length N.c, .slice S.A S.l.length S.c] := blk_grown hg4 (by simp [hp_past, hp_at, hp_other, hp_same, hp_drew, hp_drewN, B_a.out.eq, B_a.out.lt, hp_same B_a.out.eq]) (by simp [Value.ownBlock, f1])
  obtain ⟨a0, a1, a2, a3, a4, af, az⟩ := Blk.b5 K_a
  have B_a := Lib.hid K_a
  clear K_a
  have K_b : Blk _ (w.heap.size + 1) 26 #[.int .i64 0, .bool false, .slice none 0 0, .slice none 0 0, .slice none 0 0] := blk_grown hg4 (by simp [hp_past, hp_at, hp_other, hp_same, hp_drew, hp_drewN, B_b.out.eq, B_b.out.lt, hp_same B_b.out.eq]) (by simp [Value.ownBlock, f2])
  obtain ⟨b0, b1, b2, b3, b4, bf, bz⟩ := Blk.b5 K_b
  have B_b := Lib.hid K_b
  clear K_b
  have hB4 : Below w.heap.size w w4 := Below.grown qbv hg4 (by first | omega | (simp; done) | (simp; omega)) (by simp [Value.ownBlock]; omega)
  have hz4 : w3.heap.size + 1 ≤ w4.heap.size := by have := hg4.size; simpa using this
  have HOU : Hid (∀ g, oA = some ⟨g, 0, none⟩ → g < w4.heap.size) := Lib.hid hown4.bound
  have HO4 := Lib.hid hown4
  clear hg4 hown4 hat4
  have hall12 : ∀ y ∈ sl, y.L.l.length ≤ 12 := fun y hy => by
    have hm : y.d ∈ sl.map Stock.d := List.mem_map_of_mem hy
    exact StockD.right_len (PhoneD.fit_right HG.out y.d hm)
  have HA12 := Lib.hid hall12
  have HFH := Lib.hid (PhoneD.fit_holds HG.out (PhoneD.right_iff HF.out).H)
  have HHL := Lib.hid (holdsR_iff (PhoneD.right_iff HF.out).H)
  clear hall12
  obtain ⟨RA, RC, HL⟩ := H
  obtain ⟨nA, nc, nl⟩ := now
  have hhn := HR.out.1.len
  simp only at hhn
  go_wp2_with fail
  go_loopw [11] (fun i wr => ∃ (k : Nat) (OL : List Stock), k ≤ HL.length ∧ i = .int .i64 k ∧ OL.length = sl.length ∧
    Blk wr w.heap.size 26 #[.int .i64 id, .bool true, .slice RA HL.length RC, .slice N.A N.l.length N.c, .slice S.A S.l.length S.c] ∧ Blk wr (w.heap.size + 1) 26 #[.int .i64 0, .bool false, .slice none 0 0, .slice none 0 0, .slice none 0 0] ∧
    Own w3.heap.size 66 3 Stock.enc wr ⟨oA, oc, OL⟩ ∧ (∀ y ∈ OL, y.L.l.length ≤ 12 ∧ Rd (fun b => b < B ∨ (w4.heap.size ≤ b ∧ b < wr.heap.size)) 3 Loan.enc wr y.L) ∧
    Below w.heap.size w wr ∧ w4.heap.size ≤ wr.heap.size ∧
    joinGo id HL (sl.map Stock.d) = joinGo id (HL.drop k) (OL.map Stock.d)) (fun i _ => HL.length - (intOf i).toNat)
  case atStart =>
    exact ⟨0, sl, by omega, rfl, rfl, B_a.out, B_b.out, HO4.out, fun y hy => ⟨HA12.out y hy, ((HGS.out y hy).keep fun b hb => hB4.block b (by omega)).mono fun b hb => .inl hb⟩, qbv, Nat.le_refl _, by simp⟩
  case round =>
    obtain ⟨k, OL, hk, rfl, hOL, hblk, hblkb, hown, hLs, hbel, hsz, heq⟩ := hrel
    clear a0 a1 a2 a3 a4 af b0 b1 b2 b3 b4 bf B_a B_b
    obtain ⟨a0, a1, a2, a3, a4, af, az'⟩ := hblk.b5
    obtain ⟨b0, b1, b2, b3, b4, bf, bz'⟩ := hblkb.b5
    have B_a := Lib.hid hblk
    have B_b := Lib.hid hblkb
    have HOWN := Lib.hid hown
    have HLS := Lib.hid hLs
    clear hblk hblkb hown hLs
    have hhe : w.heap.size ≤ wr.heap.size := hbel.size
    by_cases hlt : k < HL.length
    · obtain ⟨bb, oo, rfl, hbF, hcl⟩ := HR.out.1.at1 hlt
      obtain ⟨g0, g1, g2⟩ := Cells.c3 (hcl.keep (hbel.block bb hbF))
      have hd : HL.drop k = HL[k] :: HL.drop (k + 1) := List.drop_eq_getElem_cons hlt
      have hmem : HL[k] ∈ HL := List.getElem_mem hlt
      obtain ⟨s0, hs0, _⟩ := HFH.out _ hmem
      obtain ⟨x1, x2, x3, x4, x5⟩ := HHL.out.2.2 _ hmem
      rw [hd] at heq
      have HE := Lib.hid heq
      clear hd heq hcl hmem
      simp only at g0 g1 g2
      generalize HL[k] = x at *
      obtain ⟨xst, xu, xs⟩ := x
      simp only at hs0 x1 x2 x3 x4 x5
      obtain ⟨j, rfl⟩ := Int.eq_ofNat_of_zero_le (show 0 ≤ xst by omega)
      have hj : j < OL.length := by
        have := (List.getElem?_eq_some_iff.1 hs0).1
        simp at this; omega
      have hjs : j < sl.length := by omega
      have hoj : OL[j]? = some OL[j] := List.getElem?_eq_getElem hj
      have hojm : OL[j] ∈ OL := List.getElem_mem hj
      obtain ⟨y12, yRd⟩ := HLS.out _ hojm
      generalize OL[j] = y at hoj y12 yRd hojm
      obtain ⟨yT, yU, yL⟩ := y
      simp only at y12 yRd
      obtain ⟨gO, hgO, hgOl, hgOu, hclO, gOf⟩ := HOWN.out.atk Stock.k hoj
      simp only at hgO
      subst hgO
      have hgO2 := HOU.out gO rfl
      obtain ⟨k0, k1, k2⟩ := Cells.c3 hclO
      have HOJ := Lib.hid hoj
      have HYR := Lib.hid yRd
      have HYR2 : Hid (Rd (· < wr.heap.size) 3 Loan.enc wr yL) := Lib.hid (yRd.mono fun b hb => by rcases hb with hb | hb <;> omega)
      clear hclO hoj hojm yRd hs0
      have BA := B_a
      have BB := B_b
      have HOL := Lib.hid hOL
      have hjsl : (j : Int) < (sl.length : Int) := by omega
      clear hOL
      rcases Int.lt_or_le 0 xs with hxs | hxs
      · go_wp2_with fail
        refine (ruse ⟨yT, yU, yL⟩ id xs _ (HYR2.out.below' qbv (Nat.le_refl _)) (by simp only; omega)).mono ?_
        rintro e w6 ⟨⟨uT, uU, uL⟩, rfl, hud, hur, hb6⟩
        clear a0 a1 a2 a3 a4 af b0 b1 b2 b3 b4 bf
        have l1 : w.heap.size < wr.heap.size + 1 := by omega
        have K_a : Blk _ (w.heap.size) 26 #[.int .i64 id, .bool true, .slice (some ⟨bb, oo, none⟩) HL.length RC, .slice N.A N.l.length N.c, .slice S.A S.l.length S.c] := blk_later hb6 (by simp [hp_past, hp_at, hp_other, hp_same, hp_drew, hp_drewN, B_a.out.eq, B_a.out.lt, hp_same B_a.out.eq, l1, az'])
        obtain ⟨a0, a1, a2, a3, a4, af, az⟩ := Blk.b5 K_a
        have B_a := Lib.hid K_a
        clear K_a
        have K_t : Blk _ (wr.heap.size) 59 #[.int .i64 j, .int .i64 xu, .int .i64 xs] := qkb hb6
        obtain ⟨t0, t1, t2, tf, tz⟩ := Blk.b3 K_t
        have B_t := Lib.hid K_t
        clear K_t
        have K_s : Blk _ (wr.heap.size + 1) 66 #[.int .i64 yT, .int .i64 yU, .slice yL.A yL.l.length yL.c] := qkb hb6
        obtain ⟨s0, s1, s2, sf, sz⟩ := Blk.b3 K_s
        have B_s := Lib.hid K_s
        clear K_s
        simp only [Stock.v]
        go_wp2_with fail
        have HU6 : Hid (Rd (fun b => b < B ∨ (w4.heap.size ≤ b ∧ b ≠ wr.heap.size + 1 ∧ b < w6.heap.size)) 3 Loan.enc w6 uL) := Lib.hid (by
          have hz6 : wr.heap.size + 2 ≤ w6.heap.size := by have := hb6.size; simpa using this
          have hbr : Below wr.heap.size wr w6 := qbv
          rcases hur.out with e | e
          · try simp only at e
            rw [e]
            exact (HYR.out.keep fun b hb => hbr.block b (by rcases hb with hb | hb <;> omega)).mono fun b hb => by rcases hb with hb | hb <;> omega
          · exact e.mono fun b hb => by have h1 := hb.1; have h2 := hb.2; simp at h1; exact .inr ⟨by omega, by omega, h2⟩)
        have XT := Lib.hid ((Blk.farr (p := ⟨wr.heap.size + 1, 2, none⟩) (u := .slice uL.A uL.l.length uL.c) (by simp) (Blk.farr (p := ⟨wr.heap.size + 1, 1, none⟩) (u := .int .i64 uU) (by simp) (Blk.farr (p := ⟨wr.heap.size + 1, 0, none⟩) (u := .int .i64 uT) (by simp) B_t.out))).alloc (.cells #[.int .i64 uT, .int .i64 uU, .slice uL.A uL.l.length uL.c] 66))
        have XS := Lib.hid ((((B_s.out.set_ 0 (.int .i64 uT)).set_ 1 (.int .i64 uU)).set_ 2 (.slice uL.A uL.l.length uL.c)).alloc (.cells #[.int .i64 uT, .int .i64 uU, .slice uL.A uL.l.length uL.c] 66))
        have XZ : Hid (Rd (fun b => b < B ∨ (w4.heap.size ≤ b ∧ b < ((((w6.setCell ⟨wr.heap.size + 1, 0, none⟩ (.int .i64 uT)).setCell ⟨wr.heap.size + 1, 1, none⟩ (.int .i64 uU)).setCell ⟨wr.heap.size + 1, 2, none⟩ (.slice uL.A uL.l.length uL.c)).alloc (.cells #[.int .i64 uT, .int .i64 uU, .slice uL.A uL.l.length uL.c] 66)).heap.size)) 3 Loan.enc ((((w6.setCell ⟨wr.heap.size + 1, 0, none⟩ (.int .i64 uT)).setCell ⟨wr.heap.size + 1, 1, none⟩ (.int .i64 uU)).setCell ⟨wr.heap.size + 1, 2, none⟩ (.slice uL.A uL.l.length uL.c)).alloc (.cells #[.int .i64 uT, .int .i64 uU, .slice uL.A uL.l.length uL.c] 66)) uL) := Lib.hid (by
          have h1 := Rd.setfarr (p := ⟨wr.heap.size + 1, 2, none⟩) (u := .slice uL.A uL.l.length uL.c) (by simp; omega) (Rd.setfarr (p := ⟨wr.heap.size + 1, 1, none⟩) (u := .int .i64 uU) (by simp; omega) (Rd.setfarr (p := ⟨wr.heap.size + 1, 0, none⟩) (u := .int .i64 uT) (by simp; omega) HU6.out))
          refine (h1.keep fun b hb => Below.heap_alloc _ _ b ?_).mono fun b hb => ?_
          · simp only [World.size_setCell]; rcases hb with hb | hb <;> omega
          · simp only [World.size_alloc, World.size_setCell]; rcases hb with hb | hb <;> omega)
        have XD : Hid (Stock.d ⟨uT, uU, uL⟩ = if 0 < xs then (StockD.use (Stock.d ⟨yT, yU, yL⟩) id xs).1 else Stock.d ⟨yT, yU, yL⟩) := Lib.hid (by rw [if_pos hxs]; exact hud)
        have X12 : uL.l.length ≤ 12 := by
          have h1 := congrArg (fun q => q.L.length) hud
          have h2 := StockD.use_len (Stock.d ⟨yT, yU, yL⟩) id xs
          simp only [Stock.d] at h1 h2
          omega
        clear hud hur a0 a1 a2 a3 a4 af t0 t1 t2 tf s0 s1 s2 sf B_a B_b
        obtain ⟨w9, hw9⟩ : ∃ x, x = (((w6.setCell ⟨wr.heap.size + 1, 0, none⟩ (.int .i64 uT)).setCell ⟨wr.heap.size + 1, 1, none⟩ (.int .i64 uU)).setCell ⟨wr.heap.size + 1, 2, none⟩ (.slice uL.A uL.l.length uL.c)).alloc (.cells #[.int .i64 uT, .int .i64 uU, .slice uL.A uL.l.length uL.c] 66) := ⟨_, rfl⟩
        have hBW : Below wr.heap.size wr w9 := by rw [hw9]; exact qbv
        have B_t : Hid (Blk w9 wr.heap.size 59 #[.int .i64 j, .int .i64 xu, .int .i64 xs]) := Lib.hid (by rw [hw9]; exact XT.out)
        have B_s : Hid (Blk w9 (wr.heap.size + 1) 66 #[.int .i64 uT, .int .i64 uU, .slice uL.A uL.l.length uL.c]) := Lib.hid (by rw [hw9]; simpa using XS.out)
        have HZR : Hid (Rd (fun b => b < B ∨ (w4.heap.size ≤ b ∧ b < w9.heap.size)) 3 Loan.enc w9 uL) := Lib.hid (by rw [hw9]; exact XZ.out)
        have HZD : Hid (Stock.d ⟨uT, uU, uL⟩ = if 0 < xs then (StockD.use (Stock.d ⟨yT, yU, yL⟩) id xs).1 else Stock.d ⟨yT, yU, yL⟩) := Lib.hid (by exact XD.out)
        have z12 : uL.l.length ≤ 12 := by exact X12
        have B_a := Lib.hid (BA.out.later hBW)
        have B_b := Lib.hid (BB.out.later hBW)
        have HOWN9 := Lib.hid (HOWN.out.below hBW)
        have hB9 : Below w.heap.size w w9 := qbv
        have z9 : wr.heap.size + 1 < w9.heap.size := B_s.out.lt
        rw [← hw9]
        clear hw9
        have HBW := Lib.hid hBW
        clear hBW
        have hH9 := HZR.out.mono (G := fun b => b < w9.heap.size) (fun b hb => by rcases hb with hb | hb <;> omega)
        refine (rgive ⟨uT, uU, uL⟩ id w9 hH9 (by simp only; omega)).mono ?_
        rintro e w10 ⟨⟨vT, vU, vL⟩, rfl, hvd, hvr, hb10⟩
        clear hH9
        have K_a : Blk _ (w.heap.size) 26 #[.int .i64 id, .bool true, .slice (some ⟨bb, oo, none⟩) HL.length RC, .slice N.A N.l.length N.c, .slice S.A S.l.length S.c] := qkc B_a hb10
        obtain ⟨a0, a1, a2, a3, a4, af, az⟩ := Blk.b5 K_a
        have B_a := Lib.hid K_a
        clear K_a
        have K_b : Blk _ (w.heap.size + 1) 26 #[.int .i64 0, .bool false, .slice none 0 0, .slice none 0 0, .slice none 0 0] := qkc B_b hb10
        obtain ⟨b0, b1, b2, b3, b4, bf, bz⟩ := Blk.b5 K_b
        have B_b := Lib.hid K_b
        clear K_b
        have K_t : Blk _ (wr.heap.size) 59 #[.int .i64 j, .int .i64 xu, .int .i64 xs] := qkc B_t hb10
        obtain ⟨t0, t1, t2, tf, tz⟩ := Blk.b3 K_t
        have B_t := Lib.hid K_t
        clear K_t
        have K_s : Blk _ (wr.heap.size + 1) 66 #[.int .i64 uT, .int .i64 uU, .slice uL.A uL.l.length uL.c] := qkc B_s hb10
        obtain ⟨s0, s1, s2, sf, sz⟩ := Blk.b3 K_s
        have B_s := Lib.hid K_s
        clear K_s
        have z10 : w9.heap.size ≤ w10.heap.size := hb10.size
        have hB10 : Below w.heap.size w w10 := qbv
        have HOWN10 := Lib.hid (HOWN9.out.below hb10)
        have HV10 : Hid (Rd (fun b => b < B ∨ (w4.heap.size ≤ b ∧ b < w10.heap.size)) 3 Loan.enc w10 vL) := Lib.hid (by
          rcases hvr.out with e | e
          · try simp only at e
            rw [e]
            exact (HZR.out.keep fun b hb => hb10.block b (by rcases hb with hb | hb <;> omega)).mono fun b hb => by rcases hb with hb | hb <;> omega
          · exact e.mono fun b hb => by omega)
        have HL10 : Hid (∀ y ∈ OL, y.L.l.length ≤ 12 ∧ Rd (fun b => b < B ∨ (w4.heap.size ≤ b ∧ b < w10.heap.size)) 3 Loan.enc w10 y.L) := Lib.hid (fun y hy => by
          obtain ⟨q1, q2⟩ := HLS.out y hy
          refine ⟨q1, (q2.keep fun b hb => ?_).mono fun b hb => by rcases hb with hb | hb <;> omega⟩
          have hbb : b < wr.heap.size := by rcases hb with hb | hb <;> omega
          rw [hb10.block b (by omega), HBW.out.block b hbb])
        have HVD : Hid (Stock.d ⟨vT, vU, vL⟩ = joinS id ⟨j, xu, xs⟩ (Stock.d ⟨yT, yU, yL⟩)) := Lib.hid (hvd.trans (by unfold joinS; exact congrArg (fun q => (StockD.give q id).1) HZD.out))
        have HV12 : vL.l.length ≤ 12 := by
          have h1 := congrArg (fun q => q.L.length) hvd
          have h2 := StockD.give_len (Stock.d ⟨uT, uU, uL⟩) id
          simp only [Stock.d] at h1 h2
          omega
        clear hb10 hvr hvd
        obtain ⟨gO', hgO', _, hgOu', hclO', gOf'⟩ := HOWN10.out.atk Stock.k HOJ.out
        injection hgO' with hgO'
        injection hgO' with hgO'
        subst hgO'
        obtain ⟨k0, k1, k2⟩ := Cells.c3 hclO'
        clear hclO'
        simp only [Stock.v]
        go_wp2_with fail
        have n1 : w.heap.size ≠ gO := by omega
        have n2 : w.heap.size + 1 ≠ gO := by omega
        have XA := Lib.hid ((Blk.farr (p := ⟨gO, j * 3 + 2, none⟩) (u := .slice vL.A vL.l.length vL.c) n1 (Blk.farr (p := ⟨gO, j * 3 + 1, none⟩) (u := .int .i64 vU) n1 (Blk.farr (p := ⟨gO, j * 3, none⟩) (u := .int .i64 vT) n1 B_a.out))).alloc (.cells #[.int .i64 vT, .int .i64 vU, .slice vL.A vL.l.length vL.c] 66))
        have XB := Lib.hid ((Blk.farr (p := ⟨gO, j * 3 + 2, none⟩) (u := .slice vL.A vL.l.length vL.c) n2 (Blk.farr (p := ⟨gO, j * 3 + 1, none⟩) (u := .int .i64 vU) n2 (Blk.farr (p := ⟨gO, j * 3, none⟩) (u := .int .i64 vT) n2 B_b.out))).alloc (.cells #[.int .i64 vT, .int .i64 vU, .slice vL.A vL.l.length vL.c] 66))
        have XO := Lib.hid ((HOWN10.out.set3 HOJ.out ⟨vT, vU, vL⟩).alloc (.cells #[.int .i64 vT, .int .i64 vU, .slice vL.A vL.l.length vL.c] 66))
        have XL : Hid (∀ y ∈ OL.set j ⟨vT, vU, vL⟩, y.L.l.length ≤ 12 ∧ Rd (fun b => b < B ∨ (w4.heap.size ≤ b ∧ b < w10.heap.size + 1)) 3 Loan.enc ((((w10.setCell ⟨gO, j * 3, none⟩ (.int .i64 vT)).setCell ⟨gO, j * 3 + 1, none⟩ (.int .i64 vU)).setCell ⟨gO, j * 3 + 2, none⟩ (.slice vL.A vL.l.length vL.c)).alloc (.cells #[.int .i64 vT, .int .i64 vU, .slice vL.A vL.l.length vL.c] 66)) y.L) := Lib.hid (fun y hy => by
          have key : ∀ q : Sl Loan, Rd (fun b => b < B ∨ (w4.heap.size ≤ b ∧ b < w10.heap.size)) 3 Loan.enc w10 q → Rd (fun b => b < B ∨ (w4.heap.size ≤ b ∧ b < w10.heap.size + 1)) 3 Loan.enc ((((w10.setCell ⟨gO, j * 3, none⟩ (.int .i64 vT)).setCell ⟨gO, j * 3 + 1, none⟩ (.int .i64 vU)).setCell ⟨gO, j * 3 + 2, none⟩ (.slice vL.A vL.l.length vL.c)).alloc (.cells #[.int .i64 vT, .int .i64 vU, .slice vL.A vL.l.length vL.c] 66)) q := fun q hq => by
            have h1 := Rd.setfarr (p := ⟨gO, j * 3 + 2, none⟩) (u := .slice vL.A vL.l.length vL.c) (by simp; omega) (Rd.setfarr (p := ⟨gO, j * 3 + 1, none⟩) (u := .int .i64 vU) (by simp; omega) (Rd.setfarr (p := ⟨gO, j * 3, none⟩) (u := .int .i64 vT) (by simp; omega) hq))
            refine (h1.keep fun b hb => Below.heap_alloc _ _ b ?_).mono fun b hb => ?_
            · simp only [World.size_setCell]; rcases hb with hb | hb <;> omega
            · rcases hb with hb | hb <;> omega
          rcases List.mem_or_eq_of_mem_set hy with hy | rfl
          · exact ⟨(HL10.out y hy).1, key _ (HL10.out y hy).2⟩
          · exact ⟨HV12, key _ HV10.out⟩)
        have XE : Hid (joinGo id HL (sl.map Stock.d) = joinGo id (HL.drop (k + 1)) ((OL.set j ⟨vT, vU, vL⟩).map Stock.d)) := Lib.hid (by
          have e1 : (OL.map Stock.d)[(j : Int).toNat]? = some (Stock.d ⟨yT, yU, yL⟩) := by rw [Int.toNat_natCast, List.getElem?_map, HOJ.out]; rfl
          rw [HE.out]
          simp only [joinGo, e1, List.map_set]
          rw [HVD.out, Int.toNat_natCast])
        have XLN : Hid ((OL.set j (⟨vT, vU, vL⟩ : Stock)).length = sl.length) := Lib.hid (by rw [List.length_set]; exact HOL.out)
        go_roundw
        case rel => exact ⟨k + 1, OL.set j ⟨vT, vU, vL⟩, by omega, by go_num, XLN.out, XA.out, XB.out, XO.out, fun y hy => by simpa using XL.out y hy, qbv, by simp; omega, XE.out⟩
        case measure => simp [intOf]; omega
      · go_wp2_with fail
        clear a0 a1 a2 a3 a4 af b0 b1 b2 b3 b4 bf B_a B_b
        have XZ : Hid (Rd (fun b => b < B ∨ (w4.heap.size ≤ b ∧ b < ((wr.alloc (.cells #[.int .i64 j, .int .i64 xu, .int .i64 xs] 59)).alloc (.cells #[.int .i64 yT, .int .i64 yU, .slice yL.A yL.l.length yL.c] 66)).heap.size)) 3 Loan.enc ((wr.alloc (.cells #[.int .i64 j, .int .i64 xu, .int .i64 xs] 59)).alloc (.cells #[.int .i64 yT, .int .i64 yU, .slice yL.A yL.l.length yL.c] 66)) yL) := Lib.hid (by
          have h1 := HYR.out.keep (w' := wr.alloc (.cells #[.int .i64 j, .int .i64 xu, .int .i64 xs] 59)) fun b hb => Below.heap_alloc _ _ b (by rcases hb with hb | hb <;> omega)
          refine (h1.keep fun b hb => Below.heap_alloc _ _ b ?_).mono fun b hb => ?_
          · simp only [World.size_alloc]; rcases hb with hb | hb <;> omega
          · simp only [World.size_alloc]; rcases hb with hb | hb <;> omega)
        obtain ⟨w9, hw9⟩ : ∃ x, x = (wr.alloc (.cells #[.int .i64 j, .int .i64 xu, .int .i64 xs] 59)).alloc (.cells #[.int .i64 yT, .int .i64 yU, .slice yL.A yL.l.length yL.c] 66) := ⟨_, rfl⟩
        have hBW : Below wr.heap.size wr w9 := by rw [hw9]; exact qbv
        have B_t : Hid (Blk w9 wr.heap.size 59 #[.int .i64 j, .int .i64 xu, .int .i64 xs]) := Lib.hid (by rw [hw9]; exact (Blk.new _ _ _).alloc _)
        have B_s : Hid (Blk w9 (wr.heap.size + 1) 66 #[.int .i64 yT, .int .i64 yU, .slice yL.A yL.l.length yL.c]) := Lib.hid (by rw [hw9]; exact Blk.new' (by simp))
        have HZR : Hid (Rd (fun b => b < B ∨ (w4.heap.size ≤ b ∧ b < w9.heap.size)) 3 Loan.enc w9 yL) := Lib.hid (by rw [hw9]; exact XZ.out)
        have HZD : Hid (Stock.d ⟨yT, yU, yL⟩ = if 0 < xs then (StockD.use (Stock.d ⟨yT, yU, yL⟩) id xs).1 else Stock.d ⟨yT, yU, yL⟩) := Lib.hid (by exact (if_neg (Int.not_lt.2 hxs)).symm)
        have z12 : yL.l.length ≤ 12 := by exact y12
        have B_a := Lib.hid (BA.out.later hBW)
        have B_b := Lib.hid (BB.out.later hBW)
        have HOWN9 := Lib.hid (HOWN.out.below hBW)
        have hB9 : Below w.heap.size w w9 := qbv
        have z9 : wr.heap.size + 1 < w9.heap.size := B_s.out.lt
        rw [← hw9]
        clear hw9
        have HBW := Lib.hid hBW
        clear hBW
        have hH9 := HZR.out.mono (G := fun b => b < w9.heap.size) (fun b hb => by rcases hb with hb | hb <;> omega)
        refine (rgive ⟨yT, yU, yL⟩ id w9 hH9 (by simp only; omega)).mono ?_
        rintro e w10 ⟨⟨vT, vU, vL⟩, rfl, hvd, hvr, hb10⟩
        clear hH9
        have K_a : Blk _ (w.heap.size) 26 #[.int .i64 id, .bool true, .slice (some ⟨bb, oo, none⟩) HL.length RC, .slice N.A N.l.length N.c, .slice S.A S.l.length S.c] := qkc B_a hb10
        obtain ⟨a0, a1, a2, a3, a4, af, az⟩ := Blk.b5 K_a
        have B_a := Lib.hid K_a
        clear K_a
        have K_b : Blk _ (w.heap.size + 1) 26 #[.int .i64 0, .bool false, .slice none 0 0, .slice none 0 0, .slice none 0 0] := qkc B_b hb10
        obtain ⟨b0, b1, b2, b3, b4, bf, bz⟩ := Blk.b5 K_b
        have B_b := Lib.hid K_b
        clear K_b
        have K_t : Blk _ (wr.heap.size) 59 #[.int .i64 j, .int .i64 xu, .int .i64 xs] := qkc B_t hb10
        obtain ⟨t0, t1, t2, tf, tz⟩ := Blk.b3 K_t
        have B_t := Lib.hid K_t
        clear K_t
        have K_s : Blk _ (wr.heap.size + 1) 66 #[.int .i64 yT, .int .i64 yU, .slice yL.A yL.l.length yL.c] := qkc B_s hb10
        obtain ⟨s0, s1, s2, sf, sz⟩ := Blk.b3 K_s
        have B_s := Lib.hid K_s
        clear K_s
        have z10 : w9.heap.size ≤ w10.heap.size := hb10.size
        have hB10 : Below w.heap.size w w10 := qbv
        have HOWN10 := Lib.hid (HOWN9.out.below hb10)
        have HV10 : Hid (Rd (fun b => b < B ∨ (w4.heap.size ≤ b ∧ b < w10.heap.size)) 3 Loan.enc w10 vL) := Lib.hid (by
          rcases hvr.out with e | e
          · try simp only at e
            rw [e]
            exact (HZR.out.keep fun b hb => hb10.block b (by rcases hb with hb | hb <;> omega)).mono fun b hb => by rcases hb with hb | hb <;> omega
          · exact e.mono fun b hb => by omega)
        have HL10 : Hid (∀ y ∈ OL, y.L.l.length ≤ 12 ∧ Rd (fun b => b < B ∨ (w4.heap.size ≤ b ∧ b < w10.heap.size)) 3 Loan.enc w10 y.L) := Lib.hid (fun y hy => by
          obtain ⟨q1, q2⟩ := HLS.out y hy
          refine ⟨q1, (q2.keep fun b hb => ?_).mono fun b hb => by rcases hb with hb | hb <;> omega⟩
          have hbb : b < wr.heap.size := by rcases hb with hb | hb <;> omega
          rw [hb10.block b (by omega), HBW.out.block b hbb])
        have HVD : Hid (Stock.d ⟨vT, vU, vL⟩ = joinS id ⟨j, xu, xs⟩ (Stock.d ⟨yT, yU, yL⟩)) := Lib.hid (hvd.trans (by unfold joinS; exact congrArg (fun q => (StockD.give q id).1) HZD.out))
        have HV12 : vL.l.length ≤ 12 := by
          have h1 := congrArg (fun q => q.L.length) hvd
          have h2 := StockD.give_len (Stock.d ⟨yT, yU, yL⟩) id
          simp only [Stock.d] at h1 h2
          omega
        clear hb10 hvr hvd
        obtain ⟨gO', hgO', _, hgOu', hclO', gOf'⟩ := HOWN10.out.atk Stock.k HOJ.out
        injection hgO' with hgO'
        injection hgO' with hgO'
        subst hgO'
        obtain ⟨k0, k1, k2⟩ := Cells.c3 hclO'
        clear hclO'
        simp only [Stock.v]
        go_wp2_with fail
        have n1 : w.heap.size ≠ gO := by omega
        have n2 : w.heap.size + 1 ≠ gO := by omega
        have XA := Lib.hid ((Blk.farr (p := ⟨gO, j * 3 + 2, none⟩) (u := .slice vL.A vL.l.length vL.c) n1 (Blk.farr (p := ⟨gO, j * 3 + 1, none⟩) (u := .int .i64 vU) n1 (Blk.farr (p := ⟨gO, j * 3, none⟩) (u := .int .i64 vT) n1 B_a.out))).alloc (.cells #[.int .i64 vT, .int .i64 vU, .slice vL.A vL.l.length vL.c] 66))
        have XB := Lib.hid ((Blk.farr (p := ⟨gO, j * 3 + 2, none⟩) (u := .slice vL.A vL.l.length vL.c) n2 (Blk.farr (p := ⟨gO, j * 3 + 1, none⟩) (u := .int .i64 vU) n2 (Blk.farr (p := ⟨gO, j * 3, none⟩) (u := .int .i64 vT) n2 B_b.out))).alloc (.cells #[.int .i64 vT, .int .i64 vU, .slice vL.A vL.l.length vL.c] 66))
        have XO := Lib.hid ((HOWN10.out.set3 HOJ.out ⟨vT, vU, vL⟩).alloc (.cells #[.int .i64 vT, .int .i64 vU, .slice vL.A vL.l.length vL.c] 66))
        have XL : Hid (∀ y ∈ OL.set j ⟨vT, vU, vL⟩, y.L.l.length ≤ 12 ∧ Rd (fun b => b < B ∨ (w4.heap.size ≤ b ∧ b < w10.heap.size + 1)) 3 Loan.enc ((((w10.setCell ⟨gO, j * 3, none⟩ (.int .i64 vT)).setCell ⟨gO, j * 3 + 1, none⟩ (.int .i64 vU)).setCell ⟨gO, j * 3 + 2, none⟩ (.slice vL.A vL.l.length vL.c)).alloc (.cells #[.int .i64 vT, .int .i64 vU, .slice vL.A vL.l.length vL.c] 66)) y.L) := Lib.hid (fun y hy => by
          have key : ∀ q : Sl Loan, Rd (fun b => b < B ∨ (w4.heap.size ≤ b ∧ b < w10.heap.size)) 3 Loan.enc w10 q → Rd (fun b => b < B ∨ (w4.heap.size ≤ b ∧ b < w10.heap.size + 1)) 3 Loan.enc ((((w10.setCell ⟨gO, j * 3, none⟩ (.int .i64 vT)).setCell ⟨gO, j * 3 + 1, none⟩ (.int .i64 vU)).setCell ⟨gO, j * 3 + 2, none⟩ (.slice vL.A vL.l.length vL.c)).alloc (.cells #[.int .i64 vT, .int .i64 vU, .slice vL.A vL.l.length vL.c] 66)) q := fun q hq => by
            have h1 := Rd.setfarr (p := ⟨gO, j * 3 + 2, none⟩) (u := .slice vL.A vL.l.length vL.c) (by simp; omega) (Rd.setfarr (p := ⟨gO, j * 3 + 1, none⟩) (u := .int .i64 vU) (by simp; omega) (Rd.setfarr (p := ⟨gO, j * 3, none⟩) (u := .int .i64 vT) (by simp; omega) hq))
            refine (h1.keep fun b hb => Below.heap_alloc _ _ b ?_).mono fun b hb => ?_
            · simp only [World.size_setCell]; rcases hb with hb | hb <;> omega
            · rcases hb with hb | hb <;> omega
          rcases List.mem_or_eq_of_mem_set hy with hy | rfl
          · exact ⟨(HL10.out y hy).1, key _ (HL10.out y hy).2⟩
          · exact ⟨HV12, key _ HV10.out⟩)
        have XE : Hid (joinGo id HL (sl.map Stock.d) = joinGo id (HL.drop (k + 1)) ((OL.set j ⟨vT, vU, vL⟩).map Stock.d)) := Lib.hid (by
          have e1 : (OL.map Stock.d)[(j : Int).toNat]? = some (Stock.d ⟨yT, yU, yL⟩) := by rw [Int.toNat_natCast, List.getElem?_map, HOJ.out]; rfl
          rw [HE.out]
          simp only [joinGo, e1, List.map_set]
          rw [HVD.out, Int.toNat_natCast])
        have XLN : Hid ((OL.set j (⟨vT, vU, vL⟩ : Stock)).length = sl.length) := Lib.hid (by rw [List.length_set]; exact HOL.out)
        go_roundw
        case rel => exact ⟨k + 1, OL.set j ⟨vT, vU, vL⟩, by omega, by go_num, XLN.out, XA.out, XB.out, XO.out, fun y hy => by simpa using XL.out y hy, qbv, by simp; omega, XE.out⟩
        case measure => simp [intOf]; omega
    · have hke : HL.drop k = [] := List.drop_eq_nil_of_le (by omega)
      rw [hke] at heq
      have HE : Hid (joinGo id HL (sl.map Stock.d) = OL.map Stock.d) := Lib.hid heq
      obtain ⟨wo, hwo⟩ : ∃ x, x = wr := ⟨_, rfl⟩
      subst hwo
      have hRP := PhoneD.right_iff HF.out
      have hS12 : S.l.length = 12 := hRP.S
      have hidr := And.intro hRP.id0 hRP.id1
      simp only [Phone.d] at hidr
      have hN12 : nl.length = 12 := by have := HK.out; simp only [seenR, Bool.and_eq_true] at this; exact of_decide_eq_true this.1
      clear heq hke hRP
      have HS12 := Lib.hid hS12
      have HN12 := Lib.hid hN12
      have HOLL := Lib.hid hOL
      clear hS12 hN12 hOL
      go_wp2_with fail
      refine (rcopied43_r ⟨id, true, ⟨RA, RC, HL⟩, N, S⟩ _ (HR.out.later hbel (Nat.le_refl _)) HF.out).mono ?_
      rintro e w5 ⟨HA', Hc', NA', Nc', SA', Sc', rfl, oH, oN, oS, -, -, aNS, hb5⟩
      clear a0 a1 a2 a3 a4 af b0 b1 b2 b3 b4 bf oH
      have K_a : Blk _ (w.heap.size) 26 #[.int .i64 id, .bool true, .slice RA HL.length RC, .slice N.A N.l.length N.c, .slice S.A S.l.length S.c] := qkc B_a hb5
      obtain ⟨a0, a1, a2, a3, a4, af, az⟩ := Blk.b5 K_a
      have B_a := Lib.hid K_a
      clear K_a
      have K_b : Blk _ (w.heap.size + 1) 26 #[.int .i64 0, .bool false, .slice none 0 0, .slice none 0 0, .slice none 0 0] := qkc B_b hb5
      obtain ⟨b0, b1, b2, b3, b4, bf, bz⟩ := Blk.b5 K_b
      have B_b := Lib.hid K_b
      clear K_b
      have hB5 : Below w.heap.size w w5 := qbv
      have hz5 : wo.heap.size ≤ w5.heap.size := hb5.size
      have HO5 := Lib.hid (HOWN.out.below hb5)
      have HE0 : Hid (∀ y ∈ OL, Rd (fun b => b < B ∨ (w4.heap.size ≤ b ∧ b < wo.heap.size)) 3 Loan.enc w5 y.L) := Lib.hid (fun y hy => (HLS.out y hy).2.keep fun b hb => hb5.block b (by rcases hb with hb | hb <;> omega))
      obtain ⟨gS, hgS, hgSl, hgSu⟩ : ∃ g, SA' = some ⟨g, 0, none⟩ ∧ wo.heap.size ≤ g ∧ g < w5.heap.size := by
        rcases oS.form with ⟨_, _, h0⟩ | ⟨g, h0, h1, h2, _⟩
        · simp only at h0; have := HS12.out; rw [h0] at this; simp at this
        · exact ⟨g, h0, h1, h2⟩
      subst hgS
      have HAN : Hid (∀ q, NA' = some ⟨q, 0, none⟩ → q ≠ gS) := Lib.hid (fun q h => aNS q gS h rfl)
      have HUN : Hid (∀ q, NA' = some ⟨q, 0, none⟩ → q < w5.heap.size) := Lib.hid oN.bound
      have HON := Lib.hid oN
      have HOS := Lib.hid oS
      clear oN oS aNS hb5 HOWN HLS
      simp only [Phone.v]
      go_wp2_with fail
      obtain ⟨wz, hwz⟩ : ∃ z, z = w5.alloc (.cells #[.int .i64 id, .bool false, .slice none 0 0, .slice NA' N.l.length Nc', .slice (some ⟨gS, 0, none⟩) S.l.length Sc'] 26) := ⟨_, rfl⟩
      rw [← hwz]
      have ZA : Hid (Blk wz w.heap.size 26 #[.int .i64 id, .bool true, .slice RA HL.length RC, .slice N.A N.l.length N.c, .slice S.A S.l.length S.c]) := Lib.hid (by rw [hwz]; exact B_a.out.alloc _)
      have ZB : Hid (Blk wz (w.heap.size + 1) 26 #[.int .i64 0, .bool false, .slice none 0 0, .slice none 0 0, .slice none 0 0]) := Lib.hid (by rw [hwz]; exact B_b.out.alloc _)
      have ZQ : Hid (Blk wz w5.heap.size 26 #[.int .i64 id, .bool false, .slice none 0 0, .slice NA' N.l.length Nc', .slice (some ⟨gS, 0, none⟩) S.l.length Sc']) := Lib.hid (by rw [hwz]; exact Blk.new _ _ _)
      have ZO : Hid (Own w3.heap.size 66 3 Stock.enc wz ⟨oA, oc, OL⟩) := Lib.hid (by rw [hwz]; exact HO5.out.alloc _)
      have ZN : Hid (Own wo.heap.size 61 5 Note.enc wz ⟨NA', Nc', N.l⟩) := Lib.hid (by rw [hwz]; exact HON.out.alloc _)
      have ZS : Hid (Own wo.heap.size 3 1 ienc wz ⟨some ⟨gS, 0, none⟩, Sc', S.l⟩) := Lib.hid (by rw [hwz]; exact HOS.out.alloc _)
      have ZE : Hid (∀ y ∈ OL, Rd (fun b => b < B ∨ (w4.heap.size ≤ b ∧ b < wo.heap.size)) 3 Loan.enc wz y.L) := Lib.hid (by
        intro y hy
        rw [hwz]
        exact ((HE0.out y hy).keep fun b hb => Below.heap_alloc _ _ b (by rcases hb with hb | hb <;> omega)).mono fun b hb => by rcases hb with hb | hb <;> omega)
      have hBz : Below w.heap.size w wz := by rw [hwz]; exact qbv
      have hzz : w5.heap.size < wz.heap.size := ZQ.out.lt
      clear hwz a0 a1 a2 a3 a4 af b0 b1 b2 b3 b4 bf B_a B_b HO5 HON HOS HE0
      go_loopw [19] (fun i wv => ∃ (d : Nat) (TL : List Int), d ≤ 12 ∧ i = .int .i64 d ∧ TL.length = 12 ∧
        Own wo.heap.size 3 1 ienc wv ⟨some ⟨gS, 0, none⟩, Sc', TL⟩ ∧ Below w.heap.size w wv ∧ wz.heap.size ≤ wv.heap.size ∧ (∀ b, b < wz.heap.size → b ≠ gS → wv.heap[b]? = wz.heap[b]?) ∧
        seenJ id 0 S.l nl = seenJ id d TL (nl.drop d)) (fun i _ => 12 - (intOf i).toNat)
      case atStart => exact ⟨0, S.l, by omega, rfl, HS12.out, ZS.out, hBz, Nat.le_refl _, fun b _ _ => rfl, by simp⟩
      case round =>
        obtain ⟨d, TL, hd, rfl, hTL, hownS, hbel2, hsz2, hkp2, heq⟩ := hrel
        have HOS := Lib.hid hownS
        have HKP := Lib.hid hkp2
        have HTL := Lib.hid hTL
        have B_a : Hid (Blk wr w.heap.size 26 #[.int .i64 id, .bool true, .slice RA HL.length RC, .slice N.A N.l.length N.c, .slice S.A S.l.length S.c]) := Lib.hid ((hkp2 _ ZA.out.lt (by omega)).trans ZA.out)
        have B_b : Hid (Blk wr (w.heap.size + 1) 26 #[.int .i64 0, .bool false, .slice none 0 0, .slice none 0 0, .slice none 0 0]) := Lib.hid ((hkp2 _ ZB.out.lt (by omega)).trans ZB.out)
        have B_q : Hid (Blk wr w5.heap.size 26 #[.int .i64 id, .bool false, .slice none 0 0, .slice NA' N.l.length Nc', .slice (some ⟨gS, 0, none⟩) S.l.length Sc']) := Lib.hid ((hkp2 _ ZQ.out.lt (by omega)).trans ZQ.out)
        obtain ⟨a0, a1, a2, a3, a4, af, az2⟩ := B_a.out.b5
        obtain ⟨b0, b1, b2, b3, b4, bf, bz2⟩ := B_b.out.b5
        obtain ⟨q0, q1, q2, q3, q4, qf, qz2⟩ := B_q.out.b5
        clear hownS hkp2 hTL
        have hwv : w.heap.size ≤ wr.heap.size := hbel2.size
        by_cases hdn : d < 12
        · have hdn2 : d < nl.length := by have := HN12.out; omega
          have hdS : d < S.l.length := by have := HS12.out; omega
          have hdT : d < TL.length := by have := HTL.out; omega
          obtain ⟨b2', o2', rfl, hF2, hcl2⟩ := HW.out.at1 hdn2
          have v0 := (hcl2.keep (hbel2.block b2' hF2)).c1
          simp only [Nat.mul_one] at v0
          have hd2 : nl.drop d = nl[d] :: nl.drop (d + 1) := List.drop_eq_getElem_cons hdn2
          rw [hd2] at heq
          have HEQ := Lib.hid heq
          clear hcl2 hd2 heq
          generalize nl[d] = n at *
          have htd : TL[d]? = some TL[d] := List.getElem?_eq_getElem hdT
          generalize TL[d] = x at *
          obtain ⟨gS', hgS', _, hgSu', hclS, gSf⟩ := HOS.out.atk ienc_k htd
          injection hgS' with hgS'
          injection hgS' with hgS'
          subst hgS'
          have s0 := hclS.c1
          simp only [Nat.mul_one] at s0
          have HTD := Lib.hid htd
          clear htd hclS
          have hd0 : (0 : Int) ≤ (d : Int) := by omega
          have hd1 : (d : Int) < (nl.length : Int) := by omega
          have hd3 : (d : Int) < (S.l.length : Int) := by omega
          have hd12 : (d : Int) < 12 := by omega
          go_wp2_with fail
          refine wp_region_T (fun w' => w'.cell? ⟨w.heap.size, 0, none⟩ = some (.int .i64 id) ∧ w'.cell? ⟨w5.heap.size, 4, none⟩ = some (.slice (some ⟨gS, 0, none⟩) S.l.length Sc') ∧ w'.cell? ⟨gS, d, none⟩ = some (.int .i64 x) ∧ w'.cell? ⟨b2', o2' + d, none⟩ = some (.int .i64 n)) (fun _ => false) (by kernel_rfl) ⟨a0, q4, s0, v0⟩ (fun hHeld => ?_)
          refine qtq 0 ?_
          simp only [qsa, qsb, qsc]
          refine qtq 1 ?_
          simp only [qsa, qsb, qsc]
          refine qtq 2 ?_
          simp only [qsa, qsb, qsc]
          by_cases hid : (d : Int) = id
          · have hb1 : ((d : Int) != id) = false := by simp [hid]
            have HID := Lib.hid hid
            clear hid
            refine wpAnyT_take2 (i := 3) (v := .bool false) rfl rfl (by kernel_rfl) (by kernel_rfl) (by kernel_rfl) (by kernel_rfl) (fun _ _ _ h => h) (Or.inl ⟨by rfl, ?_⟩) (by first | assumption | trivial) ?_
            · (intro w hSw; (try dsimp only at hSw); go_simp) <;> (first | (with_reducible rfl) | assumption | (simp; done) | (simp [*]; done) | (simp; omega))
            simp only [qsa, qsb, qsc]
            refine qtq 4 ?_
            simp only [qsa, qsb, qsc]
            refine qtn 5 ?_
            simp only [qsa, qsb, qsc]
            refine qtn 6 ?_
            simp only [qsa, qsb, qsc]
            refine qtn 7 ?_
            simp only [qsa, qsb, qsc]
            refine qtn 8 ?_
            simp only [qsa, qsb, qsc]
            refine qtn 9 ?_
            simp only [qsa, qsb, qsc]
            refine qtn 10 ?_
            simp only [qsa, qsb, qsc]
            refine qtn 11 ?_
            simp only [qsa, qsb, qsc]
            refine qtn 12 ?_
            simp only [qsa, qsb, qsc]
            refine qtn 13 ?_
            simp only [qsa, qsb, qsc]
            refine qtn 14 ?_
            simp only [qsa, qsb, qsc]
            refine qtq 15 ?_
            simp only [qsa, qsb, qsc]
            refine wpAnyT_done (by kernel_rfl) ?_ _
            clear hHeld
            go_wp2_with fail
            go_roundw
            case rel => exact ⟨d + 1, TL, by omega, by go_num, HTL.out, HOS.out.drew, qbv, by simpa [World.size_drew] using hsz2, HKP.out, by rw [HEQ.out, seenJ_skip HID.out]⟩
            case measure => simp [intOf]; omega
          · have hb1 : ((d : Int) != id) = true := by simp [hid]
            have HID := Lib.hid hid
            clear hid
            refine wpAnyT_take2 (i := 3) (v := .bool true) rfl rfl (by kernel_rfl) (by kernel_rfl) (by kernel_rfl) (by kernel_rfl) (fun _ _ _ h => h) (Or.inl ⟨by rfl, ?_⟩) (by first | assumption | trivial) ?_
            · (intro w hSw; (try dsimp only at hSw); go_simp) <;> (first | (with_reducible rfl) | assumption | (simp; done) | (simp [*]; done) | (simp; omega))
            simp only [qsa, qsb, qsc]
            refine qtq 4 ?_
            simp only [qsa, qsb, qsc]
            refine qtq 5 ?_
            simp only [qsa, qsb, qsc]
            refine qtq 6 ?_
            simp only [qsa, qsb, qsc]
            refine qtq 7 ?_
            simp only [qsa, qsb, qsc]
            refine qtq 8 ?_
            simp only [qsa, qsb, qsc]
            refine qtq 9 ?_
            simp only [qsa, qsb, qsc]
            refine qtq 10 ?_
            simp only [qsa, qsb, qsc]
            refine qtq 11 ?_
            simp only [qsa, qsb, qsc]
            refine qtq 12 ?_
            simp only [qsa, qsb, qsc]
            refine qtq 13 ?_
            simp only [qsa, qsb, qsc]
            rcases Int.lt_or_le x n with hxn | hxn
            · skip
              refine wpAnyT_take2 (i := 14) (v := .bool true) rfl rfl (by kernel_rfl) (by kernel_rfl) (by kernel_rfl) (by kernel_rfl) (fun _ _ _ h => h) (Or.inl ⟨by rfl, ?_⟩) (by first | assumption | trivial) ?_
              · (intro w hSw; (try dsimp only at hSw); go_simp) <;> (first | (with_reducible rfl) | assumption | (simp; done) | (simp [*]; done) | (simp; omega))
              simp only [qsa, qsb, qsc]
              refine qtq 15 ?_
              simp only [qsa, qsb, qsc]
              refine wpAnyT_done (by kernel_rfl) ?_ _
              clear hHeld
              go_wp2_with fail
              refine wp_region_T (fun w' => w'.cell? ⟨w5.heap.size, 4, none⟩ = some (.slice (some ⟨gS, 0, none⟩) S.l.length Sc') ∧ w'.cell? ⟨b2', o2' + d, none⟩ = some (.int .i64 n)) (fun i => 7 ≤ i) (by kernel_rfl) ⟨q4, v0⟩ (fun hHeld => ?_)
              refine qtq 0 ?_
              simp only [qsa, qsb, qsc]
              refine qtq 1 ?_
              simp only [qsa, qsb, qsc]
              refine qtq 2 ?_
              simp only [qsa, qsb, qsc]
              refine qtq 3 ?_
              simp only [qsa, qsb, qsc]
              refine qtq 4 ?_
              simp only [qsa, qsb, qsc]
              refine qtq 5 ?_
              simp only [qsa, qsb, qsc]
              refine qtq 6 ?_
              simp only [qsa, qsb, qsc]
              clear hHeld
              refine wpAnyT_next (i := 7) (by kernel_rfl) rfl ?_
              go_wp2_with fail
              try simp only [QT]
              try (with_reducible refine And.intro (fun h => by simp at h) ?_)
              refine wpAnyT_next (i := 8) (by kernel_rfl) rfl ?_
              go_wp2_with fail
              try simp only [QT]
              try (with_reducible refine And.intro (fun h => by simp at h) ?_)
              refine wpAnyT_done (by kernel_rfl) ?_ _
              have XS : Hid (Own wo.heap.size 3 1 ienc (wr.setCell ⟨gS, d, none⟩ (.int .i64 n)) ⟨some ⟨gS, 0, none⟩, Sc', TL.set d n⟩) := Lib.hid (by simpa only [Nat.mul_one, Nat.add_zero] using HOS.out.set ienc_k rfl HTD.out (j := 0) (y := n) (u := .int .i64 n) (by omega) rfl)
              have XK : Hid (∀ b, b < wz.heap.size → b ≠ gS → (wr.setCell ⟨gS, d, none⟩ (.int .i64 n)).heap[b]? = wz.heap[b]?) := Lib.hid (fun b h1 h2 => (Below.heap_setCell _ _ _ b (by simpa using h2)).trans (HKP.out b h1 h2))
              have XMX : Hid (max x n = n) := Lib.hid (by omega)
              have XTL : Hid ((TL.set d n).length = 12) := Lib.hid (by rw [List.length_set]; exact HTL.out)
              have XBB : Below w.heap.size w (wr.setCell ⟨gS, d, none⟩ (.int .i64 n)) := qbv
              have XZZ : wz.heap.size ≤ (wr.setCell ⟨gS, d, none⟩ (.int .i64 n)).heap.size := by simpa using hsz2
              go_wp2_with fail
              go_roundw
              case rel => exact ⟨d + 1, TL.set d n, by omega, by go_num, XTL.out, (by repeat (first | (with_reducible exact XS.out) | ((with_reducible refine Own.farr ?_ ?_); focus (first | (simp; done) | (simp; omega) | omega)) | (with_reducible refine Own.alloc ?_ _) | (with_reducible refine Own.drew ?_) | (with_reducible refine Own.drewN ?_ _) | ((with_reducible apply own_via); focus (with_reducible assumption)))), qbv, XZZ, XK.out, by rw [HEQ.out, seenJ_go HID.out HTD.out, XMX.out]⟩
              case measure => simp [intOf]; omega
            · skip
              refine wpAnyT_take2 (i := 14) (v := .bool false) rfl rfl (by kernel_rfl) (by kernel_rfl) (by kernel_rfl) (by kernel_rfl) (fun _ _ _ h => h) (Or.inl ⟨by rfl, ?_⟩) (by first | assumption | trivial) ?_
              · (intro w hSw; (try dsimp only at hSw); go_simp) <;> (first | (with_reducible rfl) | assumption | (simp; done) | (simp [*]; done) | (simp; omega))
              simp only [qsa, qsb, qsc]
              refine qtq 15 ?_
              simp only [qsa, qsb, qsc]
              refine wpAnyT_done (by kernel_rfl) ?_ _
              clear hHeld
              have HMX : Hid (TL.set d (max x n) = TL) := Lib.hid (by
                rw [show max x n = x by omega]
                apply List.ext_getElem?
                intro q
                rw [List.getElem?_set]
                split
                · rename_i hq
                  subst hq
                  exact HTD.out.symm
                · rfl)
              go_wp2_with fail
              go_roundw
              case rel => exact ⟨d + 1, TL, by omega, by go_num, HTL.out, HOS.out.drew, qbv, by simpa [World.size_drew] using hsz2, HKP.out, by rw [HEQ.out, seenJ_go HID.out HTD.out, HMX.out]⟩
              case measure => simp [intOf]; omega
        · have hdn2 : nl.length ≤ d := by have := HN12.out; omega
          have hke2 : nl.drop d = [] := List.drop_eq_nil_of_le hdn2
          rw [hke2, seenJ_nil] at heq
          have HEQ := Lib.hid heq
          have HTS : Hid (TL.length = S.l.length) := Lib.hid (by rw [HTL.out, HS12.out])
          have hN10k : N.l.length ≤ 10000 := Phone.nle HF.out
          have hm1 : N.l.length ≤ maxLen := Nat.le_trans hN10k (by decide)
          have hm2 : N.l.length * 64 ≤ 140737488355328 := Nat.le_trans (Nat.mul_le_mul_right 64 hN10k) (by decide)
          clear hke2 heq hN10k
          go_wp2_with fail
          refine wp_region_T (fun w' => (w'.cell? ⟨w5.heap.size, 0, none⟩ = some (.int .i64 id) ∧ w'.cell? ⟨w5.heap.size, 1, none⟩ = some (.bool false) ∧ w'.cell? ⟨w5.heap.size, 2, none⟩ = some (.slice none 0 0) ∧ w'.cell? ⟨w5.heap.size, 3, none⟩ = some (.slice NA' N.l.length Nc') ∧ w'.cell? ⟨w5.heap.size, 4, none⟩ = some (.slice (some ⟨gS, 0, none⟩) S.l.length Sc')) ∧ w'.cell? ⟨w.heap.size, 3, none⟩ = some (.slice N.A N.l.length N.c)) (fun _ => false) (by kernel_rfl) ⟨⟨q0, q1, q2, q3, q4⟩, a3⟩ (fun hHeld => ?_)
          refine qtq 0 ?_
          simp only [qsa, qsb, qsc]
          refine qtq 1 ?_
          simp only [qsa, qsb, qsc]
          refine qtq 3 ?_
          simp only [qsa, qsb, qsc]
          refine qtq 4 ?_
          simp only [qsa, qsb, qsc]
          clear hHeld
          refine wpAnyT_next (i := 2) (by kernel_rfl) rfl ?_
          go_wp2_with fail
          have hHeld := fun o => And.intro (And.intro (kalloc (w := wr) o q0) (And.intro (kalloc (w := wr) o q1) (And.intro (kalloc (w := wr) o q2) (And.intro (kalloc (w := wr) o q3) (kalloc (w := wr) o q4))))) (kalloc (w := wr) o a3)
          refine And.intro ?_ ?_
          · first
            | exact hHeld _
            | exact fun _ => hHeld _
          clear hHeld
          refine wpAnyT_next (i := 5) (by kernel_rfl) rfl ?_
          refine wpl_append_sl (base := wr.heap.size) _ rfl (.tmp 120) (.tmp 122) _ rfl Try.underlying23 infoNote (by omega) Note.k Note.one ⟨some ⟨wr.heap.size, 0, none⟩, 0, []⟩ N rfl rfl (Own.lit0 Note.k (by rfl) (by simp)) (HR.out.2.1.1.below' qbv (Nat.le_refl _)) (by simpa using hm1) (by simpa using hm2) (by simp) ?_
          intro nA' nc' wc hownN hgN hatN
          simp only [List.nil_append] at hownN
          have hbc : Below wr.heap.size wr wc := Below.grown qbl hgN (by simp) (by simp [Value.ownBlock])
          have HNO := Lib.hid hownN
          have hzc : wr.heap.size ≤ wc.heap.size := hbc.size
          clear hgN hownN hatN
          have hBc : Below w.heap.size w wc := below_via hbc hbel2
          have KZ : Hid (∀ b, b < wz.heap.size → b ≠ gS → wc.heap[b]? = wz.heap[b]?) := Lib.hid (fun b h1 h2 => (hbc.block b (by omega)).trans (HKP.out b h1 h2))
          have FP : Hid (RdPhone (fun b => b < B ∨ (w.heap.size + 2 ≤ b ∧ b < wc.heap.size)) wc ⟨id, false, ⟨none, 0, []⟩, ⟨NA', Nc', N.l⟩, ⟨some ⟨gS, 0, none⟩, Sc', TL⟩⟩) := Lib.hid (by
            refine ⟨Rd.nil _ _ _ _, ⟨?_, fun y hy => ?_⟩, ?_⟩
            · exact ((ZN.out.rdP Note.k (P := fun b => b ≠ gS) HAN.out).keep fun b hb => KZ.out b hb.2.2 hb.2.1).mono fun b hb => by omega
            · exact ((HFN.out y hy).keep fun b hb => hBc.block b (by omega)).mono fun b hb => .inl hb
            · exact ((HOS.out.rd ienc_k).keep fun b hb => hbc.block b hb.2).mono fun b hb => .inr ⟨by have := hb.1; omega, by have := hb.2; omega⟩)
          have FS : Hid (RdStocks (fun b => b < B ∨ (w.heap.size + 2 ≤ b ∧ b < wc.heap.size)) wc ⟨oA, oc, OL⟩) := Lib.hid (by
            refine ⟨?_, fun y hy => ?_⟩
            · exact ((ZO.out.rdP Stock.k (P := fun b => b < w4.heap.size) HOU.out).keep fun b hb => KZ.out b hb.2.2 (by omega)).mono fun b hb => by omega
            · exact ((ZE.out y hy).keep fun b hb => KZ.out b (by rcases hb with hb | hb <;> omega) (by rcases hb with hb | hb <;> omega)).mono fun b hb => by omega)
          have FN : Hid (RdNotes (fun b => b < B ∨ (w.heap.size + 2 ≤ b ∧ b < wc.heap.size)) wc ⟨nA', nc', N.l⟩) := Lib.hid (by
            refine ⟨(HNO.out.rd Note.k).mono fun b hb => .inr ⟨by have := hb.1; omega, by have := hb.2; omega⟩, fun y hy => ?_⟩
            exact ((HFN.out y hy).keep fun b hb => hBc.block b (by omega)).mono fun b hb => .inl hb)
          clear a0 a1 a2 a4 af b0 b1 b2 b3 b4 bf q0 q1 q2 q3 q4 qf a3
          obtain ⟨a0, a1, a2, a3, a4, af, az9⟩ := (B_a.out.later hbc).b5
          obtain ⟨b0, b1, b2, b3, b4, bf, bz9⟩ := (B_b.out.later hbc).b5
          obtain ⟨q0, q1, q2, q3, q4, qf, qz9⟩ := (B_q.out.later hbc).b5
          go_wp2_with fail
          have hHeld := And.intro (And.intro q0 (And.intro q1 (And.intro q2 (And.intro q3 q4)))) a3
          refine And.intro ?_ ?_
          · first
            | exact hHeld
            | exact fun _ => hHeld
          clear hHeld
          have u1 : w5.heap.size ≠ w.heap.size + 1 := by omega
          have u2 : w.heap.size ≠ w.heap.size + 1 := by omega
          have KS : ∀ {b o : Nat} {v : Value} (v0 v1 v2 v3 v4 : Value), b ≠ w.heap.size + 1 → wc.cell? ⟨b, o, none⟩ = some v → (((((wc.setCell ⟨w.heap.size + 1, 0, none⟩ v0).setCell ⟨w.heap.size + 1, 1, none⟩ v1).setCell ⟨w.heap.size + 1, 2, none⟩ v2).setCell ⟨w.heap.size + 1, 3, none⟩ v3).setCell ⟨w.heap.size + 1, 4, none⟩ v4).cell? ⟨b, o, none⟩ = some v := fun v0 v1 v2 v3 v4 hne h => kset _ hne (kset _ hne (kset _ hne (kset _ hne (kset _ hne h))))
          have HKS := Lib.hid (fun v0 v1 v2 v3 v4 => And.intro (And.intro (KS v0 v1 v2 v3 v4 u1 q0) (And.intro (KS v0 v1 v2 v3 v4 u1 q1) (And.intro (KS v0 v1 v2 v3 v4 u1 q2) (And.intro (KS v0 v1 v2 v3 v4 u1 q3) (KS v0 v1 v2 v3 v4 u1 q4))))) (KS v0 v1 v2 v3 v4 u2 a3))
          clear KS
          refine wpAnyT_next (i := 6) (by kernel_rfl) rfl ?_
          go_wp2_with fail
          have hHeld := HKS.out (.int .i64 id) (.bool false) (.slice none 0 0) (.slice NA' N.l.length Nc') (.slice (some ⟨gS, 0, none⟩) S.l.length Sc')
          refine And.intro ?_ ?_
          · first
            | exact hHeld
            | exact fun _ => hHeld
          refine qtq 7 ?_
          simp only [qsa, qsb, qsc]
          refine qtq 8 ?_
          simp only [qsa, qsb, qsc]
          refine qtq 9 ?_
          simp only [qsa, qsb, qsc]
          refine wpAnyT_done (by kernel_rfl) ?_ _
          clear hHeld HKS
          go_wp2_with fail
          try simp only [Exit.inBlock, Exit.then]
          refine bodyPost_ret (v := .tuple #[.agg #[.int .i64 id, .bool false, .slice none 0 0, .slice NA' N.l.length Nc', .slice (some ⟨gS, 0, none⟩) S.l.length Sc'], .slice oA sl.length oc, .slice nA' N.l.length nc', .int .i64 0]) ?_ rfl ⟨⟨id, false, ⟨none, 0, []⟩, ⟨NA', Nc', N.l⟩, ⟨some ⟨gS, 0, none⟩, Sc', TL⟩⟩, ⟨oA, oc, OL⟩, ⟨nA', nc', N.l⟩, by simp only [HTS.out, HOLL.out, List.length_nil], ?_, HE.out.symm, rfl, ?_, ?_, ?_, qbv⟩
          simp [results, Try.results29, go_sem, a0, a1, a2, a3, a4, af, b0, b1, b2, b3, b4, bf, q0, q1, q2, q3, q4, qf, az9, bz9, qz9]
          · simp only [Phone.d, PhoneD.mk.injEq]
            exact ⟨trivial, trivial, trivial, trivial, HEQ.out.symm⟩
          · refine RdPhone.mono (F := fun b => b < B ∨ (w.heap.size + 2 ≤ b ∧ b < wc.heap.size)) ?_ (fun b hb => by simp; omega)
            repeat (first | (with_reducible exact FP.out) | ((with_reducible refine RdPhone.setr ?_ ?_); focus (first | (simp; done) | (simp; omega))))
          · refine RdStocks.mono (F := fun b => b < B ∨ (w.heap.size + 2 ≤ b ∧ b < wc.heap.size)) ?_ (fun b hb => by simp; omega)
            repeat (first | (with_reducible exact FS.out) | ((with_reducible refine RdStocks.setr ?_ ?_); focus (first | (simp; done) | (simp; omega))))
          · refine RdNotes.mono (F := fun b => b < B ∨ (w.heap.size + 2 ≤ b ∧ b < wc.heap.size)) ?_ (fun b hb => by simp; omega)
            repeat (first | (with_reducible exact FN.out) | ((with_reducible refine RdNotes.setr ?_ ?_); focus (first | (simp; done) | (simp; omega))))
end Go.Proofs.Ythnblhbdfpmolaa
