/- Walks of package phone: Join, the way through. -/
import Derived.Test.YthnblhbdfpmolaaPNotemxas
namespace Go.Proofs.Ythnblhbdfpmolaa
open Go.RowKit
theorem StockD.use_len (x : StockD) (p n : Int) : (x.use p n).1.L.length = x.L.length := by
  unfold StockD.use
  split
  · split
    · split
      · split <;> simp
      · rfl
    · rfl
  · rfl
theorem StockD.give_len (x : StockD) (p : Int) : (x.give p).1.L.length ≤ x.L.length := by
  unfold StockD.give
  split
  · split
    · split
      · simp; omega
      · exact Nat.le_refl _
    · exact Nat.le_refl _
  · exact Nat.le_refl _
theorem StockD.use_TU (x : StockD) (p n : Int) : (x.use p n).1 = ⟨x.T, x.U, (x.use p n).1.L⟩ := by
  unfold StockD.use
  split
  · split
    · split
      · split <;> rfl
      · rfl
    · rfl
  · rfl
theorem StockD.give_T (x : StockD) (p : Int) : (x.give p).1 = ⟨x.T, (x.give p).1.U, (x.give p).1.L⟩ := by
  unfold StockD.give
  split
  · split
    · split <;> rfl
    · rfl
  · rfl
theorem Own.keepg {α : Type} {base g : Nat} {e : TypeId} {k : Nat} {enc : α → List Value} {w w' : World} {s : Sl α} (h : Own base e k enc w s) (hA : s.A = some ⟨g, 0, none⟩) (hk : w'.heap[g]? = w.heap[g]?) : Own base e k enc w' s := by
  refine ⟨h.1, ?_⟩
  rcases h.2 with h2 | ⟨g', cap, cur, hv, hb, hh, r⟩
  · exact .inl h2
  · have e1 : g' = g := by
      injection hv with h1
      rw [hA] at h1
      injection h1 with h1
      injection h1 with h1
      exact h1.symm
    subst e1
    exact .inr ⟨g', cap, cur, hv, hb, hk.trans hh, r⟩
theorem seenJ_skip {id : Int} {k : Nat} {S : List Int} {n : Int} {r : List Int} (h : (k : Int) = id) : seenJ id k S (n :: r) = seenJ id (k + 1) S r := by simp only [seenJ, if_pos h]
theorem seenJ_go {id : Int} {k : Nat} {S : List Int} {n x : Int} {r : List Int} (h : (k : Int) ≠ id) (hx : S[k]? = some x) : seenJ id k S (n :: r) = seenJ id (k + 1) (S.set k (max x n)) r := by
  simp only [seenJ, if_neg h, List.getD, hx, Option.getD_some]
theorem seenJ_nil {id : Int} {k : Nat} {S : List Int} : seenJ id k S [] = S := by simp [seenJ]

set_option maxRecDepth 20000 in
set_option maxHeartbeats 4000000 in
theorem phone_join_ok (p : Phone) (ss : Sl Stock) (now : Sl Int) (w : World) (hr : RdPhone (· < w.heap.size) w p) (hs : RdStocks (· < w.heap.size) w ss) (hw : Rd (· < w.heap.size) 1 ienc w now) (hb : ss.l.length * 40 ≤ 140737488355328) (HF : Hid (p.d.right = true)) (HG : Hid (p.d.fit (ss.l.map Stock.d) = true)) (HK : Hid (seenR now.l = true)) (hc : p.cut = true) :
    Calls Try.prog 28 #[p.v, .slice ss.A ss.l.length ss.c, .slice now.A now.l.length now.c] w fun e w' => ∃ (p' : Phone) (s' : Sl Stock) (n' : Sl Note), e = .returned (.tuple #[p'.v, .slice s'.A s'.l.length s'.c, .slice n'.A n'.l.length n'.c, .int .i64 0]) ∧ p'.d = { p.d with cut := false, H := [], S := seenJ p.id 0 p.S.l now.l } ∧ s'.l.map Stock.d = joinGo p.id p.H.l (ss.l.map Stock.d) ∧ n'.l.map Note.d = p.N.l.map Note.d ∧
      RdPhone (fun b => w.heap.size ≤ b ∧ b < w'.heap.size) w' p' ∧ RdStocks (fun b => w.heap.size ≤ b ∧ b < w'.heap.size) w' s' ∧ RdNotes (fun b => w.heap.size ≤ b ∧ b < w'.heap.size) w' n' ∧ (Own w.heap.size 66 3 Stock.enc w' s' ∧ SepR p' s') ∧ Below w.heap.size w w' := by
  obtain ⟨id, cut, H, N, S⟩ := p
  simp only at hc
  subst hc
  have HR := Lib.hid hr
  have HS := Lib.hid hs
  have HW := Lib.hid hw
  clear hr hs hw
  simp only [Phone.v]
  go_enter Try.func28, Try.ntmps28
  go_wp2_with fail
  refine (phone_right ⟨id, true, H, N, S⟩ _ (HR.out.later qbl (Nat.le_refl _))).mono ?_
  rintro e w1 ⟨rfl, hb1⟩
  rw [HF.out]
  have K_a : Blk _ (w.heap.size) 33 #[.int .i64 id, .bool true, .slice H.A H.l.length H.c, .slice N.A N.l.length N.c, .slice S.A S.l.length S.c] := qkb hb1
  obtain ⟨a0, a1, a2, a3, a4, af, az⟩ := Blk.b5 K_a
  have B_a := Lib.hid K_a
  clear K_a
  have K_b : Blk _ (w.heap.size + 1) 33 #[.int .i64 0, .bool false, .slice none 0 0, .slice none 0 0, .slice none 0 0] := qkb hb1
  obtain ⟨b0, b1, b2, b3, b4, bf, bz⟩ := Blk.b5 K_b
  have B_b := Lib.hid K_b
  clear K_b
  have hB1 : Below w.heap.size w w1 := qbv
  clear hb1
  go_wp2_with fail
  refine (phone_fit ⟨id, true, H, N, S⟩ ss _ (HR.out.later hB1 (Nat.le_refl _)) (HS.out.later hB1 (Nat.le_refl _)) (PhoneD.right_iff HF.out).H hb).mono ?_
  rintro e w2 ⟨rfl, hb2⟩
  rw [HG.out]
  clear a0 a1 a2 a3 a4 af b0 b1 b2 b3 b4 bf
  have K_a : Blk _ (w.heap.size) 33 #[.int .i64 id, .bool true, .slice H.A H.l.length H.c, .slice N.A N.l.length N.c, .slice S.A S.l.length S.c] := qkc B_a hb2
  obtain ⟨a0, a1, a2, a3, a4, af, az⟩ := Blk.b5 K_a
  have B_a := Lib.hid K_a
  clear K_a
  have K_b : Blk _ (w.heap.size + 1) 33 #[.int .i64 0, .bool false, .slice none 0 0, .slice none 0 0, .slice none 0 0] := qkc B_b hb2
  obtain ⟨b0, b1, b2, b3, b4, bf, bz⟩ := Blk.b5 K_b
  have B_b := Lib.hid K_b
  clear K_b
  have hB2 : Below w.heap.size w w2 := qbv
  clear hb2
  go_wp2_with fail
  refine (phone_seen now _ (HW.out.below' hB2 (Nat.le_refl _))).mono ?_
  rintro e w3 ⟨rfl, hb3⟩
  rw [HK.out]
  clear a0 a1 a2 a3 a4 af b0 b1 b2 b3 b4 bf
  have K_a : Blk _ (w.heap.size) 33 #[.int .i64 id, .bool true, .slice H.A H.l.length H.c, .slice N.A N.l.length N.c, .slice S.A S.l.length S.c] := qkc B_a hb3
  obtain ⟨a0, a1, a2, a3, a4, af, az⟩ := Blk.b5 K_a
  have B_a := Lib.hid K_a
  clear K_a
  have K_b : Blk _ (w.heap.size + 1) 33 #[.int .i64 0, .bool false, .slice none 0 0, .slice none 0 0, .slice none 0 0] := qkc B_b hb3
  obtain ⟨b0, b1, b2, b3, b4, bf, bz⟩ := Blk.b5 K_b
  have B_b := Lib.hid K_b
  clear K_b
  have hB3 : Below w.heap.size w w3 := qbv
  clear hb3
  go_wp2_with fail
  refine (phone_copied_r ⟨id, true, H, N, S⟩ _ (HR.out.later hB3 (Nat.le_refl _)) HF.out).mono ?_
  rintro e w4 ⟨⟨id', cut', ⟨HA', HC', HL'⟩, N', ⟨SA', SC', SL'⟩⟩, rfl, hd, ⟨mm, hO⟩, hb4⟩
  clear a0 a1 a2 a3 a4 af b0 b1 b2 b3 b4 bf
  have K_a : Blk _ (w.heap.size) 33 #[.int .i64 id, .bool true, .slice H.A H.l.length H.c, .slice N.A N.l.length N.c, .slice S.A S.l.length S.c] := qkc B_a hb4
  obtain ⟨a0, a1, a2, a3, a4, af, az⟩ := Blk.b5 K_a
  have B_a := Lib.hid K_a
  clear K_a
  have K_b : Blk _ (w.heap.size + 1) 33 #[.int .i64 0, .bool false, .slice none 0 0, .slice none 0 0, .slice none 0 0] := qkc B_b hb4
  obtain ⟨b0, b1, b2, b3, b4, bf, bz⟩ := Blk.b5 K_b
  have B_b := Lib.hid K_b
  clear K_b
  have hB4 : Below w.heap.size w w4 := qbv
  have z4 : w3.heap.size ≤ w4.heap.size := hb4.size
  have HO := Lib.hid hO
  have HD := Lib.hid hd
  clear hb4 hO hd
  simp only [Phone.v]
  go_wp2_with fail
  refine (phone_copies ss _ (HS.out.later hB4 (Nat.le_refl _)) hb ?_).mono ?_
  · intro y hy
    have := StockD.right_len (PhoneD.fit_right HG.out y.d (List.mem_map_of_mem (f := Stock.d) hy))
    simp only [Stock.d] at this
    omega
  rintro e w5 ⟨⟨oA, oc, ol⟩, rfl, hmap, ⟨m2, hO2⟩, hb5⟩
  clear a0 a1 a2 a3 a4 af b0 b1 b2 b3 b4 bf
  have K_a : Blk _ (w.heap.size) 33 #[.int .i64 id, .bool true, .slice H.A H.l.length H.c, .slice N.A N.l.length N.c, .slice S.A S.l.length S.c] := qkc B_a hb5
  obtain ⟨a0, a1, a2, a3, a4, af, az⟩ := Blk.b5 K_a
  have B_a := Lib.hid K_a
  clear K_a
  have K_b : Blk _ (w.heap.size + 1) 33 #[.int .i64 0, .bool false, .slice none 0 0, .slice none 0 0, .slice none 0 0] := qkc B_b hb5
  obtain ⟨b0, b1, b2, b3, b4, bf, bz⟩ := Blk.b5 K_b
  have B_b := Lib.hid K_b
  clear K_b
  have hB5 : Below w.heap.size w w5 := qbv
  have z5 : w4.heap.size ≤ w5.heap.size := hb5.size
  have HO2 := Lib.hid hO2
  have HMAP := Lib.hid hmap
  have HB5 := Lib.hid hb5
  clear hb5 hO2 hmap
  go_wp2_with fail
  have hol : ol.length = ss.l.length := by have := congrArg List.length HMAP.out; simpa using this
  simp only [hol]
  have hall12 : ∀ y ∈ ol, y.L.l.length ≤ 12 := fun y hy => by
    have hm : y.d ∈ ss.l.map Stock.d := by
      have := HMAP.out
      try simp only at this
      rw [← this]; exact List.mem_map_of_mem hy
    exact StockD.right_len (PhoneD.fit_right HG.out y.d hm)
  have HFH := Lib.hid (PhoneD.fit_holds HG.out (PhoneD.right_iff HF.out).H)
  have HHL := Lib.hid (holdsR_iff (PhoneD.right_iff HF.out).H)
  obtain ⟨RA, RC, HL⟩ := H
  obtain ⟨nA, nc, nl⟩ := now
  have hhn := HR.out.1.len
  simp only at hhn
  go_loopw [47] (fun i wr => ∃ (k : Nat) (OL : List Stock), k ≤ HL.length ∧ i = .int .i64 k ∧ OL.length = ss.l.length ∧
    Blk wr w.heap.size 33 #[.int .i64 id, .bool true, .slice RA HL.length RC, .slice N.A N.l.length N.c, .slice S.A S.l.length S.c] ∧ Blk wr (w.heap.size + 1) 33 #[.int .i64 0, .bool false, .slice none 0 0, .slice none 0 0, .slice none 0 0] ∧
    Blk wr w5.heap.size 33 #[.int .i64 id', .bool cut', .slice HA' HL'.length HC', .slice N'.A N'.l.length N'.c, .slice SA' SL'.length SC'] ∧
    Own w4.heap.size 66 3 Stock.enc wr ⟨oA, oc, OL⟩ ∧ (∀ y ∈ OL, y.L.l.length ≤ 12 ∧ Rd (fun b => m2 ≤ b ∧ b ≠ w5.heap.size ∧ b < wr.heap.size) 3 Loan.enc wr y.L) ∧
    Below w.heap.size w wr ∧ w5.heap.size < wr.heap.size ∧ (∀ b, w3.heap.size ≤ b → b < w4.heap.size → wr.heap[b]? = w4.heap[b]?) ∧
    joinGo id HL (ss.l.map Stock.d) = joinGo id (HL.drop k) (OL.map Stock.d)) (fun i _ => HL.length - (intOf i).toNat)
  case atStart =>
    refine ⟨0, ol, by omega, rfl, hol, B_a.out.alloc _, B_b.out.alloc _, Blk.new _ _ _, HO2.out.O.alloc _, fun y hy => ⟨hall12 y hy, ?_⟩, qbv, by simp, fun b h1 h2 => ?_, by rw [← HMAP.out]; simp⟩
    · exact ((HO2.out.L y hy).mono (G := fun b => m2 ≤ b ∧ b < w5.heap.size) (fun b hb => hb)).keep (fun b hb => Below.heap_alloc _ _ b hb.2) |>.mono (fun b hb => ⟨hb.1, by omega, by simp; omega⟩)
    · exact (Below.heap_alloc _ _ b (by omega)).trans (HB5.out.block b h2)
  case round =>
    obtain ⟨k, OL, hk, rfl, hOL, hblk, hblkb, hblkq, hown, hLs, hbel, hsz, hkeep, heq⟩ := hrel
    obtain ⟨a0, a1, a2, a3, a4, af, az⟩ := hblk.b5
    obtain ⟨b0, b1, b2, b3, b4, bf, bz⟩ := hblkb.b5
    have B_a := Lib.hid hblk
    have B_b := Lib.hid hblkb
    have B_q := Lib.hid hblkq
    have HOWN := Lib.hid hown
    have HLS := Lib.hid hLs
    have HKP := Lib.hid hkeep
    clear hblk hblkb hblkq hown hLs hkeep
    have hhe : w.heap.size ≤ wr.heap.size := hbel.size
    by_cases hlt : k < HL.length
    · obtain ⟨bb, oo, rfl, hbF, hcl⟩ := HR.out.1.at1 hlt
      obtain ⟨g0, g1, g2⟩ := Cells.c3 (hcl.keep (hbel.block bb hbF))
      have hd : HL.drop k = HL[k] :: HL.drop (k + 1) := List.drop_eq_getElem_cons hlt
      have hmem : HL[k] ∈ HL := List.getElem_mem hlt
      obtain ⟨s0, hs0, _⟩ := HFH.out _ hmem
      obtain ⟨x1, x2, x3, x4, x5⟩ := HHL.out.2.2 _ hmem
      rw [hd] at heq
      have HE := Lib.hid heq
      clear hd heq hcl hmem
      generalize HL[k] = x at *
      obtain ⟨xst, xu, xs⟩ := x
      simp only at hs0 x1 x2 x3 x4 x5
      obtain ⟨j, rfl⟩ := Int.eq_ofNat_of_zero_le (show 0 ≤ xst by omega)
      have hj : j < OL.length := by
        have := (List.getElem?_eq_some_iff.1 hs0).1
        simp at this; omega
      have hjs : j < ss.l.length := by omega
      have hoj : OL[j]? = some OL[j] := List.getElem?_eq_getElem hj
      have hojm : OL[j] ∈ OL := List.getElem_mem hj
      obtain ⟨y12, yRd⟩ := HLS.out _ hojm
      generalize OL[j] = y at hoj y12 yRd hojm
      obtain ⟨yT, yU, yL⟩ := y
      simp only at y12 yRd
      obtain ⟨gO, hgO, hgOl, hgOu, hclO, gOf⟩ := HOWN.out.atk Stock.k hoj
      simp only at hgO
      subst hgO
      have hgO2 := HO2.out.b gO rfl
      have hm2 := HO2.out.bm
      have hmb2 := HO2.out.mb
      obtain ⟨k0, k1, k2⟩ := Cells.c3 hclO
      have HOJ := Lib.hid hoj
      have HYR := Lib.hid yRd
      have HYR2 : Hid (Rd (· < wr.heap.size) 3 Loan.enc wr yL) := Lib.hid (yRd.mono fun b hb => hb.2.2)
      clear hclO hoj hojm yRd
      have BA := B_a
      have BB := B_b
      have BQ := B_q
      rcases Int.lt_or_le 0 xs with hxs | hxs
      · go_wp2_with fail
        refine (stock_use ⟨yT, yU, yL⟩ id xs _ (HYR2.out.below' qbv (Nat.le_refl _)) (by simp only; omega)).mono ?_
        rintro e w6 ⟨A6, c6, rfl, hown6, hb6⟩
        clear a0 a1 a2 a3 a4 af b0 b1 b2 b3 b4 bf
        have l1 : w.heap.size < wr.heap.size + 1 := by omega
        have l2 : w.heap.size + 1 < wr.heap.size + 1 := by omega
        have l3 : w5.heap.size < wr.heap.size + 1 := by omega
        have K_a : Blk _ (w.heap.size) 33 #[.int .i64 id, .bool true, .slice (some ⟨bb, oo, none⟩) HL.length RC, .slice N.A N.l.length N.c, .slice S.A S.l.length S.c] := blk_later hb6 (by simp [hp_past, hp_at, hp_other, hp_same, hp_drew, hp_drewN, B_a.out.eq, B_a.out.lt, hp_same B_a.out.eq, l1, az])
        obtain ⟨a0, a1, a2, a3, a4, af, az⟩ := Blk.b5 K_a
        have B_a := Lib.hid K_a
        clear K_a
        have K_t : Blk _ (wr.heap.size) 62 #[.int .i64 j, .int .i64 xu, .int .i64 xs] := qkb hb6
        obtain ⟨t0, t1, t2, tf, tz⟩ := Blk.b3 K_t
        have B_t := Lib.hid K_t
        clear K_t
        have K_s : Blk _ (wr.heap.size + 1) 66 #[.int .i64 yT, .int .i64 yU, .slice yL.A yL.l.length yL.c] := qkb hb6
        obtain ⟨s0, s1, s2, sf, sz⟩ := Blk.b3 K_s
        have B_s := Lib.hid K_s
        clear K_s
        go_wp2_with fail
        clear a0 a1 a2 a3 a4 af t0 t1 t2 tf s0 s1 s2 sf B_a B_b B_q
        have XT := Lib.hid (Blk.farr (p := ⟨wr.heap.size + 1, 2, none⟩) (u := .slice A6 yL.l.length c6) (by simp) (Blk.farr (p := ⟨wr.heap.size + 1, 1, none⟩) (u := .int .i64 yU) (by simp) (Blk.farr (p := ⟨wr.heap.size + 1, 0, none⟩) (u := .int .i64 yT) (by simp) B_t.out)))
        have XS := Lib.hid (((B_s.out.set_ 0 (.int .i64 yT)).set_ 1 (.int .i64 yU)).set_ 2 (.slice A6 yL.l.length c6))
        have hown6' := hown6.mono (base' := wr.heap.size + 2) (by simp)
        have XRR : Hid (Rd (· < (((w6.setCell ⟨wr.heap.size + 1, 0, none⟩ (.int .i64 yT)).setCell ⟨wr.heap.size + 1, 1, none⟩ (.int .i64 yU)).setCell ⟨wr.heap.size + 1, 2, none⟩ (.slice A6 yL.l.length c6)).heap.size) 3 Loan.enc (((w6.setCell ⟨wr.heap.size + 1, 0, none⟩ (.int .i64 yT)).setCell ⟨wr.heap.size + 1, 1, none⟩ (.int .i64 yU)).setCell ⟨wr.heap.size + 1, 2, none⟩ (.slice A6 yL.l.length c6)) ⟨A6, c6, (StockD.use (Stock.d ⟨yT, yU, yL⟩) id xs).1.L⟩) := Lib.hid ((Own.rd (base := wr.heap.size + 2) (e := 136) Loan.k (by repeat (first | (with_reducible exact hown6') | ((with_reducible refine Own.farr ?_ ?_); focus (first | (simp; done) | (simp; omega) | omega)) | (with_reducible refine Own.alloc ?_ _) | (with_reducible refine Own.drew ?_) | (with_reducible refine Own.drewN ?_ _) | ((with_reducible apply own_via); focus (with_reducible assumption))))).mono (fun b hb => hb.2))
        clear hown6 hown6'
        have XD : Stock.d ⟨yT, yU, ⟨A6, c6, (StockD.use (Stock.d ⟨yT, yU, yL⟩) id xs).1.L⟩⟩ = if 0 < xs then (StockD.use (Stock.d ⟨yT, yU, yL⟩) id xs).1 else Stock.d ⟨yT, yU, yL⟩ := by
          rw [if_pos hxs]; exact (StockD.use_TU (Stock.d ⟨yT, yU, yL⟩) id xs).symm
        have X12 : (⟨A6, c6, (StockD.use (Stock.d ⟨yT, yU, yL⟩) id xs).1.L⟩ : Sl Loan).l.length ≤ 12 := by
          have := StockD.use_len (Stock.d ⟨yT, yU, yL⟩) id xs
          simp only [Stock.d] at this ⊢; omega
        obtain ⟨zL, hzL⟩ : ∃ z : Sl Loan, z = ⟨A6, c6, (StockD.use (Stock.d ⟨yT, yU, yL⟩) id xs).1.L⟩ := ⟨_, rfl⟩
        obtain ⟨w9, hw9⟩ : ∃ x, x = ((w6.setCell ⟨wr.heap.size + 1, 0, none⟩ (.int .i64 yT)).setCell ⟨wr.heap.size + 1, 1, none⟩ (.int .i64 yU)).setCell ⟨wr.heap.size + 1, 2, none⟩ (.slice A6 yL.l.length c6) := ⟨_, rfl⟩
        have hBW : Below wr.heap.size wr w9 := by rw [hw9]; exact qbv
        have B_t : Hid (Blk w9 wr.heap.size 62 #[.int .i64 j, .int .i64 xu, .int .i64 xs]) := Lib.hid (by rw [hw9]; exact XT.out)
        have B_s : Hid (Blk w9 (wr.heap.size + 1) 66 #[.int .i64 yT, .int .i64 yU, .slice zL.A zL.l.length zL.c]) := Lib.hid (by rw [hw9, hzL]; simpa [Stock.d, StockD.use_len] using XS.out)
        have HZR : Hid (Rd (· < w9.heap.size) 3 Loan.enc w9 zL) := Lib.hid (by rw [hw9, hzL]; exact XRR.out)
        have HZD : Hid (Stock.d ⟨yT, yU, zL⟩ = if 0 < xs then (StockD.use (Stock.d ⟨yT, yU, yL⟩) id xs).1 else Stock.d ⟨yT, yU, yL⟩) := Lib.hid (by rw [hzL]; exact XD)
        have z12 : zL.l.length ≤ 12 := by rw [hzL]; exact X12
        have B_a := Lib.hid (BA.out.later hBW)
        have B_b := Lib.hid (BB.out.later hBW)
        have B_q := Lib.hid (BQ.out.later hBW)
        have HOWN9 := Lib.hid (HOWN.out.below hBW)
        have hB9 : Below w.heap.size w w9 := qbv
        have z9 : wr.heap.size + 1 < w9.heap.size := B_s.out.lt
        rw [← hw9]
        clear hw9 hzL
        obtain ⟨a0, a1, a2, a3, a4, af, az⟩ := B_a.out.b5
        obtain ⟨q0, q1, q2, q3, q4, qf, qz⟩ := B_q.out.b5
        obtain ⟨t0, t1, t2, tf, tz⟩ := B_t.out.b3
        obtain ⟨s0, s1, s2, sf, sz⟩ := B_s.out.b3
        have HBW := Lib.hid hBW
        clear hBW
        refine wp_region_T (fun w' => w'.cell? ⟨wr.heap.size, 0, none⟩ = some (.int .i64 j) ∧ w'.cell? ⟨wr.heap.size + 1, 0, none⟩ = some (.int .i64 yT) ∧ w'.cell? ⟨wr.heap.size + 1, 1, none⟩ = some (.int .i64 yU) ∧ w'.cell? ⟨wr.heap.size + 1, 2, none⟩ = some (.slice zL.A zL.l.length zL.c) ∧ w'.cell? ⟨w.heap.size, 0, none⟩ = some (.int .i64 id)) (fun _ => false) (by kernel_rfl) ⟨t0, s0, s1, s2, a0⟩ (fun hHeld => ?_)
        refine qtq 0 ?_
        simp only [qsa, qsb, qsc]
        refine qtq 1 ?_
        simp only [qsa, qsb, qsc]
        refine qtq 2 ?_
        simp only [qsa, qsb, qsc]
        refine qtq 3 ?_
        simp only [qsa, qsb, qsc]
        refine qtq 4 ?_
        simp only [qsa, qsb, qsc]
        refine qtq 5 ?_
        simp only [qsa, qsb, qsc]
        clear hHeld
        refine wpAnyT_next (i := 6) (by kernel_rfl) rfl ?_
        go_wp2_with fail
        refine (stock_give ⟨yT, yU, zL⟩ id w9.drew (HZR.out.below' (Below.drew (Below.refl _ _)) (Nat.le_refl _)) (by simp only; omega)).mono ?_
        rintro e w10 ⟨A10, c10, rfl, hown10, hb10⟩
        clear a0 a1 a2 a3 a4 af t0 t1 t2 tf s0 s1 s2 sf q0 q1 q2 q3 q4 qf
        have K_a : Blk _ (w.heap.size) 33 #[.int .i64 id, .bool true, .slice (some ⟨bb, oo, none⟩) HL.length RC, .slice N.A N.l.length N.c, .slice S.A S.l.length S.c] := qkc B_a hb10
        obtain ⟨a0, a1, a2, a3, a4, af, az⟩ := Blk.b5 K_a
        have B_a := Lib.hid K_a
        clear K_a
        have K_b : Blk _ (w.heap.size + 1) 33 #[.int .i64 0, .bool false, .slice none 0 0, .slice none 0 0, .slice none 0 0] := qkc B_b hb10
        obtain ⟨b0, b1, b2, b3, b4, bf, bz⟩ := Blk.b5 K_b
        have B_b := Lib.hid K_b
        clear K_b
        have K_q : Blk _ (w5.heap.size) 33 #[.int .i64 id', .bool cut', .slice HA' HL'.length HC', .slice N'.A N'.l.length N'.c, .slice SA' SL'.length SC'] := qkc B_q hb10
        obtain ⟨q0, q1, q2, q3, q4, qf, qz⟩ := Blk.b5 K_q
        have B_q := Lib.hid K_q
        clear K_q
        have K_t : Blk _ (wr.heap.size) 62 #[.int .i64 j, .int .i64 xu, .int .i64 xs] := qkc B_t hb10
        obtain ⟨t0, t1, t2, tf, tz⟩ := Blk.b3 K_t
        have B_t := Lib.hid K_t
        clear K_t
        have K_s : Blk _ (wr.heap.size + 1) 66 #[.int .i64 yT, .int .i64 yU, .slice zL.A zL.l.length zL.c] := qkc B_s hb10
        obtain ⟨s0, s1, s2, sf, sz⟩ := Blk.b3 K_s
        have B_s := Lib.hid K_s
        clear K_s
        have z10 : w9.heap.size ≤ w10.heap.size := hb10.size
        have hBW10 : Below wr.heap.size wr w10 := (by repeat (first | (with_reducible exact HBW.out) | (with_reducible exact Below.refl _ _) | ((with_reducible refine below_setr ?_ ?_); focus (first | (simp; done) | (simp; omega) | omega)) | ((with_reducible refine below_allocr ?_ ?_); focus (first | (simp; done) | (simp; omega) | omega)) | (with_reducible refine Below.drew ?_) | (with_reducible refine below_drewN ?_ _) | ((with_reducible apply below_via); focus (with_reducible assumption))))
        have hB10 : Below w.heap.size w w10 := qbv
        have HOWN10 := Lib.hid (HOWN9.out.drew.below hb10)
        generalize hgv : StockD.give (Stock.d ⟨yT, yU, zL⟩) id = gv at *
        have HGV := Lib.hid hgv
        have HNEW := Lib.hid ((hown10.rd Loan.k).mono (G := fun b => w9.heap.size ≤ b ∧ b < w10.heap.size) (fun b hb => hb))
        have HBW10 := Lib.hid hBW10
        clear hb10 hown10 hgv hBW10
        obtain ⟨gO', hgO', _, hgOu', hclO', gOf'⟩ := HOWN10.out.atk Stock.k HOJ.out
        injection hgO' with hgO'
        injection hgO' with hgO'
        subst hgO'
        obtain ⟨k0, k1, k2⟩ := Cells.c3 hclO'
        clear hclO'
        go_wp2_with fail
        have hHeld := And.intro t0 (And.intro s0 (And.intro s1 (And.intro s2 a0)))
        refine ⟨(by first | exact hHeld | exact fun _ => hHeld), ?_⟩
        refine qtq 7 ?_
        simp only [qsa, qsb, qsc]
        refine qtq 8 ?_
        simp only [qsa, qsb, qsc]
        refine qtq 9 ?_
        simp only [qsa, qsb, qsc]
        refine qtq 10 ?_
        simp only [qsa, qsb, qsc]
        clear hHeld
        have m1 : wr.heap.size ≠ gO := by omega
        have m3 : wr.heap.size + 1 ≠ gO := by omega
        have n1 : w.heap.size ≠ gO := by omega
        have KS : ∀ {b o : Nat} {v : Value}, b ≠ gO → w10.cell? ⟨b, o, none⟩ = some v → (((w10.setCell ⟨gO, j * 3, none⟩ (.int .i64 yT)).setCell ⟨gO, j * 3 + 1, none⟩ (.int .i64 gv.1.U)).setCell ⟨gO, j * 3 + 2, none⟩ (.slice A10 gv.1.L.length c10)).cell? ⟨b, o, none⟩ = some v := fun hne h => kset _ hne (kset _ hne (kset _ hne h))
        have HKS := Lib.hid (And.intro (KS m1 t0) (And.intro (KS m3 s0) (And.intro (KS m3 s1) (And.intro (KS m3 s2) (KS n1 a0)))))
        clear KS
        refine wpAnyT_next (i := 11) (by kernel_rfl) rfl ?_
        go_wp2_with fail
        have hHeld := HKS.out
        refine ⟨(by first | exact hHeld | exact fun _ => hHeld), ?_⟩
        clear hHeld HKS
        refine wpAnyT_done (by kernel_rfl) ?_ _
        have n1 : w.heap.size ≠ gO := by omega
        have n2 : w.heap.size + 1 ≠ gO := by omega
        have n3 : w5.heap.size ≠ gO := by omega
        have XA := Lib.hid (Blk.farr (p := ⟨gO, j * 3 + 2, none⟩) (u := .slice A10 gv.1.L.length c10) n1 (Blk.farr (p := ⟨gO, j * 3 + 1, none⟩) (u := .int .i64 gv.1.U) n1 (Blk.farr (p := ⟨gO, j * 3, none⟩) (u := .int .i64 yT) n1 B_a.out)))
        have XB := Lib.hid (Blk.farr (p := ⟨gO, j * 3 + 2, none⟩) (u := .slice A10 gv.1.L.length c10) n2 (Blk.farr (p := ⟨gO, j * 3 + 1, none⟩) (u := .int .i64 gv.1.U) n2 (Blk.farr (p := ⟨gO, j * 3, none⟩) (u := .int .i64 yT) n2 B_b.out)))
        have XQ := Lib.hid (Blk.farr (p := ⟨gO, j * 3 + 2, none⟩) (u := .slice A10 gv.1.L.length c10) n3 (Blk.farr (p := ⟨gO, j * 3 + 1, none⟩) (u := .int .i64 gv.1.U) n3 (Blk.farr (p := ⟨gO, j * 3, none⟩) (u := .int .i64 yT) n3 B_q.out)))
        have XO : Hid (Own w4.heap.size 66 3 Stock.enc (((w10.setCell ⟨gO, j * 3, none⟩ (.int .i64 yT)).setCell ⟨gO, j * 3 + 1, none⟩ (.int .i64 gv.1.U)).setCell ⟨gO, j * 3 + 2, none⟩ (.slice A10 gv.1.L.length c10)) ⟨some ⟨gO, 0, none⟩, oc, OL.set j ⟨yT, gv.1.U, ⟨A10, c10, gv.1.L⟩⟩⟩) := Lib.hid (by
          have h1 := HOWN10.out.set Stock.k rfl HOJ.out (j := 0) (y := ⟨yT, yU, yL⟩) (u := .int .i64 yT) (by omega) rfl
          have h2 := h1.set Stock.k rfl (i := j) (x := ⟨yT, yU, yL⟩) (by simp only [List.getElem?_set_self hj]) (j := 1) (y := ⟨yT, gv.1.U, yL⟩) (u := .int .i64 gv.1.U) (by omega) rfl
          have h3 := h2.set Stock.k rfl (i := j) (x := ⟨yT, gv.1.U, yL⟩) (by simp only [List.set_set, List.getElem?_set_self hj]) (j := 2) (y := ⟨yT, gv.1.U, ⟨A10, c10, gv.1.L⟩⟩) (u := .slice A10 gv.1.L.length c10) (by omega) rfl
          simpa only [List.set_set, Nat.add_zero] using h3)
        have XL : Hid (∀ y ∈ OL.set j ⟨yT, gv.1.U, ⟨A10, c10, gv.1.L⟩⟩, y.L.l.length ≤ 12 ∧ Rd (fun b => m2 ≤ b ∧ b ≠ w5.heap.size ∧ b < w10.heap.size) 3 Loan.enc (((w10.setCell ⟨gO, j * 3, none⟩ (.int .i64 yT)).setCell ⟨gO, j * 3 + 1, none⟩ (.int .i64 gv.1.U)).setCell ⟨gO, j * 3 + 2, none⟩ (.slice A10 gv.1.L.length c10)) y.L) := Lib.hid (fun y hy => by
          rcases List.mem_or_eq_of_mem_set hy with hy | rfl
          · obtain ⟨h12, hRd⟩ := HLS.out y hy
            refine ⟨h12, ?_⟩
            refine Rd.setfarr (by simp; omega) (Rd.setfarr (by simp; omega) (Rd.setfarr (by simp; omega) ?_))
            exact (hRd.keep (fun b hb => HBW10.out.block b hb.2.2)).mono (fun b hb => ⟨hb.1, hb.2.1, by omega⟩)
          · refine ⟨?_, ?_⟩
            · have := StockD.give_len (Stock.d ⟨yT, yU, zL⟩) id
              rw [HGV.out] at this
              simp only [Stock.d] at this ⊢
              omega
            · refine Rd.setfarr (by simp; omega) (Rd.setfarr (by simp; omega) (Rd.setfarr (by simp; omega) ?_))
              exact HNEW.out.mono (fun b hb => ⟨by omega, by omega, by omega⟩))
        have XE : Hid (joinGo id HL (ss.l.map Stock.d) = joinGo id (HL.drop (k + 1)) ((OL.set j ⟨yT, gv.1.U, ⟨A10, c10, gv.1.L⟩⟩).map Stock.d)) := Lib.hid (by
          rw [HE.out]
          have e1 : (OL.map Stock.d)[(j : Int).toNat]? = some (Stock.d ⟨yT, yU, yL⟩) := by rw [Int.toNat_natCast, List.getElem?_map, HOJ.out]; rfl
          have e2 := StockD.give_T (Stock.d ⟨yT, yU, zL⟩) id
          rw [HGV.out] at e2
          simp only [joinGo, e1, joinS, List.map_set]
          rw [← HZD.out, HGV.out, Int.toNat_natCast, e2]
          rfl)
        go_wp2_with fail
        go_roundw
        case rel => exact ⟨k + 1, OL.set j ⟨yT, gv.1.U, ⟨A10, c10, gv.1.L⟩⟩, by omega, by go_num, by simpa using hOL, XA.out, XB.out, XQ.out, XO.out, fun y hy => by simpa using XL.out y hy, qbv, by simp; omega, fun b h1 h2 => by rw [Below.heap_setCell _ _ _ _ (by simp; omega), Below.heap_setCell _ _ _ _ (by simp; omega), Below.heap_setCell _ _ _ _ (by simp; omega), HBW10.out.block b (by omega)]; exact HKP.out b h1 h2, XE.out⟩
        case measure => simp [intOf]; omega
      · go_wp2_with fail
        clear a0 a1 a2 a3 a4 af B_a B_b B_q
        obtain ⟨zL, hzL⟩ : ∃ z : Sl Loan, z = yL := ⟨_, rfl⟩
        obtain ⟨w9, hw9⟩ : ∃ x, x = (wr.alloc (.cells #[.int .i64 j, .int .i64 xu, .int .i64 xs] 62)).alloc (.cells #[.int .i64 yT, .int .i64 yU, .slice yL.A yL.l.length yL.c] 66) := ⟨_, rfl⟩
        have hBW : Below wr.heap.size wr w9 := by rw [hw9]; exact qbv
        have B_t : Hid (Blk w9 wr.heap.size 62 #[.int .i64 j, .int .i64 xu, .int .i64 xs]) := Lib.hid (by rw [hw9]; exact (Blk.new _ _ _).alloc _)
        have B_s : Hid (Blk w9 (wr.heap.size + 1) 66 #[.int .i64 yT, .int .i64 yU, .slice zL.A zL.l.length zL.c]) := Lib.hid (by rw [hw9, hzL]; exact Blk.new' (by simp))
        have HZR : Hid (Rd (· < w9.heap.size) 3 Loan.enc w9 zL) := Lib.hid (by rw [hw9, hzL]; exact (HYR2.out.lt_alloc _).lt_alloc _)
        have HZD : Hid (Stock.d ⟨yT, yU, zL⟩ = if 0 < xs then (StockD.use (Stock.d ⟨yT, yU, yL⟩) id xs).1 else Stock.d ⟨yT, yU, yL⟩) := Lib.hid (by rw [hzL]; exact (if_neg (Int.not_lt.2 hxs)).symm)
        have z12 : zL.l.length ≤ 12 := by rw [hzL]; exact y12
        have B_a := Lib.hid (BA.out.later hBW)
        have B_b := Lib.hid (BB.out.later hBW)
        have B_q := Lib.hid (BQ.out.later hBW)
        have HOWN9 := Lib.hid (HOWN.out.below hBW)
        have hB9 : Below w.heap.size w w9 := qbv
        have z9 : wr.heap.size + 1 < w9.heap.size := B_s.out.lt
        rw [← hw9]
        clear hw9 hzL
        obtain ⟨a0, a1, a2, a3, a4, af, az⟩ := B_a.out.b5
        obtain ⟨q0, q1, q2, q3, q4, qf, qz⟩ := B_q.out.b5
        obtain ⟨t0, t1, t2, tf, tz⟩ := B_t.out.b3
        obtain ⟨s0, s1, s2, sf, sz⟩ := B_s.out.b3
        have HBW := Lib.hid hBW
        clear hBW
        refine wp_region_T (fun w' => w'.cell? ⟨wr.heap.size, 0, none⟩ = some (.int .i64 j) ∧ w'.cell? ⟨wr.heap.size + 1, 0, none⟩ = some (.int .i64 yT) ∧ w'.cell? ⟨wr.heap.size + 1, 1, none⟩ = some (.int .i64 yU) ∧ w'.cell? ⟨wr.heap.size + 1, 2, none⟩ = some (.slice zL.A zL.l.length zL.c) ∧ w'.cell? ⟨w.heap.size, 0, none⟩ = some (.int .i64 id)) (fun _ => false) (by kernel_rfl) ⟨t0, s0, s1, s2, a0⟩ (fun hHeld => ?_)
        refine qtq 0 ?_
        simp only [qsa, qsb, qsc]
        refine qtq 1 ?_
        simp only [qsa, qsb, qsc]
        refine qtq 2 ?_
        simp only [qsa, qsb, qsc]
        refine qtq 3 ?_
        simp only [qsa, qsb, qsc]
        refine qtq 4 ?_
        simp only [qsa, qsb, qsc]
        refine qtq 5 ?_
        simp only [qsa, qsb, qsc]
        clear hHeld
        refine wpAnyT_next (i := 6) (by kernel_rfl) rfl ?_
        go_wp2_with fail
        refine (stock_give ⟨yT, yU, zL⟩ id w9.drew (HZR.out.below' (Below.drew (Below.refl _ _)) (Nat.le_refl _)) (by simp only; omega)).mono ?_
        rintro e w10 ⟨A10, c10, rfl, hown10, hb10⟩
        clear a0 a1 a2 a3 a4 af t0 t1 t2 tf s0 s1 s2 sf q0 q1 q2 q3 q4 qf
        have K_a : Blk _ (w.heap.size) 33 #[.int .i64 id, .bool true, .slice (some ⟨bb, oo, none⟩) HL.length RC, .slice N.A N.l.length N.c, .slice S.A S.l.length S.c] := qkc B_a hb10
        obtain ⟨a0, a1, a2, a3, a4, af, az⟩ := Blk.b5 K_a
        have B_a := Lib.hid K_a
        clear K_a
        have K_b : Blk _ (w.heap.size + 1) 33 #[.int .i64 0, .bool false, .slice none 0 0, .slice none 0 0, .slice none 0 0] := qkc B_b hb10
        obtain ⟨b0, b1, b2, b3, b4, bf, bz⟩ := Blk.b5 K_b
        have B_b := Lib.hid K_b
        clear K_b
        have K_q : Blk _ (w5.heap.size) 33 #[.int .i64 id', .bool cut', .slice HA' HL'.length HC', .slice N'.A N'.l.length N'.c, .slice SA' SL'.length SC'] := qkc B_q hb10
        obtain ⟨q0, q1, q2, q3, q4, qf, qz⟩ := Blk.b5 K_q
        have B_q := Lib.hid K_q
        clear K_q
        have K_t : Blk _ (wr.heap.size) 62 #[.int .i64 j, .int .i64 xu, .int .i64 xs] := qkc B_t hb10
        obtain ⟨t0, t1, t2, tf, tz⟩ := Blk.b3 K_t
        have B_t := Lib.hid K_t
        clear K_t
        have K_s : Blk _ (wr.heap.size + 1) 66 #[.int .i64 yT, .int .i64 yU, .slice zL.A zL.l.length zL.c] := qkc B_s hb10
        obtain ⟨s0, s1, s2, sf, sz⟩ := Blk.b3 K_s
        have B_s := Lib.hid K_s
        clear K_s
        have z10 : w9.heap.size ≤ w10.heap.size := hb10.size
        have hBW10 : Below wr.heap.size wr w10 := (by repeat (first | (with_reducible exact HBW.out) | (with_reducible exact Below.refl _ _) | ((with_reducible refine below_setr ?_ ?_); focus (first | (simp; done) | (simp; omega) | omega)) | ((with_reducible refine below_allocr ?_ ?_); focus (first | (simp; done) | (simp; omega) | omega)) | (with_reducible refine Below.drew ?_) | (with_reducible refine below_drewN ?_ _) | ((with_reducible apply below_via); focus (with_reducible assumption))))
        have hB10 : Below w.heap.size w w10 := qbv
        have HOWN10 := Lib.hid (HOWN9.out.drew.below hb10)
        generalize hgv : StockD.give (Stock.d ⟨yT, yU, zL⟩) id = gv at *
        have HGV := Lib.hid hgv
        have HNEW := Lib.hid ((hown10.rd Loan.k).mono (G := fun b => w9.heap.size ≤ b ∧ b < w10.heap.size) (fun b hb => hb))
        have HBW10 := Lib.hid hBW10
        clear hb10 hown10 hgv hBW10
        obtain ⟨gO', hgO', _, hgOu', hclO', gOf'⟩ := HOWN10.out.atk Stock.k HOJ.out
        injection hgO' with hgO'
        injection hgO' with hgO'
        subst hgO'
        obtain ⟨k0, k1, k2⟩ := Cells.c3 hclO'
        clear hclO'
        go_wp2_with fail
        have hHeld := And.intro t0 (And.intro s0 (And.intro s1 (And.intro s2 a0)))
        refine ⟨(by first | exact hHeld | exact fun _ => hHeld), ?_⟩
        refine qtq 7 ?_
        simp only [qsa, qsb, qsc]
        refine qtq 8 ?_
        simp only [qsa, qsb, qsc]
        refine qtq 9 ?_
        simp only [qsa, qsb, qsc]
        refine qtq 10 ?_
        simp only [qsa, qsb, qsc]
        clear hHeld
        have m1 : wr.heap.size ≠ gO := by omega
        have m3 : wr.heap.size + 1 ≠ gO := by omega
        have n1 : w.heap.size ≠ gO := by omega
        have KS : ∀ {b o : Nat} {v : Value}, b ≠ gO → w10.cell? ⟨b, o, none⟩ = some v → (((w10.setCell ⟨gO, j * 3, none⟩ (.int .i64 yT)).setCell ⟨gO, j * 3 + 1, none⟩ (.int .i64 gv.1.U)).setCell ⟨gO, j * 3 + 2, none⟩ (.slice A10 gv.1.L.length c10)).cell? ⟨b, o, none⟩ = some v := fun hne h => kset _ hne (kset _ hne (kset _ hne h))
        have HKS := Lib.hid (And.intro (KS m1 t0) (And.intro (KS m3 s0) (And.intro (KS m3 s1) (And.intro (KS m3 s2) (KS n1 a0)))))
        clear KS
        refine wpAnyT_next (i := 11) (by kernel_rfl) rfl ?_
        go_wp2_with fail
        have hHeld := HKS.out
        refine ⟨(by first | exact hHeld | exact fun _ => hHeld), ?_⟩
        clear hHeld HKS
        refine wpAnyT_done (by kernel_rfl) ?_ _
        have n1 : w.heap.size ≠ gO := by omega
        have n2 : w.heap.size + 1 ≠ gO := by omega
        have n3 : w5.heap.size ≠ gO := by omega
        have XA := Lib.hid (Blk.farr (p := ⟨gO, j * 3 + 2, none⟩) (u := .slice A10 gv.1.L.length c10) n1 (Blk.farr (p := ⟨gO, j * 3 + 1, none⟩) (u := .int .i64 gv.1.U) n1 (Blk.farr (p := ⟨gO, j * 3, none⟩) (u := .int .i64 yT) n1 B_a.out)))
        have XB := Lib.hid (Blk.farr (p := ⟨gO, j * 3 + 2, none⟩) (u := .slice A10 gv.1.L.length c10) n2 (Blk.farr (p := ⟨gO, j * 3 + 1, none⟩) (u := .int .i64 gv.1.U) n2 (Blk.farr (p := ⟨gO, j * 3, none⟩) (u := .int .i64 yT) n2 B_b.out)))
        have XQ := Lib.hid (Blk.farr (p := ⟨gO, j * 3 + 2, none⟩) (u := .slice A10 gv.1.L.length c10) n3 (Blk.farr (p := ⟨gO, j * 3 + 1, none⟩) (u := .int .i64 gv.1.U) n3 (Blk.farr (p := ⟨gO, j * 3, none⟩) (u := .int .i64 yT) n3 B_q.out)))
        have XO : Hid (Own w4.heap.size 66 3 Stock.enc (((w10.setCell ⟨gO, j * 3, none⟩ (.int .i64 yT)).setCell ⟨gO, j * 3 + 1, none⟩ (.int .i64 gv.1.U)).setCell ⟨gO, j * 3 + 2, none⟩ (.slice A10 gv.1.L.length c10)) ⟨some ⟨gO, 0, none⟩, oc, OL.set j ⟨yT, gv.1.U, ⟨A10, c10, gv.1.L⟩⟩⟩) := Lib.hid (by
          have h1 := HOWN10.out.set Stock.k rfl HOJ.out (j := 0) (y := ⟨yT, yU, yL⟩) (u := .int .i64 yT) (by omega) rfl
          have h2 := h1.set Stock.k rfl (i := j) (x := ⟨yT, yU, yL⟩) (by simp only [List.getElem?_set_self hj]) (j := 1) (y := ⟨yT, gv.1.U, yL⟩) (u := .int .i64 gv.1.U) (by omega) rfl
          have h3 := h2.set Stock.k rfl (i := j) (x := ⟨yT, gv.1.U, yL⟩) (by simp only [List.set_set, List.getElem?_set_self hj]) (j := 2) (y := ⟨yT, gv.1.U, ⟨A10, c10, gv.1.L⟩⟩) (u := .slice A10 gv.1.L.length c10) (by omega) rfl
          simpa only [List.set_set, Nat.add_zero] using h3)
        have XL : Hid (∀ y ∈ OL.set j ⟨yT, gv.1.U, ⟨A10, c10, gv.1.L⟩⟩, y.L.l.length ≤ 12 ∧ Rd (fun b => m2 ≤ b ∧ b ≠ w5.heap.size ∧ b < w10.heap.size) 3 Loan.enc (((w10.setCell ⟨gO, j * 3, none⟩ (.int .i64 yT)).setCell ⟨gO, j * 3 + 1, none⟩ (.int .i64 gv.1.U)).setCell ⟨gO, j * 3 + 2, none⟩ (.slice A10 gv.1.L.length c10)) y.L) := Lib.hid (fun y hy => by
          rcases List.mem_or_eq_of_mem_set hy with hy | rfl
          · obtain ⟨h12, hRd⟩ := HLS.out y hy
            refine ⟨h12, ?_⟩
            refine Rd.setfarr (by simp; omega) (Rd.setfarr (by simp; omega) (Rd.setfarr (by simp; omega) ?_))
            exact (hRd.keep (fun b hb => HBW10.out.block b hb.2.2)).mono (fun b hb => ⟨hb.1, hb.2.1, by omega⟩)
          · refine ⟨?_, ?_⟩
            · have := StockD.give_len (Stock.d ⟨yT, yU, zL⟩) id
              rw [HGV.out] at this
              simp only [Stock.d] at this ⊢
              omega
            · refine Rd.setfarr (by simp; omega) (Rd.setfarr (by simp; omega) (Rd.setfarr (by simp; omega) ?_))
              exact HNEW.out.mono (fun b hb => ⟨by omega, by omega, by omega⟩))
        have XE : Hid (joinGo id HL (ss.l.map Stock.d) = joinGo id (HL.drop (k + 1)) ((OL.set j ⟨yT, gv.1.U, ⟨A10, c10, gv.1.L⟩⟩).map Stock.d)) := Lib.hid (by
          rw [HE.out]
          have e1 : (OL.map Stock.d)[(j : Int).toNat]? = some (Stock.d ⟨yT, yU, yL⟩) := by rw [Int.toNat_natCast, List.getElem?_map, HOJ.out]; rfl
          have e2 := StockD.give_T (Stock.d ⟨yT, yU, zL⟩) id
          rw [HGV.out] at e2
          simp only [joinGo, e1, joinS, List.map_set]
          rw [← HZD.out, HGV.out, Int.toNat_natCast, e2]
          rfl)
        go_wp2_with fail
        go_roundw
        case rel => exact ⟨k + 1, OL.set j ⟨yT, gv.1.U, ⟨A10, c10, gv.1.L⟩⟩, by omega, by go_num, by simpa using hOL, XA.out, XB.out, XQ.out, XO.out, fun y hy => by simpa using XL.out y hy, qbv, by simp; omega, fun b h1 h2 => by rw [Below.heap_setCell _ _ _ _ (by simp; omega), Below.heap_setCell _ _ _ _ (by simp; omega), Below.heap_setCell _ _ _ _ (by simp; omega), HBW10.out.block b (by omega)]; exact HKP.out b h1 h2, XE.out⟩
        case measure => simp [intOf]; omega
    · have hke : HL.drop k = [] := List.drop_eq_nil_of_le (by omega)
      rw [hke] at heq
      have HE : Hid (joinGo id HL (ss.l.map Stock.d) = OL.map Stock.d) := Lib.hid heq
      have hd' := HD.out
      simp only [Phone.d, PhoneD.mk.injEq] at hd'
      obtain ⟨hd1, hd2, hd3, hd4, hd5⟩ := hd'
      subst hd5
      have HD1 := Lib.hid hd1
      have HD4 := Lib.hid hd4
      have hRP := PhoneD.right_iff HF.out
      have hS12 : S.l.length = 12 := hRP.S
      have hidr := And.intro hRP.id0 hRP.id1
      simp only [Phone.d] at hidr
      have hN12 : nl.length = 12 := by have := HK.out; simp only [seenR, Bool.and_eq_true] at this; exact of_decide_eq_true this.1
      clear heq hke hd1 hd2 hd3 hd4 hRP
      have HS12 := Lib.hid hS12
      have HN12 := Lib.hid hN12
      clear hS12 hN12
      obtain ⟨gS, hgS, hgSl, hgSu⟩ : ∃ g, SA' = some ⟨g, 0, none⟩ ∧ w3.heap.size ≤ g ∧ g < w4.heap.size := by
        rcases HO.out.S.form with ⟨_, _, h0⟩ | ⟨g, h0, h1, h2, _⟩
        · simp only at h0; have := HS12.out; rw [h0] at this; simp at this
        · exact ⟨g, h0, h1, h2⟩
      subst hgS
      obtain ⟨q0, q1, q2, q3, q4, qf, qz⟩ := B_q.out.b5
      have hgm := HO.out.bS gS rfl
      have hmz := HO.out.bm
      have hsz5 : w4.heap.size ≤ w5.heap.size := z5
      go_wp2_with fail
      have BQ2 := Lib.hid ((B_q.out.set_ 1 (.bool false)).set_ 2 (.slice none 0 0))
      have n1 : w.heap.size ≠ w5.heap.size := by omega
      have n2 : w.heap.size + 1 ≠ w5.heap.size := by omega
      have n3 : gS ≠ w5.heap.size := by omega
      have BA2 := Lib.hid (Blk.farr (p := ⟨w5.heap.size, 2, none⟩) (u := .slice none 0 0) n1 (Blk.farr (p := ⟨w5.heap.size, 1, none⟩) (u := .bool false) n1 B_a.out))
      have BB2 := Lib.hid (Blk.farr (p := ⟨w5.heap.size, 2, none⟩) (u := .slice none 0 0) n2 (Blk.farr (p := ⟨w5.heap.size, 1, none⟩) (u := .bool false) n2 B_b.out))
      have KP2 : Hid (∀ b, w3.heap.size ≤ b → b < w4.heap.size → ((wr.setCell ⟨w5.heap.size, 1, none⟩ (.bool false)).setCell ⟨w5.heap.size, 2, none⟩ (.slice none 0 0)).heap[b]? = w4.heap[b]?) := Lib.hid (fun b h1 h2 => by
        rw [Below.heap_setCell _ _ _ _ (by simp; omega), Below.heap_setCell _ _ _ _ (by simp; omega)]; exact HKP.out b h1 h2)
      have SO2 : Hid (Own w4.heap.size 66 3 Stock.enc ((wr.setCell ⟨w5.heap.size, 1, none⟩ (.bool false)).setCell ⟨w5.heap.size, 2, none⟩ (.slice none 0 0)) ⟨oA, oc, OL⟩) := Lib.hid (by
        have hne : ∀ g, oA = some ⟨g, 0, none⟩ → g ≠ w5.heap.size := fun g h => by have := HO2.out.b g h; have := HO2.out.bm; omega
        exact (HOWN.out.other (a := ⟨w5.heap.size, 1, none⟩) hne _).other (a := ⟨w5.heap.size, 2, none⟩) hne _)
      have SL2 : Hid (∀ y ∈ OL, Rd (fun b => m2 ≤ b ∧ b ≠ w5.heap.size ∧ b < wr.heap.size) 3 Loan.enc ((wr.setCell ⟨w5.heap.size, 1, none⟩ (.bool false)).setCell ⟨w5.heap.size, 2, none⟩ (.slice none 0 0)) y.L) := Lib.hid (fun y hy => Rd.setfarr (by simp) (Rd.setfarr (by simp) (HLS.out y hy).2))
      have OS2 : Hid (Own w3.heap.size 3 1 ienc ((wr.setCell ⟨w5.heap.size, 1, none⟩ (.bool false)).setCell ⟨w5.heap.size, 2, none⟩ (.slice none 0 0)) ⟨some ⟨gS, 0, none⟩, SC', S.l⟩) := Lib.hid (by
        exact HO.out.S.keepg rfl (KP2.out gS hgSl hgSu))
      obtain ⟨NR, hNR⟩ : ∃ n, n = wr.heap.size := ⟨_, rfl⟩
      go_loopw [84] (fun i wv => ∃ (d : Nat) (TL : List Int), d ≤ 12 ∧ i = .int .i64 d ∧ TL.length = 12 ∧
        Blk wv w.heap.size 33 #[.int .i64 id, .bool true, .slice RA HL.length RC, .slice N.A N.l.length N.c, .slice S.A S.l.length S.c] ∧ Blk wv (w.heap.size + 1) 33 #[.int .i64 0, .bool false, .slice none 0 0, .slice none 0 0, .slice none 0 0] ∧
        Blk wv w5.heap.size 33 #[.int .i64 id', .bool false, .slice none 0 0, .slice N'.A N'.l.length N'.c, .slice (some ⟨gS, 0, none⟩) S.l.length SC'] ∧
        Own w4.heap.size 66 3 Stock.enc wv ⟨oA, oc, OL⟩ ∧ (∀ y ∈ OL, Rd (fun b => m2 ≤ b ∧ b ≠ w5.heap.size ∧ b < NR) 3 Loan.enc wv y.L) ∧
        Own w3.heap.size 3 1 ienc wv ⟨some ⟨gS, 0, none⟩, SC', TL⟩ ∧
        Below w.heap.size w wv ∧ wv.heap.size = NR ∧ (∀ b, w3.heap.size ≤ b → b < w4.heap.size → b ≠ gS → wv.heap[b]? = w4.heap[b]?) ∧
        seenJ id 0 S.l nl = seenJ id d TL (nl.drop d)) (fun i _ => 12 - (intOf i).toNat)
      case atStart => exact ⟨0, S.l, by omega, rfl, HS12.out, BA2.out, BB2.out, by simpa using BQ2.out, SO2.out, by rw [hNR]; exact SL2.out, OS2.out, qbv, by simp [hNR], fun b h1 h2 _ => KP2.out b h1 h2, by simp⟩
      case round =>
        obtain ⟨d, TL, hd, rfl, hTL, hblk, hblkb, hblkq, hown, hLs, hownS, hbel2, hsz2, hkp2, heq⟩ := hrel
        clear a0 a1 a2 a3 a4 af b0 b1 b2 b3 b4 bf q0 q1 q2 q3 q4 qf
        obtain ⟨a0, a1, a2, a3, a4, af, az2⟩ := hblk.b5
        obtain ⟨b0, b1, b2, b3, b4, bf, bz2⟩ := hblkb.b5
        obtain ⟨q0, q1, q2, q3, q4, qf, qz2⟩ := hblkq.b5
        have B_a := Lib.hid hblk
        have B_b := Lib.hid hblkb
        have B_q := Lib.hid hblkq
        have HOWN := Lib.hid hown
        have HLS := Lib.hid hLs
        have HOS := Lib.hid hownS
        have HKP := Lib.hid hkp2
        clear hblk hblkb hblkq hown hLs hownS hkp2
        have hwv : w.heap.size ≤ wr.heap.size := hbel2.size
        have hm2b := HO2.out.mb
        have hm2c := HO2.out.bm
        have hdS : d < nl.length → d < S.l.length ∧ d < TL.length ∧ d < 12 := fun h => by have := HS12.out; have := HN12.out; omega
        have hdd : ¬ d < nl.length → nl.length ≤ d := fun h => by omega
        have HTL := Lib.hid hTL
        clear hTL
        by_cases hdn : d < nl.length
        · obtain ⟨hwd, hTd, hd12⟩ := hdS hdn
          obtain ⟨b2', o2', rfl, hF2, hcl2⟩ := HW.out.at1 hdn
          have v0 := (hcl2.keep (hbel2.block b2' hF2)).c1
          simp only [Nat.mul_one] at v0
          have hd2 : nl.drop d = nl[d] :: nl.drop (d + 1) := List.drop_eq_getElem_cons hdn
          rw [hd2] at heq
          have HEQ := Lib.hid heq
          clear hcl2 hd2 heq
          generalize nl[d] = n at *
          by_cases hid : (d : Int) = id
          · have hb1 : ((d : Int) != id) = false := by simp [hid]
            have HID := Lib.hid hid
            clear hid
            go_wp2_with fail
            go_roundw
            case rel => exact ⟨d + 1, TL, by omega, by go_num, HTL.out, B_a.out, B_b.out, B_q.out, HOWN.out, HLS.out, HOS.out, hbel2, hsz2, HKP.out, by rw [HEQ.out, seenJ_skip HID.out]⟩
            case measure => simp [intOf]; omega
          · have hb1 : ((d : Int) != id) = true := by simp [hid]
            have HID := Lib.hid hid
            clear hid
            have htd : TL[d]? = some TL[d] := List.getElem?_eq_getElem (by omega)
            generalize TL[d] = x at *
            obtain ⟨gS', hgS', _, hgSu', hclS, gSf⟩ := HOS.out.atk ienc_k htd
            injection hgS' with hgS'
            injection hgS' with hgS'
            subst hgS'
            have s0 := hclS.c1
            simp only [Nat.mul_one] at s0
            have HTD := Lib.hid htd
            clear htd hclS
            go_wp2_with fail
            refine wp_region_T (fun w' => w'.cell? ⟨w5.heap.size, 4, none⟩ = some (.slice (some ⟨gS, 0, none⟩) S.l.length SC') ∧ w'.cell? ⟨gS, d, none⟩ = some (.int .i64 x)) (fun i => 11 ≤ i) (by kernel_rfl) ⟨q4, s0⟩ (fun hHeld => ?_)
            refine qtq 0 ?_
            simp only [qsa, qsb, qsc]
            refine qtq 1 ?_
            simp only [qsa, qsb, qsc]
            refine qtq 2 ?_
            simp only [qsa, qsb, qsc]
            refine qtq 3 ?_
            simp only [qsa, qsb, qsc]
            refine qtq 4 ?_
            simp only [qsa, qsb, qsc]
            refine qtq 5 ?_
            simp only [qsa, qsb, qsc]
            refine qtq 6 ?_
            simp only [qsa, qsb, qsc]
            refine qtq 7 ?_
            simp only [qsa, qsb, qsc]
            refine qtq 8 ?_
            simp only [qsa, qsb, qsc]
            have HHD := Lib.hid hHeld
            clear hHeld
            refine wpAnyT_next (i := 9) (by kernel_rfl) rfl ?_
            rcases Int.lt_or_le x n with hxn | hxn
            · skip
              go_wp2_with fail
              have hmx : max x n = n := by omega
              refine And.intro ?_ ?_
              · first
                | exact HHD.out
                | exact fun _ => HHD.out
              have hHeld := HHD.out
              refine qtq 10 ?_
              simp only [qsa, qsb, qsc]
              clear hHeld HHD
              have m1 : w.heap.size ≠ gS := by omega
              have m2' : w.heap.size + 1 ≠ gS := by omega
              have m3 : w5.heap.size ≠ gS := by omega
              have XA := Lib.hid (Blk.farr (p := ⟨gS, d, none⟩) (u := .int .i64 n) m1 B_a.out)
              have XB := Lib.hid (Blk.farr (p := ⟨gS, d, none⟩) (u := .int .i64 n) m2' B_b.out)
              have XQ := Lib.hid (Blk.farr (p := ⟨gS, d, none⟩) (u := .int .i64 n) m3 B_q.out)
              have XO := Lib.hid (HOWN.out.other (a := ⟨gS, d, none⟩) (fun g h => by have := HOWN.out.lo g h; simp only; omega) (.int .i64 n))
              have XS : Hid (Own w3.heap.size 3 1 ienc (wr.setCell ⟨gS, d, none⟩ (.int .i64 n)) ⟨some ⟨gS, 0, none⟩, SC', TL.set d n⟩) := Lib.hid (by simpa only [Nat.mul_one, Nat.add_zero] using HOS.out.set ienc_k rfl HTD.out (j := 0) (y := n) (u := .int .i64 n) (by omega) rfl)
              refine wpAnyT_next (i := 11) (by kernel_rfl) rfl ?_
              go_wp2_with fail
              refine ⟨(by first | exact fun h => by simp at h), ?_⟩
              refine wpAnyT_done (by kernel_rfl) ?_ _
              go_wp2_with fail
              go_roundw
              case rel => exact ⟨d + 1, TL.set d n, by omega, by go_num, by simpa using HTL.out, XA.out, XB.out, XQ.out, XO.out, fun y hy => Rd.setfarr (by simp; omega) (HLS.out y hy), XS.out, qbv, by simpa using hsz2, fun b h1 h2 h3 => (Below.heap_setCell _ _ _ b (by simpa using h3)).trans (HKP.out b h1 h2 h3), by rw [HEQ.out, seenJ_go HID.out HTD.out, hmx]⟩
              case measure => simp [intOf]; omega
            · skip
              go_wp2_with fail
              have hmx : max x n = x := by omega
              refine And.intro ?_ ?_
              · first
                | exact HHD.out
                | exact fun _ => HHD.out
              have hHeld := HHD.out
              refine qtq 10 ?_
              simp only [qsa, qsb, qsc]
              clear hHeld HHD
              have m1 : w.heap.size ≠ gS := by omega
              have m2' : w.heap.size + 1 ≠ gS := by omega
              have m3 : w5.heap.size ≠ gS := by omega
              have XA := Lib.hid (Blk.farr (p := ⟨gS, d, none⟩) (u := .int .i64 x) m1 B_a.out)
              have XB := Lib.hid (Blk.farr (p := ⟨gS, d, none⟩) (u := .int .i64 x) m2' B_b.out)
              have XQ := Lib.hid (Blk.farr (p := ⟨gS, d, none⟩) (u := .int .i64 x) m3 B_q.out)
              have XO := Lib.hid (HOWN.out.other (a := ⟨gS, d, none⟩) (fun g h => by have := HOWN.out.lo g h; simp only; omega) (.int .i64 x))
              have XS : Hid (Own w3.heap.size 3 1 ienc (wr.setCell ⟨gS, d, none⟩ (.int .i64 x)) ⟨some ⟨gS, 0, none⟩, SC', TL.set d x⟩) := Lib.hid (by simpa only [Nat.mul_one, Nat.add_zero] using HOS.out.set ienc_k rfl HTD.out (j := 0) (y := x) (u := .int .i64 x) (by omega) rfl)
              refine wpAnyT_next (i := 11) (by kernel_rfl) rfl ?_
              go_wp2_with fail
              refine ⟨(by first | exact fun h => by simp at h), ?_⟩
              refine wpAnyT_done (by kernel_rfl) ?_ _
              go_wp2_with fail
              go_roundw
              case rel => exact ⟨d + 1, TL.set d x, by omega, by go_num, by simpa using HTL.out, XA.out, XB.out, XQ.out, XO.out, fun y hy => Rd.setfarr (by simp; omega) (HLS.out y hy), XS.out, qbv, by simpa using hsz2, fun b h1 h2 h3 => (Below.heap_setCell _ _ _ b (by simpa using h3)).trans (HKP.out b h1 h2 h3), by rw [HEQ.out, seenJ_go HID.out HTD.out, hmx]⟩
              case measure => simp [intOf]; omega
        · have hke2 : nl.drop d = [] := List.drop_eq_nil_of_le (hdd hdn)
          rw [hke2, seenJ_nil] at heq
          have HEQ := Lib.hid heq
          have HOLL := Lib.hid hOL
          clear heq
          have hTS : TL.length = S.l.length := by rw [HTL.out, HS12.out]
          have HTS := Lib.hid hTS
          have HFP : Hid (RdPhone (fun b => w3.heap.size ≤ b ∧ b < wr.heap.size) wr ⟨id', false, ⟨none, 0, []⟩, N', ⟨some ⟨gS, 0, none⟩, SC', TL⟩⟩) := Lib.hid (by
            refine ⟨Rd.nil _ _ _ _, ⟨?_, fun y hy => ?_⟩, ?_⟩
            · exact ((HO.out.N.rdP Note.k (P := fun b => b ≠ gS) (fun g' h => HO.out.NS g' gS h rfl)).keep (fun b hb => HKP.out b hb.1 hb.2.2 hb.2.1)).mono (fun b hb => ⟨hb.1, by omega⟩)
            · exact ((HO.out.af y hy).keep (fun b hb => HKP.out b (Nat.le_trans HO.out.mb hb.1) hb.2 (by omega))).mono (fun b hb => ⟨Nat.le_trans HO.out.mb hb.1, by omega⟩)
            · exact (HOS.out.rd ienc_k).mono (fun b hb => hb))
          have HFS : Hid (RdStocks (fun b => w3.heap.size ≤ b ∧ b < wr.heap.size) wr ⟨oA, oc, OL⟩) := Lib.hid (by
            refine ⟨(HOWN.out.rd Stock.k).mono (fun b hb => ⟨by omega, hb.2⟩), fun y hy => ?_⟩
            exact (HLS.out y hy).mono (fun b hb => ⟨by omega, by omega⟩))
          have HPG : Hid (∀ g, oA = some ⟨g, 0, none⟩ → RdPhone (fun b => b ≠ g) wr ⟨id', false, ⟨none, 0, []⟩, N', ⟨some ⟨gS, 0, none⟩, SC', TL⟩⟩ ∧ ∀ y, y ∈ OL → Rd (fun b => b ≠ g) 3 Loan.enc wr y.L) := Lib.hid (by
            intro g hg
            have hlo := HOWN.out.lo g hg
            have hgm2 := HO2.out.b g hg
            have hgS := HO.out.bS gS rfl
            have hbm := HO.out.bm
            refine ⟨⟨Rd.nil _ _ _ _, ⟨?_, fun y hy => ?_⟩, ?_⟩, fun y hy => ?_⟩
            · exact ((HO.out.N.rdP Note.k (P := fun b => b ≠ gS) (fun g' h => HO.out.NS g' gS h rfl)).keep (fun b hb => HKP.out b hb.1 hb.2.2 hb.2.1)).mono (fun b hb => by have := hb.2.2; omega)
            · exact ((HO.out.af y hy).keep (fun b hb => HKP.out b (Nat.le_trans HO.out.mb hb.1) hb.2 (by omega))).mono (fun b hb => by have := hb.2; omega)
            · exact (HOS.out.rdP ienc_k (P := fun b => b ≠ g) (fun g' h => by injection h with h; injection h with h; omega)).mono (fun b hb => hb.2.1)
            · exact (HLS.out y hy).mono (fun b hb => by have := hb.1; omega))
          have hw3w : w.heap.size + 1 < w3.heap.size := by omega
          have hdn' : ¬ (d : Int) < nl.length := by omega
          clear hke2 hOL hTS hdS hdd hdn
          go_wp2_with fail
          refine wp_region_T (fun w' => (w'.cell? ⟨w5.heap.size, 0, none⟩ = some (.int .i64 id') ∧ w'.cell? ⟨w5.heap.size, 1, none⟩ = some (.bool false) ∧ w'.cell? ⟨w5.heap.size, 2, none⟩ = some (.slice none 0 0) ∧ w'.cell? ⟨w5.heap.size, 3, none⟩ = some (.slice N'.A N'.l.length N'.c) ∧ w'.cell? ⟨w5.heap.size, 4, none⟩ = some (.slice (some ⟨gS, 0, none⟩) S.l.length SC')) ∧ (w'.cell? ⟨w.heap.size, 0, none⟩ = some (.int .i64 id) ∧ w'.cell? ⟨w.heap.size, 1, none⟩ = some (.bool true) ∧ w'.cell? ⟨w.heap.size, 2, none⟩ = some (.slice RA HL.length RC) ∧ w'.cell? ⟨w.heap.size, 3, none⟩ = some (.slice N.A N.l.length N.c) ∧ w'.cell? ⟨w.heap.size, 4, none⟩ = some (.slice S.A S.l.length S.c))) (fun _ => false) (by kernel_rfl) ⟨⟨q0, q1, q2, q3, q4⟩, a0, a1, a2, a3, a4⟩ (fun hHeld => ?_)
          refine qtq 0 ?_
          simp only [qsa, qsb, qsc]
          refine qtq 1 ?_
          simp only [qsa, qsb, qsc]
          refine qtq 2 ?_
          simp only [qsa, qsb, qsc]
          clear hHeld
          refine wpAnyT_next (i := 3) (by kernel_rfl) rfl ?_
          go_wp2_with fail
          refine (phone_copied_r ⟨id, true, ⟨RA, RC, HL⟩, N, S⟩ wr.drew (HR.out.later (Below.drew hbel2) (Nat.le_refl _)) HF.out).mono ?_
          rintro e wc ⟨⟨idc, cutc, ⟨cHA, cHC, cHL⟩, Nc, ⟨cSA, cSC, cSL⟩⟩, rfl, hdc, ⟨mc, hOc⟩, hbc⟩
          clear a0 a1 a2 a3 a4 af b0 b1 b2 b3 b4 bf q0 q1 q2 q3 q4 qf
          have K_a : Blk _ (w.heap.size) 33 #[.int .i64 id, .bool true, .slice RA HL.length RC, .slice N.A N.l.length N.c, .slice S.A S.l.length S.c] := qkc B_a hbc
          obtain ⟨a0, a1, a2, a3, a4, af, az⟩ := Blk.b5 K_a
          have B_a := Lib.hid K_a
          clear K_a
          have K_b : Blk _ (w.heap.size + 1) 33 #[.int .i64 0, .bool false, .slice none 0 0, .slice none 0 0, .slice none 0 0] := qkc B_b hbc
          obtain ⟨b0, b1, b2, b3, b4, bf, bz⟩ := Blk.b5 K_b
          have B_b := Lib.hid K_b
          clear K_b
          have K_q : Blk _ (w5.heap.size) 33 #[.int .i64 id', .bool false, .slice none 0 0, .slice N'.A N'.l.length N'.c, .slice (some ⟨gS, 0, none⟩) S.l.length SC'] := qkc B_q hbc
          obtain ⟨q0, q1, q2, q3, q4, qf, qz⟩ := Blk.b5 K_q
          have B_q := Lib.hid K_q
          clear K_q
          have hBc : Below w.heap.size w wc := qbv
          have zc : wr.heap.size ≤ wc.heap.size := hbc.size
          have HFP := Lib.hid ((HFP.out.keep (fun b hb => hbc.block b hb.2)).mono (G := fun b => w3.heap.size ≤ b ∧ b < wc.heap.size) (fun b hb => ⟨hb.1, by omega⟩))
          have HFS := Lib.hid ((HFS.out.keep (fun b hb => hbc.block b hb.2)).mono (G := fun b => w3.heap.size ≤ b ∧ b < wc.heap.size) (fun b hb => ⟨hb.1, by omega⟩))
          have HFN : Hid (RdNotes (fun b => w3.heap.size ≤ b ∧ b < wc.heap.size) wc Nc) := Lib.hid (by
            have hmb : wr.heap.size ≤ mc := hOc.mb
            have hbN := hOc.bm
            refine ⟨(hOc.N.rd Note.k).mono (fun b hb => ⟨by have : wr.heap.size ≤ b := hb.1; omega, hb.2⟩), fun y hy => (hOc.af y hy).mono (fun b hb => ⟨by omega, hb.2⟩)⟩)
          have hNc : Nc.l.map Note.d = N.l.map Note.d := by
            simp only [Phone.d, PhoneD.mk.injEq] at hdc
            exact hdc.2.2.2.1
          have HNC := Lib.hid hNc
          have HBC := Lib.hid hbc
          have HOWc := Lib.hid (HOWN.out.drew.below hbc)
          clear hbc hOc hdc hNc
          simp only [Phone.v]
          go_wp2_with fail
          have hHeld := And.intro (And.intro q0 (And.intro q1 (And.intro q2 (And.intro q3 q4)))) (And.intro a0 (And.intro a1 (And.intro a2 (And.intro a3 a4))))
          refine ⟨(by first | exact hHeld | exact fun _ => hHeld), ?_⟩
          refine wpAnyT_take2 (i := 4) (v := .slice Nc.A Nc.l.length Nc.c) rfl rfl (by kernel_rfl) (by kernel_rfl) (by kernel_rfl) (by kernel_rfl) (fun _ _ _ h => h) (Or.inl ⟨by rfl, fun w hSw => by rfl⟩) (by assumption) ?_
          simp only [qsa, qsb, qsc]
          clear hHeld
          have u1 : w5.heap.size ≠ w.heap.size + 1 := by omega
          have u2 : w.heap.size ≠ w.heap.size + 1 := by omega
          have KS : ∀ {b o : Nat} {v : Value} (v0 v1 v2 v3 v4 : Value), b ≠ w.heap.size + 1 → wc.cell? ⟨b, o, none⟩ = some v → (((((wc.setCell ⟨w.heap.size + 1, 0, none⟩ v0).setCell ⟨w.heap.size + 1, 1, none⟩ v1).setCell ⟨w.heap.size + 1, 2, none⟩ v2).setCell ⟨w.heap.size + 1, 3, none⟩ v3).setCell ⟨w.heap.size + 1, 4, none⟩ v4).cell? ⟨b, o, none⟩ = some v := fun v0 v1 v2 v3 v4 hne h => kset _ hne (kset _ hne (kset _ hne (kset _ hne (kset _ hne h))))
          have HKS := Lib.hid (fun v0 v1 v2 v3 v4 => And.intro (And.intro (KS v0 v1 v2 v3 v4 u1 q0) (And.intro (KS v0 v1 v2 v3 v4 u1 q1) (And.intro (KS v0 v1 v2 v3 v4 u1 q2) (And.intro (KS v0 v1 v2 v3 v4 u1 q3) (KS v0 v1 v2 v3 v4 u1 q4))))) (And.intro (KS v0 v1 v2 v3 v4 u2 a0) (And.intro (KS v0 v1 v2 v3 v4 u2 a1) (And.intro (KS v0 v1 v2 v3 v4 u2 a2) (And.intro (KS v0 v1 v2 v3 v4 u2 a3) (KS v0 v1 v2 v3 v4 u2 a4))))))
          clear KS
          refine wpAnyT_next (i := 5) (by kernel_rfl) rfl ?_
          go_wp2_with fail
          have hHeld := HKS.out (.int .i64 id') (.bool false) (.slice none 0 0) (.slice N'.A N'.l.length N'.c) (.slice (some ⟨gS, 0, none⟩) S.l.length SC')
          refine And.intro ?_ ?_
          · first
            | exact hHeld
            | exact fun _ => hHeld
          refine qtq 6 ?_
          simp only [qsa, qsb, qsc]
          refine qtq 7 ?_
          simp only [qsa, qsb, qsc]
          refine qtq 8 ?_
          simp only [qsa, qsb, qsc]
          refine wpAnyT_done (by kernel_rfl) ?_ _
          clear hHeld HKS
          go_wp2_with fail
          try simp only [Exit.inBlock, Exit.then]
          refine bodyPost_ret (v := .tuple #[.agg #[.int .i64 id', .bool false, .slice none 0 0, .slice N'.A N'.l.length N'.c, .slice (some ⟨gS, 0, none⟩) S.l.length SC'], .slice oA ss.l.length oc, .slice Nc.A Nc.l.length Nc.c, .int .i64 0]) ?_ rfl ⟨⟨id', false, ⟨none, 0, []⟩, N', ⟨some ⟨gS, 0, none⟩, SC', TL⟩⟩, ⟨oA, oc, OL⟩, Nc, by simp only [HTS.out, HOLL.out, List.length_nil], ?_, HE.out.symm, HNC.out, ?_, ?_, ?_, ⟨?_, wr, HPG.out⟩, ?_⟩
          simp [results, Try.results28, go_sem, a0, a1, a2, a3, a4, af, b0, b1, b2, b3, b4, bf, q0, q1, q2, q3, q4, qf, az, bz, qz]
          · simp only [Phone.d, PhoneD.mk.injEq]
            exact ⟨HD1.out, trivial, trivial, HD4.out, HEQ.out.symm⟩
          · exact (by refine RdPhone.fin2 (A := w.heap.size) (B := w3.heap.size) (C := wc.heap.size) ?_ (by first | omega | (simp; omega)) (by first | omega | (simp; done) | (simp; omega)); repeat (first | (with_reducible exact HFP.out) | ((with_reducible refine RdPhone.setr ?_ ?_); focus (first | (simp; done) | (simp; omega))) | ((with_reducible refine RdPhone.allocr ?_ ?_); focus (intro b hb; have hb2 := hb.2; first | omega | (simp; omega))) | (with_reducible refine RdPhone.drewr ?_) | (with_reducible refine RdPhone.drewNr ?_ _)))
          · exact (by refine RdStocks.fin2 (A := w.heap.size) (B := w3.heap.size) (C := wc.heap.size) ?_ (by first | omega | (simp; omega)) (by first | omega | (simp; done) | (simp; omega)); repeat (first | (with_reducible exact HFS.out) | ((with_reducible refine RdStocks.setr ?_ ?_); focus (first | (simp; done) | (simp; omega))) | ((with_reducible refine RdStocks.allocr ?_ ?_); focus (intro b hb; have hb2 := hb.2; first | omega | (simp; omega))) | (with_reducible refine RdStocks.drewr ?_) | (with_reducible refine RdStocks.drewNr ?_ _)))
          · exact (by refine RdNotes.fin2 (A := w.heap.size) (B := w3.heap.size) (C := wc.heap.size) ?_ (by first | omega | (simp; omega)) (by first | omega | (simp; done) | (simp; omega)); repeat (first | (with_reducible exact HFN.out) | ((with_reducible refine RdNotes.setr ?_ ?_); focus (first | (simp; done) | (simp; omega))) | ((with_reducible refine RdNotes.allocr ?_ ?_); focus (intro b hb; have hb2 := hb.2; first | omega | (simp; omega))) | (with_reducible refine RdNotes.drewr ?_) | (with_reducible refine RdNotes.drewNr ?_ _)))
          · exact Own.mono (base := w4.heap.size) (by repeat (first | (with_reducible exact HOWc.out) | ((with_reducible refine Own.farr ?_ ?_); focus (first | (simp; done) | (simp; omega) | omega)) | (with_reducible refine Own.alloc ?_ _) | (with_reducible refine Own.drew ?_) | (with_reducible refine Own.drewN ?_ _))) (by omega)
          · exact qbv
end Go.Proofs.Ythnblhbdfpmolaa
