/- Walks of package phone: copies. -/
import Derived.Test.YthnblhbdfpmolaaPNotemxak
namespace Go.Proofs.Ythnblhbdfpmolaa
open Go.RowKit
structure OwnStocks (base m : Nat) (w : World) (s : Sl Stock) : Prop where
  O : Own base 66 3 Stock.enc w s
  b : ∀ g, s.A = some ⟨g, 0, none⟩ → g < m
  bm : m ≤ w.heap.size
  mb : base ≤ m
  L : ∀ x, x ∈ s.l → Rd (fun b => m ≤ b ∧ b < w.heap.size) 3 Loan.enc w x.L
set_option maxHeartbeats 2000000 in
theorem phone_copies (s : Sl Stock) (w : World) (hr : RdStocks (· < w.heap.size) w s) (hb : s.l.length * 40 ≤ 140737488355328)
    (hba : ∀ x, x ∈ s.l → x.L.l.length * 24 ≤ 140737488355328) :
    Calls Try.prog 63 #[.slice s.A s.l.length s.c] w fun e w' => ∃ s' : Sl Stock, e = .returned (.slice s'.A s'.l.length s'.c) ∧ s'.l.map Stock.d = s.l.map Stock.d ∧ (∃ m, OwnStocks w.heap.size m w' s') ∧ Below w.heap.size w w' := by
  obtain ⟨sA, sc, N⟩ := s
  have HR := Lib.hid hr
  have HBA := Lib.hid hba
  clear hr hba
  simp only at hb
  go_enter Try.func63, Try.ntmps63
  go_wp2_with fail
  refine (clone_stock ⟨sA, sc, N⟩ _ HR.out.1 hb).mono ?_
  rintro e wS ⟨NA, Nc, rfl, hown, hb1⟩
  have HON := Lib.hid hown
  have HBB := Lib.hid hown.bound
  have HR2 := Lib.hid HR.out.2
  clear hown
  have zS := hb1.size
  go_wp2_with fail
  go_loopw [9] (fun i wr => ∃ (k : Nat) (NL : List Stock), k ≤ N.length ∧ NL.length = N.length ∧ i = .int .i64 k ∧ NL.map Stock.d = N.map Stock.d ∧
    Own w.heap.size 66 3 Stock.enc wr ⟨NA, Nc, NL⟩ ∧
    Below w.heap.size w wr ∧ wS.heap.size ≤ wr.heap.size ∧ (∀ i x, NL[i]? = some x → (i < k → Rd (fun b => wS.heap.size ≤ b ∧ b < wr.heap.size) 3 Loan.enc wr x.L) ∧ (k ≤ i → N[i]? = some x))) (fun i _ => N.length - (intOf i).toNat)
  case atStart => exact ⟨0, N, by omega, rfl, rfl, rfl, HON.out, hb1, by omega, fun i x hx => ⟨fun h => absurd h (Nat.not_lt_zero _), fun _ => hx⟩⟩
  case round =>
    obtain ⟨k, NL, hk, hlen, rfl, hmap, hON, hbel, hsz, hall⟩ := hrel
    have HON := Lib.hid hON
    have HALL := Lib.hid hall
    have HMAP := Lib.hid hmap
    clear hON hall hmap
    have hhe : w.heap.size ≤ wr.heap.size := hbel.size
    by_cases hlt : k < N.length
    · have hk' : NL[k]? = some NL[k] := List.getElem?_eq_getElem (by omega)
      have hy := (HALL.out k _ hk').2 (Nat.le_refl _)
      have hmem := List.mem_of_getElem? hy
      generalize NL[k] = y at hk' hy hmem
      obtain ⟨yT, yU, yL⟩ := y
      have HY := Lib.hid hk'
      have HRY := Lib.hid (HR2.out _ hmem)
      have hba := HBA.out _ hmem
      obtain ⟨g, hA, hg1, hg2, hcl, gf⟩ := HON.out.atk Stock.k hk'
      simp only at hA hba
      subst hA
      have hg3 := HBB.out g rfl
      obtain ⟨g0, g1, g2⟩ := Cells.c3 hcl
      clear hk' hy hmem hcl
      go_wp2_with fail
      refine (clone_loan yL _ (HRY.out.below' hbel (Nat.le_refl _)) hba).mono ?_
      rintro e w1 ⟨A2, c2, rfl, hown2, hb2⟩
      have hbel1 : Below w.heap.size w w1 := qbv
      have G2 := keep_cell hb2 g2
      have GF := keep_frozen hb2 g2 (gf _)
      clear g0 g1 g2 gf
      have HON1 := Lib.hid ((HON.out.below hb2).set Stock.k rfl HY.out (j := 2) (y := ⟨yT, yU, ⟨A2, c2, yL.l⟩⟩) (u := .slice A2 yL.l.length c2) (by omega) rfl)
      have z2 : wr.heap.size ≤ w1.heap.size := hb2.size
      have HALL1 : Hid (∀ i x, (NL.set k ⟨yT, yU, ⟨A2, c2, yL.l⟩⟩)[i]? = some x → (i < k + 1 → Rd (fun b => wS.heap.size ≤ b ∧ b < (w1.setCell ⟨g, k * 3 + 2, none⟩ (.slice A2 yL.l.length c2)).heap.size) 3 Loan.enc (w1.setCell ⟨g, k * 3 + 2, none⟩ (.slice A2 yL.l.length c2)) x.L) ∧ (k + 1 ≤ i → N[i]? = some x)) := by
        refine Lib.hid fun i x hx => ?_
        rw [List.getElem?_set] at hx
        by_cases hik : k = i
        · subst hik
          rw [if_pos rfl, if_pos (by omega)] at hx
          injection hx with hx
          subst hx
          refine ⟨fun _ => ?_, fun h => by omega⟩
          have := (hown2.rd Loan.k).mono (G := fun b => wS.heap.size ≤ b ∧ b < w1.heap.size) (fun b hb => ⟨Nat.le_trans hsz hb.1, hb.2⟩)
          have := this.setfar (p := ⟨g, k * 3 + 2, none⟩) (by simp; omega) (.slice A2 yL.l.length c2)
          exact this.mono (fun b hb => ⟨hb.1, by simpa using hb.2⟩)
        · rw [if_neg hik] at hx
          have := HALL.out i x hx
          refine ⟨fun h => ?_, fun h => this.2 (by omega)⟩
          have := (this.1 (by omega)).to_below (B := wr.heap.size) (fun b hb => hb.2) hb2
          have := this.setfar (p := ⟨g, k * 3 + 2, none⟩) (by simp; omega) (.slice A2 yL.l.length c2)
          exact this.mono (fun b hb => ⟨hb.1, by have := hb.2; simp; omega⟩)
      have HMAP1 := Lib.hid ((map_set_same (f := Stock.d) (y := ⟨yT, yU, ⟨A2, c2, yL.l⟩⟩) HY.out rfl).trans HMAP.out)
      clear hb2 hown2
      go_wp2_with fail
      go_roundw
      case rel => exact ⟨k + 1, _, by omega, by simp [hlen], by go_num, HMAP1.out, HON1.out, qbv, by simp; omega, HALL1.out⟩
      case measure => simp [intOf]; omega
    · have hkl : N.length ≤ k := by omega
      have HAF : Hid (∀ n, n ∈ NL → Rd (fun b => wS.heap.size ≤ b ∧ b < wr.heap.size) 3 Loan.enc wr n.L) := Lib.hid fun n hn => by
        obtain ⟨i, hi⟩ := List.getElem?_of_mem hn
        have : i < NL.length := (List.getElem?_eq_some_iff.1 hi).1
        exact (HALL.out i n hi).1 (by omega)
      go_wp2_with fail
      go_ret
      exact ⟨⟨NA, Nc, NL⟩, by simp [hlen], HMAP.out, ⟨wS.heap.size, HON.out, HBB.out, by simpa using hsz, zS, HAF.out⟩, hbel⟩
end Go.Proofs.Ythnblhbdfpmolaa
/- Walks of package phone: fit. -/
namespace Go.Proofs.Ythnblhbdfpmolaa
open Go.RowKit
def fitOne (p : PhoneD) (k : Int) (l : Loan) : Bool := match p.H[hidx p.H k]? with | some h => hhas p.H k && decide (h.u = l.u) && decide (l.s = 0) | none => false
def fitIn (p : PhoneD) (k : Int) : Int → List Loan → Option Int
  | c, [] => some c
  | c, l :: r => if l.p = p.id then (if fitOne p k l then fitIn p k (c + 1) r else none) else fitIn p k c r
theorem fitIn_far {p : PhoneD} {k c : Int} {l : Loan} {r : List Loan} (h : l.p ≠ p.id) : fitIn p k c (l :: r) = fitIn p k c r := by simp only [fitIn, if_neg h]
theorem fitIn_no {p : PhoneD} {k c : Int} {l : Loan} {r : List Loan} (h : l.p = p.id) (h2 : fitOne p k l = false) : fitIn p k c (l :: r) = none := by simp [fitIn, h, h2]
theorem fitIn_go {p : PhoneD} {k c : Int} {l : Loan} {r : List Loan} (h : l.p = p.id) (h2 : fitOne p k l = true) : fitIn p k c (l :: r) = fitIn p k (c + 1) r := by simp [fitIn, h, h2]
def fitGo (p : PhoneD) : Int → Int → List StockD → Option Int
  | _, c, [] => some c
  | k, c, s :: r => if s.right then (match fitIn p k c s.L with | some c' => fitGo p (k + 1) c' r | none => none) else none
theorem fitGo_no {p : PhoneD} {k c : Int} {s : StockD} {r : List StockD} (h : s.right = false) : fitGo p k c (s :: r) = none := by simp [fitGo, h]
theorem fitGo_in {p : PhoneD} {k c : Int} {s : StockD} {r : List StockD} (h : s.right = true) (h2 : fitIn p k c s.L = none) : fitGo p k c (s :: r) = none := by simp [fitGo, h, h2]
theorem fitGo_go {p : PhoneD} {k c c' : Int} {s : StockD} {r : List StockD} (h : s.right = true) (h2 : fitIn p k c s.L = some c') : fitGo p k c (s :: r) = fitGo p (k + 1) c' r := by simp [fitGo, h, h2]
def PhoneD.fit (p : PhoneD) (l : List StockD) : Bool := match fitGo p 0 0 l with | some c => decide (c = p.H.length) | none => false
theorem fit_none {p : PhoneD} {l : List StockD} (h : fitGo p 0 0 l = none) : p.fit l = false := by simp [PhoneD.fit, h]
theorem fit_some {p : PhoneD} {l : List StockD} {c : Int} (h : fitGo p 0 0 l = some c) : p.fit l = decide (c = p.H.length) := by simp [PhoneD.fit, h]
set_option maxHeartbeats 800000 in
theorem phone_fit (p : Phone) (s : Sl Stock) (w : World) (hr : RdPhone (· < w.heap.size) w p) (hs : RdStocks (· < w.heap.size) w s) (h0 : holdsR p.H.l = true) (hb : s.l.length * 40 ≤ 140737488355328) :
    Calls Try.prog 58 #[p.v, .slice s.A s.l.length s.c] w fun e w' => e = .returned (.bool (p.d.fit (s.l.map Stock.d))) ∧ Below w.heap.size w w' := by
  obtain ⟨id, cut, H, N, S⟩ := p
  obtain ⟨sA, sc, NS⟩ := s
  obtain ⟨hl, hso, _⟩ := holdsR_iff h0
  simp only at hl hso hb
  have H0 := Lib.hid h0
  have HSO := Lib.hid hso
  have HR := Lib.hid hr
  have HS := Lib.hid hs
  clear hr h0 hso hs
  simp only [Phone.v]
  go_enter Try.func58, Try.ntmps58
  go_wp2_with fail
  generalize hpd : (Phone.d ⟨id, cut, H, N, S⟩) = pd
  have HPI : Hid (pd.id = id) := Lib.hid (by rw [← hpd]; rfl)
  have HPH : Hid (pd.H = H.l) := Lib.hid (by rw [← hpd]; rfl)
  have HPD := Lib.hid hpd
  clear hpd
  go_loopw [5, 14] (fun cn i wr => ∃ (k : Nat) (c : Int), k ≤ NS.length ∧ cn = .int .i64 c ∧ i = .int .i64 k ∧ Blk wr w.heap.size 33 #[.int .i64 id, .bool cut, .slice H.A H.l.length H.c, .slice N.A N.l.length N.c, .slice S.A S.l.length S.c] ∧ Below w.heap.size w wr ∧ 0 ≤ c ∧ c ≤ 12 * k ∧
    fitGo pd 0 0 (NS.map Stock.d) = fitGo pd k c ((NS.drop k).map Stock.d)) (fun _ i _ => NS.length - (intOf i).toNat)
  case atStart => exact ⟨0, 0, by omega, rfl, rfl, Blk.new _ _ _, qbl, by omega, by omega, by simp⟩
  case round =>
    obtain ⟨k, c, hk, rfl, rfl, hblk, hbel, hc1, hc2, heq⟩ := hrel
    obtain ⟨a0, a1, a2, a3, a4, af, az⟩ := hblk.b5
    have B_a := Lib.hid hblk
    clear hblk
    have hhe : w.heap.size ≤ wr.heap.size := hbel.size
    by_cases hlt : k < NS.length
    · obtain ⟨b, o, rfl, hb', hcl⟩ := HS.out.1.at1 hlt
      obtain ⟨g0, g1, g2⟩ := Cells.c3 (hcl.keep (hbel.block b hb'))
      have hmem : NS[k] ∈ NS := List.getElem_mem hlt
      have HRY := Lib.hid (HS.out.2 _ hmem)
      have hd : NS.drop k = NS[k] :: NS.drop (k + 1) := List.drop_eq_getElem_cons hlt
      rw [hd, List.map_cons] at heq
      have HE := Lib.hid heq
      clear hd heq hcl hmem
      generalize NS[k] = y at *
      obtain ⟨T, U, ⟨LA, LC, LL⟩⟩ := y
      rcases hq : (Stock.d ⟨T, U, ⟨LA, LC, LL⟩⟩).right
      · have HQ := Lib.hid hq
        clear hq
        go_wp2_with fail
        refine (stock_right ⟨T, U, ⟨LA, LC, LL⟩⟩ _ (HRY.out.below' qbh (Nat.le_refl _))).mono ?_
        rintro e w1 ⟨rfl, hb1⟩
        rw [HQ.out]
        have hB1 : Below w.heap.size w w1 := Below.trans qbh (hb1.mono (by first | omega | (simp; done) | (simp; omega)))
        clear hb1
        go_wp2_with fail
        go_ret
        exact ⟨ret_bool (fit_none (by rw [HPD.out, HE.out, fitGo_no HQ.out])).symm, hB1⟩
      · have HQ := Lib.hid hq
        have hL := StockD.right_len hq
        simp only [Stock.d] at hL
        clear hq
        go_wp2_with fail
        refine (stock_right ⟨T, U, ⟨LA, LC, LL⟩⟩ _ (HRY.out.below' qbh (Nat.le_refl _))).mono ?_
        rintro e w1 ⟨rfl, hb1⟩
        rw [HQ.out]
        clear a0 a1 a2 a3 a4 af
        have K_a : Blk _ (w.heap.size) 33 #[.int .i64 id, .bool cut, .slice H.A H.l.length H.c, .slice N.A N.l.length N.c, .slice S.A S.l.length S.c] := qkc B_a hb1
        obtain ⟨a0, a1, a2, a3, a4, af, az⟩ := Blk.b5 K_a
        have B_a := Lib.hid K_a
        clear K_a
        have K_q : Blk _ (wr.heap.size) 66 #[.int .i64 T, .int .i64 U, .slice LA LL.length LC] := qkb hb1
        obtain ⟨q0, q1, q2, qf, qz⟩ := Blk.b3 K_q
        have B_q := Lib.hid K_q
        clear K_q
        have hB1 : Below w.heap.size w w1 := Below.trans qbh (hb1.mono (by first | omega | (simp; done) | (simp; omega)))
        clear hb1
        go_wp2_with fail
        have HB1 := Lib.hid hB1
        have hLn : LL.length ≤ 9223372036854775807 := by omega
        clear a0 a1 a2 a3 a4 af q0 q1 q2 qf g0 g1 g2 hB1
        go_loopw [5, 25] (fun cn i wr2 => ∃ (j : Nat) (c' : Int), j ≤ LL.length ∧ cn = .int .i64 c' ∧ i = .int .i64 j ∧ Blk wr2 w.heap.size 33 #[.int .i64 id, .bool cut, .slice H.A H.l.length H.c, .slice N.A N.l.length N.c, .slice S.A S.l.length S.c] ∧ Below w.heap.size w wr2 ∧ 0 ≤ c' ∧ c' ≤ 12 * k + j ∧
          fitIn pd k c LL = fitIn pd k c' (LL.drop j)) (fun _ i _ => LL.length - (intOf i).toNat)
        case atStart => exact ⟨0, c, by omega, rfl, rfl, B_a.out, HB1.out, by omega, by omega, by simp⟩
        case round =>
          obtain ⟨j, c', hj, rfl, rfl, hblk2, hbel2, hd1, hd2, heq2⟩ := hrel
          obtain ⟨a0, a1, a2, a3, a4, af, az⟩ := hblk2.b5
          have B_a := Lib.hid hblk2
          clear hblk2
          have hhe2 : w.heap.size ≤ wr.heap.size := hbel2.size
          by_cases hlt2 : j < LL.length
          · obtain ⟨b, o, rfl, hb', hcl⟩ := HRY.out.at1 hlt2
            obtain ⟨g0, g1, g2⟩ := Cells.c3 (hcl.keep (hbel2.block b hb'))
            have hd : LL.drop j = LL[j] :: LL.drop (j + 1) := List.drop_eq_getElem_cons hlt2
            rw [hd] at heq2
            have HE2 := Lib.hid heq2
            clear hd heq2 hcl
            generalize LL[j] = y at *
            by_cases hid : y.p = id
            · have e1 : (y.p != id) = false := by simp [hid]
              have HID := Lib.hid hid
              clear hid
              rcases hh : hhas H.l k
              · have HH := Lib.hid hh
                clear hh
                go_wp2_with fail
                refine (phone_find ⟨id, cut, H, N, S⟩ k _ (HR.out.later qbh (Nat.le_refl _)) H0.out).mono ?_
                rintro e w2 ⟨rfl, hb2⟩
                rw [HH.out]
                clear a0 a1 a2 a3 a4 af
                have K_a : Blk _ (w.heap.size) 33 #[.int .i64 id, .bool cut, .slice H.A H.l.length H.c, .slice N.A N.l.length N.c, .slice S.A S.l.length S.c] := qkc B_a hb2
                obtain ⟨a0, a1, a2, a3, a4, af, az⟩ := Blk.b5 K_a
                have B_a := Lib.hid K_a
                clear K_a
                have K_q : Blk _ (wr.heap.size) 136 #[.int .i64 y.p, .int .i64 y.u, .int .i64 y.s] := qkb hb2
                obtain ⟨q0, q1, q2, qf, qz⟩ := Blk.b3 K_q
                have B_q := Lib.hid K_q
                clear K_q
                have hB2 : Below w.heap.size w w2 := Below.trans qbh (hb2.mono (by first | omega | (simp; done) | (simp; omega)))
                clear hb2
                go_wp2_with fail
                go_quiet (fail)
                go_wp2_with fail
                go_ret
                exact ⟨ret_bool (fit_none (by rw [HPD.out, HE.out, fitGo_in HQ.out (by rw [show (Stock.d ⟨T, U, ⟨some ⟨b, o, none⟩, LC, LL⟩⟩).L = LL from rfl, HE2.out, fitIn_no (HID.out.trans HPI.out.symm) (by unfold fitOne; rw [HPH.out]; split <;> simp [HH.out])])])).symm, qbh⟩
              · obtain ⟨x, hx, _⟩ := hidx_at HSO.out hh
                have hxi : hidx H.l k < H.l.length := (List.getElem?_eq_some_iff.1 hx).1
                have HF : Hid (fitOne pd k y = (decide (x.u = y.u) && decide (y.s = 0))) := Lib.hid (by unfold fitOne; rw [HPH.out, hx]; simp [hh])
                have HX := Lib.hid hx
                have HH := Lib.hid hh
                clear hh hx
                obtain ⟨b2, o2, hA2, hF2, hcl2⟩ := HR.out.1.2.2.2 _ x HX.out
                simp only at hA2
                have HA2 := Lib.hid hA2
                clear hA2
                generalize hgi : hidx H.l k = i0 at *
                have HGI := Lib.hid hgi
                clear hgi
                by_cases hu : x.u = y.u
                · have e2 : (x.u != y.u) = false := by simp [hu]
                  have HU := Lib.hid hu
                  clear hu
                  by_cases hz : y.s = 0
                  · have e3 : (y.s != 0) = false := by simp [hz]
                    have HZ := Lib.hid hz
                    clear hz
                    have HF1 : Hid (fitOne pd k y = true) := Lib.hid (by rw [HF.out]; simp [HU.out, HZ.out])
                    go_wp2_with fail
                    refine (phone_find ⟨id, cut, H, N, S⟩ k _ (HR.out.later qbh (Nat.le_refl _)) H0.out).mono ?_
                    rintro e w2 ⟨rfl, hb2⟩
                    rw [HGI.out, HH.out]
                    clear a0 a1 a2 a3 a4 af
                    have K_a : Blk _ (w.heap.size) 33 #[.int .i64 id, .bool cut, .slice H.A H.l.length H.c, .slice N.A N.l.length N.c, .slice S.A S.l.length S.c] := qkc B_a hb2
                    obtain ⟨a0, a1, a2, a3, a4, af, az⟩ := Blk.b5 K_a
                    have B_a := Lib.hid K_a
                    clear K_a
                    have K_q : Blk _ (wr.heap.size) 136 #[.int .i64 y.p, .int .i64 y.u, .int .i64 y.s] := qkb hb2
                    obtain ⟨q0, q1, q2, qf, qz⟩ := Blk.b3 K_q
                    have B_q := Lib.hid K_q
                    clear K_q
                    have hB2 : Below w.heap.size w w2 := Below.trans qbh (hb2.mono (by first | omega | (simp; done) | (simp; omega)))
                    clear hb2
                    have hcl2 := hcl2.keep (hB2.block b2 hF2)
                    obtain ⟨h0, h1, h2⟩ := Cells.c3 hcl2
                    clear hcl2
                    try simp only at a2
                    rw [HA2.out] at a2
                    go_wp2_with fail
                    go_quiet (fail)
                    go_wp2_with fail
                    go_roundw
                    case rel => exact ⟨j + 1, c' + 1, by omega, rfl, by go_num, B_a.out, qbh, by omega, by omega, by rw [HE2.out, fitIn_go (HID.out.trans HPI.out.symm) HF1.out]⟩
                    case measure => simp [intOf]; omega
                  · have e3 : (y.s != 0) = true := by simp [hz]
                    have HZ := Lib.hid hz
                    clear hz
                    have HF1 : Hid (fitOne pd k y = false) := Lib.hid (by rw [HF.out]; simp [HU.out, HZ.out])
                    go_wp2_with fail
                    refine (phone_find ⟨id, cut, H, N, S⟩ k _ (HR.out.later qbh (Nat.le_refl _)) H0.out).mono ?_
                    rintro e w2 ⟨rfl, hb2⟩
                    rw [HGI.out, HH.out]
                    clear a0 a1 a2 a3 a4 af
                    have K_a : Blk _ (w.heap.size) 33 #[.int .i64 id, .bool cut, .slice H.A H.l.length H.c, .slice N.A N.l.length N.c, .slice S.A S.l.length S.c] := qkc B_a hb2
                    obtain ⟨a0, a1, a2, a3, a4, af, az⟩ := Blk.b5 K_a
                    have B_a := Lib.hid K_a
                    clear K_a
                    have K_q : Blk _ (wr.heap.size) 136 #[.int .i64 y.p, .int .i64 y.u, .int .i64 y.s] := qkb hb2
                    obtain ⟨q0, q1, q2, qf, qz⟩ := Blk.b3 K_q
                    have B_q := Lib.hid K_q
                    clear K_q
                    have hB2 : Below w.heap.size w w2 := Below.trans qbh (hb2.mono (by first | omega | (simp; done) | (simp; omega)))
                    clear hb2
                    have hcl2 := hcl2.keep (hB2.block b2 hF2)
                    obtain ⟨h0, h1, h2⟩ := Cells.c3 hcl2
                    clear hcl2
                    try simp only at a2
                    rw [HA2.out] at a2
                    go_wp2_with fail
                    go_quiet (fail)
                    go_wp2_with fail
                    go_ret
                    exact ⟨ret_bool (fit_none (by rw [HPD.out, HE.out, fitGo_in HQ.out (by rw [show (Stock.d ⟨T, U, ⟨some ⟨b, o, none⟩, LC, LL⟩⟩).L = LL from rfl, HE2.out, fitIn_no (HID.out.trans HPI.out.symm) HF1.out])])).symm, qbh⟩
                · have e2 : (x.u != y.u) = true := by simp [hu]
                  have HU := Lib.hid hu
                  clear hu
                  have HF1 : Hid (fitOne pd k y = false) := Lib.hid (by rw [HF.out]; simp [HU.out])
                  go_wp2_with fail
                  refine (phone_find ⟨id, cut, H, N, S⟩ k _ (HR.out.later qbh (Nat.le_refl _)) H0.out).mono ?_
                  rintro e w2 ⟨rfl, hb2⟩
                  rw [HGI.out, HH.out]
                  clear a0 a1 a2 a3 a4 af
                  have K_a : Blk _ (w.heap.size) 33 #[.int .i64 id, .bool cut, .slice H.A H.l.length H.c, .slice N.A N.l.length N.c, .slice S.A S.l.length S.c] := qkc B_a hb2
                  obtain ⟨a0, a1, a2, a3, a4, af, az⟩ := Blk.b5 K_a
                  have B_a := Lib.hid K_a
                  clear K_a
                  have K_q : Blk _ (wr.heap.size) 136 #[.int .i64 y.p, .int .i64 y.u, .int .i64 y.s] := qkb hb2
                  obtain ⟨q0, q1, q2, qf, qz⟩ := Blk.b3 K_q
                  have B_q := Lib.hid K_q
                  clear K_q
                  have hB2 : Below w.heap.size w w2 := Below.trans qbh (hb2.mono (by first | omega | (simp; done) | (simp; omega)))
                  clear hb2
                  have hcl2 := hcl2.keep (hB2.block b2 hF2)
                  obtain ⟨h0, h1, h2⟩ := Cells.c3 hcl2
                  clear hcl2
                  try simp only at a2
                  rw [HA2.out] at a2
                  go_wp2_with fail
                  go_quiet (fail)
                  go_wp2_with fail
                  go_ret
                  exact ⟨ret_bool (fit_none (by rw [HPD.out, HE.out, fitGo_in HQ.out (by rw [show (Stock.d ⟨T, U, ⟨some ⟨b, o, none⟩, LC, LL⟩⟩).L = LL from rfl, HE2.out, fitIn_no (HID.out.trans HPI.out.symm) HF1.out])])).symm, qbh⟩
            · have e1 : (y.p != id) = true := by simp [hid]
              have HID := Lib.hid hid
              clear hid
              go_wp2_with fail
              go_roundw
              case rel => exact ⟨j + 1, c', by omega, rfl, by go_num, B_a.out.alloc _, qbh, by omega, by omega, by rw [HE2.out, fitIn_far (by rw [HPI.out]; exact HID.out)]⟩
              case measure => simp [intOf]; omega
          · have hkl : LL.drop j = [] := List.drop_eq_nil_of_le (by omega)
            rw [hkl] at heq2
            have HE2 := Lib.hid heq2
            clear hkl heq2
            go_wp2_with fail
            go_roundw
            case rel => exact ⟨k + 1, c', by omega, rfl, by go_num, B_a.out, hbel2, by omega, by omega, by rw [HE.out, fitGo_go HQ.out (c' := c') (by rw [show (Stock.d ⟨T, U, ⟨LA, LC, LL⟩⟩).L = LL from rfl, HE2.out]; rfl)]; simp⟩
            case measure => simp [intOf]; omega
    · have hkl : NS.drop k = [] := List.drop_eq_nil_of_le (by omega)
      rw [hkl] at heq
      have HE := Lib.hid heq
      clear hkl heq
      go_wp2_with fail
      go_ret
      exact ⟨ret_bool (by rw [fit_some (c := c) (by rw [HPD.out, HE.out]; rfl)]; simp only [Phone.d]; rw [Bool.eq_iff_iff, beq_iff_eq]; exact ⟨fun h => decide_eq_true h, fun h => of_decide_eq_true h⟩), hbel⟩
end Go.Proofs.Ythnblhbdfpmolaa
