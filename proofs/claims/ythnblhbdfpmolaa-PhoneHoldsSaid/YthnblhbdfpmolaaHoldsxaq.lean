/- Walks of package phone: fit. -/
import Derived.Test.YthnblhbdfpmolaaHoldsxap
namespace Go.Proofs.Ythnblhbdfpmolaa
open Go.RowKit
def fitOne (p : PhoneD) (k : Int) (l : Loan) : Bool := match p.H[hidx p.H k]? with | some h => hhas p.H k && decide (h.u = l.u) && decide (l.s = 0) | none => false
def fitIn (p : PhoneD) (k : Int) : Int → List Loan → Option Int
  | c, [] => some c
  | c, l :: r => if l.p = p.id then (if fitOne p k l then fitIn p k (c + 1) r else none) else fitIn p k c r
theorem fitIn_far {p : PhoneD} {k c : Int} {l : Loan} {r : List Loan} (h : l.p ≠ p.id) : fitIn p k c (l :: r) = fitIn p k c r := by simp only [fitIn, if_neg h]
theorem fitIn_no {p : PhoneD} {k c : Int} {l : Loan} {r : List Loan} (h : l.p = p.id) (h2 : fitOne p k l = false) : fitIn p k c (l :: r) = none := by simp [fitIn, h, h2]
theorem fitIn_go {p : PhoneD} {k c : Int} {l : Loan} {r : List Loan} (h : l.p = p.id) (h2 : fitOne p k l = true) : fitIn p k c (l :: r) = fitIn p k (c + 1) r := by simp [fitIn, h, h2]
def fitGo (p : PhoneD) : Int → Int → List StockD → Option Int
  | _, c, [] => some c
  | k, c, s :: r => if s.right then (match fitIn p k c s.L with | some c' => fitGo p (k + 1) c' r | none => none) else none
theorem fitGo_no {p : PhoneD} {k c : Int} {s : StockD} {r : List StockD} (h : s.right = false) : fitGo p k c (s :: r) = none := by simp [fitGo, h]
theorem fitGo_in {p : PhoneD} {k c : Int} {s : StockD} {r : List StockD} (h : s.right = true) (h2 : fitIn p k c s.L = none) : fitGo p k c (s :: r) = none := by simp [fitGo, h, h2]
theorem fitGo_go {p : PhoneD} {k c c' : Int} {s : StockD} {r : List StockD} (h : s.right = true) (h2 : fitIn p k c s.L = some c') : fitGo p k c (s :: r) = fitGo p (k + 1) c' r := by simp [fitGo, h, h2]
def PhoneD.fit (p : PhoneD) (l : List StockD) : Bool := match fitGo p 0 0 l with | some c => decide (c = p.H.length) | none => false
theorem fit_none {p : PhoneD} {l : List StockD} (h : fitGo p 0 0 l = none) : p.fit l = false := by simp [PhoneD.fit, h]
theorem fit_some {p : PhoneD} {l : List StockD} {c : Int} (h : fitGo p 0 0 l = some c) : p.fit l = decide (c = p.H.length) := by simp [PhoneD.fit, h]
set_option maxHeartbeats 800000 in
theorem phone_fit (p : Phone) (s : Sl Stock) (w : World) (hr : RdPhone (· < w.heap.size) w p) (hs : RdStocks (· < w.heap.size) w s) (h0 : holdsR p.H.l = true) (hb : s.l.length * 40 ≤ 140737488355328) :
    Calls Try.prog 58 #[p.v, .slice s.A s.l.length s.c] w fun e w' => e = .returned (.bool (p.d.fit (s.l.map Stock.d))) ∧ Below w.heap.size w w' := by
  obtain ⟨id, cut, H, N, S⟩ := p
  obtain ⟨sA, sc, NS⟩ := s
  obtain ⟨hl, hso, _⟩ := holdsR_iff h0
  simp only at hl hso hb
  have H0 := Lib.hid h0
  have HSO := Lib.hid hso
  have HR := Lib.hid hr
  have HS := Lib.hid hs
  clear hr h0 hso hs
  simp only [Phone.v]
  go_enter Try.func58, Try.ntmps58
  go_wp2_with fail
  generalize hpd : (Phone.d ⟨id, cut, H, N, S⟩) = pd
  have HPI : Hid (pd.id = id) := Lib.hid (by rw [← hpd]; rfl)
  have HPH : Hid (pd.H = H.l) := Lib.hid (by rw [← hpd]; rfl)
  have HPD := Lib.hid hpd
  clear hpd
  go_loopw [5, 14] (fun cn i wr => ∃ (k : Nat) (c : Int), k ≤ NS.length ∧ cn = .int .i64 c ∧ i = .int .i64 k ∧ Blk wr w.heap.size 33 #[.int .i64 id, .bool cut, .slice H.A H.l.length H.c, .slice N.A N.l.length N.c, .slice S.A S.l.length S.c] ∧ Below w.heap.size w wr ∧ 0 ≤ c ∧ c ≤ 12 * k ∧
    fitGo pd 0 0 (NS.map Stock.d) = fitGo pd k c ((NS.drop k).map Stock.d)) (fun _ i _ => NS.length - (intOf i).toNat)
  case atStart => exact ⟨0, 0, by omega, rfl, rfl, Blk.new _ _ _, (by repeat (first | (with_reducible exact Below.refl _ _) | ((with_reducible refine below_setr ?_ ?_); focus (first | (simp; done) | (simp; omega) | omega)) | ((with_reducible refine below_allocr ?_ ?_); focus (first | (simp; done) | (simp; omega) | omega)) | (with_reducible refine Below.drew ?_) | (with_reducible refine below_drewN ?_ _))), by omega, by omega, by simp⟩
  case round =>
    obtain ⟨k, c, hk, rfl, rfl, hblk, hbel, hc1, hc2, heq⟩ := hrel
    obtain ⟨a0, a1, a2, a3, a4, af, az⟩ := hblk.b5
    have B_a := Lib.hid hblk
    clear hblk
    have hhe : w.heap.size ≤ wr.heap.size := hbel.size
    by_cases hlt : k < NS.length
    · obtain ⟨b, o, rfl, hb', hcl⟩ := HS.out.1.at1 hlt
      obtain ⟨g0, g1, g2⟩ := Cells.c3 (hcl.keep (hbel.block b hb'))
      have hmem : NS[k] ∈ NS := List.getElem_mem hlt
      have HRY := Lib.hid (HS.out.2 _ hmem)
      have hd : NS.drop k = NS[k] :: NS.drop (k + 1) := List.drop_eq_getElem_cons hlt
      rw [hd, List.map_cons] at heq
      have HE := Lib.hid heq
      clear hd heq hcl hmem
      generalize NS[k] = y at *
      obtain ⟨T, U, ⟨LA, LC, LL⟩⟩ := y
      rcases hq : (Stock.d ⟨T, U, ⟨LA, LC, LL⟩⟩).right
      · have HQ := Lib.hid hq
        clear hq
        go_wp2_with fail
        refine (stock_right ⟨T, U, ⟨LA, LC, LL⟩⟩ _ (HRY.out.below' (by repeat (first | (with_reducible exact hbel) | (with_reducible exact Below.refl _ _) | ((with_reducible refine below_setr ?_ ?_); focus (first | (simp; done) | (simp; omega) | omega)) | ((with_reducible refine below_allocr ?_ ?_); focus (first | (simp; done) | (simp; omega) | omega)) | (with_reducible refine Below.drew ?_) | (with_reducible refine below_drewN ?_ _))) (Nat.le_refl _))).mono ?_
        rintro e w1 ⟨rfl, hb1⟩
        rw [HQ.out]
        have hB1 : Below w.heap.size w w1 := Below.trans (by repeat (first | (with_reducible exact hbel) | (with_reducible exact Below.refl _ _) | ((with_reducible refine below_setr ?_ ?_); focus (first | (simp; done) | (simp; omega) | omega)) | ((with_reducible refine below_allocr ?_ ?_); focus (first | (simp; done) | (simp; omega) | omega)) | (with_reducible refine Below.drew ?_) | (with_reducible refine below_drewN ?_ _))) (hb1.mono (by first | omega | (simp; done) | (simp; omega)))
        clear hb1
        go_wp2_with fail
        go_ret
        exact ⟨ret_bool (fit_none (by rw [HPD.out, HE.out, fitGo_no HQ.out])).symm, hB1⟩
      · have HQ := Lib.hid hq
        have hL := StockD.right_len hq
        simp only [Stock.d] at hL
        clear hq
        go_wp2_with fail
        refine (stock_right ⟨T, U, ⟨LA, LC, LL⟩⟩ _ (HRY.out.below' (by repeat (first | (with_reducible exact hbel) | (with_reducible exact Below.refl _ _) | ((with_reducible refine below_setr ?_ ?_); focus (first | (simp; done) | (simp; omega) | omega)) | ((with_reducible refine below_allocr ?_ ?_); focus (first | (simp; done) | (simp; omega) | omega)) | (with_reducible refine Below.drew ?_) | (with_reducible refine below_drewN ?_ _))) (Nat.le_refl _))).mono ?_
        rintro e w1 ⟨rfl, hb1⟩
        rw [HQ.out]
        clear a0 a1 a2 a3 a4 af
        have K_a : Blk _ (w.heap.size) 33 #[.int .i64 id, .bool cut, .slice H.A H.l.length H.c, .slice N.A N.l.length N.c, .slice S.A S.l.length S.c] := blk_later hb1 (by simp [hp_past, hp_at, hp_other, hp_same, hp_drew, hp_drewN, B_a.out.eq, B_a.out.lt, hp_same B_a.out.eq])
        obtain ⟨a0, a1, a2, a3, a4, af, az⟩ := Blk.b5 K_a
        have B_a := Lib.hid K_a
        clear K_a
        have K_q : Blk _ (wr.heap.size) 66 #[.int .i64 T, .int .i64 U, .slice LA LL.length LC] := blk_later hb1 (by simp [hp_past, hp_at, hp_other, hp_same, hp_drew, hp_drewN])
        obtain ⟨q0, q1, q2, qf, qz⟩ := Blk.b3 K_q
        have B_q := Lib.hid K_q
        clear K_q
        have hB1 : Below w.heap.size w w1 := Below.trans (by repeat (first | (with_reducible exact hbel) | (with_reducible exact Below.refl _ _) | ((with_reducible refine below_setr ?_ ?_); focus (first | (simp; done) | (simp; omega) | omega)) | ((with_reducible refine below_allocr ?_ ?_); focus (first | (simp; done) | (simp; omega) | omega)) | (with_reducible refine Below.drew ?_) | (with_reducible refine below_drewN ?_ _))) (hb1.mono (by first | omega | (simp; done) | (simp; omega)))
        clear hb1
        go_wp2_with fail
        have HB1 := Lib.hid hB1
        have hLn : LL.length ≤ 9223372036854775807 := by omega
        clear a0 a1 a2 a3 a4 af q0 q1 q2 qf g0 g1 g2 hB1
        go_loopw [5, 25] (fun cn i wr2 => ∃ (j : Nat) (c' : Int), j ≤ LL.length ∧ cn = .int .i64 c' ∧ i = .int .i64 j ∧ Blk wr2 w.heap.size 33 #[.int .i64 id, .bool cut, .slice H.A H.l.length H.c, .slice N.A N.l.length N.c, .slice S.A S.l.length S.c] ∧ Below w.heap.size w wr2 ∧ 0 ≤ c' ∧ c' ≤ 12 * k + j ∧
          fitIn pd k c LL = fitIn pd k c' (LL.drop j)) (fun _ i _ => LL.length - (intOf i).toNat)
        case atStart => exact ⟨0, c, by omega, rfl, rfl, B_a.out, HB1.out, by omega, by omega, by simp⟩
        case round =>
          obtain ⟨j, c', hj, rfl, rfl, hblk2, hbel2, hd1, hd2, heq2⟩ := hrel
          obtain ⟨a0, a1, a2, a3, a4, af, az⟩ := hblk2.b5
          have B_a := Lib.hid hblk2
          clear hblk2
          have hhe2 : w.heap.size ≤ wr.heap.size := hbel2.size
          by_cases hlt2 : j < LL.length
          · obtain ⟨b, o, rfl, hb', hcl⟩ := HRY.out.at1 hlt2
            obtain ⟨g0, g1, g2⟩ := Cells.c3 (hcl.keep (hbel2.block b hb'))
            have hd : LL.drop j = LL[j] :: LL.drop (j + 1) := List.drop_eq_getElem_cons hlt2
            rw [hd] at heq2
            have HE2 := Lib.hid heq2
            clear hd heq2 hcl
            generalize LL[j] = y at *
            by_cases hid : y.p = id
            · have e1 : (y.p != id) = false := by simp [hid]
              have HID := Lib.hid hid
              clear hid
              rcases hh : hhas H.l k
              · have HH := Lib.hid hh
                clear hh
                go_wp2_with fail
                refine (phone_find ⟨id, cut, H, N, S⟩ k _ (HR.out.later (by repeat (first | (with_reducible exact hbel2) | (with_reducible exact Below.refl _ _) | ((with_reducible refine below_setr ?_ ?_); focus (first | (simp; done) | (simp; omega) | omega)) | ((with_reducible refine below_allocr ?_ ?_); focus (first | (simp; done) | (simp; omega) | omega)) | (with_reducible refine Below.drew ?_) | (with_reducible refine below_drewN ?_ _))) (Nat.le_refl _)) H0.out).mono ?_
                rintro e w2 ⟨rfl, hb2⟩
                rw [HH.out]
                clear a0 a1 a2 a3 a4 af
                have K_a : Blk _ (w.heap.size) 33 #[.int .i64 id, .bool cut, .slice H.A H.l.length H.c, .slice N.A N.l.length N.c, .slice S.A S.l.length S.c] := blk_later hb2 (by simp [hp_past, hp_at, hp_other, hp_same, hp_drew, hp_drewN, B_a.out.eq, B_a.out.lt, hp_same B_a.out.eq])
                obtain ⟨a0, a1, a2, a3, a4, af, az⟩ := Blk.b5 K_a
                have B_a := Lib.hid K_a
                clear K_a
                have K_q : Blk _ (wr.heap.size) 136 #[.int .i64 y.p, .int .i64 y.u, .int .i64 y.s] := blk_later hb2 (by simp [hp_past, hp_at, hp_other, hp_same, hp_drew, hp_drewN])
                obtain ⟨q0, q1, q2, qf, qz⟩ := Blk.b3 K_q
                have B_q := Lib.hid K_q
                clear K_q
                have hB2 : Below w.heap.size w w2 := Below.trans (by repeat (first | (with_reducible exact hbel2) | (with_reducible exact Below.refl _ _) | ((with_reducible refine below_setr ?_ ?_); focus (first | (simp; done) | (simp; omega) | omega)) | ((with_reducible refine below_allocr ?_ ?_); focus (first | (simp; done) | (simp; omega) | omega)) | (with_reducible refine Below.drew ?_) | (with_reducible refine below_drewN ?_ _))) (hb2.mono (by first | omega | (simp; done) | (simp; omega)))
                clear hb2
                go_wp2_with fail
                go_quiet (fail)
                go_wp2_with fail
                go_ret
                exact ⟨ret_bool (fit_none (by rw [HPD.out, HE.out, fitGo_in HQ.out (by rw [show (Stock.d ⟨T, U, ⟨some ⟨b, o, none⟩, LC, LL⟩⟩).L = LL from rfl, HE2.out, fitIn_no (HID.out.trans HPI.out.symm) (by unfold fitOne; rw [HPH.out]; split <;> simp [HH.out])])])).symm, (by repeat (first | (with_reducible exact hB2) | (with_reducible exact Below.refl _ _) | ((with_reducible refine below_setr ?_ ?_); focus (first | (simp; done) | (simp; omega) | omega)) | ((with_reducible refine below_allocr ?_ ?_); focus (first | (simp; done) | (simp; omega) | omega)) | (with_reducible refine Below.drew ?_) | (with_reducible refine below_drewN ?_ _)))⟩
              · obtain ⟨x, hx, _⟩ := hidx_at HSO.out hh
                have hxi : hidx H.l k < H.l.length := (List.getElem?_eq_some_iff.1 hx).1
                have HF : Hid (fitOne pd k y = (decide (x.u = y.u) && decide (y.s = 0))) := Lib.hid (by unfold fitOne; rw [HPH.out, hx]; simp [hh])
                have HX := Lib.hid hx
                have HH := Lib.hid hh
                clear hh hx
                obtain ⟨b2, o2, hA2, hF2, hcl2⟩ := HR.out.1.2.2.2 _ x HX.out
                simp only at hA2
                have HA2 := Lib.hid hA2
                clear hA2
                generalize hgi : hidx H.l k = i0 at *
                have HGI := Lib.hid hgi
                clear hgi
                by_cases hu : x.u = y.u
                · have e2 : (x.u != y.u) = false := by simp [hu]
                  have HU := Lib.hid hu
                  clear hu
                  by_cases hz : y.s = 0
                  · have e3 : (y.s != 0) = false := by simp [hz]
                    have HZ := Lib.hid hz
                    clear hz
                    have HF1 : Hid (fitOne pd k y = true) := Lib.hid (by rw [HF.out]; simp [HU.out, HZ.out])
                    go_wp2_with fail
                    refine (phone_find ⟨id, cut, H, N, S⟩ k _ (HR.out.later (by repeat (first | (with_reducible exact hbel2) | (with_reducible exact Below.refl _ _) | ((with_reducible refine below_setr ?_ ?_); focus (first | (simp; done) | (simp; omega) | omega)) | ((with_reducible refine below_allocr ?_ ?_); focus (first | (simp; done) | (simp; omega) | omega)) | (with_reducible refine Below.drew ?_) | (with_reducible refine below_drewN ?_ _))) (Nat.le_refl _)) H0.out).mono ?_
                    rintro e w2 ⟨rfl, hb2⟩
                    rw [HGI.out, HH.out]
                    clear a0 a1 a2 a3 a4 af
                    have K_a : Blk _ (w.heap.size) 33 #[.int .i64 id, .bool cut, .slice H.A H.l.length H.c, .slice N.A N.l.length N.c, .slice S.A S.l.length S.c] := blk_later hb2 (by simp [hp_past, hp_at, hp_other, hp_same, hp_drew, hp_drewN, B_a.out.eq, B_a.out.lt, hp_same B_a.out.eq])
                    obtain ⟨a0, a1, a2, a3, a4, af, az⟩ := Blk.b5 K_a
                    have B_a := Lib.hid K_a
                    clear K_a
                    have K_q : Blk _ (wr.heap.size) 136 #[.int .i64 y.p, .int .i64 y.u, .int .i64 y.s] := blk_later hb2 (by simp [hp_past, hp_at, hp_other, hp_same, hp_drew, hp_drewN])
                    obtain ⟨q0, q1, q2, qf, qz⟩ := Blk.b3 K_q
                    have B_q := Lib.hid K_q
                    clear K_q
                    have hB2 : Below w.heap.size w w2 := Below.trans (by repeat (first | (with_reducible exact hbel2) | (with_reducible exact Below.refl _ _) | ((with_reducible refine below_setr ?_ ?_); focus (first | (simp; done) | (simp; omega) | omega)) | ((with_reducible refine below_allocr ?_ ?_); focus (first | (simp; done) | (simp; omega) | omega)) | (with_reducible refine Below.drew ?_) | (with_reducible refine below_drewN ?_ _))) (hb2.mono (by first | omega | (simp; done) | (simp; omega)))
                    clear hb2
                    have hcl2 := hcl2.keep (hB2.block b2 hF2)
                    obtain ⟨h0, h1, h2⟩ := Cells.c3 hcl2
                    clear hcl2
                    try simp only at a2
                    rw [HA2.out] at a2
                    go_wp2_with fail
                    go_quiet (fail)
                    go_wp2_with fail
                    go_roundw
                    case rel => exact ⟨j + 1, c' + 1, by omega, rfl, by go_num, B_a.out, (by repeat (first | (with_reducible exact hB2) | (with_reducible exact Below.refl _ _) | ((with_reducible refine below_setr ?_ ?_); focus (first | (simp; done) | (simp; omega) | omega)) | ((with_reducible refine below_allocr ?_ ?_); focus (first | (simp; done) | (simp; omega) | omega)) | (with_reducible refine Below.drew ?_) | (with_reducible refine below_drewN ?_ _))), by omega, by omega, by rw [HE2.out, fitIn_go (HID.out.trans HPI.out.symm) HF1.out]⟩
                    case measure => simp [intOf]; omega
                  · have e3 : (y.s != 0) = true := by simp [hz]
                    have HZ := Lib.hid hz
                    clear hz
                    have HF1 : Hid (fitOne pd k y = false) := Lib.hid (by rw [HF.out]; simp [HU.out, HZ.out])
                    go_wp2_with fail
                    refine (phone_find ⟨id, cut, H, N, S⟩ k _ (HR.out.later (by repeat (first | (with_reducible exact hbel2) | (with_reducible exact Below.refl _ _) | ((with_reducible refine below_setr ?_ ?_); focus (first | (simp; done) | (simp; omega) | omega)) | ((with_reducible refine below_allocr ?_ ?_); focus (first | (simp; done) | (simp; omega) | omega)) | (with_reducible refine Below.drew ?_) | (with_reducible refine below_drewN ?_ _))) (Nat.le_refl _)) H0.out).mono ?_
                    rintro e w2 ⟨rfl, hb2⟩
                    rw [HGI.out, HH.out]
                    clear a0 a1 a2 a3 a4 af
                    have K_a : Blk _ (w.heap.size) 33 #[.int .i64 id, .bool cut, .slice H.A H.l.length H.c, .slice N.A N.l.length N.c, .slice S.A S.l.length S.c] := blk_later hb2 (by simp [hp_past, hp_at, hp_other, hp_same, hp_drew, hp_drewN, B_a.out.eq, B_a.out.lt, hp_same B_a.out.eq])
                    obtain ⟨a0, a1, a2, a3, a4, af, az⟩ := Blk.b5 K_a
                    have B_a := Lib.hid K_a
                    clear K_a
                    have K_q : Blk _ (wr.heap.size) 136 #[.int .i64 y.p, .int .i64 y.u, .int .i64 y.s] := blk_later hb2 (by simp [hp_past, hp_at, hp_other, hp_same, hp_drew, hp_drewN])
                    obtain ⟨q0, q1, q2, qf, qz⟩ := Blk.b3 K_q
                    have B_q := Lib.hid K_q
                    clear K_q
                    have hB2 : Below w.heap.size w w2 := Below.trans (by repeat (first | (with_reducible exact hbel2) | (with_reducible exact Below.refl _ _) | ((with_reducible refine below_setr ?_ ?_); focus (first | (simp; done) | (simp; omega) | omega)) | ((with_reducible refine below_allocr ?_ ?_); focus (first | (simp; done) | (simp; omega) | omega)) | (with_reducible refine Below.drew ?_) | (with_reducible refine below_drewN ?_ _))) (hb2.mono (by first | omega | (simp; done) | (simp; omega)))
                    clear hb2
                    have hcl2 := hcl2.keep (hB2.block b2 hF2)
                    obtain ⟨h0, h1, h2⟩ := Cells.c3 hcl2
                    clear hcl2
                    try simp only at a2
                    rw [HA2.out] at a2
                    go_wp2_with fail
                    go_quiet (fail)
                    go_wp2_with fail
                    go_ret
                    exact ⟨ret_bool (fit_none (by rw [HPD.out, HE.out, fitGo_in HQ.out (by rw [show (Stock.d ⟨T, U, ⟨some ⟨b, o, none⟩, LC, LL⟩⟩).L = LL from rfl, HE2.out, fitIn_no (HID.out.trans HPI.out.symm) HF1.out])])).symm, (by repeat (first | (with_reducible exact hB2) | (with_reducible exact Below.refl _ _) | ((with_reducible refine below_setr ?_ ?_); focus (first | (simp; done) | (simp; omega) | omega)) | ((with_reducible refine below_allocr ?_ ?_); focus (first | (simp; done) | (simp; omega) | omega)) | (with_reducible refine Below.drew ?_) | (with_reducible refine below_drewN ?_ _)))⟩
                · have e2 : (x.u != y.u) = true := by simp [hu]
                  have HU := Lib.hid hu
                  clear hu
                  have HF1 : Hid (fitOne pd k y = false) := Lib.hid (by rw [HF.out]; simp [HU.out])
                  go_wp2_with fail
                  refine (phone_find ⟨id, cut, H, N, S⟩ k _ (HR.out.later (by repeat (first | (with_reducible exact hbel2) | (with_reducible exact Below.refl _ _) | ((with_reducible refine below_setr ?_ ?_); focus (first | (simp; done) | (simp; omega) | omega)) | ((with_reducible refine below_allocr ?_ ?_); focus (first | (simp; done) | (simp; omega) | omega)) | (with_reducible refine Below.drew ?_) | (with_reducible refine below_drewN ?_ _))) (Nat.le_refl _)) H0.out).mono ?_
                  rintro e w2 ⟨rfl, hb2⟩
                  rw [HGI.out, HH.out]
                  clear a0 a1 a2 a3 a4 af
                  have K_a : Blk _ (w.heap.size) 33 #[.int .i64 id, .bool cut, .slice H.A H.l.length H.c, .slice N.A N.l.length N.c, .slice S.A S.l.length S.c] := blk_later hb2 (by simp [hp_past, hp_at, hp_other, hp_same, hp_drew, hp_drewN, B_a.out.eq, B_a.out.lt, hp_same B_a.out.eq])
                  obtain ⟨a0, a1, a2, a3, a4, af, az⟩ := Blk.b5 K_a
                  have B_a := Lib.hid K_a
                  clear K_a
                  have K_q : Blk _ (wr.heap.size) 136 #[.int .i64 y.p, .int .i64 y.u, .int .i64 y.s] := blk_later hb2 (by simp [hp_past, hp_at, hp_other, hp_same, hp_drew, hp_drewN])
                  obtain ⟨q0, q1, q2, qf, qz⟩ := Blk.b3 K_q
                  have B_q := Lib.hid K_q
                  clear K_q
                  have hB2 : Below w.heap.size w w2 := Below.trans (by repeat (first | (with_reducible exact hbel2) | (with_reducible exact Below.refl _ _) | ((with_reducible refine below_setr ?_ ?_); focus (first | (simp; done) | (simp; omega) | omega)) | ((with_reducible refine below_allocr ?_ ?_); focus (first | (simp; done) | (simp; omega) | omega)) | (with_reducible refine Below.drew ?_) | (with_reducible refine below_drewN ?_ _))) (hb2.mono (by first | omega | (simp; done) | (simp; omega)))
                  clear hb2
                  have hcl2 := hcl2.keep (hB2.block b2 hF2)
                  obtain ⟨h0, h1, h2⟩ := Cells.c3 hcl2
                  clear hcl2
                  try simp only at a2
                  rw [HA2.out] at a2
                  go_wp2_with fail
                  go_quiet (fail)
                  go_wp2_with fail
                  go_ret
                  exact ⟨ret_bool (fit_none (by rw [HPD.out, HE.out, fitGo_in HQ.out (by rw [show (Stock.d ⟨T, U, ⟨some ⟨b, o, none⟩, LC, LL⟩⟩).L = LL from rfl, HE2.out, fitIn_no (HID.out.trans HPI.out.symm) HF1.out])])).symm, (by repeat (first | (with_reducible exact hB2) | (with_reducible exact Below.refl _ _) | ((with_reducible refine below_setr ?_ ?_); focus (first | (simp; done) | (simp; omega) | omega)) | ((with_reducible refine below_allocr ?_ ?_); focus (first | (simp; done) | (simp; omega) | omega)) | (with_reducible refine Below.drew ?_) | (with_reducible refine below_drewN ?_ _)))⟩
            · have e1 : (y.p != id) = true := by simp [hid]
              have HID := Lib.hid hid
              clear hid
              go_wp2_with fail
              go_roundw
              case rel => exact ⟨j + 1, c', by omega, rfl, by go_num, B_a.out.alloc _, (by repeat (first | (with_reducible exact hbel2) | (with_reducible exact Below.refl _ _) | ((with_reducible refine below_setr ?_ ?_); focus (first | (simp; done) | (simp; omega) | omega)) | ((with_reducible refine below_allocr ?_ ?_); focus (first | (simp; done) | (simp; omega) | omega)) | (with_reducible refine Below.drew ?_) | (with_reducible refine below_drewN ?_ _))), by omega, by omega, by rw [HE2.out, fitIn_far (by rw [HPI.out]; exact HID.out)]⟩
              case measure => simp [intOf]; omega
          · have hkl : LL.drop j = [] := List.drop_eq_nil_of_le (by omega)
            rw [hkl] at heq2
            have HE2 := Lib.hid heq2
            clear hkl heq2
            go_wp2_with fail
            go_roundw
            case rel => exact ⟨k + 1, c', by omega, rfl, by go_num, B_a.out, hbel2, by omega, by omega, by rw [HE.out, fitGo_go HQ.out (c' := c') (by rw [show (Stock.d ⟨T, U, ⟨LA, LC, LL⟩⟩).L = LL from rfl, HE2.out]; rfl)]; simp⟩
            case measure => simp [intOf]; omega
    · have hkl : NS.drop k = [] := List.drop_eq_nil_of_le (by omega)
      rw [hkl] at heq
      have HE := Lib.hid heq
      clear hkl heq
      go_wp2_with fail
      go_ret
      exact ⟨ret_bool (by rw [fit_some (c := c) (by rw [HPD.out, HE.out]; rfl)]; simp only [Phone.d]; rw [Bool.eq_iff_iff, beq_iff_eq]; exact ⟨fun h => decide_eq_true h, fun h => of_decide_eq_true h⟩), hbel⟩
end Go.Proofs.Ythnblhbdfpmolaa
