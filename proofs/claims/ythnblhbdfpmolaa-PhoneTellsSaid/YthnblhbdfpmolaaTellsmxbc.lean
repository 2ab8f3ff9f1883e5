/- Walk of the reference of layer 43: Fit. -/
import Derived.Test.YthnblhbdfpmolaaTellsmxas
import Derived.Test.YthnblhbdfpmolaaTellsmxbb
import Derived.Test.YthnblhbdfpmolaaTellsmxaz
namespace Go.Proofs.Ythnblhbdfpmolaa
open Go.RowKit
theorem fitR_no {p : PhoneD} {l : List StockD} {i : Nat} {x : Hold} (hx : p.H[i]? = some x) (h : (l.length : Int) ≤ x.st) : fitR p l = false := by
  unfold fitR
  rw [Bool.and_eq_false_iff]
  left
  exact all_false (List.mem_of_getElem? hx) (by simp; omega)
theorem fitR_yes {p : PhoneD} {l : List StockD} (h : ∀ (i : Nat) x, p.H[i]? = some x → x.st < (l.length : Int)) : fitR p l = fitAll p 0 l := by
  unfold fitR
  rw [Bool.and_eq_right_iff_imp]
  intro _
  rw [List.all_eq_true]
  intro x hx
  obtain ⟨i, hi⟩ := List.getElem?_of_mem hx
  simpa using h i x hi
theorem fitT_right {p : PhoneD} {k : Int} {s : StockD} (h : s.right = false) : fitT p k s = false := by simp [fitT, h]
theorem fitT_ne {p : PhoneD} {k : Int} {s : StockD} (h : (hhas p.H k == has s.L p.id) = false) : fitT p k s = false := by simp [fitT, h]
theorem fitT_none {p : PhoneD} {k : Int} {s : StockD} (hr : s.right = true) (h : hhas p.H k = false) (h2 : has s.L p.id = false) : fitT p k s = true := by simp [fitT, hr, h, h2]
theorem fitT_both {p : PhoneD} {k : Int} {s : StockD} (hr : s.right = true) (h : hhas p.H k = true) (h2 : has s.L p.id = true) {x : Hold} {y : Loan} (hx : p.H[hidx p.H k]? = some x) (hy : s.L[idx s.L p.id]? = some y) : fitT p k s = (decide (y.u = x.u) && decide (y.s = 0)) := by simp [fitT, hr, h, h2, hx, hy]
theorem findK_loan {l : List Loan} (hs : l.Pairwise (fun a b => a.p < b.p)) {p : Int} (h : has l p = true) : findK Loan.p p 0 l = (idx l p : Int) := by
  have h' := findK_at (k := 0) (key := Loan.p) hs h
  rw [h']; simp [idx]
theorem findK_hold {l : List Hold} (hs : l.Pairwise (fun a b => a.st < b.st)) {p : Int} (h : hhas l p = true) : findK Hold.st p 0 l = (hidx l p : Int) := by
  have h' := findK_at (k := 0) (key := Hold.st) hs h
  rw [h']; simp [hidx]
set_option maxHeartbeats 2000000 in
theorem rfit_any (p : Phone) (s : Sl Stock) (w : World) (hr : RdPhone (· < w.heap.size) w p) (hs : RdStocks (· < w.heap.size) w s) (h0 : holdsR p.H.l = true) :
    Calls Try.prog 65 #[p.v, .slice s.A s.l.length s.c] w fun e w' => e = .returned (.bool (fitR p.d (s.l.map Stock.d))) ∧ Below w.heap.size w w' := by
  obtain ⟨id, cut, ⟨HA, Hc, HL⟩, N, S⟩ := p
  obtain ⟨sA, sc, NS⟩ := s
  obtain ⟨hl, hso, hbd⟩ := holdsR_iff h0
  simp only at hl hso
  have hsn := hs.1.len
  simp only at hsn
  have HSO := Lib.hid hso
  have HBD := Lib.hid hbd
  have HR := Lib.hid hr
  have HS := Lib.hid hs
  clear hr h0 hso hs hbd
  obtain ⟨pd, hpd⟩ : ∃ q, q = Phone.d ⟨id, cut, ⟨HA, Hc, HL⟩, N, S⟩ := ⟨_, rfl⟩
  rw [← hpd]
  have HPI : Hid (pd.id = id) := Lib.hid (by rw [hpd]; rfl)
  have HPH : Hid (pd.H = HL) := Lib.hid (by rw [hpd]; rfl)
  clear hpd
  simp only [Phone.v]
  obtain ⟨V, hV⟩ : ∃ v, v = fitR pd (NS.map Stock.d) := ⟨_, rfl⟩
  rw [← hV]
  have HV0 := Lib.hid hV
  clear hV
  go_enter Try.func65, Try.ntmps65
  go_wp2_with fail
  go_loopw [5] (fun i wr => ∃ (k : Nat), k ≤ HL.length ∧ i = .int .i64 k ∧ Blk wr w.heap.size 26 #[.int .i64 id, .bool cut, .slice HA HL.length Hc, .slice N.A N.l.length N.c, .slice S.A S.l.length S.c] ∧ Below w.heap.size w wr ∧ (∀ (j : Nat) x, j < k → HL[j]? = some x → x.st < (NS.length : Int))) (fun i _ => HL.length - (intOf i).toNat)
  case atStart => exact ⟨0, by omega, rfl, Blk.new _ _ _, qbl, fun j x hj => absurd hj (Nat.not_lt_zero _)⟩
  case round =>
    obtain ⟨k, hk, rfl, hblk, hbel, hall⟩ := hrel
    obtain ⟨a0, a1, a2, a3, a4, af, az⟩ := hblk.b5
    have B_a := Lib.hid hblk
    have HALL := Lib.hid hall
    clear hblk hall
    have hhe : w.heap.size ≤ wr.heap.size := hbel.size
    by_cases hlt : k < HL.length
    · obtain ⟨b, o, rfl, hb, hcl⟩ := HR.out.1.at1 hlt
      obtain ⟨g0, g1, g2⟩ := Cells.c3 (hcl.keep (hbel.block b hb))
      have hxk : HL[k]? = some HL[k] := List.getElem?_eq_getElem hlt
      simp only at g0 g1 g2
      generalize HL[k] = x at *
      obtain ⟨xst, xu, xs⟩ := x
      have HXK := Lib.hid hxk
      clear hcl hxk
      rcases Int.lt_or_le xst (NS.length : Int) with hst | hst
      · go_wp2_with fail
        go_roundw
        case rel =>
          refine ⟨k + 1, by omega, by go_num, B_a.out, hbel, fun j x hj hx => ?_⟩
          rcases Nat.lt_or_ge j k with h1 | h1
          · exact HALL.out j x h1 hx
          · obtain rfl : j = k := by omega
            rw [HXK.out] at hx
            injection hx with hx
            subst hx
            exact hst
        case measure => simp [intOf]; omega
      · have hv : fitR pd (NS.map Stock.d) = false := fitR_no (i := k) (x := ⟨xst, xu, xs⟩) (by rw [HPH.out]; exact HXK.out) (by simpa using hst)
        have HV := Lib.hid hv
        clear hv
        go_wp2_with fail
        go_ret
        exact ⟨ret_bool (HV.out.symm.trans HV0.out.symm), hbel⟩
    · have hv : fitR pd (NS.map Stock.d) = fitAll pd 0 (NS.map Stock.d) := fitR_yes (fun i x hx => by
        rw [HPH.out] at hx
        have := (List.getElem?_eq_some_iff.1 hx).1
        rw [List.length_map]
        exact HALL.out i x (by omega) hx)
      have HV := Lib.hid (HV0.out.trans hv)
      clear hv HALL
      go_wp2_with fail
      obtain ⟨wo, hwo⟩ : ∃ wo : World, wo = wr := ⟨_, rfl⟩
      subst hwo
      clear hlt hk
      have HBEL := Lib.hid hbel
      have HBA := Lib.hid B_a.out
      go_loopw [6] (fun i wr => ∃ (k : Nat), k ≤ NS.length ∧ i = .int .i64 k ∧ Blk wr w.heap.size 26 #[.int .i64 id, .bool cut, .slice HA HL.length Hc, .slice N.A N.l.length N.c, .slice S.A S.l.length S.c] ∧ Below w.heap.size w wr ∧ V = fitAll pd k ((NS.drop k).map Stock.d)) (fun i _ => NS.length - (intOf i).toNat)
      case atStart => exact ⟨0, by omega, rfl, HBA.out, HBEL.out, by rw [HV.out]; simp⟩
      case round =>
        obtain ⟨k, hk, rfl, hblk, hbel2, heq⟩ := hrel
        clear a0 a1 a2 a3 a4 af B_a hbel hhe HBA HBEL HV HV0
        obtain ⟨a0, a1, a2, a3, a4, af, az2⟩ := hblk.b5
        have B_a := Lib.hid hblk
        clear hblk
        have hhe : w.heap.size ≤ wr.heap.size := hbel2.size
        by_cases hlt : k < NS.length
        · obtain ⟨b, o, rfl, hb', hcl⟩ := HS.out.1.at1 hlt
          obtain ⟨g0, g1, g2⟩ := Cells.c3 (hcl.keep (hbel2.block b hb'))
          have hmem : NS[k] ∈ NS := List.getElem_mem hlt
          have HRY := Lib.hid (HS.out.2 _ hmem)
          have hd : NS.drop k = NS[k] :: NS.drop (k + 1) := List.drop_eq_getElem_cons hlt
          rw [hd, List.map_cons, fitAll] at heq
          have HE := Lib.hid heq
          clear hd heq hmem
          have HCL := Lib.hid hcl
          clear hcl
          simp only at g0 g1 g2 HCL
          generalize NS[k] = y at *
          obtain ⟨T, U, ⟨LA, LC, LL⟩⟩ := y
          go_wp2_with fail
          refine (rright40 ⟨T, U, ⟨LA, LC, LL⟩⟩ _ (HRY.out.below' hbel2 (Nat.le_refl _))).mono ?_
          rintro e w1 ⟨rfl, hb1⟩
          have G0 := keep_cell hb1 g0
          have G1 := keep_cell hb1 g1
          have G2 := keep_cell hb1 g2
          clear a0 a1 a2 a3 a4 af g0 g1 g2
          have K_a : Blk _ (w.heap.size) 26 #[.int .i64 id, .bool cut, .slice HA HL.length Hc, .slice N.A N.l.length N.c, .slice S.A S.l.length S.c] := qkc B_a hb1
          obtain ⟨a0, a1, a2, a3, a4, af, az⟩ := Blk.b5 K_a
          have B_a := Lib.hid K_a
          clear K_a
          have hB1 : Below w.heap.size w w1 := qbv
          clear hb1
          rcases hsr : StockD.right (Stock.d ⟨T, U, ⟨LA, LC, LL⟩⟩)
          · have HF := Lib.hid (fitT_right (p := pd) (k := (k : Int)) hsr)
            clear hsr
            go_wp2_with fail
            go_ret
            exact ⟨ret_bool (by rw [HE.out, HF.out]; rfl), hB1⟩
          · have HSR := Lib.hid hsr
            clear hsr
            go_wp2_with fail
            refine (rat43 ⟨id, cut, ⟨HA, Hc, HL⟩, N, S⟩ k _ (HR.out.later hB1 (Nat.le_refl _)).1).mono ?_
            rintro e w2 ⟨rfl, hb2⟩
            have g0 := keep_cell hb2 G0
            have g1 := keep_cell hb2 G1
            have g2 := keep_cell hb2 G2
            clear a0 a1 a2 a3 a4 af G0 G1 G2
            have K_a : Blk _ (w.heap.size) 26 #[.int .i64 id, .bool cut, .slice HA HL.length Hc, .slice N.A N.l.length N.c, .slice S.A S.l.length S.c] := qkc B_a hb2
            obtain ⟨a0, a1, a2, a3, a4, af, az⟩ := Blk.b5 K_a
            have B_a := Lib.hid K_a
            clear K_a
            have hB2 : Below w.heap.size w w2 := qbv
            clear hb2
            try simp only
            have hst := StockD.sorted HSR.out
            simp only [Stock.d] at hst
            rcases hh : hhas HL k
            · have HFK : Hid (findK Hold.st k 0 HL = -1) := Lib.hid (findK_none hh)
              rw [HFK.out]
              rcases hl2 : has LL id
              · have HFL : Hid (findK Loan.p id 0 LL = -1) := Lib.hid (findK_none hl2)
                have HF : Hid (fitT pd k (Stock.d ⟨T, U, ⟨LA, LC, LL⟩⟩) = true) := Lib.hid (fitT_none HSR.out (by rw [HPH.out]; exact hh) (by rw [HPI.out]; exact hl2))
                clear hh hl2 hst
                go_wp2_with fail
                refine wp_region_T (fun w' => (w'.cell? ⟨b, o + k * 3, none⟩ = some (.int .i64 T) ∧ w'.cell? ⟨b, o + k * 3 + 1, none⟩ = some (.int .i64 U) ∧ w'.cell? ⟨b, o + k * 3 + 2, none⟩ = some (.slice LA LL.length LC)) ∧ w'.cell? ⟨w.heap.size, 0, none⟩ = some (.int .i64 id)) (fun _ => false) (by kernel_rfl) ⟨⟨g0, g1, g2⟩, a0⟩ (fun hHeld => ?_)
                refine qtq 0 ?_
                simp only [qsa, qsb, qsc]
                refine qtq 1 ?_
                simp only [qsa, qsb, qsc]
                refine qtq 2 ?_
                simp only [qsa, qsb, qsc]
                refine qtq 3 ?_
                simp only [qsa, qsb, qsc]
                refine qtq 4 ?_
                simp only [qsa, qsb, qsc]
                refine qtq 5 ?_
                simp only [qsa, qsb, qsc]
                clear hHeld
                refine wpAnyT_next (i := 6) (by kernel_rfl) rfl ?_
                go_wp2_with fail
                refine (rloan ⟨T, U, ⟨LA, LC, LL⟩⟩ id _ (HRY.out.below' qbv (Nat.le_refl _))).mono ?_
                rintro e w3 ⟨rfl, hb3⟩
                have G0 := keep_cell hb3 (show (World.drew _).cell? ⟨b, o + k * 3, none⟩ = _ from g0)
                have G1 := keep_cell hb3 (show (World.drew _).cell? ⟨b, o + k * 3 + 1, none⟩ = _ from g1)
                have G2 := keep_cell hb3 (show (World.drew _).cell? ⟨b, o + k * 3 + 2, none⟩ = _ from g2)
                clear a0 a1 a2 a3 a4 af g0 g1 g2
                have K_a : Blk _ (w.heap.size) 26 #[.int .i64 id, .bool cut, .slice HA HL.length Hc, .slice N.A N.l.length N.c, .slice S.A S.l.length S.c] := qkc B_a hb3
                obtain ⟨a0, a1, a2, a3, a4, af, az⟩ := Blk.b5 K_a
                have B_a := Lib.hid K_a
                clear K_a
                have hB3 : Below w.heap.size w w3 := qbv
                clear hb3
                try simp only
                rw [HFL.out]
                go_wp2_with fail
                have hHeld := And.intro (And.intro G0 (And.intro G1 G2)) a0
                refine ⟨(by first | exact hHeld | exact fun _ => hHeld), ?_⟩
                refine qtq 7 ?_
                simp only [qsa, qsb, qsc]
                refine wpAnyT_done (by kernel_rfl) ?_ _
                clear hHeld
                go_wp2_with fail
                go_wp2_with fail
                go_roundw
                case rel => exact ⟨k + 1, by omega, by go_num, B_a.out, hB3, by rw [HE.out, HF.out, Bool.true_and]; simp⟩
                case measure => simp [intOf]; omega
              · have HFL : Hid (findK Loan.p id 0 LL = (idx LL id : Int)) := Lib.hid (findK_loan hst hl2)
                have HF : Hid (fitT pd k (Stock.d ⟨T, U, ⟨LA, LC, LL⟩⟩) = false) := Lib.hid (fitT_ne (by rw [HPH.out, HPI.out, hh]; simp only [Stock.d]; rw [hl2]; rfl))
                clear hh hl2 hst
                generalize idx LL id = q at *
                go_wp2_with fail
                refine wp_region_T (fun w' => (w'.cell? ⟨b, o + k * 3, none⟩ = some (.int .i64 T) ∧ w'.cell? ⟨b, o + k * 3 + 1, none⟩ = some (.int .i64 U) ∧ w'.cell? ⟨b, o + k * 3 + 2, none⟩ = some (.slice LA LL.length LC)) ∧ w'.cell? ⟨w.heap.size, 0, none⟩ = some (.int .i64 id)) (fun _ => false) (by kernel_rfl) ⟨⟨g0, g1, g2⟩, a0⟩ (fun hHeld => ?_)
                refine qtq 0 ?_
                simp only [qsa, qsb, qsc]
                refine qtq 1 ?_
                simp only [qsa, qsb, qsc]
                refine qtq 2 ?_
                simp only [qsa, qsb, qsc]
                refine qtq 3 ?_
                simp only [qsa, qsb, qsc]
                refine qtq 4 ?_
                simp only [qsa, qsb, qsc]
                refine qtq 5 ?_
                simp only [qsa, qsb, qsc]
                clear hHeld
                refine wpAnyT_next (i := 6) (by kernel_rfl) rfl ?_
                go_wp2_with fail
                refine (rloan ⟨T, U, ⟨LA, LC, LL⟩⟩ id _ (HRY.out.below' qbv (Nat.le_refl _))).mono ?_
                rintro e w3 ⟨rfl, hb3⟩
                have G0 := keep_cell hb3 (show (World.drew _).cell? ⟨b, o + k * 3, none⟩ = _ from g0)
                have G1 := keep_cell hb3 (show (World.drew _).cell? ⟨b, o + k * 3 + 1, none⟩ = _ from g1)
                have G2 := keep_cell hb3 (show (World.drew _).cell? ⟨b, o + k * 3 + 2, none⟩ = _ from g2)
                clear a0 a1 a2 a3 a4 af g0 g1 g2
                have K_a : Blk _ (w.heap.size) 26 #[.int .i64 id, .bool cut, .slice HA HL.length Hc, .slice N.A N.l.length N.c, .slice S.A S.l.length S.c] := qkc B_a hb3
                obtain ⟨a0, a1, a2, a3, a4, af, az⟩ := Blk.b5 K_a
                have B_a := Lib.hid K_a
                clear K_a
                have hB3 : Below w.heap.size w w3 := qbv
                clear hb3
                try simp only
                rw [HFL.out]
                go_wp2_with fail
                have hHeld := And.intro (And.intro G0 (And.intro G1 G2)) a0
                refine ⟨(by first | exact hHeld | exact fun _ => hHeld), ?_⟩
                refine qtq 7 ?_
                simp only [qsa, qsb, qsc]
                refine wpAnyT_done (by kernel_rfl) ?_ _
                clear hHeld
                go_wp2_with fail
                go_wp2_with fail
                go_ret
                exact ⟨ret_bool (by rw [HE.out, HF.out]; rfl), hB3⟩
            · have HFK : Hid (findK Hold.st k 0 HL = (hidx HL k : Int)) := Lib.hid (findK_hold HSO.out hh)
              rw [HFK.out]
              rcases hl2 : has LL id
              · have HFL : Hid (findK Loan.p id 0 LL = -1) := Lib.hid (findK_none hl2)
                have HF : Hid (fitT pd k (Stock.d ⟨T, U, ⟨LA, LC, LL⟩⟩) = false) := Lib.hid (fitT_ne (by rw [HPH.out, HPI.out, hh]; simp only [Stock.d]; rw [hl2]; rfl))
                clear hh hl2 hst
                generalize hidx HL k = i at *
                go_wp2_with fail
                refine wp_region_T (fun w' => (w'.cell? ⟨b, o + k * 3, none⟩ = some (.int .i64 T) ∧ w'.cell? ⟨b, o + k * 3 + 1, none⟩ = some (.int .i64 U) ∧ w'.cell? ⟨b, o + k * 3 + 2, none⟩ = some (.slice LA LL.length LC)) ∧ w'.cell? ⟨w.heap.size, 0, none⟩ = some (.int .i64 id)) (fun _ => false) (by kernel_rfl) ⟨⟨g0, g1, g2⟩, a0⟩ (fun hHeld => ?_)
                refine qtq 0 ?_
                simp only [qsa, qsb, qsc]
                refine qtq 1 ?_
                simp only [qsa, qsb, qsc]
                refine qtq 2 ?_
                simp only [qsa, qsb, qsc]
                refine qtq 3 ?_
                simp only [qsa, qsb, qsc]
                refine qtq 4 ?_
                simp only [qsa, qsb, qsc]
                refine qtq 5 ?_
                simp only [qsa, qsb, qsc]
                clear hHeld
                refine wpAnyT_next (i := 6) (by kernel_rfl) rfl ?_
                go_wp2_with fail
                refine (rloan ⟨T, U, ⟨LA, LC, LL⟩⟩ id _ (HRY.out.below' qbv (Nat.le_refl _))).mono ?_
                rintro e w3 ⟨rfl, hb3⟩
                have G0 := keep_cell hb3 (show (World.drew _).cell? ⟨b, o + k * 3, none⟩ = _ from g0)
                have G1 := keep_cell hb3 (show (World.drew _).cell? ⟨b, o + k * 3 + 1, none⟩ = _ from g1)
                have G2 := keep_cell hb3 (show (World.drew _).cell? ⟨b, o + k * 3 + 2, none⟩ = _ from g2)
                clear a0 a1 a2 a3 a4 af g0 g1 g2
                have K_a : Blk _ (w.heap.size) 26 #[.int .i64 id, .bool cut, .slice HA HL.length Hc, .slice N.A N.l.length N.c, .slice S.A S.l.length S.c] := qkc B_a hb3
                obtain ⟨a0, a1, a2, a3, a4, af, az⟩ := Blk.b5 K_a
                have B_a := Lib.hid K_a
                clear K_a
                have hB3 : Below w.heap.size w w3 := qbv
                clear hb3
                try simp only
                rw [HFL.out]
                go_wp2_with fail
                have hHeld := And.intro (And.intro G0 (And.intro G1 G2)) a0
                refine ⟨(by first | exact hHeld | exact fun _ => hHeld), ?_⟩
                refine qtq 7 ?_
                simp only [qsa, qsb, qsc]
                refine wpAnyT_done (by kernel_rfl) ?_ _
                clear hHeld
                go_wp2_with fail
                go_wp2_with fail
                go_ret
                exact ⟨ret_bool (by rw [HE.out, HF.out]; rfl), hB3⟩
              · have HFL : Hid (findK Loan.p id 0 LL = (idx LL id : Int)) := Lib.hid (findK_loan hst hl2)
                obtain ⟨x, hx, _⟩ := hidx_at HSO.out hh
                obtain ⟨y, hy, _⟩ := idx_at hst hl2
                have HF : Hid (fitT pd k (Stock.d ⟨T, U, ⟨LA, LC, LL⟩⟩) = (decide (y.u = x.u) && decide (y.s = 0))) := Lib.hid (fitT_both HSR.out (by rw [HPH.out]; exact hh) (by rw [HPI.out]; exact hl2) (by rw [HPH.out]; exact hx) (by rw [HPI.out]; exact hy))
                clear hh hl2 hst
                generalize hidx HL k = i at *
                generalize idx LL id = q at *
                go_wp2_with fail
                refine wp_region_T (fun w' => (w'.cell? ⟨b, o + k * 3, none⟩ = some (.int .i64 T) ∧ w'.cell? ⟨b, o + k * 3 + 1, none⟩ = some (.int .i64 U) ∧ w'.cell? ⟨b, o + k * 3 + 2, none⟩ = some (.slice LA LL.length LC)) ∧ w'.cell? ⟨w.heap.size, 0, none⟩ = some (.int .i64 id)) (fun _ => false) (by kernel_rfl) ⟨⟨g0, g1, g2⟩, a0⟩ (fun hHeld => ?_)
                refine qtq 0 ?_
                simp only [qsa, qsb, qsc]
                refine qtq 1 ?_
                simp only [qsa, qsb, qsc]
                refine qtq 2 ?_
                simp only [qsa, qsb, qsc]
                refine qtq 3 ?_
                simp only [qsa, qsb, qsc]
                refine qtq 4 ?_
                simp only [qsa, qsb, qsc]
                refine qtq 5 ?_
                simp only [qsa, qsb, qsc]
                clear hHeld
                refine wpAnyT_next (i := 6) (by kernel_rfl) rfl ?_
                go_wp2_with fail
                refine (rloan ⟨T, U, ⟨LA, LC, LL⟩⟩ id _ (HRY.out.below' qbv (Nat.le_refl _))).mono ?_
                rintro e w3 ⟨rfl, hb3⟩
                have G0 := keep_cell hb3 (show (World.drew _).cell? ⟨b, o + k * 3, none⟩ = _ from g0)
                have G1 := keep_cell hb3 (show (World.drew _).cell? ⟨b, o + k * 3 + 1, none⟩ = _ from g1)
                have G2 := keep_cell hb3 (show (World.drew _).cell? ⟨b, o + k * 3 + 2, none⟩ = _ from g2)
                clear a0 a1 a2 a3 a4 af g0 g1 g2
                have K_a : Blk _ (w.heap.size) 26 #[.int .i64 id, .bool cut, .slice HA HL.length Hc, .slice N.A N.l.length N.c, .slice S.A S.l.length S.c] := qkc B_a hb3
                obtain ⟨a0, a1, a2, a3, a4, af, az⟩ := Blk.b5 K_a
                have B_a := Lib.hid K_a
                clear K_a
                have hB3 : Below w.heap.size w w3 := qbv
                clear hb3
                try simp only
                rw [HFL.out]
                go_wp2_with fail
                have hHeld := And.intro (And.intro G0 (And.intro G1 G2)) a0
                refine ⟨(by first | exact hHeld | exact fun _ => hHeld), ?_⟩
                refine qtq 7 ?_
                simp only [qsa, qsb, qsc]
                refine wpAnyT_done (by kernel_rfl) ?_ _
                clear hHeld
                go_wp2_with fail
                have hxi := (List.getElem?_eq_some_iff.1 hx).1
                have hyi := (List.getElem?_eq_some_iff.1 hy).1
                obtain ⟨bx, ox, rfl, hbx, hcx⟩ := HR.out.1.2.2.2 i x hx
                obtain ⟨by', oy, rfl, hby, hcy⟩ := HRY.out.2.2.2 q y hy
                obtain ⟨_, x1, x2⟩ := Cells.c3 (hcx.keep (hB3.block bx hbx))
                obtain ⟨_, y1, y2⟩ := Cells.c3 (hcy.keep (hB3.block by' hby))
                have hi1 : (i : Int) < (HL.length : Int) := by omega
                have hi0 : (0 : Int) ≤ (i : Int) := by omega
                have hq1 : (q : Int) < (LL.length : Int) := by omega
                have hq0 : (0 : Int) ≤ (q : Int) := by omega
                have hk1 : (k : Int) < (NS.length : Int) := by omega
                have hk0 : (0 : Int) ≤ (k : Int) := by omega
                clear hx hy hcx hcy
                refine wp_region_T (fun w' => (w'.cell? ⟨b, o + k * 3 + 2, none⟩ = some (.slice (some ⟨by', oy, none⟩) LL.length LC) ∧ w'.cell? ⟨w.heap.size, 2, none⟩ = some (.slice (some ⟨bx, ox, none⟩) HL.length Hc)) ∧ (w'.cell? ⟨by', oy + q * 3 + 1, none⟩ = some (.int .i64 y.u) ∧ w'.cell? ⟨by', oy + q * 3 + 2, none⟩ = some (.int .i64 y.s)) ∧ w'.cell? ⟨bx, ox + i * 3 + 1, none⟩ = some (.int .i64 x.u)) (fun _ => false) (by kernel_rfl) ⟨⟨G2, a2⟩, ⟨y1, y2⟩, x1⟩ (fun hHeld => ?_)
                refine qtq 0 ?_
                simp only [qsa, qsb, qsc]
                refine qtq 1 ?_
                simp only [qsa, qsb, qsc]
                refine qtq 2 ?_
                simp only [qsa, qsb, qsc]
                refine qtq 3 ?_
                simp only [qsa, qsb, qsc]
                refine qtq 4 ?_
                simp only [qsa, qsb, qsc]
                refine qtq 5 ?_
                simp only [qsa, qsb, qsc]
                refine qtq 6 ?_
                simp only [qsa, qsb, qsc]
                refine qtq 7 ?_
                simp only [qsa, qsb, qsc]
                refine qtq 8 ?_
                simp only [qsa, qsb, qsc]
                refine qtq 9 ?_
                simp only [qsa, qsb, qsc]
                refine qtq 10 ?_
                simp only [qsa, qsb, qsc]
                refine qtq 11 ?_
                simp only [qsa, qsb, qsc]
                refine qtq 12 ?_
                simp only [qsa, qsb, qsc]
                refine qtq 13 ?_
                simp only [qsa, qsb, qsc]
                refine qtq 14 ?_
                simp only [qsa, qsb, qsc]
                by_cases hyx : y.u = x.u
                · have hne : (y.u != x.u) = false := by simp [hyx]
                  have HYX := Lib.hid hyx
                  clear hyx
                  refine wpAnyT_take2 (i := 15) (v := .bool false) rfl rfl (by kernel_rfl) (by kernel_rfl) (by kernel_rfl) (by kernel_rfl) (fun _ _ _ h => h) (Or.inl ⟨by rfl, ?_⟩) (by first | assumption | trivial) ?_
                  · (intro w hSw; (try dsimp only at hSw); go_simp) <;> (first | (with_reducible rfl) | assumption | (simp; done) | (simp [*]; done) | (simp; omega))
                  simp only [qsa, qsb, qsc]
                  refine qtq 16 ?_
                  simp only [qsa, qsb, qsc]
                  refine qtq 17 ?_
                  simp only [qsa, qsb, qsc]
                  refine qtq 18 ?_
                  simp only [qsa, qsb, qsc]
                  refine qtq 19 ?_
                  simp only [qsa, qsb, qsc]
                  refine qtq 20 ?_
                  simp only [qsa, qsb, qsc]
                  refine qtq 21 ?_
                  simp only [qsa, qsb, qsc]
                  refine qtq 22 ?_
                  simp only [qsa, qsb, qsc]
                  refine qtq 23 ?_
                  simp only [qsa, qsb, qsc]
                  refine qtq 24 ?_
                  simp only [qsa, qsb, qsc]
                  refine qtq 25 ?_
                  simp only [qsa, qsb, qsc]
                  by_cases hys : y.s = 0
                  · have hns : (y.s != 0) = false := by simp [hys]
                    have HYS := Lib.hid hys
                    clear hys
                    refine wpAnyT_take2 (i := 26) (v := .bool false) rfl rfl (by kernel_rfl) (by kernel_rfl) (by kernel_rfl) (by kernel_rfl) (fun _ _ _ h => h) (Or.inl ⟨by rfl, ?_⟩) (by first | assumption | trivial) ?_
                    · (intro w hSw; (try dsimp only at hSw); go_simp) <;> (first | (with_reducible rfl) | assumption | (simp; done) | (simp [*]; done) | (simp; omega))
                    simp only [qsa, qsb, qsc]
                    refine qtq 27 ?_
                    simp only [qsa, qsb, qsc]
                    refine wpAnyT_done (by kernel_rfl) ?_ _
                    clear hHeld
                    have HF2 : Hid (fitT pd k (Stock.d ⟨T, U, ⟨some ⟨by', oy, none⟩, LC, LL⟩⟩) = true) := Lib.hid (by rw [HF.out, decide_eq_true HYX.out, decide_eq_true HYS.out]; rfl)
                    go_wp2_with fail
                    go_roundw
                    case rel => exact ⟨k + 1, by omega, by go_num, B_a.out, qbv, by rw [HE.out, HF2.out, Bool.true_and]; simp⟩
                    case measure => simp [intOf]; omega
                  · have hns : (y.s != 0) = true := by simp [hys]
                    have HYS := Lib.hid hys
                    clear hys
                    refine wpAnyT_take2 (i := 26) (v := .bool true) rfl rfl (by kernel_rfl) (by kernel_rfl) (by kernel_rfl) (by kernel_rfl) (fun _ _ _ h => h) (Or.inl ⟨by rfl, ?_⟩) (by first | assumption | trivial) ?_
                    · (intro w hSw; (try dsimp only at hSw); go_simp) <;> (first | (with_reducible rfl) | assumption | (simp; done) | (simp [*]; done) | (simp; omega))
                    simp only [qsa, qsb, qsc]
                    refine qtq 27 ?_
                    simp only [qsa, qsb, qsc]
                    refine wpAnyT_done (by kernel_rfl) ?_ _
                    clear hHeld
                    have HF2 : Hid (fitT pd k (Stock.d ⟨T, U, ⟨some ⟨by', oy, none⟩, LC, LL⟩⟩) = false) := Lib.hid (by rw [HF.out, decide_eq_false HYS.out]; simp)
                    go_wp2_with fail
                    go_ret
                    exact ⟨ret_bool (by rw [HE.out, HF2.out]; rfl), qbv⟩
                · have hne : (y.u != x.u) = true := by simp [hyx]
                  have HYX := Lib.hid hyx
                  clear hyx
                  refine wpAnyT_take2 (i := 15) (v := .bool true) rfl rfl (by kernel_rfl) (by kernel_rfl) (by kernel_rfl) (by kernel_rfl) (fun _ _ _ h => h) (Or.inl ⟨by rfl, ?_⟩) (by first | assumption | trivial) ?_
                  · (intro w hSw; (try dsimp only at hSw); go_simp) <;> (first | (with_reducible rfl) | assumption | (simp; done) | (simp [*]; done) | (simp; omega))
                  simp only [qsa, qsb, qsc]
                  refine qtq 16 ?_
                  simp only [qsa, qsb, qsc]
                  refine qtn 17 ?_
                  simp only [qsa, qsb, qsc]
                  refine qtn 18 ?_
                  simp only [qsa, qsb, qsc]
                  refine qtn 19 ?_
                  simp only [qsa, qsb, qsc]
                  refine qtn 20 ?_
                  simp only [qsa, qsb, qsc]
                  refine qtn 21 ?_
                  simp only [qsa, qsb, qsc]
                  refine qtn 22 ?_
                  simp only [qsa, qsb, qsc]
                  refine qtn 23 ?_
                  simp only [qsa, qsb, qsc]
                  refine qtn 24 ?_
                  simp only [qsa, qsb, qsc]
                  refine qtn 25 ?_
                  simp only [qsa, qsb, qsc]
                  refine qtn 26 ?_
                  simp only [qsa, qsb, qsc]
                  refine qtq 27 ?_
                  simp only [qsa, qsb, qsc]
                  refine wpAnyT_done (by kernel_rfl) ?_ _
                  clear hHeld
                  have HF2 : Hid (fitT pd k (Stock.d ⟨T, U, ⟨some ⟨by', oy, none⟩, LC, LL⟩⟩) = false) := Lib.hid (by rw [HF.out, decide_eq_false HYX.out]; rfl)
                  go_wp2_with fail
                  go_ret
                  exact ⟨ret_bool (by rw [HE.out, HF2.out]; rfl), qbv⟩
        · have hkl : NS.drop k = [] := List.drop_eq_nil_of_le (by omega)
          rw [hkl] at heq
          have HE := Lib.hid heq
          clear hkl heq
          go_wp2_with fail
          go_ret
          exact ⟨ret_bool (by rw [HE.out]; rfl), hbel2⟩
theorem rfit43 (p : Phone) (s : Sl Stock) (w : World) (hr : RdPhone (· < w.heap.size) w p) (hs : RdStocks (· < w.heap.size) w s) (h0 : holdsR p.H.l = true) :
    Calls Try.prog 65 #[p.v, .slice s.A s.l.length s.c] w fun e w' => e = .returned (.bool (p.d.fit (s.l.map Stock.d))) ∧ Below w.heap.size w w' := by
  rw [← fit_eq (p := p.d) h0]
  exact rfit_any p s w hr hs h0
end Go.Proofs.Ythnblhbdfpmolaa
