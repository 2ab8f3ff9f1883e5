/- The walk of PhoneOnce, from what a play keeps. -/
import Derived.Test.YthnblhbdfpmolaaPNotemxbl
import Derived.Test.YthnblhbdfpmolaaPNotemxbo
import Derived.Test.YthnblhbdfpmolaaPNotemxbq
namespace Go.Proofs.Ythnblhbdfpmolaa
open Go.RowKit
structure OpE where
  kd : Int
  pn : Int
  sn : Int
  un : Int
  tm : Int
def OpE.enc (x : OpE) : List Value := [.int .i64 x.kd, .int .i64 x.pn, .int .i64 x.sn, .int .i64 x.un, .int .i64 x.tm]
def begunD (ss : List StockD) : PlD := ⟨(List.range 3).map (fun (i : Nat) => pZ i), ss, ss.map StockD.U, List.replicate ss.length 0, List.replicate 3 (List.replicate ss.length 0), []⟩
/-- What holds of a play after c operations, and what follows from it. -/
structure Plays (I : Nat → PlD → Prop) : Prop where
  start : ∀ ss : List StockD, ss.length ≤ 3 → (∀ s, s ∈ ss → s.right = true ∧ s.L = []) → I 0 (begunD ss)
  fine : ∀ {c d}, I c d → FineD d
  lP : ∀ {c d}, I c d → d.P.length = 3
  ok : ∀ {c d}, I c d → c ≤ 40 → ∀ i k p q s, d.P[i]? = some p → d.Q[i]? = some q → d.S[k]? = some s → ActOK d i k p q s ∧ s.L.length * 24 ≤ 140737488355328
  jok : ∀ {c d}, I c d → c ≤ 40 → ∀ i p q, d.P[i]? = some p → d.Q[i]? = some q → JoinOK d i p q
  act : ∀ {c d}, I c d → c < 40 → ∀ kd pn sn un tm, I (c + 1) (d.act kd pn sn un tm)
  cut : ∀ {c d}, I c d → ∀ i p, d.P[i]? = some p → I c { d with P := d.P.set i p.cutS.1 } ∧ p.cutS.1.cut = true ∧ p.cutS.1.H = p.H
  join : ∀ {c d}, I c d → ∀ i p q, d.P[i]? = some p → d.Q[i]? = some q → I c (d.join i p q)
  done : ∀ {c d}, I c d → ∀ i p q, d.P[i]? = some p → d.Q[i]? = some q → p.cut = true → ∃ p', (d.join i p q).P = d.P.set i p' ∧ p'.cut = false ∧ p'.H = []
  free : ∀ {c d}, I c d → (∀ p, p ∈ d.P → p.H = []) → ∀ s, s ∈ d.S → s.L = []
set_option maxRecDepth 100000 in
set_option maxHeartbeats 4000000 in
theorem phoneonce (I : Nat → PlD → Prop) (hI : Plays I) (ss : Sl Stock) (ol : Sl OpE) (w : World) (hs : RdStocks (· < w.heap.size) w ss) (ho : Rd (· < w.heap.size) 5 OpE.enc w ol) :
    Calls Try.prog 10 #[.slice ss.A ss.l.length ss.c, .slice ol.A ol.l.length ol.c] w fun e w' => e = .returned (.bool true) ∧ Below w.heap.size w w' := by
  have HS := Lib.hid hs
  have HO := Lib.hid ho
  have HI := Lib.hid hI
  clear hs ho hI
  go_enter Try.func10, Try.ntmps10
  go_wp2_with fail
  refine (small43 _).mono ?_
  rintro e w1 ⟨rfl, hb1⟩
  go_wp2_with fail
  refine (pplain ss w1 (HS.out.later hb1 (Nat.le_refl _))).mono ?_
  rintro e w2 ⟨⟨f1, rfl, hf1⟩, hb2⟩
  have hB2 : Below w.heap.size w w2 := hb1.trans (hb2.mono hb1.size)
  clear hb1 hb2
  rcases f1 with _ | _
  · clear hf1
    go_wp2_with fail
    go_ret
    exact ⟨rfl, hB2⟩
  obtain ⟨hl3, hpl⟩ := hf1 rfl
  have HPLN := Lib.hid hpl
  clear hf1 hpl
  by_cases h40 : (40 : Int) < ol.l.length
  · go_wp2_with fail
    go_ret
    exact ⟨rfl, hB2⟩
  have h40' : ol.l.length ≤ 40 := by omega
  go_wp2_with fail
  refine (pbegun ss w2 (HS.out.later hB2 (Nat.le_refl _)) hl3).mono ?_
  rintro e w3 ⟨m0, rfl, hp0, hd0, hb3⟩
  have hB3 : Below w.heap.size w w3 := hB2.trans (hb3.mono hB2.size)
  have hi0 : I 0 m0.d := by
    rw [hd0]
    have := HI.out.start (ss.l.map Stock.d) (by simpa using hl3) (fun s hs => by
      obtain ⟨x, hx, rfl⟩ := List.mem_map.1 hs
      exact HPLN.out x hx)
    unfold begunD at this
    simp only [List.map_map, List.length_map] at this
    exact this
  have HP0 := Lib.hid hp0
  have HI0 := Lib.hid hi0
  have HB3 := Lib.hid hB3
  have hBw : w.heap.size ≤ w2.heap.size := hB2.size
  clear hp0 hd0 hi0 hb3 hB2 hB3
  have hg0 : m0.g = m0.g := rfl
  generalize hpg : m0.g = pg at *
  have HPG := Lib.hid hpg
  clear hpg hg0
  go_wp2_with fail
  go_loopw [7, 8] (fun v _ wr => ∃ (k : Nat) (m : PlM), k ≤ ol.l.length ∧ v = .int .i64 k ∧ m.g = pg ∧ PlayAt w2.heap.size wr m ∧ I k m.d ∧ Below w.heap.size w wr) (fun v _ _ => ol.l.length - (intOf v).toNat)
  case atStart => exact ⟨0, m0, by omega, rfl, HPG.out, HP0.out, HI0.out, HB3.out⟩
  case round =>
    obtain ⟨k, m, hk, rfl, hg, hp, hi, hb⟩ := hrel
    clear HP0 HI0 HB3 HPG
    by_cases hkl : k < ol.l.length
    · have hkl' : (k : Int) < (ol.l.length : Int) := by omega
      obtain ⟨ob, oo, hOA, hF, hcl⟩ := HO.out.at1 hkl
      obtain ⟨c0, c1, c2, c3, c4⟩ := Cells.c5 (hcl.keep (hb.block ob hF))
      generalize ol.l[k] = x at *
      obtain ⟨kd, pn, sn, un, tm⟩ := x
      simp only at c0 c1 c2 c3 c4
      have hdo := pdo w2.heap.size m wr hp kd pn sn un tm (fun i k' p q s h1 h2 h3 => ⟨(HI.out.ok hi (by omega) i k' p q s h1 h2 h3).1, HI.out.jok hi (by omega) i p q h1 h2, (HI.out.ok hi (by omega) i k' p q s h1 h2 h3).2⟩) (HI.out.lP hi) (HI.out.fine hi).m
      have hia := HI.out.act hi (by omega) kd pn sn un tm
      rw [hg] at hdo
      have HIA := Lib.hid hia
      have HOA := Lib.hid hOA
      rw [hOA]
      clear hcl hia hp hi hOA
      go_wp2_with fail
      refine hdo.mono ?_
      rintro e w4 ⟨rfl, m', hp', hg', hd', hb'⟩
      have hb4 : Below w.heap.size w w4 := hb.trans (hb'.mono (by omega))
      rw [← hd'] at HIA
      have hfi := pfine w2.heap.size m' w4 hp' (HI.out.fine HIA.out)
      rw [hg'] at hfi
      have HP' := Lib.hid hp'
      clear hdo hb' hd' hp' c0 c1 c2 c3 c4
      go_wp2_with fail
      refine hfi.mono ?_
      rintro e w5 ⟨rfl, hb5⟩
      have hb6 : Below w.heap.size w w5 := hb4.trans (hb5.mono hb4.size)
      have hp5 := HP'.out.below hb5
      have HP5 := Lib.hid hp5
      clear hfi hb5 hp5
      go_wp2_with fail
      go_roundw
      case rel => exact ⟨k + 1, m', by omega, by go_num, hg', HP5.out, HIA.out, hb6⟩
      case measure => simp [intOf]; omega
    · obtain rfl : k = ol.l.length := by omega
      have HPR := Lib.hid hp
      have HIR := Lib.hid hi
      have HBR := Lib.hid hb
      clear hp hi hb
      go_wp2_with fail
      go_loopw [9, 10, 11, 12] (fun v _ _ _ wr => ∃ (j : Nat) (m : PlM), j ≤ 3 ∧ v = .int .i64 j ∧ m.g = pg ∧ PlayAt w2.heap.size wr m ∧ I ol.l.length m.d ∧ (∀ i p, i < j → m.d.P[i]? = some p → p.H = []) ∧ Below w.heap.size w wr) (fun v _ _ _ _ => 3 - (intOf v).toNat)
      case atStart => exact ⟨0, m, by omega, rfl, hg, HPR.out, HIR.out, fun i p h => absurd h (Nat.not_lt_zero _), HBR.out⟩
      case round =>
        obtain ⟨j, m4, hj, rfl, hg4, hp, hi, hdone, hb⟩ := hrel
        clear HPR HIR HBR hg
        by_cases hj3 : j < 3
        · have hj3' : (j : Int) < 3 := by omega
          have hpl : m4.P.l.length = 3 := by have := HI.out.lP hi; simpa [PlM.d] using this
          have hjp : j < m4.P.l.length := by omega
          obtain ⟨pb, hPA, _, _, hcP, hfP⟩ := hp.P.atk Phone.k (List.getElem?_eq_getElem hjp)
          obtain ⟨c0, c1, c2, c3, c4⟩ := hcP.c5
          obtain ⟨b0, b1, b2, b3, b4, b5, bf, bz⟩ := hp.box.b6
          rw [hPA, hpl, hg4] at b0
          have hrp := hp.rP m4.P.l[j] (List.getElem_mem hjp)
          have hpd : m4.d.P[j]? = some m4.P.l[j].d := by simp only [PlM.d, List.getElem?_map, List.getElem?_eq_getElem hjp, Option.map_some]
          have hPS : m4.P.l[j]? = some m4.P.l[j] := List.getElem?_eq_getElem hjp
          generalize m4.P.l[j] = ph at *
          have hcut := phone_cut_s ph wr (hrp.mono fun b hb => (hp.G b hb).1)
          have HRP := Lib.hid hrp
          have HPX := Lib.hid hp
          have HIX := Lib.hid hi
          have HDX := Lib.hid hdone
          have HBX := Lib.hid hb
          have HPD := Lib.hid hpd
          have HPS := Lib.hid hPS
          have HPA := Lib.hid hPA
          clear hcP hfP hrp hp hi hdone hb hpd hPS hPA b1 b2 b3 b4 b5 bf
          go_wp2_with fail
          refine hcut.mono ?_
          clear hcut
          rintro e w4 ⟨p', rfl, hdj, hjr, hb4⟩
          have hpr1 := PR0.of (m := m4) (fun b hG => (HPX.out.G b hG).1) hb4 HRP.out hjr.out
          have hp1 := HPX.out.more hb4 (fun _ => True)
          have hr1 : RdPhone (fun b => m4.G b ∨ (wr.heap.size ≤ b ∧ b < w4.heap.size ∧ True)) w4 p' := hpr1.mono fun b hb => by
            rcases hb with hb | hb
            · exact .inl hb
            · exact .inr ⟨hb.1, hb.2, trivial⟩
          have hbw4 : Below w.heap.size w w4 := HBX.out.trans (hb4.mono HBX.out.size)
          have HP1 := Lib.hid hp1
          have HR1 := Lib.hid hr1
          have HBW4 := Lib.hid hbw4
          have HDJ := Lib.hid hdj
          clear hpr1 hp1 hr1 hbw4 hb4 hjr hdj c0 c1 c2 c3 c4 b0
          simp only [Phone.v]
          go_wp2_with fail
          obtain ⟨wa, hwa⟩ : ∃ x, x = World.drew (w4.alloc (.cells #[.int .i64 p'.id, .bool p'.cut, .slice p'.H.A p'.H.l.length p'.H.c, .slice p'.N.A p'.N.l.length p'.N.c, .slice p'.S.A p'.S.l.length p'.S.c] 33)) := ⟨_, rfl⟩
          obtain ⟨G1, hG1⟩ : ∃ G1 : Nat → Prop, G1 = fun b => m4.G b ∨ (wr.heap.size ≤ b ∧ b < w4.heap.size ∧ True) := ⟨_, rfl⟩
          have hpa : PlayAt w2.heap.size wa { m4 with G := G1 } := by rw [hwa, hG1]; exact (HP1.out.alloc _).drew
          have hra : RdPhone G1 wa p' := by
            rw [hwa, hG1]
            exact HR1.out.keep fun b hb => Below.heap_alloc _ _ b (HP1.out.G b hb).1
          have hbx : Blk wa w4.heap.size 33 #[.int .i64 p'.id, .bool p'.cut, .slice p'.H.A p'.H.l.length p'.H.c, .slice p'.N.A p'.N.l.length p'.N.c, .slice p'.S.A p'.S.l.length p'.S.c] := by rw [hwa]; exact (Blk.new _ _ _).drew
          have hba : Below w.heap.size w wa := by rw [hwa]; exact Below.drew (HBW4.out.alloc HBW4.out.size _)
          have e0 := hpa.box.cell 0
          simp only at e0
          rw [hg4] at e0
          have e5 := hbx.h5p
          rw [hwa] at e0 e5
          obtain ⟨pb', hPA', _, _, hcP', hfP'⟩ := hpa.P.atk Phone.k (i := j) (x := ph) HPS.out
          obtain rfl : pb' = pb := by
            have h1 : m4.P.A = some ⟨pb', 0, none⟩ := hPA'
            rw [HPA.out] at h1
            injection h1 with h1
            injection h1 with h1
            exact h1.symm
          obtain ⟨k0, k1, k2, k3, k4⟩ := hcP'.c5
          have e0' : wa.cell? ⟨pg, 0, none⟩ = some (.slice (some ⟨pb', 0, none⟩) 3 m4.P.c) := by
            rw [← hwa] at e0
            rw [e0]
            simp only [List.getElem?_toArray, List.getElem?_cons_zero, hpl, HPA.out]
          rw [hwa] at e0'
          have HPAA := Lib.hid hpa
          have HRA := Lib.hid hra
          have HBA := Lib.hid hba
          clear hpa hra hba hbx hcP' hPA' HP1 HR1 HBW4 e0 hG1
          refine wp_region_T (fun W => W.cell? ⟨pg, 0, none⟩ = some (.slice (some ⟨pb', 0, none⟩) 3 m4.P.c) ∧ W.cell? ⟨w4.heap.size, 0, none⟩ = some (.int .i64 p'.id) ∧ W.cell? ⟨w4.heap.size, 1, none⟩ = some (.bool p'.cut) ∧ W.cell? ⟨w4.heap.size, 2, none⟩ = some (.slice p'.H.A p'.H.l.length p'.H.c) ∧ W.cell? ⟨w4.heap.size, 3, none⟩ = some (.slice p'.N.A p'.N.l.length p'.N.c) ∧ W.cell? ⟨w4.heap.size, 4, none⟩ = some (.slice p'.S.A p'.S.l.length p'.S.c)) (fun i => 7 ≤ i) (by kernel_rfl) ⟨e0', e5⟩ (fun hHeld => ?_)
          rw [← hwa] at hHeld ⊢
          clear hwa e0' e5
          generalize w4.heap.size = gx at *
          refine qtq 0 ?_
          simp only [qsa, qsb, qsc]
          refine qtq 1 ?_
          simp only [qsa, qsb, qsc]
          refine qtq 2 ?_
          simp only [qsa, qsb, qsc]
          refine qtq 3 ?_
          simp only [qsa, qsb, qsc]
          refine qtq 4 ?_
          simp only [qsa, qsb, qsc]
          refine qtq 5 ?_
          simp only [qsa, qsb, qsc]
          refine qtq 6 ?_
          simp only [qsa, qsb, qsc]
          clear hHeld
          refine wpAnyT_next (i := 7) (by kernel_rfl) rfl ?_
          go_wp2_with fail
          try simp only [QT]
          try (with_reducible refine And.intro (fun h => by simp at h) ?_)
          refine wpAnyT_done (by kernel_rfl) ?_ _
          clear k0 k1 k2 k3 k4 hfP'
          have hp4 := HPAA.out.stP (b := pb') (w' := (((((wa.setCell ⟨pb', j * 5, none⟩ (.int .i64 p'.id)).setCell ⟨pb', j * 5 + 1, none⟩ (.bool p'.cut)).setCell ⟨pb', j * 5 + 2, none⟩ (.slice p'.H.A p'.H.l.length p'.H.c)).setCell ⟨pb', j * 5 + 3, none⟩ (.slice p'.N.A p'.N.l.length p'.N.c)).setCell ⟨pb', j * 5 + 4, none⟩ (.slice p'.S.A p'.S.l.length p'.S.c))) HPA.out (by simp) (pst_off _ _ _ _) (l := m4.P.l.set j p') (by simp) (by
            have hq := HPAA.out.P
            unfold Own at hq
            rw [show ({ m4 with G := G1 } : PlM).P.A = some ⟨pb', 0, none⟩ from HPA.out] at hq ⊢
            exact Own.setPhone (B := w2.heap.size) (w := wa) (l := m4.P.l) hq p' HPS.out) (fun y hy => by
            rcases List.mem_or_eq_of_mem_set hy with hy | rfl
            · exact HPAA.out.rP y hy
            · exact HRA.out)
          have hpB : w.heap.size ≤ pb' := Nat.le_trans hBw (HPX.out.rb (i := 1) HPA.out).2
          have hb7 : Below w.heap.size w (((((wa.setCell ⟨pb', j * 5, none⟩ (.int .i64 p'.id)).setCell ⟨pb', j * 5 + 1, none⟩ (.bool p'.cut)).setCell ⟨pb', j * 5 + 2, none⟩ (.slice p'.H.A p'.H.l.length p'.H.c)).setCell ⟨pb', j * 5 + 3, none⟩ (.slice p'.N.A p'.N.l.length p'.N.c)).setCell ⟨pb', j * 5 + 4, none⟩ (.slice p'.S.A p'.S.l.length p'.S.c)) := ((((HBA.out.setCell hpB _).setCell hpB _).setCell hpB _).setCell hpB _).setCell hpB _
          obtain ⟨hic, hct, hcH⟩ := HI.out.cut HIX.out j _ HPD.out
          have hm5 : ∃ m5 : PlM, m5.g = pg ∧ PlayAt w2.heap.size (((((wa.setCell ⟨pb', j * 5, none⟩ (.int .i64 p'.id)).setCell ⟨pb', j * 5 + 1, none⟩ (.bool p'.cut)).setCell ⟨pb', j * 5 + 2, none⟩ (.slice p'.H.A p'.H.l.length p'.H.c)).setCell ⟨pb', j * 5 + 3, none⟩ (.slice p'.N.A p'.N.l.length p'.N.c)).setCell ⟨pb', j * 5 + 4, none⟩ (.slice p'.S.A p'.S.l.length p'.S.c)) m5 ∧ m5.d = { m4.d with P := m4.d.P.set j ph.d.cutS.1 } := by
            refine ⟨{ m4 with G := G1, P := ⟨m4.P.A, m4.P.c, m4.P.l.set j p'⟩ }, hg4, hp4, ?_⟩
            simp only [PlM.d, List.map_set, HDJ.out]
          obtain ⟨m5, hg5, hp5, hd5⟩ := hm5
          rw [← hd5] at hic
          have hjl : j < m4.d.P.length := by simpa [PlM.d] using hjp
          have hP5 : m5.d.P[j]? = some ph.d.cutS.1 := by rw [hd5]; exact List.getElem?_set_self hjl
          have hQl : j < m5.d.Q.length := by have := (HI.out.fine hic).m; omega
          have hQ5 : m5.d.Q[j]? = some m5.d.Q[j] := List.getElem?_eq_getElem hQl
          generalize m5.d.Q[j] = q at *
          have hjn := pjoin w2.heap.size m5 (((((wa.setCell ⟨pb', j * 5, none⟩ (.int .i64 p'.id)).setCell ⟨pb', j * 5 + 1, none⟩ (.bool p'.cut)).setCell ⟨pb', j * 5 + 2, none⟩ (.slice p'.H.A p'.H.l.length p'.H.c)).setCell ⟨pb', j * 5 + 3, none⟩ (.slice p'.N.A p'.N.l.length p'.N.c)).setCell ⟨pb', j * 5 + 4, none⟩ (.slice p'.S.A p'.S.l.length p'.S.c)) hp5 j _ q (HI.out.jok hic h40' j _ q hP5 hQ5)
          have hij := HI.out.join hic j _ q hP5 hQ5
          obtain ⟨pp, hpj, hpc, hpH⟩ := HI.out.done hic j _ q hP5 hQ5 hct
          have hdn : ∀ i p, i < j + 1 → (m5.d.join j ph.d.cutS.1 q).P[i]? = some p → p.H = [] := by
            intro i p hi hp
            rw [hpj, hd5] at hp
            simp only [List.set_set] at hp
            by_cases he : i = j
            · subst he
              rw [List.getElem?_set_self hjl] at hp
              injection hp with hp
              rw [← hp]; exact hpH
            · rw [List.getElem?_set_ne (fun h => he h.symm)] at hp
              exact HDX.out i p (by omega) hp
          have hpj5 : (m5.d.join j ph.d.cutS.1 q).P[j]? = some pp := by
            rw [hpj, hd5]
            simp only [List.set_set]
            exact List.getElem?_set_self hjl
          rw [hg5] at hjn
          have HIJ := Lib.hid hij
          have HDN := Lib.hid hdn
          have HPJ5 := Lib.hid hpj5
          have HB7 := Lib.hid hb7
          have HPC := Lib.hid hpc
          have HPH := Lib.hid hpH
          clear hp4 hb7 hic hct hcH hp5 hd5 hP5 hQ5 hij hdn hpj5 hpj hpc hpH HPAA HRA HBA HDX HIX HPX HRP HBX HPD HPS HPA HDJ
          generalize (((((wa.setCell ⟨pb', j * 5, none⟩ (.int .i64 p'.id)).setCell ⟨pb', j * 5 + 1, none⟩ (.bool p'.cut)).setCell ⟨pb', j * 5 + 2, none⟩ (.slice p'.H.A p'.H.l.length p'.H.c)).setCell ⟨pb', j * 5 + 3, none⟩ (.slice p'.N.A p'.N.l.length p'.N.c)).setCell ⟨pb', j * 5 + 4, none⟩ (.slice p'.S.A p'.S.l.length p'.S.c)) = V at *
          go_wp2_with fail
          refine hjn.mono ?_
          clear hjn
          rintro e w5 ⟨rfl, m6, hp6, hg6, hd6, hb6⟩
          rw [← hd6] at HIJ HDN HPJ5
          have hb8 : Below w.heap.size w w5 := HB7.out.trans (hb6.mono hBw)
          have hpl6 : m6.P.l.length = 3 := by have := HI.out.lP HIJ.out; simpa [PlM.d] using this
          have hjp6 : j < m6.P.l.length := by omega
          obtain ⟨pb6, hPA6, _, _, hcP6, _⟩ := hp6.P.atk Phone.k (List.getElem?_eq_getElem hjp6)
          obtain ⟨c0, c1, c2, c3, c4⟩ := hcP6.c5
          have b0 := hp6.box.cell 0
          have hpp : m6.P.l[j].d = pp := by
            have := HPJ5.out
            simp only [PlM.d, List.getElem?_map, List.getElem?_eq_getElem hjp6, Option.map_some, Option.some.injEq] at this
            exact this
          have hpc6 : m6.P.l[j].cut = false := by rw [← HPC.out, ← hpp]; rfl
          have hpH6 : m6.P.l[j].H.l.length = 0 := by
            have : m6.P.l[j].H.l = [] := by rw [← HPH.out, ← hpp]; rfl
            rw [this]; rfl
          have hg6' : m6.g = pg := by first | exact hg6 | exact hg6.trans hg5
          rw [hg6'] at b0
          simp only [List.getElem?_toArray, List.getElem?_cons_zero, hpl6, hPA6] at b0
          rw [hpc6] at c1
          rw [hpH6] at c2
          have HP6 := Lib.hid hp6
          clear hp6 hcP6 hPA6 hb6 hd6 hpp hpc6 hpH6 c0 c3 c4 hpl6 hpl
          generalize m6.P.l[j] = ph6 at *
          go_wp2_with fail
          go_roundw
          case rel => exact ⟨j + 1, m6, by omega, by go_num, hg6', HP6.out, HIJ.out, HDN.out, hb8⟩
          case measure => simp [intOf]; omega
        · obtain rfl : j = 3 := by omega
          have hfr := HI.out.free hi (fun p hp => by
            obtain ⟨i, hil, rfl⟩ := List.mem_iff_getElem.1 hp
            have := HI.out.lP hi
            exact hdone i _ (by omega) (List.getElem?_eq_getElem hil))
          have hfd := HI.out.fine hi
          have HFR := Lib.hid hfr
          have HFD := Lib.hid hfd
          have HPX := Lib.hid hp
          have HBX := Lib.hid hb
          have hsl : m4.S.l.length ≤ 3 := by have := hfd.n; simpa [PlM.d] using this
          clear hfr hfd hdone hi hp hb
          go_wp2_with fail
          rw [show ((3 : Nat) : Int) = 3 from rfl]
          obtain ⟨wo, hwo⟩ : ∃ x, x = wr := ⟨_, rfl⟩
          subst hwo
          go_loopw [13] (fun v wr => ∃ (k : Nat), k ≤ m4.S.l.length ∧ v = .int .i64 k ∧ Below wo.heap.size wo wr) (fun v _ => m4.S.l.length - (intOf v).toNat)
          case atStart => exact ⟨0, by omega, rfl, Below.refl _ _⟩
          case round =>
            obtain ⟨k, hk, rfl, hbo⟩ := hrel
            have hp := HPX.out.below hbo
            obtain ⟨b0, b1, b2, b3, b4, b5, bf, bz⟩ := hp.box.b6
            rw [hg4] at b0 b1 b2 b3 b4 b5
            by_cases hkl : k < m4.S.l.length
            · have hkl' : (k : Int) < (m4.S.l.length : Int) := by omega
              have hkd : k < m4.d.S.length := by simpa [PlM.d] using hkl
              have hTl : m4.T.l.length = m4.S.l.length := by have := HFD.out.lT; simpa [PlM.d] using this
              have hHl : m4.H.l.length = m4.S.l.length := by have := HFD.out.lH; simpa [PlM.d] using this
              have hkT : k < m4.T.l.length := by omega
              have hkH : k < m4.H.l.length := by omega
              obtain ⟨sb, hSA, _, _, hcS, _⟩ := hp.S.atk Stock.k (List.getElem?_eq_getElem hkl)
              obtain ⟨gt, hTA, _, _, hcT, _⟩ := hp.T.atk ienc_k (List.getElem?_eq_getElem hkT)
              obtain ⟨gh, hHA, _, _, hcH, _⟩ := hp.H.atk ienc_k (List.getElem?_eq_getElem hkH)
              obtain ⟨s0, s1, s2⟩ := hcS.c3
              have t0 := hcT.c1
              have h0 := hcH.c1
              simp only [Nat.mul_one] at t0 h0
              rw [hSA] at b1
              rw [hTA, hTl] at b2
              rw [hHA, hHl] at b3
              have hU := HFD.out.U k hkd
              have hT0 := HFD.out.T0 k
              have hH0 := HFD.out.H0 k
              have hri := HFD.out.right m4.S.l[k].d (by simp only [PlM.d]; exact List.mem_map_of_mem (List.getElem_mem hkl))
              have hLn := HFR.out m4.S.l[k].d (by simp only [PlM.d]; exact List.mem_map_of_mem (List.getElem_mem hkl))
              have hle := HFD.out.le k hkd
              have hqn := qsum_nn (Q := m4.Q.l.map Sl.l) (k := k) (fun q hq => HFD.out.q0 q hq k)
              simp only [PlM.d, List.getElem_map] at hU hT0 hH0 hle
              rw [getD_at hkT, getD_at hkH] at hU hle
              rw [getD_at hkT] at hT0
              rw [getD_at hkH] at hH0
              have hTT := StockD.right_T hri
              generalize m4.T.l[k] = tv at *
              generalize m4.H.l[k] = hv at *
              generalize m4.S.l[k] = s at *
              obtain ⟨sT, sU, ⟨sA, sc, sl⟩⟩ := s
              simp only [Stock.d] at hU hTT hLn hle
              subst hU hLn
              simp only [List.length_nil] at s2
              have hw1 : IntKind.i64.wrap (tv + hv) = tv + hv := by rw [IntKind.wrap_i64]; omega
              clear hri hcS hcT hcH hSA hTA hHA hTl hHl hp hkd hle hqn hTT hT0 hH0
              go_wp2_with fail
              refine wp_region_T (fun W => W.cell? ⟨pg, 1, none⟩ = some (.slice (some ⟨sb, 0, none⟩) m4.S.l.length m4.S.c) ∧ W.cell? ⟨pg, 2, none⟩ = some (.slice (some ⟨gt, 0, none⟩) m4.S.l.length m4.T.c) ∧ W.cell? ⟨pg, 3, none⟩ = some (.slice (some ⟨gh, 0, none⟩) m4.S.l.length m4.H.c) ∧ W.cell? ⟨sb, k * 3 + 1, none⟩ = some (.int .i64 (tv + hv)) ∧ W.cell? ⟨sb, k * 3 + 2, none⟩ = some (.slice sA 0 sc) ∧ W.cell? ⟨gt, k, none⟩ = some (.int .i64 tv) ∧ W.cell? ⟨gh, k, none⟩ = some (.int .i64 hv)) (fun _ => false) (by kernel_rfl) ⟨b1, b2, b3, s1, s2, t0, h0⟩ (fun hHeld => ?_)
              refine qtq 0 ?_
              simp only [qsa, qsb, qsc]
              refine qtq 1 ?_
              simp only [qsa, qsb, qsc]
              refine qtq 2 ?_
              simp only [qsa, qsb, qsc]
              refine qtq 3 ?_
              simp only [qsa, qsb, qsc]
              refine qtq 4 ?_
              simp only [qsa, qsb, qsc]
              refine qtq 5 ?_
              simp only [qsa, qsb, qsc]
              refine qtq 6 ?_
              simp only [qsa, qsb, qsc]
              refine qtq 7 ?_
              simp only [qsa, qsb, qsc]
              refine qtq 8 ?_
              simp only [qsa, qsb, qsc]
              refine wpAnyT_take2 (i := 9) (v := .bool false) rfl rfl (by kernel_rfl) (by kernel_rfl) (by kernel_rfl) (by kernel_rfl) (fun _ _ _ h => h) (Or.inl ⟨by rfl, ?_⟩) (by first | assumption | trivial) ?_
              · (intro w hSw; (try dsimp only at hSw); go_simp) <;> (first | (with_reducible rfl) | assumption | (simp; done) | (simp [*]; done) | (simp; omega))
              simp only [qsa, qsb, qsc]
              refine qtq 10 ?_
              simp only [qsa, qsb, qsc]
              refine qtq 11 ?_
              simp only [qsa, qsb, qsc]
              refine qtq 12 ?_
              simp only [qsa, qsb, qsc]
              refine qtq 13 ?_
              simp only [qsa, qsb, qsc]
              refine qtq 14 ?_
              simp only [qsa, qsb, qsc]
              refine qtq 15 ?_
              simp only [qsa, qsb, qsc]
              refine qtq 16 ?_
              simp only [qsa, qsb, qsc]
              refine qtq 17 ?_
              simp only [qsa, qsb, qsc]
              refine qtq 18 ?_
              simp only [qsa, qsb, qsc]
              refine qtq 19 ?_
              simp only [qsa, qsb, qsc]
              refine qtq 20 ?_
              simp only [qsa, qsb, qsc]
              refine qtq 21 ?_
              simp only [qsa, qsb, qsc]
              refine qtq 22 ?_
              simp only [qsa, qsb, qsc]
              refine qtq 23 ?_
              simp only [qsa, qsb, qsc]
              refine qtq 24 ?_
              simp only [qsa, qsb, qsc]
              refine qtq 25 ?_
              simp only [qsa, qsb, qsc]
              refine qtq 26 ?_
              simp only [qsa, qsb, qsc]
              refine qtq 27 ?_
              simp only [qsa, qsb, qsc]
              refine qtq 28 ?_
              simp only [qsa, qsb, qsc]
              refine qtq 29 ?_
              simp only [qsa, qsb, qsc]
              refine qtq 30 ?_
              simp only [qsa, qsb, qsc]
              refine qtq 31 ?_
              simp only [qsa, qsb, qsc]
              refine qtq 32 ?_
              simp only [qsa, qsb, qsc]
              refine qtq 33 ?_
              simp only [qsa, qsb, qsc]
              refine wpAnyT_take2 (i := 34) (v := .bool false) rfl rfl (by kernel_rfl) (by kernel_rfl) (by kernel_rfl) (by kernel_rfl) (fun _ _ _ h => h) (Or.inl ⟨by rfl, ?_⟩) (by first | assumption | trivial) ?_
              · (intro w hSw; (try dsimp only at hSw); go_simp) <;> (first | (with_reducible rfl) | assumption | (simp; done) | (simp [*]; done) | (simp; omega))
              simp only [qsa, qsb, qsc]
              refine qtq 35 ?_
              simp only [qsa, qsb, qsc]
              refine wpAnyT_done (by kernel_rfl) ?_ _
              clear hHeld b0 b1 b2 b3 b4 b5 bf bz s0 s1 s2 t0 h0
              go_wp2_with fail
              go_roundw
              case rel => exact ⟨k + 1, by omega, by go_num, qbv⟩
              case measure => simp [intOf]; omega
            · have hfi := pfine w2.heap.size m4 wr hp HFD.out
              rw [hg4] at hfi
              have hbF : Below w.heap.size w wr := HBX.out.trans (hbo.mono HBX.out.size)
              clear hp b0 b2 b3 b4 b5 bf
              go_wp2_with fail
              refine hfi.mono ?_
              clear hfi
              rintro e w9 ⟨rfl, hb9⟩
              have hb10 : Below w.heap.size w w9 := hbF.trans (hb9.mono hbF.size)
              go_wp2_with fail
              go_ret
              exact ⟨rfl, hb10⟩
end Go.Proofs.Ythnblhbdfpmolaa
