/- Walks of package big: settle. -/
import Derived.Test.YtcgocdhhneckhaaGreatFnammxan
namespace Go.Proofs.YtcgocdhhneckhaaGreat
open Go.RowKit
theorem settle_less {g : Int} {u v : List Int} (hu : DigOK u) (h : v.length ≤ u.length) (he : subE g 0 u v ≠ 0) (hg : 0 ≤ g * val v) : val u < g * val v := by
  refine Decidable.byContradiction fun hn => he ?_
  have h1 := subM_val g (c := 0) h
  have h2 := val_nn (subM_ok g 0 u v)
  have h3 := val_lt (subM_ok g 0 u v)
  rw [subM_len] at h3
  have h4 := val_lt hu
  have h5 : val (subM g 0 u v) = (val u - g * val v) + subE g 0 u v * pw u.length := by rw [h1]; omega
  have h6 := pw_mult h2 h3 (by omega) (by omega) h5
  rw [h6] at h5
  have h7 := pw_pos u.length
  rcases Int.lt_trichotomy (subE g 0 u v) 0 with h8 | h8 | h8
  · have : subE g 0 u v * pw u.length ≤ -1 * pw u.length := Int.mul_le_mul_of_nonneg_right (by omega) (by omega)
    omega
  · exact h8
  · have : 1 * pw u.length ≤ subE g 0 u v * pw u.length := Int.mul_le_mul_of_nonneg_right (by omega) (by omega)
    omega
/-- What settle gives. -/
structure SetD (us v us' : List Int) (q : Int) : Prop where
  len : us'.length = us.length
  ok : DigOK us'
  val : val us' = Go.Proofs.YtcgocdhhneckhaaGreat.val us % Go.Proofs.YtcgocdhhneckhaaGreat.val v
  quo : q = Go.Proofs.YtcgocdhhneckhaaGreat.val us / Go.Proofs.YtcgocdhhneckhaaGreat.val v
theorem setD_of {us v us' : List Int} {q : Int} (hV : 0 < val v) (h1 : us'.length = us.length) (h2 : DigOK us') (h3 : val us' = val us - q * val v) (hl : q * val v ≤ val us) (hu : val us < (q + 1) * val v) : SetD us v us' q := by
  have hq := quo_is hV hl hu
  refine ⟨h1, h2, ?_, hq.symm⟩
  have := Int.mul_ediv_add_emod (val us) (val v)
  rw [hq, Int.mul_comm] at this
  omega
theorem setD_yes {g : Int} {us v : List Int} (hu : DigOK us) (h : v.length ≤ us.length) (hV : 0 < val v) (hup : val us < (g + 1) * val v) (he : subE g 0 us v = 0) : SetD us v (subM g 0 us v) g := by
  obtain ⟨h1, h2⟩ := settle_yes hu h he
  exact setD_of hV (subM_len _ _ _ _) (subM_ok _ _ _ _) h1 h2 hup
theorem setD_no {g : Int} {us v : List Int} (hu : DigOK us) (hv : DigOK v) (h : v.length ≤ us.length) (hV : 0 < val v) (hg : 0 ≤ g) (hlow : (g - 1) * val v ≤ val us) (he : subE g 0 us v ≠ 0) : SetD us v (addM 0 (subM g 0 us v) v) (g - 1) := by
  have h0 : 0 ≤ g * val v := Int.mul_nonneg hg (by omega)
  have hl := settle_less hu h he h0
  have hlt := val_lt hu
  have hg1 : 1 ≤ g := by
    rcases (by omega : g = 0 ∨ 1 ≤ g) with rfl | h1
    · rw [Int.zero_mul] at hl
      have := val_nn hu
      omega
    · exact h1
  have h1 : 0 ≤ (g - 1) * val v := Int.mul_nonneg (by omega) (by omega)
  have h3 := settle_no hu hv h he hlow (.inr hg) (by omega) (fun _ => hg)
  exact setD_of hV (by rw [addM_len, subM_len]) (addM_ok _ _ _) h3 hlow (by rw [show g - 1 + 1 = g by omega]; exact hl)
theorem grown_set {w wr : World} {g o : Nat} {x : Value} (h : w.grownBy wr (some g)) : w.grownBy (wr.setCell ⟨g, o, none⟩ x) (some g) where
  os := h.os
  tape := h.tape
  output := h.output
  size := by have := h.size; simpa using this
  block k hk hne := by rw [Below.heap_setCell _ _ _ _ (by intro h0; exact hne (by rw [h0]))]; exact h.block k hk hne
theorem Rd.grown {F : Nat → Prop} {w w' : World} {s : Sl Int} {g : Nat} (h : Rd F 1 ienc w s) (hF : ∀ b, F b → b < w.heap.size ∧ b ≠ g) (hg : w.grownBy w' (some g)) : Rd F 1 ienc w' s :=
  h.keep fun b hb => hg.block b (hF b hb).1 (by intro h0; injection h0 with h0; exact (hF b hb).2 h0)
set_option maxHeartbeats 1600000 in
theorem big_settle (B g c i k : Nat) (L us : List Int) (v : Sl Int) (gs : Int) (w : World) (hO : OI B w g c L) (hv : Rd (fun b => b < w.heap.size ∧ b ≠ g) 1 ienc w v) (hus : us = (L.drop i).take us.length) (hiu : i + us.length ≤ L.length) (huk : us.length ≤ k) (hlen : us.length ≤ 300)
    (hu : DigOK us) (hd : DigOK v.l) (hvu : v.l.length ≤ us.length) (hV : 0 < val v.l) (hg0 : 0 ≤ gs) (hg1 : gs < 1048576) (hlow : (gs - 1) * val v.l ≤ val us) (hup : val us < (gs + 1) * val v.l) :
    Calls Tryz.prog 185 #[.slice (some ⟨g, i, none⟩) us.length k, v.v, .int .i64 gs] w fun e w' => ∃ us' q, e = .returned (.int .i64 q) ∧ SetD us v.l us' q ∧ OI B w' g c (winL L i us us') ∧ w.grownBy w' (some g) := by
  obtain ⟨A, d, m⟩ := v
  have hm := hv.len
  simp only at hm hd hvu hV hlow hup
  have HV := Lib.hid hv
  have HO := Lib.hid hO
  have HU := Lib.hid hu
  have HD := Lib.hid hd
  have HYES := Lib.hid (fun he => setD_yes (g := gs) hu hvu hV hup he)
  have HNO := Lib.hid (fun he => setD_no (g := gs) hu hd hvu hV hg0 hlow he)
  have HUS := Lib.hid hus
  clear hv hO hu hd hlow hup hV hus
  simp only [Sl.v]
  go_enter Tryz.func185, Tryz.ntmps185
  go_wp2_with fail
  go_loopw [14, 7] (fun x y wr => ∃ (q : Nat) (cr : Int) (dn : List Int), q ≤ us.length ∧ x = .int .i64 q ∧ y = .int .i64 cr ∧ 0 ≤ cr ∧ cr ≤ 1048576 ∧ Hid (SetS gs us m q cr dn) ∧ Hid (OI B wr g c (winL L i us dn)) ∧ w.grownBy wr (some g)) (fun x _ _ => us.length - (intOf x).toNat)
  case atStart => exact ⟨0, 0, [], by omega, rfl, rfl, by omega, by omega, Lib.hid (SetS.start _ _ _), Lib.hid (by rw [winL_start HUS.out hiu]; exact HO.out), World.grownBy.refl w _⟩
  case round =>
    obtain ⟨q, cr, dn, hq, rfl, rfl, hc0, hc1, HS, HP, hgr⟩ := hrel
    have hdl := HS.out.len
    subst hdl
    by_cases hqu : dn.length < us.length
    · have hx := HU.out.get hqu
      have hnx := fun n hn => HS.out.next (n := n) hg0 hg1 HU.out HD.out hqu hn
      rw [headD_drop] at hnx
      have hoc := HP.out.get (winL_get hiu hqu)
      have hof := HP.out.frozen (i + dn.length)
      have hsz := HP.out.lt
      have hset := fun z => HP.out.set (i := i + dn.length) (by rw [winL_len hiu (by omega)]; omega) z
      simp only [winL_set hiu hqu] at hset
      have HST := Lib.hid hset
      clear hset
      generalize us[dn.length] = x at *
      by_cases hqm : dn.length < m.length
      · obtain ⟨b2, o2, hA, _, c1⟩ := (HV.out.grown (fun _ h => h) hgr).geti hqm
        simp only at hA c1
        subst hA
        have hy := HD.out.get hqm
        rw [dif_pos hqm] at hnx
        generalize m[dn.length] = y at *
        have HNX := Lib.hid hnx
        have hn := (hnx (x - cr - gs * y) rfl).2
        have hp0 : 0 ≤ gs * y := Int.mul_nonneg hg0 hy.1
        clear hnx
        go_wp2_with fail
        go_roundw
        case rel => exact ⟨dn.length + 1, _, _, by omega, by go_num, rfl, by omega, by omega, Lib.hid (HNX.out (x - cr - gs * y) rfl).1, Lib.hid (by rw [i64_mask20]; exact HST.out _), grown_set hgr⟩
        case measure => simp [intOf]; omega
      · rw [dif_neg hqm] at hnx
        have HNX := Lib.hid hnx
        have hn := (hnx (x - cr) (by omega)).2
        clear hnx
        go_wp2_with fail
        go_roundw
        case rel => exact ⟨dn.length + 1, _, _, by omega, by go_num, rfl, by omega, by omega, Lib.hid (HNX.out (x - cr) (by omega)).1, Lib.hid (by rw [i64_mask20]; exact HST.out _), grown_set hgr⟩
        case measure => simp [intOf]; omega
    · have hqe : dn.length = us.length := by omega
      rw [hqe] at HS
      obtain ⟨hdn, hcr⟩ := HS.out.done
      have HDN := Lib.hid hdn
      have HCR := Lib.hid hcr
      have HQE := Lib.hid hqe
      clear HS hqu hq hdn hcr
      by_cases hz : cr = 0
      · have HF := Lib.hid (HYES.out (by rw [← HCR.out]; exact hz))
        have HGR := Lib.hid hgr
        clear HYES HNO hgr
        go_wp2_with fail
        go_ret
        exact ⟨dn, gs, rfl, by rw [HDN.out]; exact HF.out, HP.out, HGR.out⟩
      · have HF := Lib.hid (HNO.out (by rw [← HCR.out]; exact hz))
        clear HYES HNO
        rw [← HDN.out] at HF
        have HOK : Hid (DigOK dn) := Lib.hid (by rw [HDN.out]; exact subM_ok _ _ _ _)
        have HGR := Lib.hid hgr
        have HL2 := Lib.hid (winL_again HQE.out hiu)
        have HLL : Hid (i + dn.length ≤ (winL L i us dn).length) := Lib.hid (by rw [winL_len hiu (by omega)]; omega)
        have HOV := Lib.hid (fun ds he => winL_over (ds := ds) HQE.out he hiu)
        clear hgr HDN HCR
        rw [hqe]
        clear hqe
        go_wp2_with fail
        obtain ⟨wo, hwo⟩ : ∃ x, x = wr := ⟨_, rfl⟩
        subst hwo
        go_loopw [49, 10] (fun x y wr => ∃ (q : Nat) (cr : Int) (ds : List Int), q ≤ us.length ∧ x = .int .i64 q ∧ y = .int .i64 cr ∧ 0 ≤ cr ∧ cr ≤ 1 ∧ Hid (GiveS dn m q cr ds) ∧ Hid (OI B wr g c (winL (winL L i us dn) i dn ds)) ∧ w.grownBy wr (some g)) (fun x _ _ => us.length - (intOf x).toNat)
        case atStart => exact ⟨0, 0, [], by omega, rfl, rfl, by omega, by omega, Lib.hid (GiveS.start _ _), Lib.hid (by rw [HL2.out]; exact HP.out), HGR.out⟩
        case round =>
          clear hc0 hc1 hz
          obtain ⟨q, cr, ds, hq, rfl, rfl, hc0, hc1, HS, HP2, hgr⟩ := hrel
          have hdl := HS.out.len
          subst hdl
          by_cases hqu : ds.length < us.length
          · have hqd : ds.length < dn.length := by rw [HQE.out]; exact hqu
            have hx := HOK.out.get hqd
            have hnx := fun n hn => HS.out.next (n := n) HOK.out HD.out hqd hn
            rw [headD_drop] at hnx
            have hoc := HP2.out.get (winL_get HLL.out hqd)
            have hof := HP2.out.frozen (i + ds.length)
            have hsz := HP2.out.lt
            have hset := fun z => HP2.out.set (i := i + ds.length) (by rw [winL_len HLL.out (by omega)]; have := HLL.out; omega) z
            simp only [winL_set HLL.out hqd] at hset
            have HST := Lib.hid hset
            clear hset
            generalize dn[ds.length] = x at *
            by_cases hqm : ds.length < m.length
            · obtain ⟨b2, o2, hA, _, c1⟩ := (HV.out.grown (fun _ h => h) hgr).geti hqm
              simp only at hA c1
              subst hA
              have hy := HD.out.get hqm
              rw [dif_pos hqm] at hnx
              generalize m[ds.length] = y at *
              have HNX := Lib.hid hnx
              have hn := (hnx (cr + x + y) rfl).2
              clear hnx
              go_wp2_with fail
              go_roundw
              case rel => exact ⟨ds.length + 1, _, _, by omega, by go_num, rfl, by omega, by omega, Lib.hid (HNX.out (cr + x + y) rfl).1, Lib.hid (by rw [i64_mask20]; exact HST.out _), grown_set hgr⟩
              case measure => simp [intOf]; omega
            · rw [dif_neg hqm] at hnx
              have HNX := Lib.hid hnx
              have hn := (hnx (cr + x) (by omega)).2
              clear hnx
              go_wp2_with fail
              go_roundw
              case rel => exact ⟨ds.length + 1, _, _, by omega, by go_num, rfl, by omega, by omega, Lib.hid (HNX.out (cr + x) (by omega)).1, Lib.hid (by rw [i64_mask20]; exact HST.out _), grown_set hgr⟩
              case measure => simp [intOf]; omega
          · have hqe2 : ds.length = us.length := by omega
            have HS2 := HS.out
            rw [hqe2, ← HQE.out] at HS2
            have HDS := Lib.hid HS2.done
            have HE2 := Lib.hid hqe2
            have HG2 := Lib.hid hgr
            clear HS HS2 hqe2 hq hgr
            go_wp2_with fail
            go_ret
            exact ⟨ds, gs - 1, rfl, by rw [HDS.out]; exact HF.out, by rw [← HOV.out ds HE2.out]; exact HP2.out, HG2.out⟩
end Go.Proofs.YtcgocdhhneckhaaGreat
/- Walks of package big: div, where it is short. -/
namespace Go.Proofs.YtcgocdhhneckhaaGreat
open Go.RowKit
/-- Quotient and remainder of digits. -/
def DivP (w w' : World) (x y : Int) (e : Ending) : Prop := ∃ q r : Sl Int, e = .returned (.tuple #[q.v, r.v]) ∧ q.l = digs (x / y).toNat ∧ r.l = digs (x % y).toNat ∧ Rd (Nw w.heap.size w') 1 ienc w' q ∧ Rd (Nw w.heap.size w') 1 ienc w' r ∧ Below w.heap.size w w'
theorem Own.nw {B : Nat} {w : World} {s : Sl Int} (h : Own B 3 1 ienc w s) : Rd (Nw B w) 1 ienc w s := h.rd ienc_k
theorem nw_one {w w1 w2 : World} {b : Nat} {o : Obj} (h1 : w.heap.size ≤ w1.heap.size) (h2 : w1.heap.size ≤ w2.heap.size) (hb : b = w2.heap.size) : Nw w.heap.size (w2.alloc o) b := ⟨by omega, by simp; omega⟩
set_option maxRecDepth 100000 in
set_option maxHeartbeats 1600000 in
theorem big_div_less (a b : Sl Int) (w : World) (ha : Rd (· < w.heap.size) 1 ienc w a) (hb : Rd (· < w.heap.size) 1 ienc w b) (na : Norm a.l) (nb : Norm b.l) (hla : a.l.length ≤ 150) (hlt : val a.l < val b.l) :
    Calls Tryz.prog 162 #[a.v, b.v] w fun e w' => DivP w w' (val a.l) (val b.l) e := by
  have HC := big_compare a b w ha hb na nb
  rw [ucmp_lt hlt] at HC
  have hv := val_nn na.ok
  have HR : Hid (a.l = digs (val a.l % val b.l).toNat) := Lib.hid (by rw [Int.emod_eq_of_lt hv hlt]; exact na.is)
  have HQ : Hid (([] : List Int) = digs (val a.l / val b.l).toNat) := Lib.hid (by rw [Int.ediv_eq_zero_of_lt hv hlt]; exact digs_zero.symm)
  have HA := Lib.hid ha
  obtain ⟨A, c, l⟩ := a
  simp only at hla
  clear ha hb na nb hlt hv
  simp only [Sl.v] at HC ⊢
  go_enter Tryz.func162, Tryz.ntmps162
  go_wp2_with fail
  refine HC.mono ?_
  rintro e w1 ⟨rfl, hb1⟩
  have HB1 := Lib.hid hb1
  clear HC hb1
  go_wp2_with fail
  refine (clone_int ⟨A, c, l⟩ _ (HA.out.later HB1.out) (by simp only; omega)).mono ?_
  rintro e w2 ⟨A', c', rfl, hown, hb2⟩
  have HO := Lib.hid hown
  have HB2 := Lib.hid hb2
  clear hown hb2
  go_wp2_with fail
  try simp only [Exit.inBlock, Exit.then]
  refine bodyPost_ret (v := .tuple #[.slice none 0 0, .slice A' l.length c']) ?_ rfl ⟨⟨none, 0, []⟩, ⟨A', c', l⟩, rfl, HQ.out, HR.out, Rd.nil _ _ _ _, HO.out.nw.mono (fun b hb => hb.mono HB1.out.size (Nat.le_refl _)), HB1.out.trans (HB2.out.mono HB1.out.size)⟩
  simp [results, Tryz.results162, go_sem, ]
set_option maxRecDepth 100000 in
set_option maxHeartbeats 1600000 in
theorem big_div_one (a b : Sl Int) (w : World) (ha : Rd (· < w.heap.size) 1 ienc w a) (hb : Rd (· < w.heap.size) 1 ienc w b) (na : Norm a.l) (nb : Norm b.l) (hla : a.l.length ≤ 150) (hle : val b.l ≤ val a.l) (hl1 : b.l.length = 1) :
    Calls Tryz.prog 162 #[a.v, b.v] w fun e w' => DivP w w' (val a.l) (val b.l) e := by
  have HC := big_compare a b w ha hb na nb
  have hu0 : 0 ≤ ucmp (val a.l) (val b.l) := by
    rcases Int.lt_or_le (val b.l) (val a.l) with h | h
    · rw [ucmp_gt h]; omega
    · rw [ucmp_eq (by omega)]; exact Int.le_refl _
  generalize ucmp (val a.l) (val b.l) = cm at *
  have HA := Lib.hid ha
  have HB := Lib.hid hb
  have NA := Lib.hid na.ok
  have hd : ∃ dv, b.l = [dv] ∧ 0 < dv ∧ dv < 1048576 := by
    rcases hbl : b.l with _ | ⟨dv, _ | _⟩
    · rw [hbl] at hl1; cases hl1
    · rw [hbl] at nb
      have h1 := nb.ok dv (by simp)
      have h2 := nb.top dv (by simp)
      exact ⟨dv, rfl, by omega, h1.2⟩
    · rw [hbl] at hl1; simp at hl1
  obtain ⟨dv, hbl, hd0, hd1⟩ := hd
  have hvb : val b.l = dv := by rw [hbl]; simp [val]
  obtain ⟨A, c, l⟩ := a
  obtain ⟨B, d, m⟩ := b
  simp only at hbl
  subst hbl
  rw [hvb]
  simp only at hla hvb
  clear ha hb na nb hle hl1 hvb
  simp only [Sl.v] at HC ⊢
  go_enter Tryz.func162, Tryz.ntmps162
  go_wp2_with fail
  refine HC.mono ?_
  rintro e w1 ⟨rfl, hb1⟩
  have HB1 := Lib.hid hb1
  obtain ⟨b1, o1, hB, _, c0⟩ := (HB.out.later HB1.out).geti (show 0 < [dv].length by simp)
  simp only at hB
  subst hB
  simp only [List.getElem_cons_zero, Nat.add_zero] at c0
  clear HC hb1
  go_wp2_with fail
  refine (big_short ⟨A, c, l⟩ dv _ (HA.out.later HB1.out) NA.out (by simp only; omega) hd0 hd1).mono ?_
  rintro e w2 ⟨⟨qA, qc, ql⟩, rfl, hq, hown, hb2⟩
  have HO := Lib.hid hown
  have HQ := Lib.hid hq
  have HB2 := Lib.hid hb2
  have HBA := Lib.hid (HB1.out.trans (hb2.mono HB1.out.size))
  have hr0 := Int.emod_nonneg (val l) (show dv ≠ 0 by omega)
  have hr1 := Int.emod_lt_of_pos (val l) hd0
  have HRL : Hid (trimL [val l % dv] = digs (val l % dv).toNat) := Lib.hid (trim_one hr0 (by omega))
  generalize hR : val l % dv = R at *
  have HRR := Lib.hid hR
  have hs2 := HBA.out.size
  clear hown hb2 hq c0 hR
  simp only [Sl.v]
  go_wp2_with fail
  refine (trim_oi (B := w2.heap.size) (L := [R]) _ (OI.new w2 [R] (by simp [maxLen])) rfl).mono ?_
  rintro e w' ⟨rfl, rfl⟩
  go_wp2_with fail
  have hm1 : ∀ b, Nw w1.heap.size w2 b → Nw w.heap.size (w2.alloc (.cells (ints [R]) 3)) b := fun b hb => hb.mono HB1.out.size (by simp)
  try simp only [Exit.inBlock, Exit.then]
  refine bodyPost_ret (v := .tuple #[.slice qA ql.length qc, .slice (some ⟨w2.heap.size, 0, none⟩) (trimL [R]).length 1]) ?_ rfl ⟨⟨qA, qc, ql⟩, ⟨some ⟨w2.heap.size, 0, none⟩, 1, trimL [R]⟩, rfl, HQ.out, HRL.out.trans (by rw [HRR.out]), (HO.out.nw.up (fun _ h => h.lt) qbl).mono hm1, ((OI.new w2 [R] (by simp [maxLen])).rd.trim).mono (fun b hb => nw_one HB1.out.size HB2.out.size hb), (by repeat (first | (with_reducible exact HBA.out) | (with_reducible exact Below.refl _ _) | ((with_reducible refine below_setr ?_ ?_); focus (first | (simp; done) | (simp; omega) | omega)) | ((with_reducible refine below_allocr ?_ ?_); focus (first | (simp; done) | (simp; omega) | omega)) | (with_reducible refine Below.drew ?_) | (with_reducible refine below_drewN ?_ _)))⟩
  simp [results, Tryz.results162, go_sem, ]
end Go.Proofs.YtcgocdhhneckhaaGreat
