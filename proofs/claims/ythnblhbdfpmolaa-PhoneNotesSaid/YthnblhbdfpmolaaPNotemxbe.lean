/- The play as data; what the site has of each device. -/
import Derived.Test.YthnblhbdfpmolaaPNotemxba
import Derived.Test.YthnblhbdfpmolaaPNotemxbd
import Derived.Test.YthnblhbdfpmolaaPNotemxau
import Derived.Test.YthnblhbdfpmolaaPNotemxax
namespace Go.Proofs.Ythnblhbdfpmolaa
open Go.RowKit
structure PlD where
  P : List PhoneD
  S : List StockD
  T : List Int
  H : List Int
  Q : List (List Int)
  N : List NoteD
def PlM.d (m : PlM) : PlD := ⟨m.P.l.map Phone.d, m.S.l.map Stock.d, m.T.l, m.H.l, m.Q.l.map Sl.l, m.N.l.map Note.d⟩
def count1 (acc : List Int) (d : Int) : List Int := if 0 ≤ d ∧ d < 12 then acc.set d.toNat (acc.getD d.toNat 0 + 1) else acc
theorem count1_in {acc : List Int} {d : Nat} (h : d < 12) : count1 acc d = acc.set d (acc.getD d 0 + 1) := by
  unfold count1; rw [if_pos ⟨by omega, by omega⟩]; simp only [Int.toNat_natCast]
theorem count1_out {acc : List Int} {d : Int} (h : ¬ (0 ≤ d ∧ d < 12)) : count1 acc d = acc := by unfold count1; rw [if_neg h]
def countGo (acc : List Int) : List NoteD → List Int
  | [] => acc
  | n :: r => countGo (count1 acc n.dev) r
def zl12 : List Int := List.replicate 12 0
def countsN (l : List NoteD) : List Int := countGo zl12 l
theorem make_zl12 (w : World) : (Instr.makeSlice 24 (.int .i64 12) (.int .i64 12)).run Try.prog w = .ok (.slice (some ⟨w.heap.size, 0, none⟩) 12 12) (w.alloc (.cells (dnC zl12) 3)) := by kernel_rfl
theorem dn_rd2 {l : List Int} {w : World} {g : Nat} {t : TypeId} (h : Blk w g t (dnC l)) (hl : l.length ≤ maxLen) : Rd (fun b => b = g ∧ b < w.heap.size) 1 ienc w ⟨some ⟨g, 0, none⟩, l.length, l⟩ := by
  refine ⟨Nat.le_refl _, hl, fun hn => (by cases hn), fun i x hx => ⟨g, 0, rfl, ⟨rfl, h.lt⟩, fun j u hu => ?_⟩⟩
  have hj : j = 0 := by
    have := (List.getElem?_eq_some_iff.1 hu).1
    simp [ienc] at this; omega
  subst hj
  have hi : i < l.length := (List.getElem?_eq_some_iff.1 hx).1
  have := dn_cell h hi
  simp only [ienc, List.getElem?_cons_zero, Option.some.injEq] at hu
  rw [Nat.zero_add, Nat.mul_one, Nat.add_zero, this, ← hu]
  simp [List.getD, hx]
theorem countGo_drop {acc : List Int} {l : List NoteD} {m : Nat} (h : m < l.length) : countGo acc (l.drop m) = countGo (count1 acc l[m].dev) (l.drop (m + 1)) := by
  rw [List.drop_eq_getElem_cons h]; rfl
theorem Blk.b6 {w : World} {g : Nat} {t : TypeId} {x y z s r u : Value} (h : Blk w g t #[x, y, z, s, r, u]) : w.cell? ⟨g, 0, none⟩ = some x ∧ w.cell? ⟨g, 1, none⟩ = some y ∧ w.cell? ⟨g, 2, none⟩ = some z ∧ w.cell? ⟨g, 3, none⟩ = some s ∧ w.cell? ⟨g, 4, none⟩ = some r ∧ w.cell? ⟨g, 5, none⟩ = some u ∧ (∀ o, w.frozen? ⟨g, o, none⟩ = false) ∧ g < w.heap.size :=
  ⟨h.cell 0, h.cell 1, h.cell 2, h.cell 3, h.cell 4, h.cell 5, h.frozen, h.lt⟩
set_option maxHeartbeats 1000000 in
theorem pcounts (B : Nat) (m : PlM) (w : World) (h : PlayAt B w m) (hN : m.N.l.length ≤ 10000) :
    Calls Try.prog 97 #[.pointer (some ⟨m.g, 0, none⟩)] w fun e w' => ∃ x : Sl Int, e = .returned (.slice x.A x.l.length x.c) ∧ x.l = countsN (m.N.l.map Note.d) ∧ Rd (fun b => w.heap.size ≤ b ∧ b < w'.heap.size) 1 ienc w' x ∧ Below w.heap.size w w' := by
  have hr := h.rN
  have hG := h.G
  have hbx := h.box
  obtain ⟨g, P, S, T, H, Q, ⟨NA, nc, nl⟩, G⟩ := m
  simp only at hN hr hG hbx
  have HR := Lib.hid hr
  have HG := Lib.hid hG
  have HBX := Lib.hid hbx
  clear hr hG hbx h
  have hmk := make_zl12
  go_enter Try.func97, Try.ntmps97
  go_wp2_with fail
  clear hmk
  go_loopw [4, 5] (fun i _ wr => ∃ (k : Nat) (dn : List Int), k ≤ nl.length ∧ i = .int .i64 k ∧ dn.length = 12 ∧ (∀ j, 0 ≤ dn.getD j 0 ∧ dn.getD j 0 ≤ k) ∧ countGo dn ((nl.map Note.d).drop k) = countsN (nl.map Note.d) ∧ Blk wr w.heap.size 3 (dnC dn) ∧ Below w.heap.size w wr) (fun i _ _ => nl.length - (intOf i).toNat)
  case atStart => exact ⟨0, zl12, by omega, rfl, rfl, fun j => by simp only [zl12, List.getD_eq_getElem?_getD, List.getElem?_replicate]; split <;> simp, rfl, Blk.new _ _ _, qbl⟩
  case round =>
    obtain ⟨k, dn, hk, rfl, hdl, hdb, hco, hbk, hbel⟩ := hrel
    obtain ⟨b0, b1, b2, b3, b4, b5, bf, bz⟩ := (HBX.out.later hbel).b6
    by_cases hkl : k < nl.length
    · have hkl' : (k : Int) < (nl.length : Int) := by omega
      obtain ⟨b, o, hA, hGb, hcl⟩ := HR.out.1.at1 hkl
      simp only at hA
      subst hA
      obtain ⟨g0, g1, g2, g3, g4⟩ := Cells.c5 (hcl.keep (hbel.block b (HG.out b hGb).1))
      rw [countGo_drop (by simpa using hkl)] at hco
      simp only [List.getElem_map] at hco
      clear hcl
      generalize nl[k] = x at *
      obtain ⟨xd, xq, ⟨xA, xc, xl⟩, xt, xx⟩ := x
      simp only [Note.d] at hco
      have HCO := Lib.hid hco
      have HDB := Lib.hid hdb
      have HBK := Lib.hid hbk
      have HDL := Lib.hid hdl
      clear hco hdb hbk hdl
      by_cases h1 : 0 ≤ xd
      · by_cases h2 : xd < 12
        · obtain ⟨d, rfl⟩ := Int.eq_ofNat_of_zero_le h1
          have hd : d < 12 := by omega
          have hck := dn_cell HBK.out (show d < dn.length by rw [HDL.out]; exact hd)
          have hfz := HBK.out.frozen d
          have hbs := HBK.out.set_ d (.int .i64 (dn.getD d 0 + 1))
          rw [dn_set] at hbs
          have hd0 := HDB.out d
          have hw1 : IntKind.i64.wrap (dn.getD d 0 + 1) = dn.getD d 0 + 1 := by rw [IntKind.wrap_i64]; omega
          have HBS := Lib.hid hbs
          have HD0 := Lib.hid hd0
          clear hbs hd0
          generalize hdv : dn.getD d 0 = dv at *
          have HDV := Lib.hid hdv
          clear hdv
          go_wp2_with fail
          go_roundw
          case rel =>
            refine ⟨k + 1, dn.set d (dv + 1), by omega, by go_num, by rw [List.length_set]; exact HDL.out, fun j => ?_, ?_, HBS.out, qbv⟩
            · have h3 := HDB.out j
              have h4 := HD0.out
              simp only [List.getD_eq_getElem?_getD, List.getElem?_set] at h3 ⊢
              split
              · split
                · simp; omega
                · simp; omega
              · omega
            · rw [← HCO.out, count1_in hd, HDV.out]
          case measure => simp [intOf]; omega
        · go_wp2_with fail
          go_roundw
          case rel => exact ⟨k + 1, dn, by omega, by go_num, HDL.out, fun j => by have := HDB.out j; omega, by rw [← HCO.out, count1_out (fun h => h2 h.2)], HBK.out, hbel⟩
          case measure => simp [intOf]; omega
      · go_wp2_with fail
        go_roundw
        case rel => exact ⟨k + 1, dn, by omega, by go_num, HDL.out, fun j => by have := HDB.out j; omega, by rw [← HCO.out, count1_out (fun h => h1 h.1)], HBK.out, hbel⟩
        case measure => simp [intOf]; omega
    · obtain rfl : k = nl.length := by omega
      rw [List.drop_eq_nil_of_le (by simp)] at hco
      have HCO : Hid (dn = countsN (nl.map Note.d)) := Lib.hid hco
      have HBK := Lib.hid hbk
      have HDL := Lib.hid hdl
      clear hco hbk hdb hdl
      go_wp2_with fail
      go_ret
      refine ⟨⟨some ⟨w.heap.size, 0, none⟩, 12, dn⟩, by simp [HDL.out], HCO.out, ?_, hbel⟩
      have := dn_rd2 HBK.out (by rw [HDL.out]; simp [maxLen])
      rw [HDL.out] at this
      exact this.mono (fun b hb => ⟨Nat.le_of_eq hb.1.symm, hb.2⟩)
end Go.Proofs.Ythnblhbdfpmolaa
/- Nothing is promised twice: fine returns true. -/
namespace Go.Proofs.Ythnblhbdfpmolaa
open Go.RowKit
def qsum (Q : List (List Int)) (k : Nat) : Int := (Q.map (fun q => q.getD k 0)).sum
theorem qsum_succ {Q : List (List Int)} {k i : Nat} (hi : i < Q.length) : qsum (Q.take (i + 1)) k = qsum (Q.take i) k + Q[i].getD k 0 := by
  unfold qsum
  rw [List.take_succ_eq_append_getElem hi, List.map_append, List.sum_append]; simp
theorem qsum_nn {Q : List (List Int)} {k : Nat} (h : ∀ q, q ∈ Q → 0 ≤ q.getD k 0) : 0 ≤ qsum Q k := by
  induction Q with
  | nil => simp [qsum]
  | cons q Q ih =>
    have h1 := h q (by simp)
    have h2 := ih (fun q hq => h q (List.mem_cons_of_mem _ hq))
    simp only [qsum, List.map_cons, List.sum_cons] at h2 ⊢
    omega
theorem qsum_le {Q : List (List Int)} {k i : Nat} (h : ∀ q, q ∈ Q → 0 ≤ q.getD k 0) : qsum (Q.take i) k ≤ qsum Q k := by
  have h1 : qsum Q k = qsum (Q.take i) k + qsum (Q.drop i) k := by
    unfold qsum
    conv => lhs; rw [← List.take_append_drop i Q]
    rw [List.map_append, List.sum_append]
  have := qsum_nn (Q := Q.drop i) (k := k) (fun q hq => h q (List.mem_of_mem_drop hq))
  omega
structure FineD (d : PlD) : Prop where
  lT : d.T.length = d.S.length
  lH : d.H.length = d.S.length
  lq : ∀ q, q ∈ d.Q → q.length = d.S.length
  right : ∀ s, s ∈ d.S → s.right = true
  T0 : ∀ k, 0 ≤ d.T.getD k 0
  H0 : ∀ k, 0 ≤ d.H.getD k 0
  q0 : ∀ q, q ∈ d.Q → ∀ k, 0 ≤ q.getD k 0
  U : ∀ k, (hk : k < d.S.length) → d.S[k].U = d.T.getD k 0 + d.H.getD k 0
  le : ∀ k, (hk : k < d.S.length) → d.T.getD k 0 + d.H.getD k 0 + qsum d.Q k ≤ d.S[k].T
  n : d.S.length ≤ 3
  m : d.Q.length = 3
theorem StockD.right_T {x : StockD} (h : x.right = true) : 0 ≤ x.T ∧ x.T ≤ 1000000000000000 := by
  unfold StockD.right at h
  split at h
  · rename_i h0; exact ⟨h0.1, h0.2.1⟩
  · cases h
theorem getD_at {l : List Int} {k : Nat} (h : k < l.length) : l.getD k 0 = l[k] := by simp [List.getD, h]
set_option maxHeartbeats 1000000 in
theorem pfine (B : Nat) (m : PlM) (w : World) (h : PlayAt B w m) (hf : FineD m.d) :
    Calls Try.prog 49 #[.pointer (some ⟨m.g, 0, none⟩)] w fun e w' => e = .returned (.bool true) ∧ Below w.heap.size w w' := by
  have HP := Lib.hid h
  have HF := Lib.hid hf
  have hsl : m.S.l.length ≤ 3 := by have := hf.n; simpa [PlM.d] using this
  have hql : m.Q.l.length = 3 := by have := hf.m; simpa [PlM.d] using this
  clear h hf
  go_enter Try.func49, Try.ntmps49
  go_wp2_with fail
  go_loopw [3, 4, 5, 6] (fun i _ _ _ wr => ∃ (k : Nat), k ≤ m.S.l.length ∧ i = .int .i64 k ∧ Below w.heap.size w wr) (fun i _ _ _ _ => m.S.l.length - (intOf i).toNat)
  case atStart => exact ⟨0, by omega, rfl, Below.refl _ _⟩
  case round =>
    obtain ⟨k, hk, rfl, hbel⟩ := hrel
    have hp := HP.out.below hbel
    obtain ⟨b0, b1, b2, b3, b4, b5, bf, bz⟩ := hp.box.b6
    by_cases hkl : k < m.S.l.length
    · have hkl' : (k : Int) < (m.S.l.length : Int) := by omega
      have hkd : k < m.d.S.length := by simpa [PlM.d] using hkl
      have hkT : k < m.T.l.length := by have := HF.out.lT; simp only [PlM.d, List.length_map] at this; omega
      have hkH : k < m.H.l.length := by have := HF.out.lH; simp only [PlM.d, List.length_map] at this; omega
      obtain ⟨sb, so, hSA, _, hcS⟩ := (hp.S.rd Stock.k).at1 hkl
      obtain ⟨tb, to, hTA, _, hcT⟩ := (hp.T.rd ienc_k).at1 hkT
      obtain ⟨hb, ho, hHA, _, hcH⟩ := (hp.H.rd ienc_k).at1 hkH
      obtain ⟨s0, s1, s2⟩ := hcS.c3
      have t0 := hcT.c1
      have h0 := hcH.c1
      simp only [Nat.mul_one] at t0 h0
      have hri := HF.out.right m.S.l[k].d (by simp only [PlM.d]; exact List.mem_map_of_mem (List.getElem_mem hkl))
      have hU := HF.out.U k hkd
      have hle := HF.out.le k hkd
      have hT0 := HF.out.T0 k
      have hH0 := HF.out.H0 k
      have hq0 := HF.out.q0
      have hrd := hp.rS m.S.l[k] (List.getElem_mem hkl)
      have hG := hp.G
      simp only [PlM.d, List.getElem_map] at hU hle hT0 hH0
      rw [getD_at hkT, getD_at hkH] at hU hle
      rw [getD_at hkT] at hT0
      rw [getD_at hkH] at hH0
      have hTT := StockD.right_T hri
      have hqn := qsum_nn (Q := m.Q.l.map Sl.l) (k := k) (fun q hq => hq0 q hq k)
      have hqi : ∀ i, qsum ((m.Q.l.map Sl.l).take i) k ≤ qsum (m.Q.l.map Sl.l) k := fun i => qsum_le (fun q hq => hq0 q hq k)
      have hqj : ∀ i, 0 ≤ qsum ((m.Q.l.map Sl.l).take i) k := fun i => qsum_nn (fun q hq => hq0 q (List.mem_of_mem_take hq) k)
      rw [hSA] at b1
      rw [hTA] at b2
      rw [hHA] at b3
      clear hcS hcT hcH
      have hkS' : (k : Int) < (m.T.l.length : Int) := by omega
      have hkH' : (k : Int) < (m.H.l.length : Int) := by omega
      generalize m.T.l[k] = tv at *
      generalize m.H.l[k] = hv at *
      generalize m.S.l[k] = s at *
      obtain ⟨sT, sU, ⟨sA, sc, sl⟩⟩ := s
      simp only [Stock.d] at hri hU hle hTT
      subst hU
      have HRI := Lib.hid hri
      have HRD : Hid (Rd (· < wr.heap.size) 3 Loan.enc wr ⟨sA, sc, sl⟩) := Lib.hid (hrd.mono (fun b hb => (hG b hb).1))
      have HQI := Lib.hid hqi
      have HQJ := Lib.hid hqj
      have hw1 : IntKind.i64.wrap (tv + hv) = tv + hv := by rw [IntKind.wrap_i64]; omega
      clear hri hrd hG hp hq0 hSA hTA hHA hqi hqj
      have q0 := kal (.cells #[.int .i64 sT, .int .i64 (tv + hv), .slice sA sl.length sc] 66) b2
      have q1 := kal (.cells #[.int .i64 sT, .int .i64 (tv + hv), .slice sA sl.length sc] 66) b3
      have q2 := kal (.cells #[.int .i64 sT, .int .i64 (tv + hv), .slice sA sl.length sc] 66) t0
      have q3 := kal (.cells #[.int .i64 sT, .int .i64 (tv + hv), .slice sA sl.length sc] 66) h0
      go_wp2_with fail
      refine wp_region_T (fun w' => w'.cell? ⟨m.g, 2, none⟩ = some (.slice (some ⟨tb, to, none⟩) m.T.l.length m.T.c) ∧ w'.cell? ⟨m.g, 3, none⟩ = some (.slice (some ⟨hb, ho, none⟩) m.H.l.length m.H.c) ∧ w'.cell? ⟨tb, to + k, none⟩ = some (.int .i64 tv) ∧ w'.cell? ⟨hb, ho + k, none⟩ = some (.int .i64 hv)) (fun _ => false) (by kernel_rfl) ⟨q0, q1, q2, q3⟩ (fun hHeld => ?_)
      refine qtq 0 ?_
      simp only [qsa, qsb, qsc]
      refine qtq 1 ?_
      simp only [qsa, qsb, qsc]
      refine qtq 2 ?_
      simp only [qsa, qsb, qsc]
      refine qtq 3 ?_
      simp only [qsa, qsb, qsc]
      refine qtq 4 ?_
      simp only [qsa, qsb, qsc]
      refine qtq 5 ?_
      simp only [qsa, qsb, qsc]
      refine qtq 6 ?_
      simp only [qsa, qsb, qsc]
      refine qtq 7 ?_
      simp only [qsa, qsb, qsc]
      refine qtq 8 ?_
      simp only [qsa, qsb, qsc]
      refine qtq 9 ?_
      simp only [qsa, qsb, qsc]
      refine qtq 10 ?_
      simp only [qsa, qsb, qsc]
      refine qtq 11 ?_
      simp only [qsa, qsb, qsc]
      refine qtq 12 ?_
      simp only [qsa, qsb, qsc]
      refine qtq 13 ?_
      simp only [qsa, qsb, qsc]
      refine qtq 14 ?_
      simp only [qsa, qsb, qsc]
      refine qtq 15 ?_
      simp only [qsa, qsb, qsc]
      refine wpAnyT_done (by kernel_rfl) ?_ _
      clear hHeld q0 q1 q2 q3
      go_wp2_with fail
      refine (stock_right ⟨sT, tv + hv, ⟨sA, sc, sl⟩⟩ _ (HRD.out.below' (Below.drew ((Below.refl _ _).alloc (Nat.le_refl _) _)) (Nat.le_refl _))).mono ?_
      rintro e w1 ⟨rfl, hb1⟩
      rw [show (Stock.d ⟨sT, tv + hv, ⟨sA, sc, sl⟩⟩).right = true from HRI.out]
      have hBr : Below wr.heap.size wr w1 := qbv
      have hX : Blk w1 wr.heap.size 66 #[.int .i64 sT, .int .i64 (tv + hv), .slice sA sl.length sc] := (Blk.new wr _ _).drew.later hb1
      obtain ⟨x0, x1, x2, xf, xz⟩ := hX.b3
      have hbel1 : Below w.heap.size w w1 := hbel.trans (hBr.mono hbel.size)
      have HX := Lib.hid hX
      clear hb1 hX b0 b1 b2 b3 b4 b5 bf bz t0 h0 s0 s1 s2 hbel
      go_wp2_with fail
      obtain ⟨wo, hwo⟩ : ∃ x, x = w1 := ⟨_, rfl⟩
      subst hwo
      go_loopw [5, 6] (fun v i wr => ∃ (j : Nat), j ≤ 3 ∧ i = .int .i64 j ∧ v = .int .i64 (tv + hv + qsum ((m.Q.l.map Sl.l).take j) k) ∧ Below wo.heap.size wo wr) (fun _ i _ => 3 - (intOf i).toNat)
      case atStart => exact ⟨0, by omega, rfl, by simp [qsum], Below.refl _ _⟩
      case round =>
        obtain ⟨j, hj, rfl, rfl, hbo⟩ := hrel
        have hp := (HP.out.below hbel1).below hbo
        obtain ⟨b0, b1, b2, b3, b4, b5, bf, bz⟩ := hp.box.b6
        rw [hql] at b4
        by_cases hj3 : j < 3
        · have hj3' : (j : Int) < 3 := by omega
          have hjq : j < m.Q.l.length := by omega
          obtain ⟨qb, qo, hQA, _, hcQ⟩ := (hp.Q.rd qenc_k).at1 hjq
          have hqm := List.getElem_mem hjq
          have hlk : k < m.Q.l[j].l.length := by
            have := HF.out.lq m.Q.l[j].l (by simp only [PlM.d]; exact List.mem_map_of_mem hqm)
            simp only [PlM.d, List.length_map] at this; omega
          obtain ⟨rb, ro, hRA, _, hcR⟩ := ((hp.q _ hqm).rd ienc_k).at1 hlk
          have g0 := hcQ.c1
          have r0 := hcR.c1
          simp only [Nat.mul_one] at g0 r0
          have hqs := qsum_succ (Q := m.Q.l.map Sl.l) (k := k) (i := j) (by simpa using hjq)
          simp only [List.getElem_map] at hqs
          rw [getD_at hlk] at hqs
          have hi1 := HQI.out j
          have hi2 := HQI.out (j + 1)
          have hi3 := HQJ.out j
          have hi4 := HQJ.out (j + 1)
          rw [hQA] at b4
          have hlk' : (k : Int) < (m.Q.l[j].l.length : Int) := by omega
          clear hcQ hcR
          generalize m.Q.l[j] = qr at *
          generalize qr.l[k] = qv at *
          obtain ⟨qA, qc, ql⟩ := qr
          simp only at hRA
          subst hRA
          simp only at hlk hlk'
          rw [hqs] at hi2 hi4
          have HQS := Lib.hid hqs
          generalize qsum ((m.Q.l.map Sl.l).take j) k = sm at *
          have hw2 : IntKind.i64.wrap (tv + hv + sm + qv) = tv + hv + sm + qv := by rw [IntKind.wrap_i64]; omega
          clear hqs hp hQA hi1 hi2 hi3 hi4 hqm
          go_wp2_with fail
          go_roundw
          case rel => exact ⟨j + 1, by omega, by go_num, by rw [HQS.out]; congr 1; omega, hbo⟩
          case measure => simp [intOf]; omega
        · obtain rfl : j = 3 := by omega
          have hX := HX.out.later hbo
          obtain ⟨y0, y1, y2, yf, yz⟩ := hX.b3
          have hfull : (m.Q.l.map Sl.l).take 3 = m.Q.l.map Sl.l := List.take_of_length_le (by simp; omega)
          rw [hfull]
          have hle' : ¬ (sT < tv + hv + qsum (m.Q.l.map Sl.l) k) := by omega
          have hbelF : Below w.heap.size w wr := hbel1.trans (hbo.mono hbel1.size)
          clear hX hfull hp x0 x1 x2 xf
          go_wp2_with fail
          go_roundw
          case rel => exact ⟨k + 1, by omega, by go_num, hbelF⟩
          case measure => simp [intOf]; omega
    · go_wp2_with fail
      go_ret
      exact ⟨rfl, hbel⟩
end Go.Proofs.Ythnblhbdfpmolaa
/- A phone joins: what comes back, kept apart. -/
namespace Go.Proofs.Ythnblhbdfpmolaa
open Go.RowKit
theorem Rd.both {α : Type} {F G : Nat → Prop} {k : Nat} {enc : α → List Value} {w w2 : World} {s : Sl α} (h1 : Rd F k enc w s) (h2 : Rd G k enc w2 s) : Rd (fun b => F b ∧ G b) k enc w s := by
  refine ⟨h1.1, h1.2.1, h1.2.2.1, fun i x hx => ?_⟩
  obtain ⟨b, o, hA, hF, hc⟩ := h1.2.2.2 i x hx
  obtain ⟨b', o', hA', hG, _⟩ := h2.2.2.2 i x hx
  rw [hA] at hA'
  injection hA' with hA'
  injection hA' with hA'
  subst hA'
  exact ⟨b, o, hA, ⟨hF, hG⟩, hc⟩
theorem RdNotes.both {F G : Nat → Prop} {w w2 : World} {s : Sl Note} (h1 : RdNotes F w s) (h2 : RdNotes G w2 s) : RdNotes (fun b => F b ∧ G b) w s := ⟨h1.1.both h2.1, fun n hn => (h1.2 n hn).both (h2.2 n hn)⟩
theorem RdPhone.both {F G : Nat → Prop} {w w2 : World} {p : Phone} (h1 : RdPhone F w p) (h2 : RdPhone G w2 p) : RdPhone (fun b => F b ∧ G b) w p := ⟨h1.1.both h2.1, h1.2.1.both h2.2.1, h1.2.2.both h2.2.2⟩
/-- What a phone and stocks lead to that are new: not the row of the stocks, nor a box. -/
def NewX (n : Nat) (W : World) (gx : Nat) (s' : Sl Stock) (b : Nat) : Prop := (n ≤ b ∧ b < W.heap.size) ∧ b ≠ gx ∧ ∀ g, s'.A = some ⟨g, 0, none⟩ → b ≠ g
structure NewPS (n : Nat) (W : World) (gx : Nat) (p' : Phone) (s' : Sl Stock) : Prop where
  phone : RdPhone (NewX n W gx s') W p'
  row : Own n 66 3 Stock.enc W s'
  ne : ∀ g, s'.A = some ⟨g, 0, none⟩ → g ≠ gx
  loans : ∀ x, x ∈ s'.l → Rd (NewX n W gx s') 3 Loan.enc W x.L
theorem NewPS.of {n : Nat} {w1 w' W : World} {gx : Nat} {p' : Phone} {s' : Sl Stock} (hn : n ≤ w1.heap.size) (hsz : w'.heap.size ≤ W.heap.size) (hk : ∀ b, b < w'.heap.size → W.heap[b]? = w'.heap[b]?) (hgx : gx < w1.heap.size ∨ w'.heap.size ≤ gx)
    (h1 : RdPhone (fun b => w1.heap.size ≤ b ∧ b < w'.heap.size) w' p') (h2 : RdStocks (fun b => w1.heap.size ≤ b ∧ b < w'.heap.size) w' s') (h3 : Own w1.heap.size 66 3 Stock.enc w' s') (h4 : SepR p' s') : NewPS n W gx p' s' := by
  have hrow : Own n 66 3 Stock.enc W s' := (h3.keepr fun g hg => hk g (h3.bound g hg)).mono hn
  have hne : ∀ g, s'.A = some ⟨g, 0, none⟩ → g ≠ gx := fun g hg => by
    have := h3.bound g hg
    have := h3.lo g hg
    omega
  obtain ⟨W0, hs⟩ := h4
  rcases h3.form with ⟨hA, _⟩ | ⟨g, hA, _⟩
  · have hv : ∀ b, (w1.heap.size ≤ b ∧ b < w'.heap.size) → NewX n W gx s' b := fun b hb => ⟨⟨by omega, by omega⟩, by omega, fun g hg => by rw [hA] at hg; cases hg⟩
    exact ⟨(h1.keep fun b hb => hk b hb.2).mono hv, hrow, hne, fun x hx => ((h2.2 x hx).keep fun b hb => hk b hb.2).mono hv⟩
  · obtain ⟨e1, e2⟩ := hs g hA
    have hv : ∀ b, ((w1.heap.size ≤ b ∧ b < w'.heap.size) ∧ b ≠ g) → NewX n W gx s' b := fun b hb => ⟨⟨by omega, by omega⟩, by omega, fun g' hg => by
      rw [hA] at hg; injection hg with hg; injection hg with hg; subst hg; exact hb.2⟩
    exact ⟨((h1.both e1).keep fun b hb => hk b hb.1.2).mono hv, hrow, hne, fun x hx => (((h2.2 x hx).both (e2 x hx)).keep fun b hb => hk b hb.1.2).mono hv⟩
/-- A store into the box, and what is new stays. -/
theorem NewPS.keep {n : Nat} {W W' : World} {gx : Nat} {p' : Phone} {s' : Sl Stock} (h : NewPS n W gx p' s') (hsz : W'.heap.size = W.heap.size) (hk : ∀ b, b ≠ gx → W'.heap[b]? = W.heap[b]?) : NewPS n W' gx p' s' := by
  have hX : ∀ b, NewX n W gx s' b → NewX n W' gx s' b := fun b hb => by unfold NewX at hb ⊢; rw [hsz]; exact hb
  exact ⟨(h.phone.keep fun b hb => hk b hb.2.1).mono hX, h.row.keepr fun g hg => hk g (h.ne g hg), h.ne, fun x hx => ((h.loans x hx).keep fun b hb => hk b hb.2.1).mono hX⟩
/-- What Join gave. -/
def JRes (n : Nat) (W : World) (gx : Nat) (E : Int) (p' : Phone) (s' : Sl Stock) (n' : Sl Note) : Prop :=
  (E ≠ 0 ∧ n' = ⟨none, 0, []⟩) ∨ (E = 0 ∧ NewPS n W gx p' s' ∧ RdNotes (fun b => (n ≤ b ∧ b < W.heap.size) ∧ b ≠ gx) W n')
theorem JRes.of {n : Nat} {w1 w' W : World} {gx : Nat} {E : Int} {p0 p' : Phone} {s0 s' : Sl Stock} {n' : Sl Note} (hn : n ≤ w1.heap.size) (hsz : w'.heap.size ≤ W.heap.size) (hk : ∀ b, b < w'.heap.size → W.heap[b]? = w'.heap[b]?) (hgx : gx < w1.heap.size ∨ w'.heap.size ≤ gx)
    (h : (E ≠ 0 ∧ p' = p0 ∧ s' = s0 ∧ n' = ⟨none, 0, []⟩) ∨ (E = 0 ∧ RdPhone (fun b => w1.heap.size ≤ b ∧ b < w'.heap.size) w' p' ∧ RdStocks (fun b => w1.heap.size ≤ b ∧ b < w'.heap.size) w' s' ∧ RdNotes (fun b => w1.heap.size ≤ b ∧ b < w'.heap.size) w' n' ∧ Own w1.heap.size 66 3 Stock.enc w' s' ∧ SepR p' s')) : JRes n W gx E p' s' n' := by
  rcases h with ⟨h, _, _, h'⟩ | ⟨h, h1, h2, h3, h4, h5⟩
  · exact .inl ⟨h, h'⟩
  · exact .inr ⟨h, NewPS.of hn hsz hk hgx h1 h2 h4 h5, (h3.keep fun b hb => hk b hb.2).mono fun b hb => ⟨⟨by omega, by omega⟩, by omega⟩⟩
theorem JRes.keep {n : Nat} {W W' : World} {gx : Nat} {E : Int} {p' : Phone} {s' : Sl Stock} {n' : Sl Note} (h : JRes n W gx E p' s' n') (hsz : W'.heap.size = W.heap.size) (hk : ∀ b, b ≠ gx → W'.heap[b]? = W.heap[b]?) : JRes n W' gx E p' s' n' := by
  rcases h with h | ⟨h, h1, h2⟩
  · exact .inl h
  · exact .inr ⟨h, h1.keep hsz hk, (h2.keep fun b hb => hk b hb.2).mono fun b hb => by rw [hsz]; exact hb⟩
def zipA (a b : List Int) : List Int := List.zipWith (· + ·) a b
def PlD.join (d : PlD) (i : Nat) (p : PhoneD) (q : List Int) : PlD :=
  if (p.join d.S (countsN d.N)).2.2.2 = 0 then ⟨d.P.set i (p.join d.S (countsN d.N)).1, (p.join d.S (countsN d.N)).2.1, d.T, zipA d.H q, d.Q.set i (q.map fun _ => 0), (mergeN d.N (p.join d.S (countsN d.N)).2.2.1).1⟩ else d
/-- What a phone needs that is to join. -/
structure JoinOK (d : PlD) (i : Nat) (p : PhoneD) (q : List Int) : Prop where
  P : d.P[i]? = some p
  Q : d.Q[i]? = some q
  i3 : i < 3
  lP : d.P.length = 3
  lQ : d.Q.length = 3
  lS : d.S.length ≤ 3
  lH : d.H.length = q.length
  lHS : d.H.length ≤ 3
  bH : ∀ k, 0 ≤ d.H.getD k 0 ∧ d.H.getD k 0 ≤ 1000000000000000
  bq : ∀ k, 0 ≤ q.getD k 0 ∧ q.getD k 0 ≤ 1000000000000000
  lN : d.N.length + p.N.length ≤ 10000
  ok : (p.join d.S (countsN d.N)).2.2.2 = 0 → (mergeN d.N p.N).2 = 0 ∧ (p.join d.S (countsN d.N)).2.1.length = d.S.length ∧ (p.join d.S (countsN d.N)).2.2.1 = p.N
theorem Own.setPhone {B g c : Nat} {w : World} {l : List Phone} (h : Own B 33 5 Phone.enc w ⟨some ⟨g, 0, none⟩, c, l⟩) {i : Nat} {x : Phone} (y : Phone) (hx : l[i]? = some x) : Own B 33 5 Phone.enc (((((w.setCell ⟨g, i * 5, none⟩ (.int .i64 y.id)).setCell ⟨g, i * 5 + 1, none⟩ (.bool y.cut)).setCell ⟨g, i * 5 + 2, none⟩ (.slice y.H.A y.H.l.length y.H.c)).setCell ⟨g, i * 5 + 3, none⟩ (.slice y.N.A y.N.l.length y.N.c)).setCell ⟨g, i * 5 + 4, none⟩ (.slice y.S.A y.S.l.length y.S.c)) ⟨some ⟨g, 0, none⟩, c, l.set i y⟩ := by
  have hi : i < l.length := (List.getElem?_eq_some_iff.1 hx).1
  have h0 := h.set Phone.k rfl hx (j := 0) (y := ⟨y.id, x.cut, x.H, x.N, x.S⟩) (u := .int .i64 y.id) (by omega) rfl
  have h1 := h0.set Phone.k rfl (i := i) (x := ⟨y.id, x.cut, x.H, x.N, x.S⟩) (by simp only [List.getElem?_set_self hi]) (j := 1) (y := ⟨y.id, y.cut, x.H, x.N, x.S⟩) (u := .bool y.cut) (by omega) rfl
  have h2 := h1.set Phone.k rfl (i := i) (x := ⟨y.id, y.cut, x.H, x.N, x.S⟩) (by simp only [List.set_set, List.getElem?_set_self hi]) (j := 2) (y := ⟨y.id, y.cut, y.H, x.N, x.S⟩) (u := .slice y.H.A y.H.l.length y.H.c) (by omega) rfl
  have h3 := h2.set Phone.k rfl (i := i) (x := ⟨y.id, y.cut, y.H, x.N, x.S⟩) (by simp only [List.set_set, List.getElem?_set_self hi]) (j := 3) (y := ⟨y.id, y.cut, y.H, y.N, x.S⟩) (u := .slice y.N.A y.N.l.length y.N.c) (by omega) rfl
  have h4 := h3.set Phone.k rfl (i := i) (x := ⟨y.id, y.cut, y.H, y.N, x.S⟩) (by simp only [List.set_set, List.getElem?_set_self hi]) (j := 4) (y := ⟨y.id, y.cut, y.H, y.N, y.S⟩) (u := .slice y.S.A y.S.l.length y.S.c) (by omega) rfl
  simp only [List.set_set, Nat.add_zero] at h4
  exact h4
theorem pst_off (w : World) (g i : Nat) (y : Phone) : ∀ c, c ≠ g → (((((w.setCell ⟨g, i * 5, none⟩ (.int .i64 y.id)).setCell ⟨g, i * 5 + 1, none⟩ (.bool y.cut)).setCell ⟨g, i * 5 + 2, none⟩ (.slice y.H.A y.H.l.length y.H.c)).setCell ⟨g, i * 5 + 3, none⟩ (.slice y.N.A y.N.l.length y.N.c)).setCell ⟨g, i * 5 + 4, none⟩ (.slice y.S.A y.S.l.length y.S.c)).heap[c]? = w.heap[c]? := fun c hne => by
  rw [Below.heap_setCell _ _ _ _ hne, Below.heap_setCell _ _ _ _ hne, Below.heap_setCell _ _ _ _ hne, Below.heap_setCell _ _ _ _ hne, Below.heap_setCell _ _ _ _ hne]
theorem zipA_set {H q : List Int} {k : Nat} (h1 : k < H.length) (h2 : k < q.length) : (zipA (H.take k) (q.take k) ++ H.drop k).set k (H[k] + q[k]) = zipA (H.take (k + 1)) (q.take (k + 1)) ++ H.drop (k + 1) := by
  have hl : (zipA (H.take k) (q.take k)).length = k := by simp [zipA]; omega
  rw [List.take_succ_eq_append_getElem h1, List.take_succ_eq_append_getElem h2, List.drop_eq_getElem_cons h1]
  rw [List.set_append, if_neg (by omega), hl, Nat.sub_self, List.set_cons_zero]
  unfold zipA at *
  rw [List.zipWith_append (by simp; omega)]
  simp
theorem zeroA_set {q : List Int} {k : Nat} (h2 : k < q.length) : ((q.take k).map (fun _ => (0 : Int)) ++ q.drop k).set k 0 = (q.take (k + 1)).map (fun _ => 0) ++ q.drop (k + 1) := by
  have hl : ((q.take k).map (fun _ => (0 : Int))).length = k := by simp; omega
  rw [List.take_succ_eq_append_getElem h2, List.drop_eq_getElem_cons h2]
  rw [List.set_append, if_neg (by omega), hl, Nat.sub_self, List.set_cons_zero]
  rw [List.map_append, List.append_assoc]; rfl
end Go.Proofs.Ythnblhbdfpmolaa
/- Walks of the helpers of the laws of layer 43: the small examples. -/
namespace Go.Proofs.Ythnblhbdfpmolaa
open Go.RowKit
theorem cutT {G : Prop} (T : Prop) (main : T → G) (fin : T) : G := main fin
section
variable {P : Program} {ops : Array Oper} {Q : Exit → Act → World → Prop} {md : Region.Mode} {S : World → Prop} {T : Nat → Bool}
theorem wpAnyT_three {i j l : Nat} {o o' o'' : Oper} {fuel : Nat} {listed : Array Bool} {a : Act} {w : World} (hr : Region.ready md ops listed = [i, j, l]) (ho : ops[i]? = some o) (ho' : ops[j]? = some o') (ho'' : ops[l]? = some o'')
    (h : wpList P ops (QT Q fun a' w' => (T i = false → S w') ∧ wpAnyT P md ops Q S T fuel (listed.setIfInBounds i true) a' w') [o] a w)
    (h' : wpList P ops (QT Q fun a' w' => (T j = false → S w') ∧ wpAnyT P md ops Q S T fuel (listed.setIfInBounds j true) a' w') [o'] a w)
    (h'' : wpList P ops (QT Q fun a' w' => (T l = false → S w') ∧ wpAnyT P md ops Q S T fuel (listed.setIfInBounds l true) a' w') [o''] a w) : wpAnyT P md ops Q S T (fuel + 1) listed a w := by
  refine ⟨fun h0 => ?_, fun k hk => ?_⟩
  · rw [hr] at h0; cases h0
  · rw [hr] at hk
    rcases List.mem_cons.1 hk with rfl | hk
    · exact wpOp_of_list ho h
    · rcases List.mem_cons.1 hk with rfl | hk
      · exact wpOp_of_list ho' h'
      · rcases List.mem_singleton.1 hk with rfl
        exact wpOp_of_list ho'' h''
end
def nB : ByteArray := ⟨#[110]⟩
def P0 : PhoneD := ⟨3, false, [], [], List.replicate 12 0⟩
def P1 : PhoneD := ⟨3, false, [⟨0, 6, 0⟩], [], List.replicate 12 0⟩
def P2 : PhoneD := ⟨3, true, [⟨0, 6, 0⟩], [], List.replicate 12 0⟩
def P3 : PhoneD := ⟨3, true, [⟨0, 6, 4⟩], [⟨3, 0, List.replicate 12 0, 100, nB⟩], List.replicate 12 0⟩
def P4 : PhoneD := ⟨3, false, [], [⟨3, 0, List.replicate 12 0, 100, nB⟩], List.replicate 12 0⟩
theorem sm_new : newP 3 = (P0, 0) := rfl
theorem sm_lend : P0.lend [⟨10, 0, []⟩] 0 6 = (P1, [⟨10, 0, [⟨3, 6, 0⟩]⟩], 0) := by rfl
theorem sm_cut : P1.cutS = (P2, 0) := by rfl
theorem sm_pro1 : P2.promise 0 4 100 nB = (P3, 0) := by rfl
theorem sm_pro2 : (P3.promise 0 3 101 nB).2 = 21 := by rfl
theorem sm_pro3 : (P3.promise 0 2 99 nB).2 = 19 := by rfl
theorem sm_take1 : (StockD.take ⟨10, 0, [⟨3, 6, 0⟩]⟩ 5).2 = 21 := by rfl
theorem sm_take2 : StockD.take ⟨10, 0, [⟨3, 6, 0⟩]⟩ 4 = (⟨10, 4, [⟨3, 6, 0⟩]⟩, 0) := by rfl
theorem sm_join : P3.join [⟨10, 4, [⟨3, 6, 0⟩]⟩] (List.replicate 12 0) = (P4, [⟨10, 8, []⟩], P3.N, 0) := by rfl
theorem sm_right : P4.right = true := by rfl
theorem sm_free : StockD.free ⟨10, 8, []⟩ = 2 := by rfl
end Go.Proofs.Ythnblhbdfpmolaa
