/- Walks of the reference of layer 43: Loan, Copied, New, Cut. -/
import Derived.Test.YthnblhbdfpmolaaTellsmxay
import Derived.Test.YthnblhbdfpmolaaTellsmxao
namespace Go.Proofs.Ythnblhbdfpmolaa
open Go.RowKit
theorem infoRHold : Info Try.prog 59 (.agg #[.int .i64 0, .int .i64 0, .int .i64 0]) 3 24 := info_mk (by kernel_rfl) rfl
set_option maxHeartbeats 800000 in
theorem rloan (s : Stock) (p : Int) (w : World) (hr : Rd (· < w.heap.size) 3 Loan.enc w s.L) :
    Calls Try.prog 113 #[s.v, .int .i64 p] w fun e w' => e = .returned (.int .i64 (findK Loan.p p 0 s.L.l)) ∧ Below w.heap.size w w' := by
  obtain ⟨T, U, A, c, L⟩ := s
  have hn := hr.len
  simp only at hn
  have HR := Lib.hid hr
  clear hr
  simp only [Stock.v]
  go_enter Try.func113, Try.ntmps113
  go_wp2_with fail
  go_loopw [5] (fun i wr => ∃ (k : Nat), k ≤ L.length ∧ i = .int .i64 k ∧ Blk wr w.heap.size 66 #[.int .i64 T, .int .i64 U, .slice A L.length c] ∧ Below w.heap.size w wr ∧ findK Loan.p p 0 L = findK Loan.p p k (L.drop k)) (fun i _ => L.length - (intOf i).toNat)
  case atStart => exact ⟨0, by omega, rfl, Blk.new _ _ _, qbl, by simp⟩
  case round =>
    obtain ⟨k, hk, rfl, hblk, hbel, heq⟩ := hrel
    obtain ⟨a0, a1, a2, af, az⟩ := hblk.b3
    have B_a := Lib.hid hblk
    clear hblk
    have hhe : w.heap.size ≤ wr.heap.size := hbel.size
    by_cases hlt : k < L.length
    · obtain ⟨b, o, rfl, hb, hcl⟩ := HR.out.at1 hlt
      obtain ⟨g0, g1, g2⟩ := Cells.c3 (hcl.keep (hbel.block b hb))
      have hd : L.drop k = L[k] :: L.drop (k + 1) := List.drop_eq_getElem_cons hlt
      rw [hd] at heq
      have HE := Lib.hid heq
      clear hd heq hcl
      generalize L[k] = x at *
      obtain ⟨xp, xu, xs⟩ := x
      by_cases hx : xp = p
      · subst hx
        go_wp2_with fail
        go_ret
        exact ⟨ret_int (by rw [HE.out]; simp [findK]), hbel⟩
      · have hx' : (xp == p) = false := by simp [hx]
        have HX := Lib.hid hx
        clear hx
        go_wp2_with fail
        go_roundw
        case rel => exact ⟨k + 1, by omega, by go_num, B_a.out, hbel, by rw [HE.out]; exact findK_far HX.out⟩
        case measure => simp [intOf]; omega
    · have hkl : L.drop k = [] := List.drop_eq_nil_of_le (by omega)
      rw [hkl] at heq
      have HE := Lib.hid heq
      clear hkl heq
      go_wp2_with fail
      go_ret
      exact ⟨ret_int (by rw [HE.out]; rfl), hbel⟩
set_option maxHeartbeats 1600000 in
theorem rcopied43s (p : Phone) (w : World) (hr : RdPhone (· < w.heap.size) w p) (hbH : p.H.l.length * 24 ≤ 140737488355328) (hbN : p.N.l.length * 64 ≤ 140737488355328) (hbS : p.S.l.length * 8 ≤ 140737488355328) :
    Calls Try.prog 67 #[p.v] w fun e w' => ∃ HA Hc NA Nc SA Sc, e = .returned (Phone.v ⟨p.id, p.cut, ⟨HA, Hc, p.H.l⟩, ⟨NA, Nc, p.N.l⟩, ⟨SA, Sc, p.S.l⟩⟩) ∧
      Own w.heap.size 59 3 Hold.enc w' ⟨HA, Hc, p.H.l⟩ ∧ Own w.heap.size 61 5 Note.enc w' ⟨NA, Nc, p.N.l⟩ ∧ Own w.heap.size 3 1 ienc w' ⟨SA, Sc, p.S.l⟩ ∧ Apart HA NA ∧ Apart HA SA ∧ Apart NA SA ∧ HA ≠ none ∧ Below w.heap.size w w' := by
  obtain ⟨id, cut, ⟨HA, Hc, HL⟩, ⟨NA, Nc, NL⟩, ⟨SA, Sc, SL⟩⟩ := p
  have HR := Lib.hid hr
  clear hr
  simp only at hbH hbN hbS
  simp only [Phone.v]
  go_enter Try.func67, Try.ntmps67
  go_wp2_with (at_builtin
               go_must (refine wpl_append_sl _ rfl (.tmp 3) (.tmp 5) _ rfl Try.underlying22 infoRHold (by omega) Hold.k Hold.one ⟨some ⟨w.heap.size + 2, 0, none⟩, 0, []⟩ ⟨HA, Hc, HL⟩ rfl rfl (Own.lit0 Hold.k (base := w.heap.size + 2) (by simp) (by simp)) (HR.out.1.below' qbv (Nat.le_refl _)) (by have := HR.out.1.len; simp [maxLen] at this ⊢; omega) (by simp; omega) (by simp; try omega) ?_)
               intro A1 c1 w1 hown1 hg hat
               apply Hid.out)
  refine Lib.hid ?_
  simp only [List.nil_append] at hown1
  have l0 : w.heap.size < w.heap.size + 1 + 1 := by omega
  have K_a : Blk _ (w.heap.size) 26 #[.int .i64 id, .bool cut, .slice HA HL.length Hc, .slice NA NL.length Nc, .slice SA SL.length Sc] := blk_grown hg (by simp [hp_past, hp_at, hp_other, hp_same, hp_drew, hp_drewN, l0]) (by simp [Value.ownBlock])
  obtain ⟨a0, a1, a2, a3, a4, af, az⟩ := Blk.b5 K_a
  have B_a := Lib.hid K_a
  clear K_a
  have K_b : Blk _ (w.heap.size + 1) 26 #[.int .i64 0, .bool false, .slice none 0 0, .slice none 0 0, .slice none 0 0] := blk_grown hg (by simp [hp_past, hp_at, hp_other, hp_same, hp_drew, hp_drewN]) (by simp [Value.ownBlock])
  obtain ⟨b0, b1, b2, b3, b4, bf, bz⟩ := Blk.b5 K_b
  have B_b := Lib.hid K_b
  clear K_b
  have hB1 : Below w.heap.size w w1 := Below.grown qbl hg (by first | omega | (simp; done) | (simp; omega)) (by simp [Value.ownBlock])
  have HO1 := Lib.hid hown1
  have HU1 := Lib.hid hown1.bound
  have HNN : Hid (A1 ≠ none) := Lib.hid (by rcases hat with h | h <;> rw [h] <;> simp)
  clear hg hown1 hat
  go_wp2_with (at_builtin
               go_must (refine wpl_append_sl _ rfl (.tmp 8) (.tmp 10) _ rfl Try.underlying23 infoNote (by omega) Note.k Note.one ⟨some ⟨w1.heap.size, 0, none⟩, 0, []⟩ ⟨NA, Nc, NL⟩ rfl rfl (Own.lit0 Note.k (base := w1.heap.size) (by simp) (by simp)) (HR.out.2.1.1.below' qbv (Nat.le_refl _)) (by have := HR.out.2.1.1.len; simp [maxLen] at this ⊢; omega) (by simp; omega) (by simp; try omega) ?_)
               intro A2 c2 w2 hown2 hg hat
               apply Hid.out)
  refine Lib.hid ?_
  simp only [List.nil_append] at hown2
  clear a0 a1 a2 a3 a4 af b0 b1 b2 b3 b4 bf
  have n1 : w1.heap.size ≠ w.heap.size := by omega
  have n2 : w1.heap.size ≠ w.heap.size + 1 := by omega
  have K_a : Blk _ (w.heap.size) 26 #[.int .i64 id, .bool cut, .slice A1 HL.length c1, .slice NA NL.length Nc, .slice SA SL.length Sc] := blk_grown hg (by simp [hp_past, hp_at, hp_other, hp_same, hp_drew, hp_drewN, B_a.out.eq, B_a.out.lt, hp_same B_a.out.eq]) (by simp [Value.ownBlock, n1])
  obtain ⟨a0, a1, a2, a3, a4, af, az⟩ := Blk.b5 K_a
  have B_a := Lib.hid K_a
  clear K_a
  have K_b : Blk _ (w.heap.size + 1) 26 #[.int .i64 0, .bool false, .slice none 0 0, .slice none 0 0, .slice none 0 0] := blk_grown hg (by simp [hp_past, hp_at, hp_other, hp_same, hp_drew, hp_drewN, B_b.out.eq, B_b.out.lt, hp_same B_b.out.eq]) (by simp [Value.ownBlock, n2])
  obtain ⟨b0, b1, b2, b3, b4, bf, bz⟩ := Blk.b5 K_b
  have B_b := Lib.hid K_b
  clear K_b
  have hB2 : Below w.heap.size w w2 := Below.grown qbv hg (by first | omega | (simp; done) | (simp; omega)) (by simp [Value.ownBlock]; omega)
  have hx : Own (w.heap.size + 2) 59 3 Hold.enc ((w1.setCell ⟨w.heap.size, 2, none⟩ (.slice A1 HL.length c1)).alloc (.cells #[] 61)) ⟨A1, c1, HL⟩ := (by repeat (first | (with_reducible exact HO1.out) | ((with_reducible refine Own.farr ?_ ?_); focus (first | (simp; done) | (simp; omega) | omega)) | (with_reducible refine Own.alloc ?_ _) | (with_reducible refine Own.drew ?_) | (with_reducible refine Own.drewN ?_ _)))
  have HO1b := Lib.hid (Own.kept hx hg (.inr (by exact own_ne hx (.inr HU1.out))))
  have HO2 := Lib.hid hown2
  have HU2 := Lib.hid hown2.bound
  have z12 : w1.heap.size ≤ w2.heap.size := by have := hg.size; simp at this; omega
  clear hg hown2 hat HO1 hx
  go_wp2_with (at_builtin
               go_must (refine wpl_append_sl _ rfl (.tmp 13) (.tmp 15) _ rfl Try.underlying24 infoInt (by omega) ienc_k ienc_one ⟨some ⟨w2.heap.size, 0, none⟩, 0, []⟩ ⟨SA, Sc, SL⟩ rfl rfl (Own.lit0 ienc_k (base := w2.heap.size) (by simp) (by simp)) (HR.out.2.2.below' qbv (Nat.le_refl _)) (by have := HR.out.2.2.len; simp [maxLen] at this ⊢; omega) (by simp; omega) (by simp; try omega) ?_)
               intro A3 c3 w3 hown3 hg hat
               apply Hid.out)
  refine Lib.hid ?_
  simp only [List.nil_append] at hown3
  clear a0 a1 a2 a3 a4 af b0 b1 b2 b3 b4 bf
  have n3 : w2.heap.size ≠ w.heap.size := by omega
  have n4 : w2.heap.size ≠ w.heap.size + 1 := by omega
  have K_a : Blk _ (w.heap.size) 26 #[.int .i64 id, .bool cut, .slice A1 HL.length c1, .slice A2 NL.length c2, .slice SA SL.length Sc] := blk_grown hg (by simp [hp_past, hp_at, hp_other, hp_same, hp_drew, hp_drewN, B_a.out.eq, B_a.out.lt, hp_same B_a.out.eq]) (by simp [Value.ownBlock, n3])
  obtain ⟨a0, a1, a2, a3, a4, af, az⟩ := Blk.b5 K_a
  have B_a := Lib.hid K_a
  clear K_a
  have K_b : Blk _ (w.heap.size + 1) 26 #[.int .i64 0, .bool false, .slice none 0 0, .slice none 0 0, .slice none 0 0] := blk_grown hg (by simp [hp_past, hp_at, hp_other, hp_same, hp_drew, hp_drewN, B_b.out.eq, B_b.out.lt, hp_same B_b.out.eq]) (by simp [Value.ownBlock, n4])
  obtain ⟨b0, b1, b2, b3, b4, bf, bz⟩ := Blk.b5 K_b
  have B_b := Lib.hid K_b
  clear K_b
  have hB3 : Below w.heap.size w w3 := Below.grown qbv hg (by first | omega | (simp; done) | (simp; omega)) (by simp [Value.ownBlock]; omega)
  have hx : Own (w.heap.size + 2) 59 3 Hold.enc ((w2.setCell ⟨w.heap.size, 3, none⟩ (.slice A2 NL.length c2)).alloc (.cells #[] 3)) ⟨A1, c1, HL⟩ := (by repeat (first | (with_reducible exact HO1b.out) | ((with_reducible refine Own.farr ?_ ?_); focus (first | (simp; done) | (simp; omega) | omega)) | (with_reducible refine Own.alloc ?_ _) | (with_reducible refine Own.drew ?_) | (with_reducible refine Own.drewN ?_ _)))
  have hx2 : Own w1.heap.size 61 5 Note.enc ((w2.setCell ⟨w.heap.size, 3, none⟩ (.slice A2 NL.length c2)).alloc (.cells #[] 3)) ⟨A2, c2, NL⟩ := (by repeat (first | (with_reducible exact HO2.out) | ((with_reducible refine Own.farr ?_ ?_); focus (first | (simp; done) | (simp; omega) | omega)) | (with_reducible refine Own.alloc ?_ _) | (with_reducible refine Own.drew ?_) | (with_reducible refine Own.drewN ?_ _)))
  have HO1 := Lib.hid (Own.kept hx hg (.inr (by exact own_ne hx (.inr (fun g h => Nat.lt_of_lt_of_le (HU1.out g h) z12)))))
  have HO2b := Lib.hid (Own.kept hx2 hg (.inr (by exact own_ne hx2 (.inr HU2.out))))
  have HO3 := Lib.hid hown3
  clear hg hown3 hat hx hx2
  go_wp2_with fail
  try simp only [Exit.inBlock, Exit.then]
  refine bodyPost_ret (v := .agg #[.int .i64 id, .bool cut, .slice A1 HL.length c1, .slice A2 NL.length c2, .slice A3 SL.length c3]) ?_ rfl ⟨A1, c1, A2, c2, A3, c3, rfl, Own.mono (base := w.heap.size + 2) (by repeat (first | (with_reducible exact HO1.out) | ((with_reducible refine Own.farr ?_ ?_); focus (first | (simp; done) | (simp; omega) | omega)) | (with_reducible refine Own.alloc ?_ _) | (with_reducible refine Own.drew ?_) | (with_reducible refine Own.drewN ?_ _))) (by omega), Own.mono (base := w1.heap.size) (by repeat (first | (with_reducible exact HO2b.out) | ((with_reducible refine Own.farr ?_ ?_); focus (first | (simp; done) | (simp; omega) | omega)) | (with_reducible refine Own.alloc ?_ _) | (with_reducible refine Own.drew ?_) | (with_reducible refine Own.drewN ?_ _))) (by omega), Own.mono (base := w2.heap.size) (by repeat (first | (with_reducible exact HO3.out) | ((with_reducible refine Own.farr ?_ ?_); focus (first | (simp; done) | (simp; omega) | omega)) | (with_reducible refine Own.alloc ?_ _) | (with_reducible refine Own.drew ?_) | (with_reducible refine Own.drewN ?_ _))) (by omega), ?_, ?_, ?_, HNN.out, qbv⟩
  simp [results, Try.results67, go_sem, a0, a1, a2, a3, a4, af, b0, b1, b2, b3, b4, bf, az, bz]
  · exact apart_of HO1.out.lo HU1.out HO2b.out.lo HU2.out (.inl (Nat.le_refl _))
  · exact apart_of HO1.out.lo HU1.out HO3.out.lo HO3.out.bound (.inl z12)
  · exact apart_of HO2b.out.lo HU2.out HO3.out.lo HO3.out.bound (.inl (Nat.le_refl _))
theorem rcopied43 (p : Phone) (w : World) (hr : RdPhone (· < w.heap.size) w p) (hbH : p.H.l.length * 24 ≤ 140737488355328) (hbN : p.N.l.length * 64 ≤ 140737488355328) (hbS : p.S.l.length * 8 ≤ 140737488355328) :
    Calls Try.prog 67 #[p.v] w fun e w' => ∃ HA Hc NA Nc SA Sc, e = .returned (Phone.v ⟨p.id, p.cut, ⟨HA, Hc, p.H.l⟩, ⟨NA, Nc, p.N.l⟩, ⟨SA, Sc, p.S.l⟩⟩) ∧
      Own w.heap.size 59 3 Hold.enc w' ⟨HA, Hc, p.H.l⟩ ∧ Own w.heap.size 61 5 Note.enc w' ⟨NA, Nc, p.N.l⟩ ∧ Own w.heap.size 3 1 ienc w' ⟨SA, Sc, p.S.l⟩ ∧ Apart HA NA ∧ Apart HA SA ∧ Apart NA SA ∧ Below w.heap.size w w' := by
  refine (rcopied43s p w hr hbH hbN hbS).mono ?_
  rintro e w' ⟨HA, Hc, NA, Nc, SA, Sc, h1, h2, h3, h4, h5, h6, h7, _, h8⟩
  exact ⟨HA, Hc, NA, Nc, SA, Sc, h1, h2, h3, h4, h5, h6, h7, h8⟩
end Go.Proofs.Ythnblhbdfpmolaa
/- Walks of the reference of layer 43: Seen, At. -/
namespace Go.Proofs.Ythnblhbdfpmolaa
open Go.RowKit
set_option maxHeartbeats 1000000 in
theorem rseen43 (s : Sl Int) (w : World) (hr : Rd (· < w.heap.size) 1 ienc w s) :
    Calls Try.prog 57 #[.slice s.A s.l.length s.c] w fun e w' => e = .returned (.bool (seenR s.l)) ∧ Below w.heap.size w w' := by
  obtain ⟨A, c, l⟩ := s
  have hn := hr.len
  simp only at hn
  have HR := Lib.hid hr
  clear hr
  simp only
  go_enter Try.func57, Try.ntmps57
  go_wp2_with fail
  go_loopw [3] (fun i wr => ∃ (k : Nat), k ≤ l.length ∧ i = .int .i64 k ∧ Below w.heap.size w wr ∧ (∀ j x, j < k → l[j]? = some x → rngB x 0 10000 = true)) (fun i _ => l.length - (intOf i).toNat)
  case atStart => exact ⟨0, by omega, rfl, qbl, fun j x hj => absurd hj (Nat.not_lt_zero _)⟩
  case round =>
    obtain ⟨k, hk, rfl, hbel, hall⟩ := hrel
    have HALL := Lib.hid hall
    clear hall
    have hhe : w.heap.size ≤ wr.heap.size := hbel.size
    by_cases hlt : k < l.length
    · obtain ⟨b, o, rfl, hb, hcl⟩ := HR.out.at1 hlt
      have g0 := (hcl.keep (hbel.block b hb)).c1
      simp only [Nat.mul_one] at g0
      have hxk : l[k]? = some l[k] := List.getElem?_eq_getElem hlt
      have hmem : l[k] ∈ l := List.getElem_mem hlt
      generalize l[k] = x at *
      have HXK := Lib.hid hxk
      have HM := Lib.hid hmem
      clear hxk hcl hmem
      rcases hz : rngB x 0 10000
      · have hv : seenR l = false := by
          unfold seenR
          rw [all_false HM.out hz, Bool.and_false]
        have HV := Lib.hid hv
        clear hv
        go_wp2_with (go_at_call 54; refine (in43_any _ _ _ _).mono ?_; rintro e w' ⟨rfl, rfl⟩)
        go_ret
        exact ⟨ret_bool HV.out.symm, hbel⟩
      · have HZ := Lib.hid hz
        go_wp2_with (go_at_call 54; refine (in43_any _ _ _ _).mono ?_; rintro e w' ⟨rfl, rfl⟩)
        go_roundw
        case rel =>
          refine ⟨k + 1, by omega, by go_num, hbel, fun j x hj hx => ?_⟩
          rcases Nat.lt_or_ge j k with h1 | h1
          · exact HALL.out j x h1 hx
          · obtain rfl : j = k := by omega
            rw [HXK.out] at hx; injection hx with hx; subst hx; exact HZ.out
        case measure => simp [intOf]; omega
    · have hv : seenR l = decide (l.length = 12) := by
        unfold seenR
        have : l.all (fun n => rngB n 0 10000) = true := by
          rw [List.all_eq_true]
          intro x hx
          obtain ⟨j, hj⟩ := List.getElem?_of_mem hx
          have := (List.getElem?_eq_some_iff.1 hj).1
          exact HALL.out j x (by omega) hj
        rw [this, Bool.and_true]
      have HV := Lib.hid hv
      clear hv
      by_cases h12 : l.length = 12
      · have e : ((l.length : Int) == 12) = true := by simp; omega
        have H12 := Lib.hid h12
        clear h12
        go_wp2_with fail
        go_ret
        exact ⟨ret_bool (by rw [HV.out, decide_eq_true H12.out]), hbel⟩
      · have e : ((l.length : Int) == 12) = false := by simp; omega
        have H12 := Lib.hid h12
        clear h12
        go_wp2_with fail
        go_ret
        exact ⟨ret_bool (by rw [HV.out, decide_eq_false H12.out]), hbel⟩
set_option maxHeartbeats 800000 in
theorem rat43 (p : Phone) (q : Int) (w : World) (hr : Rd (· < w.heap.size) 3 Hold.enc w p.H) :
    Calls Try.prog 31 #[p.v, .int .i64 q] w fun e w' => e = .returned (.int .i64 (findK Hold.st q 0 p.H.l)) ∧ Below w.heap.size w w' := by
  obtain ⟨id, cut, ⟨A, c, L⟩, N, S⟩ := p
  have hn := hr.len
  simp only at hn
  have HR := Lib.hid hr
  clear hr
  simp only [Phone.v]
  go_enter Try.func31, Try.ntmps31
  go_wp2_with fail
  go_loopw [5] (fun i wr => ∃ (k : Nat), k ≤ L.length ∧ i = .int .i64 k ∧ Blk wr w.heap.size 26 #[.int .i64 id, .bool cut, .slice A L.length c, .slice N.A N.l.length N.c, .slice S.A S.l.length S.c] ∧ Below w.heap.size w wr ∧ findK Hold.st q 0 L = findK Hold.st q k (L.drop k)) (fun i _ => L.length - (intOf i).toNat)
  case atStart => exact ⟨0, by omega, rfl, Blk.new _ _ _, qbl, by simp⟩
  case round =>
    obtain ⟨k, hk, rfl, hblk, hbel, heq⟩ := hrel
    obtain ⟨a0, a1, a2, a3, a4, af, az⟩ := hblk.b5
    have B_a := Lib.hid hblk
    clear hblk
    have hhe : w.heap.size ≤ wr.heap.size := hbel.size
    by_cases hlt : k < L.length
    · obtain ⟨b, o, rfl, hb, hcl⟩ := HR.out.at1 hlt
      obtain ⟨g0, g1, g2⟩ := Cells.c3 (hcl.keep (hbel.block b hb))
      have hd : L.drop k = L[k] :: L.drop (k + 1) := List.drop_eq_getElem_cons hlt
      rw [hd] at heq
      have HE := Lib.hid heq
      clear hd heq hcl
      generalize L[k] = x at *
      obtain ⟨xp, xu, xs⟩ := x
      by_cases hx : xp = q
      · subst hx
        go_wp2_with fail
        go_ret
        exact ⟨ret_int (by rw [HE.out]; simp [findK]), hbel⟩
      · have hx' : (xp == q) = false := by simp [hx]
        have HX := Lib.hid hx
        clear hx
        go_wp2_with fail
        go_roundw
        case rel => exact ⟨k + 1, by omega, by go_num, B_a.out, hbel, by rw [HE.out]; exact findK_far HX.out⟩
        case measure => simp [intOf]; omega
    · have hkl : L.drop k = [] := List.drop_eq_nil_of_le (by omega)
      rw [hkl] at heq
      have HE := Lib.hid heq
      clear hkl heq
      go_wp2_with fail
      go_ret
      exact ⟨ret_int (by rw [HE.out]; rfl), hbel⟩
end Go.Proofs.Ythnblhbdfpmolaa
