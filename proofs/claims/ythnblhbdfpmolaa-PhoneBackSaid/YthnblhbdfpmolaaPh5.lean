/- Walks of package phone: copies. -/
import Derived.Test.YthnblhbdfpmolaaPh4
namespace Go.Proofs.Ythnblhbdfpmolaa
open Go.RowKit
structure OwnStocks (base m : Nat) (w : World) (s : Sl Stock) : Prop where
  O : Own base 66 3 Stock.enc w s
  b : ∀ g, s.A = some ⟨g, 0, none⟩ → g < m
  bm : m ≤ w.heap.size
  mb : base ≤ m
  L : ∀ x, x ∈ s.l → Rd (fun b => m ≤ b ∧ b < w.heap.size) 3 Loan.enc w x.L
set_option maxHeartbeats 2000000 in
theorem phone_copies (s : Sl Stock) (w : World) (hr : RdStocks (· < w.heap.size) w s) (hb : s.l.length * 40 ≤ 140737488355328)
    (hba : ∀ x, x ∈ s.l → x.L.l.length * 24 ≤ 140737488355328) :
    Calls Try.prog 63 #[.slice s.A s.l.length s.c] w fun e w' => ∃ s' : Sl Stock, e = .returned (.slice s'.A s'.l.length s'.c) ∧ s'.l.map Stock.d = s.l.map Stock.d ∧ (∃ m, OwnStocks w.heap.size m w' s') ∧ Below w.heap.size w w' := by
  obtain ⟨sA, sc, N⟩ := s
  have HR := Lib.hid hr
  have HBA := Lib.hid hba
  clear hr hba
  simp only at hb
  go_enter Try.func63, Try.ntmps63
  go_wp2_with fail
  refine (clone_stock ⟨sA, sc, N⟩ _ HR.out.1 hb).mono ?_
  rintro e wS ⟨NA, Nc, rfl, hown, hb1⟩
  have HON := Lib.hid hown
  have HBB := Lib.hid hown.bound
  have HR2 := Lib.hid HR.out.2
  clear hown
  have zS := hb1.size
  go_wp2_with fail
  go_loopw [9] (fun i wr => ∃ (k : Nat) (NL : List Stock), k ≤ N.length ∧ NL.length = N.length ∧ i = .int .i64 k ∧ NL.map Stock.d = N.map Stock.d ∧
    Own w.heap.size 66 3 Stock.enc wr ⟨NA, Nc, NL⟩ ∧
    Below w.heap.size w wr ∧ wS.heap.size ≤ wr.heap.size ∧ (∀ i x, NL[i]? = some x → (i < k → Rd (fun b => wS.heap.size ≤ b ∧ b < wr.heap.size) 3 Loan.enc wr x.L) ∧ (k ≤ i → N[i]? = some x))) (fun i _ => N.length - (intOf i).toNat)
  case atStart => exact ⟨0, N, by omega, rfl, rfl, rfl, HON.out, hb1, by omega, fun i x hx => ⟨fun h => absurd h (Nat.not_lt_zero _), fun _ => hx⟩⟩
  case round =>
    obtain ⟨k, NL, hk, hlen, rfl, hmap, hON, hbel, hsz, hall⟩ := hrel
    have HON := Lib.hid hON
    have HALL := Lib.hid hall
    have HMAP := Lib.hid hmap
    clear hON hall hmap
    have hhe : w.heap.size ≤ wr.heap.size := hbel.size
    by_cases hlt : k < N.length
    · have hk' : NL[k]? = some NL[k] := List.getElem?_eq_getElem (by omega)
      have hy := (HALL.out k _ hk').2 (Nat.le_refl _)
      have hmem := List.mem_of_getElem? hy
      generalize NL[k] = y at hk' hy hmem
      obtain ⟨yT, yU, yL⟩ := y
      have HY := Lib.hid hk'
      have HRY := Lib.hid (HR2.out _ hmem)
      have hba := HBA.out _ hmem
      obtain ⟨g, hA, hg1, hg2, hcl, gf⟩ := HON.out.atk Stock.k hk'
      simp only at hA hba
      subst hA
      have hg3 := HBB.out g rfl
      obtain ⟨g0, g1, g2⟩ := Cells.c3 hcl
      clear hk' hy hmem hcl
      go_wp2_with fail
      refine (clone_loan yL _ (HRY.out.below' hbel (Nat.le_refl _)) hba).mono ?_
      rintro e w1 ⟨A2, c2, rfl, hown2, hb2⟩
      have hbel1 : Below w.heap.size w w1 := (by repeat (first | (with_reducible exact hbel) | (with_reducible exact Below.refl _ _) | ((with_reducible refine below_setr ?_ ?_); focus (first | (simp; done) | (simp; omega) | omega)) | ((with_reducible refine below_allocr ?_ ?_); focus (first | (simp; done) | (simp; omega) | omega)) | (with_reducible refine Below.drew ?_) | (with_reducible refine below_drewN ?_ _) | ((with_reducible apply below_via); focus (with_reducible assumption))))
      have G2 := keep_cell hb2 g2
      have GF := keep_frozen hb2 g2 (gf _)
      clear g0 g1 g2 gf
      have HON1 := Lib.hid ((HON.out.below hb2).set Stock.k rfl HY.out (j := 2) (y := ⟨yT, yU, ⟨A2, c2, yL.l⟩⟩) (u := .slice A2 yL.l.length c2) (by omega) rfl)
      have z2 : wr.heap.size ≤ w1.heap.size := hb2.size
      have HALL1 : Hid (∀ i x, (NL.set k ⟨yT, yU, ⟨A2, c2, yL.l⟩⟩)[i]? = some x → (i < k + 1 → Rd (fun b => wS.heap.size ≤ b ∧ b < (w1.setCell ⟨g, k * 3 + 2, none⟩ (.slice A2 yL.l.length c2)).heap.size) 3 Loan.enc (w1.setCell ⟨g, k * 3 + 2, none⟩ (.slice A2 yL.l.length c2)) x.L) ∧ (k + 1 ≤ i → N[i]? = some x)) := by
        refine Lib.hid fun i x hx => ?_
        rw [List.getElem?_set] at hx
        by_cases hik : k = i
        · subst hik
          rw [if_pos rfl, if_pos (by omega)] at hx
          injection hx with hx
          subst hx
          refine ⟨fun _ => ?_, fun h => by omega⟩
          have := (hown2.rd Loan.k).mono (G := fun b => wS.heap.size ≤ b ∧ b < w1.heap.size) (fun b hb => ⟨Nat.le_trans hsz hb.1, hb.2⟩)
          have := this.setfar (p := ⟨g, k * 3 + 2, none⟩) (by simp; omega) (.slice A2 yL.l.length c2)
          exact this.mono (fun b hb => ⟨hb.1, by simpa using hb.2⟩)
        · rw [if_neg hik] at hx
          have := HALL.out i x hx
          refine ⟨fun h => ?_, fun h => this.2 (by omega)⟩
          have := (this.1 (by omega)).to_below (B := wr.heap.size) (fun b hb => hb.2) hb2
          have := this.setfar (p := ⟨g, k * 3 + 2, none⟩) (by simp; omega) (.slice A2 yL.l.length c2)
          exact this.mono (fun b hb => ⟨hb.1, by have := hb.2; simp; omega⟩)
      have HMAP1 := Lib.hid ((map_set_same (f := Stock.d) (y := ⟨yT, yU, ⟨A2, c2, yL.l⟩⟩) HY.out rfl).trans HMAP.out)
      clear hb2 hown2
      go_wp2_with fail
      go_roundw
      case rel => exact ⟨k + 1, _, by omega, by simp [hlen], by go_num, HMAP1.out, HON1.out, (by repeat (first | (with_reducible exact hbel1) | (with_reducible exact Below.refl _ _) | ((with_reducible refine below_setr ?_ ?_); focus (first | (simp; done) | (simp; omega) | omega)) | ((with_reducible refine below_allocr ?_ ?_); focus (first | (simp; done) | (simp; omega) | omega)) | (with_reducible refine Below.drew ?_) | (with_reducible refine below_drewN ?_ _) | ((with_reducible apply below_via); focus (with_reducible assumption)))), by simp; omega, HALL1.out⟩
      case measure => simp [intOf]; omega
    · have hkl : N.length ≤ k := by omega
      have HAF : Hid (∀ n, n ∈ NL → Rd (fun b => wS.heap.size ≤ b ∧ b < wr.heap.size) 3 Loan.enc wr n.L) := Lib.hid fun n hn => by
        obtain ⟨i, hi⟩ := List.getElem?_of_mem hn
        have : i < NL.length := (List.getElem?_eq_some_iff.1 hi).1
        exact (HALL.out i n hi).1 (by omega)
      go_wp2_with fail
      go_ret
      exact ⟨⟨NA, Nc, NL⟩, by simp [hlen], HMAP.out, ⟨wS.heap.size, HON.out, HBB.out, by simpa using hsz, zS, HAF.out⟩, hbel⟩
end Go.Proofs.Ythnblhbdfpmolaa
