/- Walks of the reference of layer 43: Lend, its cases together. -/
import Derived.Test.YthnblhbdfpmolaaTellsmxbo
import Derived.Test.YthnblhbdfpmolaaTellsmxbi
namespace Go.Proofs.Ythnblhbdfpmolaa
open Go.RowKit
theorem rlend43 (p : Phone) (ss : Sl Stock) (k n : Int) (w : World) (hr : RdPhone (· < w.heap.size) w p) (hs : RdStocks (· < w.heap.size) w ss) (hb : ss.l.length * 40 ≤ 140737488355328) (B : Nat) (hBB : B ≤ w.heap.size) (hFN : ∀ y ∈ p.N.l, Rd (· < B) 1 ienc w y.af) (hGS : ∀ y ∈ ss.l, Rd (· < B) 3 Loan.enc w y.L) :
    Calls Try.prog 22 #[p.v, .slice ss.A ss.l.length ss.c, .int .i64 k, .int .i64 n] w fun e w' => ∃ (p' : Phone) (s' : Sl Stock), e = .returned (.tuple #[p'.v, .slice s'.A s'.l.length s'.c, .int .i64 (p.d.lend (ss.l.map Stock.d) k n).2.2]) ∧ p'.d = (p.d.lend (ss.l.map Stock.d) k n).1 ∧ s'.l.map Stock.d = (p.d.lend (ss.l.map Stock.d) k n).2.1 ∧
      Hid ((p' = p ∧ s' = ss) ∨ (RdPhone (fun b => b < B ∨ (w.heap.size ≤ b ∧ b < w'.heap.size)) w' p' ∧ RdStocks (fun b => b < B ∨ (w.heap.size ≤ b ∧ b < w'.heap.size)) w' s')) ∧ Below w.heap.size w w' := by
  have back : ∀ {q : Int}, p.d.lend (ss.l.map Stock.d) k n = (p.d, ss.l.map Stock.d, q) → Calls Try.prog 22 #[p.v, .slice ss.A ss.l.length ss.c, .int .i64 k, .int .i64 n] w (fun e w' => e = .returned (.tuple #[p.v, .slice ss.A ss.l.length ss.c, .int .i64 q]) ∧ Below w.heap.size w w') →
      Calls Try.prog 22 #[p.v, .slice ss.A ss.l.length ss.c, .int .i64 k, .int .i64 n] w fun e w' => ∃ (p' : Phone) (s' : Sl Stock), e = .returned (.tuple #[p'.v, .slice s'.A s'.l.length s'.c, .int .i64 (p.d.lend (ss.l.map Stock.d) k n).2.2]) ∧ p'.d = (p.d.lend (ss.l.map Stock.d) k n).1 ∧ s'.l.map Stock.d = (p.d.lend (ss.l.map Stock.d) k n).2.1 ∧
      Hid ((p' = p ∧ s' = ss) ∨ (RdPhone (fun b => b < B ∨ (w.heap.size ≤ b ∧ b < w'.heap.size)) w' p' ∧ RdStocks (fun b => b < B ∨ (w.heap.size ≤ b ∧ b < w'.heap.size)) w' s')) ∧ Below w.heap.size w w' := by
    intro q hq hc
    rw [hq]
    refine hc.mono ?_
    rintro e w' ⟨rfl, hb⟩
    exact ⟨p, ss, rfl, rfl, rfl, .inl ⟨rfl, rfl⟩, hb⟩
  rcases hf : okLend p.d (ss.l.map Stock.d) k
  · exact back (by unfold PhoneD.lend; rw [hf]; rfl) (rlend43_no p ss k n w hr hs hf)
  · have hf' := hf
    simp only [okLend, Bool.and_eq_true, List.length_map] at hf'
    obtain ⟨hF, hG, hk⟩ := hf'
    have hk' := rngB_iff.1 hk
    obtain ⟨j, rfl⟩ := Int.eq_ofNat_of_zero_le hk'.1
    have hj : j < ss.l.length := by omega
    have hR := PhoneD.right_iff hF
    obtain ⟨hl, hso, hal⟩ := holdsR_iff hR.H
    rcases hc : p.cut
    · have hc' : p.d.cut = false := hc
      have hxj : ss.l[j]? = some ss.l[j] := List.getElem?_eq_getElem hj
      generalize ss.l[j] = x at hxj
      have hxd : (ss.l.map Stock.d)[((j : Nat) : Int).toNat]? = some x.d := by simp [hxj]
      have hle : p.d.lend (ss.l.map Stock.d) j n = if !hhas p.d.H j && decide (p.d.H.length = 100) then (p.d, ss.l.map Stock.d, 6) else if (x.d.lend p.d.id n).2 = 0 then ({ p.d with H := addH p.d.H j n }, (ss.l.map Stock.d).set j (x.d.lend p.d.id n).1, 0) else (p.d, ss.l.map Stock.d, (x.d.lend p.d.id n).2) := by
        unfold PhoneD.lend
        rw [hf, if_pos rfl, if_neg (by rw [hc']; simp), hxd]
        simp only [Int.toNat_natCast]
      by_cases hfu : (!hhas p.d.H j && decide (p.d.H.length = 100)) = true
      · have h2 := hfu
        simp only [Bool.and_eq_true, Bool.not_eq_true', decide_eq_true_eq] at h2
        exact back (by rw [hle, if_pos hfu]) (rlend43_full p ss j n w hr hs hF hG hj hc (Lib.hid (findK_none h2.1)) h2.2)
      · rw [hle, if_neg hfu]
        rw [hle, if_neg hfu] at back
        rcases hh : hhas p.H.l j
        · have h99 : p.H.l.length ≤ 99 := by
            have h2 := hfu
            have hh' : hhas p.d.H j = false := hh
            rw [hh'] at h2
            simp only [Bool.not_false, Bool.true_and, decide_eq_true_eq] at h2
            have h3 : p.H.l.length ≤ 100 := hl
            have h4 : ¬ p.H.l.length = 100 := h2
            omega
          by_cases hE : (x.d.lend p.d.id n).2 = 0
          · rw [if_pos hE]
            have hn := StockD.fits_iff (StockD.lend_fits hE)
            refine (rlend43_new p ss j x n (hidx p.H.l j) w hr hs hb hF hG hj hc hh (Lib.hid rfl) h99 hn.2.2.2.1 hn.2.2.2.2 hxj hE B hBB hFN hGS).mono ?_
            rintro e w' ⟨p', s', rfl, hd, hm, h1, h2, h3⟩
            refine ⟨p', s', rfl, ?_, hm, .inr ⟨h1, h2⟩, h3⟩
            rw [hd]
            have hh' : hhas p.d.H j = false := hh
            simp only [addH, hh']
            rfl
          · rw [if_neg hE] at back ⊢
            exact back rfl (rlend43_err p ss j x n w hr hs hF hG hj hc (-1) (Lib.hid (findK_none hh)) (.inr (by omega)) hxj hE)
        · by_cases hE : (x.d.lend p.d.id n).2 = 0
          · rw [if_pos hE]
            have hn := StockD.fits_iff (StockD.lend_fits hE)
            obtain ⟨hx, hhx, _⟩ := hidx_at hso hh
            obtain ⟨_, x1, x2, _⟩ := hal hx (List.mem_of_getElem? hhx)
            refine (rlend43_had p ss j x n (hidx p.H.l j) hx w hr hs hb hF hG hj hc (Lib.hid (findK_hold hso hh)) hhx x1 x2 hn.2.2.2.1 hn.2.2.2.2 hxj hE B hBB hFN hGS).mono ?_
            rintro e w' ⟨p', s', rfl, hd, hm, h1, h2, h3⟩
            refine ⟨p', s', rfl, ?_, hm, .inr ⟨h1, h2⟩, h3⟩
            rw [hd]
            have hh' : hhas p.d.H j = true := hh
            have hhx' : p.d.H[hidx p.d.H j]? = some hx := hhx
            simp only [addH, hh', if_true, hhx']
            rfl
          · rw [if_neg hE] at back ⊢
            exact back rfl (rlend43_err p ss j x n w hr hs hF hG hj hc _ (Lib.hid (findK_hold hso hh)) (.inl (by omega)) hxj hE)
    · have hc' : p.d.cut = true := hc
      exact back (by unfold PhoneD.lend; rw [hf, if_pos rfl, if_pos hc']) (rlend43_cut p ss j n w hr hs hF hG hj hc)
end Go.Proofs.Ythnblhbdfpmolaa
