/- Walks of package phone: Lend, its cases together. -/
import Derived.Test.YthnblhbdfpmolaaTellsmxbh
import Derived.Test.YthnblhbdfpmolaaTellsmxbc
import Derived.Test.YthnblhbdfpmolaaTellsmxbf
namespace Go.Proofs.Ythnblhbdfpmolaa
open Go.RowKit
theorem StockD.lend_fits {x : StockD} {p n : Int} (h : (x.lend p n).2 = 0) : x.fits p n = true := by
  unfold StockD.lend at h
  split at h
  · assumption
  · simp at h
theorem phone_lend_s (p : Phone) (ss : Sl Stock) (k n : Int) (w : World) (hr : RdPhone (· < w.heap.size) w p) (hs : RdStocks (· < w.heap.size) w ss) (hb : ss.l.length * 40 ≤ 140737488355328) :
    Calls Try.prog 21 #[p.v, .slice ss.A ss.l.length ss.c, .int .i64 k, .int .i64 n] w fun e w' => ∃ (p' : Phone) (s' : Sl Stock), e = .returned (.tuple #[p'.v, .slice s'.A s'.l.length s'.c, .int .i64 (p.d.lend (ss.l.map Stock.d) k n).2.2]) ∧ p'.d = (p.d.lend (ss.l.map Stock.d) k n).1 ∧ s'.l.map Stock.d = (p.d.lend (ss.l.map Stock.d) k n).2.1 ∧
      Hid ((p' = p ∧ s' = ss) ∨ (RdPhone (fun b => w.heap.size ≤ b ∧ b < w'.heap.size) w' p' ∧ RdStocks (fun b => w.heap.size ≤ b ∧ b < w'.heap.size) w' s')) ∧ Below w.heap.size w w' := by
  have back : ∀ {q : Int}, p.d.lend (ss.l.map Stock.d) k n = (p.d, ss.l.map Stock.d, q) → Calls Try.prog 21 #[p.v, .slice ss.A ss.l.length ss.c, .int .i64 k, .int .i64 n] w (fun e w' => e = .returned (.tuple #[p.v, .slice ss.A ss.l.length ss.c, .int .i64 q]) ∧ Below w.heap.size w w') →
      Calls Try.prog 21 #[p.v, .slice ss.A ss.l.length ss.c, .int .i64 k, .int .i64 n] w fun e w' => ∃ (p' : Phone) (s' : Sl Stock), e = .returned (.tuple #[p'.v, .slice s'.A s'.l.length s'.c, .int .i64 (p.d.lend (ss.l.map Stock.d) k n).2.2]) ∧ p'.d = (p.d.lend (ss.l.map Stock.d) k n).1 ∧ s'.l.map Stock.d = (p.d.lend (ss.l.map Stock.d) k n).2.1 ∧
      Hid ((p' = p ∧ s' = ss) ∨ (RdPhone (fun b => w.heap.size ≤ b ∧ b < w'.heap.size) w' p' ∧ RdStocks (fun b => w.heap.size ≤ b ∧ b < w'.heap.size) w' s')) ∧ Below w.heap.size w w' := by
    intro q hq hc
    rw [hq]
    refine hc.mono ?_
    rintro e w' ⟨rfl, hb⟩
    exact ⟨p, ss, rfl, rfl, rfl, .inl ⟨rfl, rfl⟩, hb⟩
  rcases hf : okLend p.d (ss.l.map Stock.d) k
  · exact back (by unfold PhoneD.lend; rw [hf]; rfl) (phone_lend_no p ss k n w hr hs hb hf)
  · have hf' := hf
    simp only [okLend, Bool.and_eq_true, List.length_map] at hf'
    obtain ⟨hF, hG, hk⟩ := hf'
    have hk' := rngB_iff.1 hk
    obtain ⟨j, rfl⟩ := Int.eq_ofNat_of_zero_le hk'.1
    have hj : j < ss.l.length := by omega
    have hR := PhoneD.right_iff hF
    obtain ⟨hl, hso, hal⟩ := holdsR_iff hR.H
    rcases hc : p.cut
    · have hc' : p.d.cut = false := hc
      have hxj : ss.l[j]? = some ss.l[j] := List.getElem?_eq_getElem hj
      generalize ss.l[j] = x at hxj
      have hxd : (ss.l.map Stock.d)[((j : Nat) : Int).toNat]? = some x.d := by simp [hxj]
      have hle : p.d.lend (ss.l.map Stock.d) j n = if !hhas p.d.H j && decide (p.d.H.length = 100) then (p.d, ss.l.map Stock.d, 6) else if (x.d.lend p.d.id n).2 = 0 then ({ p.d with H := addH p.d.H j n }, (ss.l.map Stock.d).set j (x.d.lend p.d.id n).1, 0) else (p.d, ss.l.map Stock.d, (x.d.lend p.d.id n).2) := by
        unfold PhoneD.lend
        rw [hf, if_pos rfl, if_neg (by rw [hc']; simp), hxd]
        simp only [Int.toNat_natCast]
      by_cases hfu : (!hhas p.d.H j && decide (p.d.H.length = 100)) = true
      · have h2 := hfu
        simp only [Bool.and_eq_true, Bool.not_eq_true', decide_eq_true_eq] at h2
        exact back (by rw [hle, if_pos hfu]) (phone_lend_full p ss j n w hr hs hb hF hG hk hc h2.1 h2.2)
      · rw [hle, if_neg hfu]
        rw [hle, if_neg hfu] at back
        rcases hh : hhas p.H.l j
        · have h99 : p.H.l.length ≤ 99 := by
            have h2 := hfu
            have hh' : hhas p.d.H j = false := hh
            rw [hh'] at h2
            simp only [Bool.not_false, Bool.true_and, decide_eq_true_eq] at h2
            have h3 : p.H.l.length ≤ 100 := hl
            have h4 : ¬ p.H.l.length = 100 := h2
            omega
          by_cases hE : (x.d.lend p.d.id n).2 = 0
          · rw [if_pos hE]
            have hn := StockD.fits_iff (StockD.lend_fits hE)
            refine (phone_lend_new p ss j x n (hidx p.H.l j) w hr hs hb hF hG hk hj hc hh (Lib.hid rfl) (hidx_le _ _) h99 hn.2.2.2.1 hn.2.2.2.2 hxj hE).mono ?_
            rintro e w' ⟨p', s', rfl, hd, hm, h1, h2, h3⟩
            refine ⟨p', s', rfl, ?_, hm, .inr ⟨h1, h2⟩, h3⟩
            rw [hd]
            have hh' : hhas p.d.H j = false := hh
            simp only [addH, hh']
            rfl
          · rw [if_neg hE] at back ⊢
            exact back rfl (phone_lend_err p ss j x n w hr hs hb hF hG hk hj hc false hh (by simp; omega) hxj hE)
        · by_cases hE : (x.d.lend p.d.id n).2 = 0
          · rw [if_pos hE]
            have hn := StockD.fits_iff (StockD.lend_fits hE)
            obtain ⟨hx, hhx, _⟩ := hidx_at hso hh
            obtain ⟨_, x1, x2, _⟩ := hal hx (List.mem_of_getElem? hhx)
            refine (phone_lend_had p ss j x n (hidx p.H.l j) hx w hr hs hb hF hG hk hj hc hh (Lib.hid rfl) hhx x1 x2 hn.2.2.2.1 hn.2.2.2.2 hxj hE).mono ?_
            rintro e w' ⟨p', s', rfl, hd, hm, h1, h2, h3⟩
            refine ⟨p', s', rfl, ?_, hm, .inr ⟨h1, h2⟩, h3⟩
            rw [hd]
            have hh' : hhas p.d.H j = true := hh
            have hhx' : p.d.H[hidx p.d.H j]? = some hx := hhx
            simp only [addH, hh', if_true, hhx']
            rfl
          · rw [if_neg hE] at back ⊢
            exact back rfl (phone_lend_err p ss j x n w hr hs hb hF hG hk hj hc true hh rfl hxj hE)
    · have hc' : p.d.cut = true := hc
      exact back (by unfold PhoneD.lend; rw [hf, if_pos rfl, if_pos hc']) (phone_lend_cut p ss j n w hr hs hb hF hG hk hc)
theorem phone_lend (p : Phone) (ss : Sl Stock) (k n : Int) (w : World) (hr : RdPhone (· < w.heap.size) w p) (hs : RdStocks (· < w.heap.size) w ss) (hb : ss.l.length * 40 ≤ 140737488355328) :
    Calls Try.prog 21 #[p.v, .slice ss.A ss.l.length ss.c, .int .i64 k, .int .i64 n] w fun e w' => ∃ (p' : Phone) (s' : Sl Stock), e = .returned (.tuple #[p'.v, .slice s'.A s'.l.length s'.c, .int .i64 (p.d.lend (ss.l.map Stock.d) k n).2.2]) ∧ p'.d = (p.d.lend (ss.l.map Stock.d) k n).1 ∧ s'.l.map Stock.d = (p.d.lend (ss.l.map Stock.d) k n).2.1 ∧
      RdPhone (· < w'.heap.size) w' p' ∧ RdStocks (· < w'.heap.size) w' s' ∧ Below w.heap.size w w' := by
  refine (phone_lend_s p ss k n w hr hs hb).mono ?_
  rintro e w' ⟨p', s', h1, h2, h3, h4, h5⟩
  refine ⟨p', s', h1, h2, h3, ?_, ?_, h5⟩
  · rcases h4.out with ⟨rfl, rfl⟩ | ⟨h4, _⟩
    · exact hr.later h5 (Nat.le_refl _)
    · exact h4.mono fun b hb => hb.2
  · rcases h4.out with ⟨rfl, rfl⟩ | ⟨_, h4⟩
    · exact hs.later h5 (Nat.le_refl _)
    · exact h4.mono fun b hb => hb.2
end Go.Proofs.Ythnblhbdfpmolaa
/- Walks of the reference of layer 43: Lend, the ways back. -/
namespace Go.Proofs.Ythnblhbdfpmolaa
open Go.RowKit
theorem rlend (s : Stock) (p n : Int) (w : World) (hr : Rd (· < w.heap.size) 3 Loan.enc w s.L) :
    Calls Try.prog 66 #[s.v, .int .i64 p, .int .i64 n] w fun e w' => ∃ s' : Stock, e = .returned (.tuple #[s'.v, .int .i64 (s.d.lend p n).2]) ∧ s'.d = (s.d.lend p n).1 ∧ ((s.d.lend p n).2 = 0 → Rd (fun b => w.heap.size ≤ b ∧ b < w'.heap.size) 3 Loan.enc w' s'.L) ∧ Below w.heap.size w w' := by
  rcases hF : s.d.fits p n
  · have ht : s.d.lend p n = (s.d, 1) := by unfold StockD.lend; rw [if_neg (by rw [hF]; simp)]
    rw [ht]
    refine (rlend_no s p n w hr hF).mono ?_
    rintro e w' ⟨rfl, hbw⟩
    exact ⟨s, rfl, rfl, fun h => by simp at h, hbw⟩
  · rcases Int.lt_or_le s.d.free n with h | h
    · have ht : s.d.lend p n = (s.d, 21) := by unfold StockD.lend; rw [if_pos hF, if_pos h]
      rw [ht]
      refine (rlend_few s p n w hr hF h).mono ?_
      rintro e w' ⟨rfl, hbw⟩
      exact ⟨s, rfl, rfl, fun h => by simp at h, hbw⟩
    · have ht : s.d.lend p n = (⟨s.T, s.U, lendL s.L.l p n⟩, 0) := by unfold StockD.lend; rw [if_pos hF, if_neg (Int.not_lt.2 h)]; rfl
      rw [ht]
      refine (rlend_ok s p n w hr hF h).mono ?_
      rintro e w' ⟨s', rfl, h1, h2, h3⟩
      refine ⟨s', rfl, ?_, fun _ => h2, h3⟩
      have h4 : lendGo false p n s.L.l = lendL s.L.l p n := lendGo_eq (StockD.sorted (StockD.fits_iff hF).1)
      rw [h1, h4]
set_option maxHeartbeats 800000 in
theorem rlend43_no (p : Phone) (ss : Sl Stock) (k n : Int) (w : World) (hr : RdPhone (· < w.heap.size) w p) (hs : RdStocks (· < w.heap.size) w ss) (hf : okLend p.d (ss.l.map Stock.d) k = false) :
    Calls Try.prog 22 #[p.v, .slice ss.A ss.l.length ss.c, .int .i64 k, .int .i64 n] w fun e w' => e = .returned (.tuple #[p.v, .slice ss.A ss.l.length ss.c, .int .i64 1]) ∧ Below w.heap.size w w' := by
  obtain ⟨id, cut, H, N, S⟩ := p
  unfold okLend at hf
  rcases hF : (Phone.d ⟨id, cut, H, N, S⟩).right
  · have HF := Lib.hid hF
    clear hF hf
    have HR := Lib.hid hr
    have HS := Lib.hid hs
    clear hr hs
    simp only [Phone.v]
    go_enter Try.func22, Try.ntmps22
    go_wp2_with fail
    refine (rright43 ⟨id, cut, H, N, S⟩ _ (HR.out.later qbl (Nat.le_refl _))).mono ?_
    rintro e w1 ⟨rfl, hb1⟩
    rw [HF.out]
    have K_a : Blk _ (w.heap.size) 26 #[.int .i64 id, .bool cut, .slice H.A H.l.length H.c, .slice N.A N.l.length N.c, .slice S.A S.l.length S.c] := qkb hb1
    obtain ⟨a0, a1, a2, a3, a4, af, az⟩ := Blk.b5 K_a
    have B_a := Lib.hid K_a
    clear K_a
    have K_b : Blk _ (w.heap.size + 1) 26 #[.int .i64 0, .bool false, .slice none 0 0, .slice none 0 0, .slice none 0 0] := qkb hb1
    obtain ⟨b0, b1, b2, b3, b4, bf, bz⟩ := Blk.b5 K_b
    have B_b := Lib.hid K_b
    clear K_b
    have hB1 : Below w.heap.size w w1 := qbv
    clear hb1
    go_wp2_with fail
    try simp only [Exit.inBlock, Exit.then]
    refine bodyPost_ret (v := .tuple #[.agg #[.int .i64 id, .bool cut, .slice H.A H.l.length H.c, .slice N.A N.l.length N.c, .slice S.A S.l.length S.c], .slice ss.A ss.l.length ss.c, .int .i64 1]) ?_ rfl ⟨rfl, qbh⟩
    simp [results, Try.results22, go_sem, a0, a1, a2, a3, a4, af, b0, b1, b2, b3, b4, bf, bz]
  · rw [hF, Bool.true_and] at hf
    have HF := Lib.hid hF
    clear hF
    rcases hG : (Phone.d ⟨id, cut, H, N, S⟩).fit (ss.l.map Stock.d)
    · have HG := Lib.hid hG
      clear hG hf
      have HR := Lib.hid hr
      have HS := Lib.hid hs
      clear hr hs
      simp only [Phone.v]
      go_enter Try.func22, Try.ntmps22
      go_wp2_with fail
      refine (rright43 ⟨id, cut, H, N, S⟩ _ (HR.out.later qbl (Nat.le_refl _))).mono ?_
      rintro e w1 ⟨rfl, hb1⟩
      rw [HF.out]
      have K_a : Blk _ (w.heap.size) 26 #[.int .i64 id, .bool cut, .slice H.A H.l.length H.c, .slice N.A N.l.length N.c, .slice S.A S.l.length S.c] := qkb hb1
      obtain ⟨a0, a1, a2, a3, a4, af, az⟩ := Blk.b5 K_a
      have B_a := Lib.hid K_a
      clear K_a
      have K_b : Blk _ (w.heap.size + 1) 26 #[.int .i64 0, .bool false, .slice none 0 0, .slice none 0 0, .slice none 0 0] := qkb hb1
      obtain ⟨b0, b1, b2, b3, b4, bf, bz⟩ := Blk.b5 K_b
      have B_b := Lib.hid K_b
      clear K_b
      have hB1 : Below w.heap.size w w1 := qbv
      clear hb1
      go_wp2_with fail
      refine (rfit43 ⟨id, cut, H, N, S⟩ ss _ (HR.out.later hB1 (Nat.le_refl _)) (HS.out.later hB1 (Nat.le_refl _)) (PhoneD.right_iff HF.out).H).mono ?_
      rintro e w2 ⟨rfl, hb2⟩
      rw [HG.out]
      clear a0 a1 a2 a3 a4 af b0 b1 b2 b3 b4 bf
      have K_a : Blk _ (w.heap.size) 26 #[.int .i64 id, .bool cut, .slice H.A H.l.length H.c, .slice N.A N.l.length N.c, .slice S.A S.l.length S.c] := qkc B_a hb2
      obtain ⟨a0, a1, a2, a3, a4, af, az⟩ := Blk.b5 K_a
      have B_a := Lib.hid K_a
      clear K_a
      have K_b : Blk _ (w.heap.size + 1) 26 #[.int .i64 0, .bool false, .slice none 0 0, .slice none 0 0, .slice none 0 0] := qkc B_b hb2
      obtain ⟨b0, b1, b2, b3, b4, bf, bz⟩ := Blk.b5 K_b
      have B_b := Lib.hid K_b
      clear K_b
      have hB2 : Below w.heap.size w w2 := qbv
      clear hb2
      go_wp2_with fail
      try simp only [Exit.inBlock, Exit.then]
      refine bodyPost_ret (v := .tuple #[.agg #[.int .i64 id, .bool cut, .slice H.A H.l.length H.c, .slice N.A N.l.length N.c, .slice S.A S.l.length S.c], .slice ss.A ss.l.length ss.c, .int .i64 1]) ?_ rfl ⟨rfl, qbh⟩
      simp [results, Try.results22, go_sem, a0, a1, a2, a3, a4, af, b0, b1, b2, b3, b4, bf, bz]
    · have hk : rngB k 0 ((ss.l.length : Int) - 1) = false := by rw [hG, Bool.true_and, List.length_map] at hf; exact hf
      have HG := Lib.hid hG
      clear hG hf
      rcases rngB_not.1 hk with hk0 | hk0
      · clear hk
        have HR := Lib.hid hr
        have HS := Lib.hid hs
        clear hr hs
        simp only [Phone.v]
        go_enter Try.func22, Try.ntmps22
        go_wp2_with fail
        refine (rright43 ⟨id, cut, H, N, S⟩ _ (HR.out.later qbl (Nat.le_refl _))).mono ?_
        rintro e w1 ⟨rfl, hb1⟩
        rw [HF.out]
        have K_a : Blk _ (w.heap.size) 26 #[.int .i64 id, .bool cut, .slice H.A H.l.length H.c, .slice N.A N.l.length N.c, .slice S.A S.l.length S.c] := qkb hb1
        obtain ⟨a0, a1, a2, a3, a4, af, az⟩ := Blk.b5 K_a
        have B_a := Lib.hid K_a
        clear K_a
        have K_b : Blk _ (w.heap.size + 1) 26 #[.int .i64 0, .bool false, .slice none 0 0, .slice none 0 0, .slice none 0 0] := qkb hb1
        obtain ⟨b0, b1, b2, b3, b4, bf, bz⟩ := Blk.b5 K_b
        have B_b := Lib.hid K_b
        clear K_b
        have hB1 : Below w.heap.size w w1 := qbv
        clear hb1
        go_wp2_with fail
        refine (rfit43 ⟨id, cut, H, N, S⟩ ss _ (HR.out.later hB1 (Nat.le_refl _)) (HS.out.later hB1 (Nat.le_refl _)) (PhoneD.right_iff HF.out).H).mono ?_
        rintro e w2 ⟨rfl, hb2⟩
        rw [HG.out]
        clear a0 a1 a2 a3 a4 af b0 b1 b2 b3 b4 bf
        have K_a : Blk _ (w.heap.size) 26 #[.int .i64 id, .bool cut, .slice H.A H.l.length H.c, .slice N.A N.l.length N.c, .slice S.A S.l.length S.c] := qkc B_a hb2
        obtain ⟨a0, a1, a2, a3, a4, af, az⟩ := Blk.b5 K_a
        have B_a := Lib.hid K_a
        clear K_a
        have K_b : Blk _ (w.heap.size + 1) 26 #[.int .i64 0, .bool false, .slice none 0 0, .slice none 0 0, .slice none 0 0] := qkc B_b hb2
        obtain ⟨b0, b1, b2, b3, b4, bf, bz⟩ := Blk.b5 K_b
        have B_b := Lib.hid K_b
        clear K_b
        have hB2 : Below w.heap.size w w2 := qbv
        clear hb2
        go_wp2_with fail
        try simp only [Exit.inBlock, Exit.then]
        refine bodyPost_ret (v := .tuple #[.agg #[.int .i64 id, .bool cut, .slice H.A H.l.length H.c, .slice N.A N.l.length N.c, .slice S.A S.l.length S.c], .slice ss.A ss.l.length ss.c, .int .i64 1]) ?_ rfl ⟨rfl, qbh⟩
        simp [results, Try.results22, go_sem, a0, a1, a2, a3, a4, af, b0, b1, b2, b3, b4, bf, bz]
      · have hk1 : (ss.l.length : Int) ≤ k := by omega
        have hk2 : ¬ k < 0 := by omega
        clear hk hk0
        have HR := Lib.hid hr
        have HS := Lib.hid hs
        clear hr hs
        simp only [Phone.v]
        go_enter Try.func22, Try.ntmps22
        go_wp2_with fail
        refine (rright43 ⟨id, cut, H, N, S⟩ _ (HR.out.later qbl (Nat.le_refl _))).mono ?_
        rintro e w1 ⟨rfl, hb1⟩
        rw [HF.out]
        have K_a : Blk _ (w.heap.size) 26 #[.int .i64 id, .bool cut, .slice H.A H.l.length H.c, .slice N.A N.l.length N.c, .slice S.A S.l.length S.c] := qkb hb1
        obtain ⟨a0, a1, a2, a3, a4, af, az⟩ := Blk.b5 K_a
        have B_a := Lib.hid K_a
        clear K_a
        have K_b : Blk _ (w.heap.size + 1) 26 #[.int .i64 0, .bool false, .slice none 0 0, .slice none 0 0, .slice none 0 0] := qkb hb1
        obtain ⟨b0, b1, b2, b3, b4, bf, bz⟩ := Blk.b5 K_b
        have B_b := Lib.hid K_b
        clear K_b
        have hB1 : Below w.heap.size w w1 := qbv
        clear hb1
        go_wp2_with fail
        refine (rfit43 ⟨id, cut, H, N, S⟩ ss _ (HR.out.later hB1 (Nat.le_refl _)) (HS.out.later hB1 (Nat.le_refl _)) (PhoneD.right_iff HF.out).H).mono ?_
        rintro e w2 ⟨rfl, hb2⟩
        rw [HG.out]
        clear a0 a1 a2 a3 a4 af b0 b1 b2 b3 b4 bf
        have K_a : Blk _ (w.heap.size) 26 #[.int .i64 id, .bool cut, .slice H.A H.l.length H.c, .slice N.A N.l.length N.c, .slice S.A S.l.length S.c] := qkc B_a hb2
        obtain ⟨a0, a1, a2, a3, a4, af, az⟩ := Blk.b5 K_a
        have B_a := Lib.hid K_a
        clear K_a
        have K_b : Blk _ (w.heap.size + 1) 26 #[.int .i64 0, .bool false, .slice none 0 0, .slice none 0 0, .slice none 0 0] := qkc B_b hb2
        obtain ⟨b0, b1, b2, b3, b4, bf, bz⟩ := Blk.b5 K_b
        have B_b := Lib.hid K_b
        clear K_b
        have hB2 : Below w.heap.size w w2 := qbv
        clear hb2
        go_wp2_with fail
        try simp only [Exit.inBlock, Exit.then]
        refine bodyPost_ret (v := .tuple #[.agg #[.int .i64 id, .bool cut, .slice H.A H.l.length H.c, .slice N.A N.l.length N.c, .slice S.A S.l.length S.c], .slice ss.A ss.l.length ss.c, .int .i64 1]) ?_ rfl ⟨rfl, qbh⟩
        simp [results, Try.results22, go_sem, a0, a1, a2, a3, a4, af, b0, b1, b2, b3, b4, bf, bz]
set_option maxHeartbeats 800000 in
theorem rlend43_cut (p : Phone) (ss : Sl Stock) (j : Nat) (n : Int) (w : World) (hr : RdPhone (· < w.heap.size) w p) (hs : RdStocks (· < w.heap.size) w ss) (HF : Hid (p.d.right = true)) (HG : Hid (p.d.fit (ss.l.map Stock.d) = true)) (hj : j < ss.l.length) (hc : p.cut = true) :
    Calls Try.prog 22 #[p.v, .slice ss.A ss.l.length ss.c, .int .i64 j, .int .i64 n] w fun e w' => e = .returned (.tuple #[p.v, .slice ss.A ss.l.length ss.c, .int .i64 7]) ∧ Below w.heap.size w w' := by
  obtain ⟨id, cut, H, N, S⟩ := p
  simp only at hc
  subst hc
  have HR := Lib.hid hr
  have HS := Lib.hid hs
  clear hr hs
  simp only [Phone.v]
  go_enter Try.func22, Try.ntmps22
  go_wp2_with fail
  refine (rright43 ⟨id, true, H, N, S⟩ _ (HR.out.later qbl (Nat.le_refl _))).mono ?_
  rintro e w1 ⟨rfl, hb1⟩
  rw [HF.out]
  have K_a : Blk _ (w.heap.size) 26 #[.int .i64 id, .bool true, .slice H.A H.l.length H.c, .slice N.A N.l.length N.c, .slice S.A S.l.length S.c] := qkb hb1
  obtain ⟨a0, a1, a2, a3, a4, af, az⟩ := Blk.b5 K_a
  have B_a := Lib.hid K_a
  clear K_a
  have K_b : Blk _ (w.heap.size + 1) 26 #[.int .i64 0, .bool false, .slice none 0 0, .slice none 0 0, .slice none 0 0] := qkb hb1
  obtain ⟨b0, b1, b2, b3, b4, bf, bz⟩ := Blk.b5 K_b
  have B_b := Lib.hid K_b
  clear K_b
  have hB1 : Below w.heap.size w w1 := qbv
  clear hb1
  go_wp2_with fail
  refine (rfit43 ⟨id, true, H, N, S⟩ ss _ (HR.out.later hB1 (Nat.le_refl _)) (HS.out.later hB1 (Nat.le_refl _)) (PhoneD.right_iff HF.out).H).mono ?_
  rintro e w2 ⟨rfl, hb2⟩
  rw [HG.out]
  clear a0 a1 a2 a3 a4 af b0 b1 b2 b3 b4 bf
  have K_a : Blk _ (w.heap.size) 26 #[.int .i64 id, .bool true, .slice H.A H.l.length H.c, .slice N.A N.l.length N.c, .slice S.A S.l.length S.c] := qkc B_a hb2
  obtain ⟨a0, a1, a2, a3, a4, af, az⟩ := Blk.b5 K_a
  have B_a := Lib.hid K_a
  clear K_a
  have K_b : Blk _ (w.heap.size + 1) 26 #[.int .i64 0, .bool false, .slice none 0 0, .slice none 0 0, .slice none 0 0] := qkc B_b hb2
  obtain ⟨b0, b1, b2, b3, b4, bf, bz⟩ := Blk.b5 K_b
  have B_b := Lib.hid K_b
  clear K_b
  have hB2 : Below w.heap.size w w2 := qbv
  clear hb2
  go_wp2_with fail
  try simp only [Exit.inBlock, Exit.then]
  refine bodyPost_ret (v := .tuple #[.agg #[.int .i64 id, .bool true, .slice H.A H.l.length H.c, .slice N.A N.l.length N.c, .slice S.A S.l.length S.c], .slice ss.A ss.l.length ss.c, .int .i64 7]) ?_ rfl ⟨rfl, qbh⟩
  simp [results, Try.results22, go_sem, a0, a1, a2, a3, a4, af, b0, b1, b2, b3, b4, bf, bz]
set_option maxHeartbeats 800000 in
theorem rlend43_full (p : Phone) (ss : Sl Stock) (j : Nat) (n : Int) (w : World) (hr : RdPhone (· < w.heap.size) w p) (hs : RdStocks (· < w.heap.size) w ss) (HF : Hid (p.d.right = true)) (HG : Hid (p.d.fit (ss.l.map Stock.d) = true)) (hj : j < ss.l.length) (hc : p.cut = false)
    (HFK : Hid (findK Hold.st j 0 p.H.l = -1)) (HL : Hid (p.H.l.length = 100)) :
    Calls Try.prog 22 #[p.v, .slice ss.A ss.l.length ss.c, .int .i64 j, .int .i64 n] w fun e w' => e = .returned (.tuple #[p.v, .slice ss.A ss.l.length ss.c, .int .i64 6]) ∧ Below w.heap.size w w' := by
  obtain ⟨id, cut, H, N, S⟩ := p
  simp only at hc
  subst hc
  have hfull : (100 : Int) ≤ (H.l.length : Int) := by have := HL.out; simp only at this; omega
  have HR := Lib.hid hr
  have HS := Lib.hid hs
  clear hr hs
  simp only [Phone.v]
  go_enter Try.func22, Try.ntmps22
  go_wp2_with fail
  refine (rright43 ⟨id, false, H, N, S⟩ _ (HR.out.later qbl (Nat.le_refl _))).mono ?_
  rintro e w1 ⟨rfl, hb1⟩
  rw [HF.out]
  have K_a : Blk _ (w.heap.size) 26 #[.int .i64 id, .bool false, .slice H.A H.l.length H.c, .slice N.A N.l.length N.c, .slice S.A S.l.length S.c] := qkb hb1
  obtain ⟨a0, a1, a2, a3, a4, af, az⟩ := Blk.b5 K_a
  have B_a := Lib.hid K_a
  clear K_a
  have K_b : Blk _ (w.heap.size + 1) 26 #[.int .i64 0, .bool false, .slice none 0 0, .slice none 0 0, .slice none 0 0] := qkb hb1
  obtain ⟨b0, b1, b2, b3, b4, bf, bz⟩ := Blk.b5 K_b
  have B_b := Lib.hid K_b
  clear K_b
  have hB1 : Below w.heap.size w w1 := qbv
  clear hb1
  go_wp2_with fail
  refine (rfit43 ⟨id, false, H, N, S⟩ ss _ (HR.out.later hB1 (Nat.le_refl _)) (HS.out.later hB1 (Nat.le_refl _)) (PhoneD.right_iff HF.out).H).mono ?_
  rintro e w2 ⟨rfl, hb2⟩
  rw [HG.out]
  clear a0 a1 a2 a3 a4 af b0 b1 b2 b3 b4 bf
  have K_a : Blk _ (w.heap.size) 26 #[.int .i64 id, .bool false, .slice H.A H.l.length H.c, .slice N.A N.l.length N.c, .slice S.A S.l.length S.c] := qkc B_a hb2
  obtain ⟨a0, a1, a2, a3, a4, af, az⟩ := Blk.b5 K_a
  have B_a := Lib.hid K_a
  clear K_a
  have K_b : Blk _ (w.heap.size + 1) 26 #[.int .i64 0, .bool false, .slice none 0 0, .slice none 0 0, .slice none 0 0] := qkc B_b hb2
  obtain ⟨b0, b1, b2, b3, b4, bf, bz⟩ := Blk.b5 K_b
  have B_b := Lib.hid K_b
  clear K_b
  have hB2 : Below w.heap.size w w2 := qbv
  clear hb2
  go_wp2_with fail
  refine (rat43 ⟨id, false, H, N, S⟩ j _ (HR.out.later hB2 (Nat.le_refl _)).1).mono ?_
  rintro e w3 ⟨rfl, hb3⟩
  try simp only
  rw [HFK.out]
  clear a0 a1 a2 a3 a4 af b0 b1 b2 b3 b4 bf
  have K_a : Blk _ (w.heap.size) 26 #[.int .i64 id, .bool false, .slice H.A H.l.length H.c, .slice N.A N.l.length N.c, .slice S.A S.l.length S.c] := qkc B_a hb3
  obtain ⟨a0, a1, a2, a3, a4, af, az⟩ := Blk.b5 K_a
  have B_a := Lib.hid K_a
  clear K_a
  have K_b : Blk _ (w.heap.size + 1) 26 #[.int .i64 0, .bool false, .slice none 0 0, .slice none 0 0, .slice none 0 0] := qkc B_b hb3
  obtain ⟨b0, b1, b2, b3, b4, bf, bz⟩ := Blk.b5 K_b
  have B_b := Lib.hid K_b
  clear K_b
  have hB3 : Below w.heap.size w w3 := qbv
  clear hb3
  go_wp2_with fail
  try simp only [Exit.inBlock, Exit.then]
  refine bodyPost_ret (v := .tuple #[.agg #[.int .i64 id, .bool false, .slice H.A H.l.length H.c, .slice N.A N.l.length N.c, .slice S.A S.l.length S.c], .slice ss.A ss.l.length ss.c, .int .i64 6]) ?_ rfl ⟨rfl, qbh⟩
  simp [results, Try.results22, go_sem, a0, a1, a2, a3, a4, af, b0, b1, b2, b3, b4, bf, bz]
end Go.Proofs.Ythnblhbdfpmolaa
