/- Walks of the references of layers 40 and 43: Use and Give whole; Join, the ways back. -/
import Derived.Test.YthnblhbdfpmolaaTellsmxbp
import Derived.Test.YthnblhbdfpmolaaTellsmxbj
namespace Go.Proofs.Ythnblhbdfpmolaa
open Go.RowKit
set_option maxHeartbeats 800000 in
theorem ruse_none (s : Stock) (p n : Int) (w : World) (hr : Rd (· < w.heap.size) 3 Loan.enc w s.L) (HF : Hid (s.d.fits p n = true)) (HK : Hid (findK Loan.p p 0 s.L.l = -1)) :
    Calls Try.prog 72 #[s.v, .int .i64 p, .int .i64 n] w fun e w' => e = .returned (.tuple #[s.v, .int .i64 4]) ∧ Below w.heap.size w w' := by
  obtain ⟨T, U, L⟩ := s
  have HR := Lib.hid hr
  clear hr
  simp only [Stock.v]
  try simp only at hb
  try simp only at hu1 hu2
  go_enter Try.func72, Try.ntmps72
  go_wp2_with fail
  refine (rfits ⟨T, U, L⟩ p n _ ((HR.out.lt_alloc _).lt_alloc _)).mono ?_
  rintro e w1 ⟨rfl, hb1⟩
  rw [HF.out]
  have K_a : Blk _ (w.heap.size) 66 #[.int .i64 T, .int .i64 U, .slice L.A L.l.length L.c] := qkb hb1
  obtain ⟨a0, a1, a2, af, az⟩ := Blk.b3 K_a
  have B_a := Lib.hid K_a
  clear K_a
  have K_b : Blk _ (w.heap.size + 1) 66 #[.int .i64 0, .int .i64 0, .slice none 0 0] := qkb hb1
  obtain ⟨b0, b1, b2, bf, bz⟩ := Blk.b3 K_b
  have B_b := Lib.hid K_b
  clear K_b
  have hB1 : Below w.heap.size w w1 := qbv
  clear hb1
  go_wp2_with fail
  refine (rfind ⟨T, U, L⟩ p _ (HR.out.below' hB1 (Nat.le_refl _))).mono ?_
  rintro e w2 ⟨rfl, hb2⟩
  try simp only
  rw [HK.out]
  clear a0 a1 a2 af b0 b1 b2 bf
  have K_a : Blk _ (w.heap.size) 66 #[.int .i64 T, .int .i64 U, .slice L.A L.l.length L.c] := qkc B_a hb2
  obtain ⟨a0, a1, a2, af, az⟩ := Blk.b3 K_a
  have B_a := Lib.hid K_a
  clear K_a
  have K_b : Blk _ (w.heap.size + 1) 66 #[.int .i64 0, .int .i64 0, .slice none 0 0] := qkc B_b hb2
  obtain ⟨b0, b1, b2, bf, bz⟩ := Blk.b3 K_b
  have B_b := Lib.hid K_b
  clear K_b
  have hB2 : Below w.heap.size w w2 := qbv
  clear hb2
  go_wp2_with fail
  try simp only [Exit.inBlock, Exit.then]
  refine bodyPost_ret (v := .tuple #[.agg #[.int .i64 T, .int .i64 U, .slice L.A L.l.length L.c], .int .i64 4]) ?_ rfl ⟨rfl, qbv⟩
  simp [results, Try.results72, go_sem, a0, a1, a2, af, b0, b1, b2, bf, az, bz]
set_option maxHeartbeats 800000 in
theorem rgive_none (s : Stock) (p : Int) (w : World) (hr : Rd (· < w.heap.size) 3 Loan.enc w s.L) (HF : Hid (s.d.fits p 1 = true)) (HK : Hid (findK Loan.p p 0 s.L.l = -1)) :
    Calls Try.prog 73 #[s.v, .int .i64 p] w fun e w' => e = .returned (.tuple #[s.v, .int .i64 4]) ∧ Below w.heap.size w w' := by
  obtain ⟨T, U, L⟩ := s
  have HR := Lib.hid hr
  clear hr
  simp only [Stock.v]
  try simp only at hb
  try simp only at hu1 hu2
  go_enter Try.func73, Try.ntmps73
  go_wp2_with fail
  refine (rfits ⟨T, U, L⟩ p 1 _ ((HR.out.lt_alloc _).lt_alloc _)).mono ?_
  rintro e w1 ⟨rfl, hb1⟩
  rw [HF.out]
  have K_a : Blk _ (w.heap.size) 66 #[.int .i64 T, .int .i64 U, .slice L.A L.l.length L.c] := qkb hb1
  obtain ⟨a0, a1, a2, af, az⟩ := Blk.b3 K_a
  have B_a := Lib.hid K_a
  clear K_a
  have K_b : Blk _ (w.heap.size + 1) 66 #[.int .i64 0, .int .i64 0, .slice none 0 0] := qkb hb1
  obtain ⟨b0, b1, b2, bf, bz⟩ := Blk.b3 K_b
  have B_b := Lib.hid K_b
  clear K_b
  have hB1 : Below w.heap.size w w1 := qbv
  clear hb1
  go_wp2_with fail
  refine (rfind ⟨T, U, L⟩ p _ (HR.out.below' hB1 (Nat.le_refl _))).mono ?_
  rintro e w2 ⟨rfl, hb2⟩
  try simp only
  rw [HK.out]
  clear a0 a1 a2 af b0 b1 b2 bf
  have K_a : Blk _ (w.heap.size) 66 #[.int .i64 T, .int .i64 U, .slice L.A L.l.length L.c] := qkc B_a hb2
  obtain ⟨a0, a1, a2, af, az⟩ := Blk.b3 K_a
  have B_a := Lib.hid K_a
  clear K_a
  have K_b : Blk _ (w.heap.size + 1) 66 #[.int .i64 0, .int .i64 0, .slice none 0 0] := qkc B_b hb2
  obtain ⟨b0, b1, b2, bf, bz⟩ := Blk.b3 K_b
  have B_b := Lib.hid K_b
  clear K_b
  have hB2 : Below w.heap.size w w2 := qbv
  clear hb2
  go_wp2_with fail
  try simp only [Exit.inBlock, Exit.then]
  refine bodyPost_ret (v := .tuple #[.agg #[.int .i64 T, .int .i64 U, .slice L.A L.l.length L.c], .int .i64 4]) ?_ rfl ⟨rfl, qbv⟩
  simp [results, Try.results73, go_sem, a0, a1, a2, af, b0, b1, b2, bf, az, bz]
set_option maxHeartbeats 800000 in
theorem ruse_few (s : Stock) (p n : Int) (i : Nat) (x : Loan) (w : World) (hr : Rd (· < w.heap.size) 3 Loan.enc w s.L) (HF : Hid (s.d.fits p n = true)) (HK : Hid (findK Loan.p p 0 s.L.l = (i : Int))) (HX : Hid (s.L.l[i]? = some x)) (hlt : x.u - x.s < n) :
    Calls Try.prog 72 #[s.v, .int .i64 p, .int .i64 n] w fun e w' => e = .returned (.tuple #[s.v, .int .i64 21]) ∧ Below w.heap.size w w' := by
  have h1 := StockD.fits_iff HF.out
  have hm := rightGo_mem _ _ _ (StockD.right_iff h1.1).2 x (List.mem_of_getElem? HX.out)
  have hx1 : 1 ≤ x.u := hm.1
  have hx2 : x.u ≤ 1000000000000000 := by have := hm.2.1; have := (StockD.right_iff h1.1).1; simp only [StockD.ok0] at this; omega
  have hx3 : 0 ≤ x.s := hm.2.2.1
  have hx4 : x.s ≤ x.u := hm.2.2.2.1
  have hu1 : 0 ≤ s.U := (StockD.right_iff h1.1).1.2.2.1
  have hu2 : s.U ≤ 1000000000000000 := by have := (StockD.right_iff h1.1).1; simp only [StockD.ok0, Stock.d] at this; omega
  have hi : i < s.L.l.length := (List.getElem?_eq_some_iff.1 HX.out).1
  clear hm
  clear h1 hu1 hu2
  obtain ⟨T, U, L⟩ := s
  have HR := Lib.hid hr
  clear hr
  simp only [Stock.v]
  try simp only at hb
  try simp only at hu1 hu2
  go_enter Try.func72, Try.ntmps72
  go_wp2_with fail
  refine (rfits ⟨T, U, L⟩ p n _ ((HR.out.lt_alloc _).lt_alloc _)).mono ?_
  rintro e w1 ⟨rfl, hb1⟩
  rw [HF.out]
  have K_a : Blk _ (w.heap.size) 66 #[.int .i64 T, .int .i64 U, .slice L.A L.l.length L.c] := qkb hb1
  obtain ⟨a0, a1, a2, af, az⟩ := Blk.b3 K_a
  have B_a := Lib.hid K_a
  clear K_a
  have K_b : Blk _ (w.heap.size + 1) 66 #[.int .i64 0, .int .i64 0, .slice none 0 0] := qkb hb1
  obtain ⟨b0, b1, b2, bf, bz⟩ := Blk.b3 K_b
  have B_b := Lib.hid K_b
  clear K_b
  have hB1 : Below w.heap.size w w1 := qbv
  clear hb1
  go_wp2_with fail
  refine (rfind ⟨T, U, L⟩ p _ (HR.out.below' hB1 (Nat.le_refl _))).mono ?_
  rintro e w2 ⟨rfl, hb2⟩
  try simp only
  rw [HK.out]
  clear a0 a1 a2 af b0 b1 b2 bf
  have K_a : Blk _ (w.heap.size) 66 #[.int .i64 T, .int .i64 U, .slice L.A L.l.length L.c] := qkc B_a hb2
  obtain ⟨a0, a1, a2, af, az⟩ := Blk.b3 K_a
  have B_a := Lib.hid K_a
  clear K_a
  have K_b : Blk _ (w.heap.size + 1) 66 #[.int .i64 0, .int .i64 0, .slice none 0 0] := qkc B_b hb2
  obtain ⟨b0, b1, b2, bf, bz⟩ := Blk.b3 K_b
  have B_b := Lib.hid K_b
  clear K_b
  have hB2 : Below w.heap.size w w2 := qbv
  clear hb2
  go_wp2_with fail
  obtain ⟨b2', o2', hA2, hF2, hcl2⟩ := HR.out.2.2.2 _ x HX.out
  try simp only at hi
  try simp only at hA2
  have hcl2 := hcl2.keep (hB2.block b2' hF2)
  obtain ⟨h0, h1', h2'⟩ := Cells.c3 hcl2
  have hii : (i : Int) < (L.l.length : Int) := by omega
  have hi0 : (0 : Int) ≤ (i : Int) := by omega
  clear hcl2
  try simp only at a2
  rw [hA2] at a2
  have HA2 := Lib.hid hA2
  clear hA2
  go_quiet (fail)
  go_wp2_with fail
  try simp only [Exit.inBlock, Exit.then]
  refine bodyPost_ret (v := .tuple #[.agg #[.int .i64 T, .int .i64 U, .slice L.A L.l.length L.c], .int .i64 21]) ?_ rfl ⟨rfl, qbv⟩
  simp [results, Try.results72, go_sem, a0, a1, a2, af, b0, b1, b2, bf, HA2.out, az, bz]
theorem ruse (s : Stock) (p n : Int) (w : World) (hr : Rd (· < w.heap.size) 3 Loan.enc w s.L) (hb : s.L.l.length * 24 ≤ 140737488355328) :
    Calls Try.prog 72 #[s.v, .int .i64 p, .int .i64 n] w fun e w' => ∃ s' : Stock, e = .returned (.tuple #[s'.v, .int .i64 (s.d.use p n).2]) ∧ s'.d = (s.d.use p n).1 ∧ Hid (s'.L = s.L ∨ Rd (fun b => w.heap.size ≤ b ∧ b < w'.heap.size) 3 Loan.enc w' s'.L) ∧ Below w.heap.size w w' := by
  rcases hF : s.d.fits p n
  · have ht : s.d.use p n = (s.d, 1) := by unfold StockD.use; rw [if_neg (by rw [hF]; simp)]
    rw [ht]
    refine (ruse_no s p n w hr hF).mono ?_
    rintro e w' ⟨rfl, hbw⟩
    exact ⟨s, rfl, rfl, .inl rfl, hbw⟩
  · have hso := StockD.sorted (StockD.fits_iff hF).1
    rcases hh : has s.d.L p
    · have ht : s.d.use p n = (s.d, 4) := by unfold StockD.use; rw [if_pos hF]; split <;> simp [hh]
      rw [ht]
      refine (ruse_none s p n w hr hF (Lib.hid (findK_none hh))).mono ?_
      rintro e w' ⟨rfl, hbw⟩
      exact ⟨s, rfl, rfl, .inl rfl, hbw⟩
    · obtain ⟨x, hx, _⟩ := idx_at hso hh
      have hk : Hid (findK Loan.p p 0 s.L.l = (idx s.L.l p : Int)) := Lib.hid (findK_loan hso hh)
      simp only [StockD.use, hF, hh, hx, if_true]
      rcases Int.lt_or_le (x.u - x.s) n with h | h
      · rw [if_pos h]
        refine (ruse_few s p n _ x w hr hF hk hx h).mono ?_
        rintro e w' ⟨rfl, hbw⟩
        exact ⟨s, rfl, rfl, .inl rfl, hbw⟩
      · rw [if_neg (Int.not_lt.2 h)]
        refine (ruse_ok s p n _ x w hr hb hF hk hx h).mono ?_
        rintro e w' ⟨s', rfl, h1, h2, h3⟩
        exact ⟨s', rfl, h1, .inr h2, h3⟩
theorem rgive (s : Stock) (p : Int) (w : World) (hr : Rd (· < w.heap.size) 3 Loan.enc w s.L) (hb : s.L.l.length * 24 ≤ 140737488355328) :
    Calls Try.prog 73 #[s.v, .int .i64 p] w fun e w' => ∃ s' : Stock, e = .returned (.tuple #[s'.v, .int .i64 (s.d.give p).2]) ∧ s'.d = (s.d.give p).1 ∧ Hid (s'.L = s.L ∨ Rd (fun b => w.heap.size ≤ b ∧ b < w'.heap.size) 3 Loan.enc w' s'.L) ∧ Below w.heap.size w w' := by
  rcases hF : s.d.fits p 1
  · have ht : s.d.give p = (s.d, 1) := by unfold StockD.give; rw [if_neg (by rw [hF]; simp)]
    rw [ht]
    refine (rgive_no s p w hr hF).mono ?_
    rintro e w' ⟨rfl, hbw⟩
    exact ⟨s, rfl, rfl, .inl rfl, hbw⟩
  · have hso := StockD.sorted (StockD.fits_iff hF).1
    rcases hh : has s.d.L p
    · have ht : s.d.give p = (s.d, 4) := by unfold StockD.give; rw [if_pos hF]; split <;> simp [hh]
      rw [ht]
      refine (rgive_none s p w hr hF (Lib.hid (findK_none hh))).mono ?_
      rintro e w' ⟨rfl, hbw⟩
      exact ⟨s, rfl, rfl, .inl rfl, hbw⟩
    · obtain ⟨x, hx, _⟩ := idx_at hso hh
      have hk : Hid (findK Loan.p p 0 s.L.l = (idx s.L.l p : Int)) := Lib.hid (findK_loan hso hh)
      simp only [StockD.give, hF, hh, hx, if_true]
      refine (rgive_ok s p _ x w hr hb hF hk hx).mono ?_
      rintro e w' ⟨s', rfl, h1, h2, h3⟩
      exact ⟨s', rfl, h1, .inr h2, h3⟩
set_option maxHeartbeats 800000 in
theorem rjoin_no (p : Phone) (ss : Sl Stock) (now : Sl Int) (w : World) (hr : RdPhone (· < w.heap.size) w p) (hs : RdStocks (· < w.heap.size) w ss) (hw : Rd (· < w.heap.size) 1 ienc w now) (hf : okJoin p.d (ss.l.map Stock.d) now.l = false) :
    Calls Try.prog 29 #[p.v, .slice ss.A ss.l.length ss.c, .slice now.A now.l.length now.c] w fun e w' => e = .returned (.tuple #[p.v, .slice ss.A ss.l.length ss.c, .slice none 0 0, .int .i64 1]) ∧ Below w.heap.size w w' := by
  obtain ⟨id, cut, H, N, S⟩ := p
  unfold okJoin at hf
  rcases hF : (Phone.d ⟨id, cut, H, N, S⟩).right
  · have HF := Lib.hid hF
    clear hF hf
    have HR := Lib.hid hr
    have HS := Lib.hid hs
    have HW := Lib.hid hw
    clear hr hs hw
    simp only [Phone.v]
    go_enter Try.func29, Try.ntmps29
    go_wp2_with fail
    refine (rright43 ⟨id, cut, H, N, S⟩ _ (HR.out.later qbl (Nat.le_refl _))).mono ?_
    rintro e w1 ⟨rfl, hb1⟩
    rw [HF.out]
    have K_a : Blk _ (w.heap.size) 26 #[.int .i64 id, .bool cut, .slice H.A H.l.length H.c, .slice N.A N.l.length N.c, .slice S.A S.l.length S.c] := qkb hb1
    obtain ⟨a0, a1, a2, a3, a4, af, az⟩ := Blk.b5 K_a
    have B_a := Lib.hid K_a
    clear K_a
    have K_b : Blk _ (w.heap.size + 1) 26 #[.int .i64 0, .bool false, .slice none 0 0, .slice none 0 0, .slice none 0 0] := qkb hb1
    obtain ⟨b0, b1, b2, b3, b4, bf, bz⟩ := Blk.b5 K_b
    have B_b := Lib.hid K_b
    clear K_b
    have hB1 : Below w.heap.size w w1 := qbv
    clear hb1
    go_wp2_with fail
    try simp only [Exit.inBlock, Exit.then]
    refine bodyPost_ret (v := .tuple #[.agg #[.int .i64 id, .bool cut, .slice H.A H.l.length H.c, .slice N.A N.l.length N.c, .slice S.A S.l.length S.c], .slice ss.A ss.l.length ss.c, .slice none 0 0, .int .i64 1]) ?_ rfl ⟨rfl, qbh⟩
    simp [results, Try.results29, go_sem, a0, a1, a2, a3, a4, af, b0, b1, b2, b3, b4, bf, bz]
  · rw [hF, Bool.true_and] at hf
    have HF := Lib.hid hF
    clear hF
    rcases hG : (Phone.d ⟨id, cut, H, N, S⟩).fit (ss.l.map Stock.d)
    · have HG := Lib.hid hG
      clear hG hf
      have HR := Lib.hid hr
      have HS := Lib.hid hs
      have HW := Lib.hid hw
      clear hr hs hw
      simp only [Phone.v]
      go_enter Try.func29, Try.ntmps29
      go_wp2_with fail
      refine (rright43 ⟨id, cut, H, N, S⟩ _ (HR.out.later qbl (Nat.le_refl _))).mono ?_
      rintro e w1 ⟨rfl, hb1⟩
      rw [HF.out]
      have K_a : Blk _ (w.heap.size) 26 #[.int .i64 id, .bool cut, .slice H.A H.l.length H.c, .slice N.A N.l.length N.c, .slice S.A S.l.length S.c] := qkb hb1
      obtain ⟨a0, a1, a2, a3, a4, af, az⟩ := Blk.b5 K_a
      have B_a := Lib.hid K_a
      clear K_a
      have K_b : Blk _ (w.heap.size + 1) 26 #[.int .i64 0, .bool false, .slice none 0 0, .slice none 0 0, .slice none 0 0] := qkb hb1
      obtain ⟨b0, b1, b2, b3, b4, bf, bz⟩ := Blk.b5 K_b
      have B_b := Lib.hid K_b
      clear K_b
      have hB1 : Below w.heap.size w w1 := qbv
      clear hb1
      go_wp2_with fail
      refine (rfit43 ⟨id, cut, H, N, S⟩ ss _ (HR.out.later hB1 (Nat.le_refl _)) (HS.out.later hB1 (Nat.le_refl _)) (PhoneD.right_iff HF.out).H).mono ?_
      rintro e w2 ⟨rfl, hb2⟩
      rw [HG.out]
      clear a0 a1 a2 a3 a4 af b0 b1 b2 b3 b4 bf
      have K_a : Blk _ (w.heap.size) 26 #[.int .i64 id, .bool cut, .slice H.A H.l.length H.c, .slice N.A N.l.length N.c, .slice S.A S.l.length S.c] := qkc B_a hb2
      obtain ⟨a0, a1, a2, a3, a4, af, az⟩ := Blk.b5 K_a
      have B_a := Lib.hid K_a
      clear K_a
      have K_b : Blk _ (w.heap.size + 1) 26 #[.int .i64 0, .bool false, .slice none 0 0, .slice none 0 0, .slice none 0 0] := qkc B_b hb2
      obtain ⟨b0, b1, b2, b3, b4, bf, bz⟩ := Blk.b5 K_b
      have B_b := Lib.hid K_b
      clear K_b
      have hB2 : Below w.heap.size w w2 := qbv
      clear hb2
      go_wp2_with fail
      try simp only [Exit.inBlock, Exit.then]
      refine bodyPost_ret (v := .tuple #[.agg #[.int .i64 id, .bool cut, .slice H.A H.l.length H.c, .slice N.A N.l.length N.c, .slice S.A S.l.length S.c], .slice ss.A ss.l.length ss.c, .slice none 0 0, .int .i64 1]) ?_ rfl ⟨rfl, qbh⟩
      simp [results, Try.results29, go_sem, a0, a1, a2, a3, a4, af, b0, b1, b2, b3, b4, bf, bz]
    · rw [hG, Bool.true_and] at hf
      have HG := Lib.hid hG
      have HK := Lib.hid hf
      clear hG hf
      have HR := Lib.hid hr
      have HS := Lib.hid hs
      have HW := Lib.hid hw
      clear hr hs hw
      simp only [Phone.v]
      go_enter Try.func29, Try.ntmps29
      go_wp2_with fail
      refine (rright43 ⟨id, cut, H, N, S⟩ _ (HR.out.later qbl (Nat.le_refl _))).mono ?_
      rintro e w1 ⟨rfl, hb1⟩
      rw [HF.out]
      have K_a : Blk _ (w.heap.size) 26 #[.int .i64 id, .bool cut, .slice H.A H.l.length H.c, .slice N.A N.l.length N.c, .slice S.A S.l.length S.c] := qkb hb1
      obtain ⟨a0, a1, a2, a3, a4, af, az⟩ := Blk.b5 K_a
      have B_a := Lib.hid K_a
      clear K_a
      have K_b : Blk _ (w.heap.size + 1) 26 #[.int .i64 0, .bool false, .slice none 0 0, .slice none 0 0, .slice none 0 0] := qkb hb1
      obtain ⟨b0, b1, b2, b3, b4, bf, bz⟩ := Blk.b5 K_b
      have B_b := Lib.hid K_b
      clear K_b
      have hB1 : Below w.heap.size w w1 := qbv
      clear hb1
      go_wp2_with fail
      refine (rfit43 ⟨id, cut, H, N, S⟩ ss _ (HR.out.later hB1 (Nat.le_refl _)) (HS.out.later hB1 (Nat.le_refl _)) (PhoneD.right_iff HF.out).H).mono ?_
      rintro e w2 ⟨rfl, hb2⟩
      rw [HG.out]
      clear a0 a1 a2 a3 a4 af b0 b1 b2 b3 b4 bf
      have K_a : Blk _ (w.heap.size) 26 #[.int .i64 id, .bool cut, .slice H.A H.l.length H.c, .slice N.A N.l.length N.c, .slice S.A S.l.length S.c] := qkc B_a hb2
      obtain ⟨a0, a1, a2, a3, a4, af, az⟩ := Blk.b5 K_a
      have B_a := Lib.hid K_a
      clear K_a
      have K_b : Blk _ (w.heap.size + 1) 26 #[.int .i64 0, .bool false, .slice none 0 0, .slice none 0 0, .slice none 0 0] := qkc B_b hb2
      obtain ⟨b0, b1, b2, b3, b4, bf, bz⟩ := Blk.b5 K_b
      have B_b := Lib.hid K_b
      clear K_b
      have hB2 : Below w.heap.size w w2 := qbv
      clear hb2
      go_wp2_with fail
      refine (rseen43 now _ (HW.out.below' hB2 (Nat.le_refl _))).mono ?_
      rintro e w3 ⟨rfl, hb3⟩
      rw [HK.out]
      clear a0 a1 a2 a3 a4 af b0 b1 b2 b3 b4 bf
      have K_a : Blk _ (w.heap.size) 26 #[.int .i64 id, .bool cut, .slice H.A H.l.length H.c, .slice N.A N.l.length N.c, .slice S.A S.l.length S.c] := qkc B_a hb3
      obtain ⟨a0, a1, a2, a3, a4, af, az⟩ := Blk.b5 K_a
      have B_a := Lib.hid K_a
      clear K_a
      have K_b : Blk _ (w.heap.size + 1) 26 #[.int .i64 0, .bool false, .slice none 0 0, .slice none 0 0, .slice none 0 0] := qkc B_b hb3
      obtain ⟨b0, b1, b2, b3, b4, bf, bz⟩ := Blk.b5 K_b
      have B_b := Lib.hid K_b
      clear K_b
      have hB3 : Below w.heap.size w w3 := qbv
      clear hb3
      go_wp2_with fail
      try simp only [Exit.inBlock, Exit.then]
      refine bodyPost_ret (v := .tuple #[.agg #[.int .i64 id, .bool cut, .slice H.A H.l.length H.c, .slice N.A N.l.length N.c, .slice S.A S.l.length S.c], .slice ss.A ss.l.length ss.c, .slice none 0 0, .int .i64 1]) ?_ rfl ⟨rfl, qbh⟩
      simp [results, Try.results29, go_sem, a0, a1, a2, a3, a4, af, b0, b1, b2, b3, b4, bf, bz]
set_option maxHeartbeats 800000 in
theorem rjoin_on (p : Phone) (ss : Sl Stock) (now : Sl Int) (w : World) (hr : RdPhone (· < w.heap.size) w p) (hs : RdStocks (· < w.heap.size) w ss) (hw : Rd (· < w.heap.size) 1 ienc w now) (HF : Hid (p.d.right = true)) (HG : Hid (p.d.fit (ss.l.map Stock.d) = true)) (HK : Hid (seenR now.l = true)) (hc : p.cut = false) :
    Calls Try.prog 29 #[p.v, .slice ss.A ss.l.length ss.c, .slice now.A now.l.length now.c] w fun e w' => e = .returned (.tuple #[p.v, .slice ss.A ss.l.length ss.c, .slice none 0 0, .int .i64 7]) ∧ Below w.heap.size w w' := by
  obtain ⟨id, cut, H, N, S⟩ := p
  simp only at hc
  subst hc
  have HR := Lib.hid hr
  have HS := Lib.hid hs
  have HW := Lib.hid hw
  clear hr hs hw
  simp only [Phone.v]
  go_enter Try.func29, Try.ntmps29
  go_wp2_with fail
  refine (rright43 ⟨id, false, H, N, S⟩ _ (HR.out.later qbl (Nat.le_refl _))).mono ?_
  rintro e w1 ⟨rfl, hb1⟩
  rw [HF.out]
  have K_a : Blk _ (w.heap.size) 26 #[.int .i64 id, .bool false, .slice H.A H.l.length H.c, .slice N.A N.l.length N.c, .slice S.A S.l.length S.c] := qkb hb1
  obtain ⟨a0, a1, a2, a3, a4, af, az⟩ := Blk.b5 K_a
  have B_a := Lib.hid K_a
  clear K_a
  have K_b : Blk _ (w.heap.size + 1) 26 #[.int .i64 0, .bool false, .slice none 0 0, .slice none 0 0, .slice none 0 0] := qkb hb1
  obtain ⟨b0, b1, b2, b3, b4, bf, bz⟩ := Blk.b5 K_b
  have B_b := Lib.hid K_b
  clear K_b
  have hB1 : Below w.heap.size w w1 := qbv
  clear hb1
  go_wp2_with fail
  refine (rfit43 ⟨id, false, H, N, S⟩ ss _ (HR.out.later hB1 (Nat.le_refl _)) (HS.out.later hB1 (Nat.le_refl _)) (PhoneD.right_iff HF.out).H).mono ?_
  rintro e w2 ⟨rfl, hb2⟩
  rw [HG.out]
  clear a0 a1 a2 a3 a4 af b0 b1 b2 b3 b4 bf
  have K_a : Blk _ (w.heap.size) 26 #[.int .i64 id, .bool false, .slice H.A H.l.length H.c, .slice N.A N.l.length N.c, .slice S.A S.l.length S.c] := qkc B_a hb2
  obtain ⟨a0, a1, a2, a3, a4, af, az⟩ := Blk.b5 K_a
  have B_a := Lib.hid K_a
  clear K_a
  have K_b : Blk _ (w.heap.size + 1) 26 #[.int .i64 0, .bool false, .slice none 0 0, .slice none 0 0, .slice none 0 0] := qkc B_b hb2
  obtain ⟨b0, b1, b2, b3, b4, bf, bz⟩ := Blk.b5 K_b
  have B_b := Lib.hid K_b
  clear K_b
  have hB2 : Below w.heap.size w w2 := qbv
  clear hb2
  go_wp2_with fail
  refine (rseen43 now _ (HW.out.below' hB2 (Nat.le_refl _))).mono ?_
  rintro e w3 ⟨rfl, hb3⟩
  rw [HK.out]
  clear a0 a1 a2 a3 a4 af b0 b1 b2 b3 b4 bf
  have K_a : Blk _ (w.heap.size) 26 #[.int .i64 id, .bool false, .slice H.A H.l.length H.c, .slice N.A N.l.length N.c, .slice S.A S.l.length S.c] := qkc B_a hb3
  obtain ⟨a0, a1, a2, a3, a4, af, az⟩ := Blk.b5 K_a
  have B_a := Lib.hid K_a
  clear K_a
  have K_b : Blk _ (w.heap.size + 1) 26 #[.int .i64 0, .bool false, .slice none 0 0, .slice none 0 0, .slice none 0 0] := qkc B_b hb3
  obtain ⟨b0, b1, b2, b3, b4, bf, bz⟩ := Blk.b5 K_b
  have B_b := Lib.hid K_b
  clear K_b
  have hB3 : Below w.heap.size w w3 := qbv
  clear hb3
  go_wp2_with fail
  try simp only [Exit.inBlock, Exit.then]
  refine bodyPost_ret (v := .tuple #[.agg #[.int .i64 id, .bool false, .slice H.A H.l.length H.c, .slice N.A N.l.length N.c, .slice S.A S.l.length S.c], .slice ss.A ss.l.length ss.c, .slice none 0 0, .int .i64 7]) ?_ rfl ⟨rfl, qbh⟩
  simp [results, Try.results29, go_sem, a0, a1, a2, a3, a4, af, b0, b1, b2, b3, b4, bf, bz]
end Go.Proofs.Ythnblhbdfpmolaa
