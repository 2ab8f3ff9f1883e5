/- Walks of the reference of layer 40: Lend. -/
import Derived.Test.YthnblhbdfpmolaaTellsmxbd
import Derived.Test.YthnblhbdfpmolaaTellsmxbe
namespace Go.Proofs.Ythnblhbdfpmolaa
open Go.RowKit
def lendGo (b : Bool) (p n : Int) : List Loan → List Loan
  | [] => if b then [] else [⟨p, n, 0⟩]
  | x :: r => (if p < x.p ∧ b = false then [⟨p, n, 0⟩] else []) ++ ((if x.p = p then { x with u := x.u + n } else x) :: lendGo (b || decide (p < x.p) || decide (x.p = p)) p n r)
theorem lendGo_new {p n : Int} {x : Loan} {r : List Loan} (h : p < x.p) : lendGo false p n (x :: r) = [⟨p, n, 0⟩] ++ ([x] ++ lendGo true p n r) := by
  simp [lendGo, h]; omega
theorem lendGo_at {b : Bool} {p n : Int} {x : Loan} {r : List Loan} (h : x.p = p) : lendGo b p n (x :: r) = [{ x with u := x.u + n }] ++ lendGo true p n r := by
  simp [lendGo, h]
theorem lendGo_past {p n : Int} {x : Loan} {r : List Loan} (h : x.p ≠ p) : lendGo true p n (x :: r) = [x] ++ lendGo true p n r := by
  simp [lendGo, h]
theorem lendGo_below {p n : Int} {x : Loan} {r : List Loan} (h : x.p < p) : lendGo false p n (x :: r) = [x] ++ lendGo false p n r := by
  have h1 : ¬ p < x.p := by omega
  have h2 : x.p ≠ p := by omega
  simp [lendGo, h1, h2]
theorem lendGo_all {p n : Int} : ∀ {l : List Loan}, (∀ x ∈ l, p < x.p) → lendGo true p n l = l
  | [], _ => rfl
  | x :: r, h => by
    rw [lendGo_past (by have := h x (by simp); omega), lendGo_all (fun y hy => h y (by simp [hy]))]; rfl
theorem lendGo_eq {p n : Int} : ∀ {l : List Loan}, l.Pairwise (fun a b => a.p < b.p) → lendGo false p n l = lendL l p n
  | [], _ => rfl
  | x :: r, hs => by
    obtain ⟨h1, h2⟩ := List.pairwise_cons.1 hs
    have c0 : p ≤ x.p → idx (x :: r) p = 0 := fun h => by
      unfold idx
      rw [List.countP_eq_zero]
      intro y hy
      rcases List.mem_cons.1 hy with rfl | hy
      · simp; omega
      · have := h1 y hy; simp; omega
    rcases Int.lt_trichotomy x.p p with h | h | h
    · rw [lendGo_below h, lendGo_eq h2]
      have hh : has (x :: r) p = has r p := by simp [has, show x.p ≠ p by omega]
      have hi : idx (x :: r) p = idx r p + 1 := by simp [idx, List.countP_cons, h]
      unfold lendL
      rw [hh, hi]
      split
      · unfold bump
        simp only [List.getElem?_cons_succ]
        split
        · simp
        · rfl
      · simp
    · rw [lendGo_at h, lendGo_all (fun y hy => by have := h1 y hy; omega)]
      unfold lendL
      have hh : has (x :: r) p = true := by simp [has, h]
      rw [hh, if_pos rfl, c0 (by omega)]
      simp [bump]
    · rw [lendGo_new h, lendGo_all (fun y hy => by have := h1 y hy; omega)]
      unfold lendL
      have hh : has (x :: r) p = false := by
        simp only [has, List.any_eq_false, decide_eq_true_eq]
        intro y hy
        rcases List.mem_cons.1 hy with rfl | hy
        · omega
        · have := h1 y hy; omega
      rw [hh, if_neg (by simp), c0 (by omega)]
      simp
theorem Rd.lit1 {α : Type} {k : Nat} {enc : α → List Value} {W : World} {e : TypeId} {g : Nat} (x : α) (hk : ∀ y, (enc y).length = k) (hg : g = W.heap.size) : Rd (fun b => W.heap.size ≤ b ∧ b < (W.alloc (.cells (enc x).toArray e)).heap.size) k enc (W.alloc (.cells (enc x).toArray e)) ⟨some ⟨g, 0, none⟩, 1, [x]⟩ := by
  subst hg
  exact (Own.lit (base := W.heap.size) W _ [x] (Nat.le_refl _) (by simp [maxLen]) (by simp) hk).rd hk
set_option maxHeartbeats 800000 in
theorem rlend_no (s : Stock) (p n : Int) (w : World) (hr : Rd (· < w.heap.size) 3 Loan.enc w s.L) (HF : Hid (s.d.fits p n = false)) :
    Calls Try.prog 66 #[s.v, .int .i64 p, .int .i64 n] w fun e w' => e = .returned (.tuple #[s.v, .int .i64 1]) ∧ Below w.heap.size w w' := by
  obtain ⟨T, U, ⟨A, c, L⟩⟩ := s
  have HR := Lib.hid hr
  clear hr
  simp only [Stock.v]
  go_enter Try.func66, Try.ntmps66
  go_wp2_with fail
  refine (rfits ⟨T, U, ⟨A, c, L⟩⟩ p n _ ((HR.out.lt_alloc _).lt_alloc _)).mono ?_
  rintro e w1 ⟨rfl, hb1⟩
  rw [HF.out]
  have K_a : Blk _ (w.heap.size) 66 #[.int .i64 T, .int .i64 U, .slice A L.length c] := qkb hb1
  obtain ⟨a0, a1, a2, af, az⟩ := Blk.b3 K_a
  have B_a := Lib.hid K_a
  clear K_a
  have K_b : Blk _ (w.heap.size + 1) 66 #[.int .i64 0, .int .i64 0, .slice none 0 0] := qkb hb1
  obtain ⟨b0, b1, b2, bf, bz⟩ := Blk.b3 K_b
  have B_b := Lib.hid K_b
  clear K_b
  have hB1 : Below w.heap.size w w1 := qbv
  clear hb1
  go_wp2_with fail
  try simp only [Exit.inBlock, Exit.then]
  refine bodyPost_ret (v := .tuple #[.agg #[.int .i64 T, .int .i64 U, .slice A L.length c], .int .i64 1]) ?_ rfl ⟨rfl, qbv⟩
  simp [results, Try.results66, go_sem, a0, a1, a2, af, b0, b1, b2, bf, az, bz]
set_option maxHeartbeats 800000 in
theorem rlend_few (s : Stock) (p n : Int) (w : World) (hr : Rd (· < w.heap.size) 3 Loan.enc w s.L) (HF : Hid (s.d.fits p n = true)) (hlt : s.d.free < n) :
    Calls Try.prog 66 #[s.v, .int .i64 p, .int .i64 n] w fun e w' => e = .returned (.tuple #[s.v, .int .i64 21]) ∧ Below w.heap.size w w' := by
  obtain ⟨T, U, ⟨A, c, L⟩⟩ := s
  have HR := Lib.hid hr
  clear hr
  simp only [Stock.v]
  go_enter Try.func66, Try.ntmps66
  go_wp2_with fail
  refine (rfits ⟨T, U, ⟨A, c, L⟩⟩ p n _ ((HR.out.lt_alloc _).lt_alloc _)).mono ?_
  rintro e w1 ⟨rfl, hb1⟩
  rw [HF.out]
  have K_a : Blk _ (w.heap.size) 66 #[.int .i64 T, .int .i64 U, .slice A L.length c] := qkb hb1
  obtain ⟨a0, a1, a2, af, az⟩ := Blk.b3 K_a
  have B_a := Lib.hid K_a
  clear K_a
  have K_b : Blk _ (w.heap.size + 1) 66 #[.int .i64 0, .int .i64 0, .slice none 0 0] := qkb hb1
  obtain ⟨b0, b1, b2, bf, bz⟩ := Blk.b3 K_b
  have B_b := Lib.hid K_b
  clear K_b
  have hB1 : Below w.heap.size w w1 := qbv
  clear hb1
  go_wp2_with fail
  refine (rfree ⟨T, U, ⟨A, c, L⟩⟩ _ (HR.out.below' hB1 (Nat.le_refl _))).mono ?_
  rintro e w2 ⟨rfl, hb2⟩
  clear a0 a1 a2 af b0 b1 b2 bf
  have K_a : Blk _ (w.heap.size) 66 #[.int .i64 T, .int .i64 U, .slice A L.length c] := qkc B_a hb2
  obtain ⟨a0, a1, a2, af, az⟩ := Blk.b3 K_a
  have B_a := Lib.hid K_a
  clear K_a
  have K_b : Blk _ (w.heap.size + 1) 66 #[.int .i64 0, .int .i64 0, .slice none 0 0] := qkc B_b hb2
  obtain ⟨b0, b1, b2, bf, bz⟩ := Blk.b3 K_b
  have B_b := Lib.hid K_b
  clear K_b
  have hB2 : Below w.heap.size w w2 := qbv
  clear hb2
  try simp only
  generalize hfv : StockD.free (Stock.d ⟨T, U, ⟨A, c, L⟩⟩) = fv at *
  clear hfv
  go_wp2_with fail
  try simp only [Exit.inBlock, Exit.then]
  refine bodyPost_ret (v := .tuple #[.agg #[.int .i64 T, .int .i64 U, .slice A L.length c], .int .i64 21]) ?_ rfl ⟨rfl, qbv⟩
  simp [results, Try.results66, go_sem, a0, a1, a2, af, b0, b1, b2, bf, az, bz]
set_option maxHeartbeats 2000000 in
theorem rlend_ok (s : Stock) (p n : Int) (w : World) (hr : Rd (· < w.heap.size) 3 Loan.enc w s.L) (HF : Hid (s.d.fits p n = true)) (hle : n ≤ s.d.free) :
    Calls Try.prog 66 #[s.v, .int .i64 p, .int .i64 n] w fun e w' => ∃ s' : Stock, e = .returned (.tuple #[s'.v, .int .i64 0]) ∧ s'.d = ⟨s.T, s.U, lendGo false p n s.L.l⟩ ∧ Rd (fun b => w.heap.size ≤ b ∧ b < w'.heap.size) 3 Loan.enc w' s'.L ∧ Below w.heap.size w w' := by
  have h1 := StockD.fits_iff HF.out
  have hl12 : s.L.l.length ≤ 12 := StockD.right_len h1.1
  have hm : ∀ x ∈ s.L.l, 1 ≤ x.u ∧ x.u ≤ 1000000000000000 := fun x hx => by
    have hm := rightGo_mem _ _ _ (StockD.right_iff h1.1).2 x hx
    have := (StockD.right_iff h1.1).1
    simp only [StockD.ok0] at this
    omega
  have HM := Lib.hid hm
  have hn1 := h1.2.2.2.1
  have hn2 := h1.2.2.2.2
  clear h1 hm
  obtain ⟨T, U, ⟨A, c, L⟩⟩ := s
  have HR := Lib.hid hr
  clear hr
  simp only [Stock.v]
  go_enter Try.func66, Try.ntmps66
  go_wp2_with fail
  refine (rfits ⟨T, U, ⟨A, c, L⟩⟩ p n _ ((HR.out.lt_alloc _).lt_alloc _)).mono ?_
  rintro e w1 ⟨rfl, hb1⟩
  rw [HF.out]
  have K_a : Blk _ (w.heap.size) 66 #[.int .i64 T, .int .i64 U, .slice A L.length c] := qkb hb1
  obtain ⟨a0, a1, a2, af, az⟩ := Blk.b3 K_a
  have B_a := Lib.hid K_a
  clear K_a
  have K_b : Blk _ (w.heap.size + 1) 66 #[.int .i64 0, .int .i64 0, .slice none 0 0] := qkb hb1
  obtain ⟨b0, b1, b2, bf, bz⟩ := Blk.b3 K_b
  have B_b := Lib.hid K_b
  clear K_b
  have hB1 : Below w.heap.size w w1 := qbv
  clear hb1
  go_wp2_with fail
  try simp only at hl12 HM
  refine (rfree ⟨T, U, ⟨A, c, L⟩⟩ _ (HR.out.below' hB1 (Nat.le_refl _))).mono ?_
  rintro e w2 ⟨rfl, hb2⟩
  clear a0 a1 a2 af b0 b1 b2 bf
  have K_a : Blk _ (w.heap.size) 66 #[.int .i64 T, .int .i64 U, .slice A L.length c] := qkc B_a hb2
  obtain ⟨a0, a1, a2, af, az⟩ := Blk.b3 K_a
  have B_a := Lib.hid K_a
  clear K_a
  have K_b : Blk _ (w.heap.size + 1) 66 #[.int .i64 0, .int .i64 0, .slice none 0 0] := qkc B_b hb2
  obtain ⟨b0, b1, b2, bf, bz⟩ := Blk.b3 K_b
  have B_b := Lib.hid K_b
  clear K_b
  have hB2 : Below w.heap.size w w2 := qbv
  clear hb2
  try simp only
  generalize hfv : StockD.free (Stock.d ⟨T, U, ⟨A, c, L⟩⟩) = fv at *
  clear hfv
  go_wp2_with fail
  go_loopw [9, 10] (fun put i wr => ∃ (k : Nat) (b : Bool) (TL : List Loan) (A' : Option Addr) (c' : Nat), k ≤ L.length ∧ put = .bool b ∧ i = .int .i64 k ∧ TL.length ≤ 2 * k ∧
    Blk wr w.heap.size 66 #[.int .i64 T, .int .i64 U, .slice A L.length c] ∧ Blk wr (w.heap.size + 1) 66 #[.int .i64 0, .int .i64 0, .slice none 0 0] ∧ Blk wr w2.heap.size 66 #[.int .i64 T, .int .i64 U, .slice A' TL.length c'] ∧
    Own (w2.heap.size + 1) 136 3 Loan.enc wr ⟨A', c', TL⟩ ∧ Below w.heap.size w wr ∧ w2.heap.size + 1 ≤ wr.heap.size ∧ lendGo false p n L = TL ++ lendGo b p n (L.drop k)) (fun _ i _ => L.length - (intOf i).toNat)
  case atStart =>
    exact ⟨0, false, [], none, 0, by omega, rfl, rfl, by simp, B_a.out.alloc _, B_b.out.alloc _, Blk.new _ _ _, Own.nil _ _ _ _ _, qbv, by simp, by simp⟩
  case round =>
    obtain ⟨k, b, TL, A', c', hk, rfl, rfl, htl, hblk, hblkb, hblkd, hown, hbel, hsz, heq⟩ := hrel
    clear a0 a1 a2 af b0 b1 b2 bf
    obtain ⟨a0, a1, a2, af, az'⟩ := hblk.b3
    obtain ⟨b0, b1, b2, bf, bz'⟩ := hblkb.b3
    obtain ⟨d0, d1, d2, df, dz⟩ := hblkd.b3
    have B_a := Lib.hid hblk
    have B_b := Lib.hid hblkb
    have B_d := Lib.hid hblkd
    have HOWN := Lib.hid hown
    clear hblk hblkb hblkd hown
    by_cases hlt : k < L.length
    · obtain ⟨bq, oq, rfl, hb, hcl⟩ := HR.out.at1 hlt
      obtain ⟨g0, g1, g2⟩ := Cells.c3 (hcl.keep (hbel.block bq hb))
      have hd : L.drop k = L[k] :: L.drop (k + 1) := List.drop_eq_getElem_cons hlt
      rw [hd] at heq
      have hxm := HM.out L[k] (List.getElem_mem hlt)
      clear hd hcl
      simp only at g0 g1 g2
      generalize L[k] = x at *
      obtain ⟨xp, xu, xs⟩ := x
      simp only at hxm
      obtain ⟨hx1, hx2⟩ := hxm
      have HE := Lib.hid heq
      clear heq
      have la : w.heap.size < wr.heap.size + 1 := by omega
      have lb : w.heap.size < wr.heap.size := by omega
      have ld : w2.heap.size < wr.heap.size + 1 := by omega
      rcases Int.lt_trichotomy xp p with hxp | hxp | hxp
      · have hxe : (xp == p) = false := by simp; omega
        cases b
        · skip
          go_wp2_with (at_builtin
                       go_must (refine wpl_append_sl (base := w2.heap.size + 1) _ rfl (.tmp 66) (.tmp 68) _ rfl Try.underlying64 infoLoan (by omega) Loan.k Loan.one ⟨A', c', TL⟩ ⟨some ⟨wr.heap.size + 1, 0, none⟩, 1, [⟨xp, xu, xs⟩]⟩ rfl rfl (by repeat (first | (with_reducible exact HOWN.out) | ((with_reducible refine Own.farr ?_ ?_); focus (first | (simp; done) | (simp; omega) | omega)) | (with_reducible refine Own.alloc ?_ _) | (with_reducible refine Own.drew ?_) | (with_reducible refine Own.drewN ?_ _))) (Rd.lit1 ⟨xp, xu, xs⟩ Loan.k (by simp)) (by simp [maxLen]; omega) (by simp; omega) (by simp; omega) ?_)
                       intro A5 c5 w5 hown5 hg5 hat5
                       apply Hid.out)
          refine Lib.hid ?_
          obtain ⟨TL5, hTLN⟩ : ∃ l, l = TL ++ [(⟨xp, xu, xs⟩ : Loan)] := ⟨_, rfl⟩
          rw [← hTLN] at hown5
          have hlq : TL5.length = TL.length + 1 := by rw [hTLN]; simp
          rw [← hlq]
          have hlTL5 : TL5.length ≤ TL.length + 1 := by omega
          have HTTL5 := Lib.hid hTLN
          clear hlq
          clear hTLN
          clear a0 a1 a2 af b0 b1 b2 bf d0 d1 d2 df
          have K_a : Blk _ (w.heap.size) 66 #[.int .i64 T, .int .i64 U, .slice (some ⟨bq, oq, none⟩) L.length c] := blk_grown hg5 (by simp [hp_past, hp_at, hp_other, hp_same, hp_drew, hp_drewN, B_a.out.eq, B_a.out.lt, hp_same B_a.out.eq, la]) (own_ne HOWN.out (.inl (by omega)))
          obtain ⟨a0, a1, a2, af, az⟩ := Blk.b3 K_a
          have B_a := Lib.hid K_a
          clear K_a
          have K_b : Blk _ (w.heap.size + 1) 66 #[.int .i64 0, .int .i64 0, .slice none 0 0] := blk_grown hg5 (by simp [hp_past, hp_at, hp_other, hp_same, hp_drew, hp_drewN, B_b.out.eq, B_b.out.lt, hp_same B_b.out.eq, lb]) (own_ne HOWN.out (.inl (by omega)))
          obtain ⟨b0, b1, b2, bf, bz⟩ := Blk.b3 K_b
          have B_b := Lib.hid K_b
          clear K_b
          have K_d : Blk _ (w2.heap.size) 66 #[.int .i64 T, .int .i64 U, .slice A' TL.length c'] := blk_grown hg5 (by simp [hp_past, hp_at, hp_other, hp_same, hp_drew, hp_drewN, B_d.out.eq, B_d.out.lt, hp_same B_d.out.eq, ld]) (own_ne HOWN.out (.inl (by omega)))
          obtain ⟨d0, d1, d2, df, dz⟩ := Blk.b3 K_d
          have B_d := Lib.hid K_d
          clear K_d
          have hbeln : Below w.heap.size w _ := Below.grown qbv hg5 (by simp; omega) (fun j hj => by
            rcases (HOWN.out).form with ⟨h0, _⟩ | ⟨g', h0, h1, _⟩
            · simp only at h0; rw [h0] at hj; simp [Value.ownBlock] at hj
            · simp only at h0; rw [h0] at hj; simp [Value.ownBlock] at hj; omega)
          have HO5 := Lib.hid hown5
          have hz5 : w2.heap.size + 1 ≤ w5.heap.size := by have := hg5.size; simp at this; omega
          clear hg5 hown5 hat5
          go_wp2_with fail
          have m1 : w.heap.size ≠ w2.heap.size := by omega
          have m2 : w.heap.size + 1 ≠ w2.heap.size := by omega
          have XD := Lib.hid (B_d.out.set_ 2 (.slice A5 TL5.length c5))
          have XA := Lib.hid (Blk.farr (p := ⟨w2.heap.size, 2, none⟩) (u := .slice A5 TL5.length c5) m1 B_a.out)
          have XB := Lib.hid (Blk.farr (p := ⟨w2.heap.size, 2, none⟩) (u := .slice A5 TL5.length c5) m2 B_b.out)
          go_roundw
          case rel => exact ⟨k + 1, false, TL5, A5, c5, by omega, rfl, by go_num, by omega, by simpa using XA.out, by simpa using XB.out, by simpa using XD.out, (by repeat (first | (with_reducible exact HO5.out) | ((with_reducible refine Own.farr ?_ ?_); focus (first | (simp; done) | (simp; omega) | omega)) | (with_reducible refine Own.alloc ?_ _) | (with_reducible refine Own.drew ?_) | (with_reducible refine Own.drewN ?_ _) | ((with_reducible apply own_via); focus (with_reducible assumption)))), qbv, by simp; omega, by rw [HE.out, lendGo_below hxp, ← List.append_assoc, ← HTTL5.out]⟩
          case measure => simp [intOf]; omega
        · skip
          go_wp2_with (at_builtin
                       go_must (refine wpl_append_sl (base := w2.heap.size + 1) _ rfl (.tmp 66) (.tmp 68) _ rfl Try.underlying64 infoLoan (by omega) Loan.k Loan.one ⟨A', c', TL⟩ ⟨some ⟨wr.heap.size + 1, 0, none⟩, 1, [⟨xp, xu, xs⟩]⟩ rfl rfl (by repeat (first | (with_reducible exact HOWN.out) | ((with_reducible refine Own.farr ?_ ?_); focus (first | (simp; done) | (simp; omega) | omega)) | (with_reducible refine Own.alloc ?_ _) | (with_reducible refine Own.drew ?_) | (with_reducible refine Own.drewN ?_ _))) (Rd.lit1 ⟨xp, xu, xs⟩ Loan.k (by simp)) (by simp [maxLen]; omega) (by simp; omega) (by simp; omega) ?_)
                       intro A5 c5 w5 hown5 hg5 hat5
                       apply Hid.out)
          refine Lib.hid ?_
          obtain ⟨TL5, hTLN⟩ : ∃ l, l = TL ++ [(⟨xp, xu, xs⟩ : Loan)] := ⟨_, rfl⟩
          rw [← hTLN] at hown5
          have hlq : TL5.length = TL.length + 1 := by rw [hTLN]; simp
          rw [← hlq]
          have hlTL5 : TL5.length ≤ TL.length + 1 := by omega
          have HTTL5 := Lib.hid hTLN
          clear hlq
          clear hTLN
          clear a0 a1 a2 af b0 b1 b2 bf d0 d1 d2 df
          have K_a : Blk _ (w.heap.size) 66 #[.int .i64 T, .int .i64 U, .slice (some ⟨bq, oq, none⟩) L.length c] := blk_grown hg5 (by simp [hp_past, hp_at, hp_other, hp_same, hp_drew, hp_drewN, B_a.out.eq, B_a.out.lt, hp_same B_a.out.eq, la]) (own_ne HOWN.out (.inl (by omega)))
          obtain ⟨a0, a1, a2, af, az⟩ := Blk.b3 K_a
          have B_a := Lib.hid K_a
          clear K_a
          have K_b : Blk _ (w.heap.size + 1) 66 #[.int .i64 0, .int .i64 0, .slice none 0 0] := blk_grown hg5 (by simp [hp_past, hp_at, hp_other, hp_same, hp_drew, hp_drewN, B_b.out.eq, B_b.out.lt, hp_same B_b.out.eq, lb]) (own_ne HOWN.out (.inl (by omega)))
          obtain ⟨b0, b1, b2, bf, bz⟩ := Blk.b3 K_b
          have B_b := Lib.hid K_b
          clear K_b
          have K_d : Blk _ (w2.heap.size) 66 #[.int .i64 T, .int .i64 U, .slice A' TL.length c'] := blk_grown hg5 (by simp [hp_past, hp_at, hp_other, hp_same, hp_drew, hp_drewN, B_d.out.eq, B_d.out.lt, hp_same B_d.out.eq, ld]) (own_ne HOWN.out (.inl (by omega)))
          obtain ⟨d0, d1, d2, df, dz⟩ := Blk.b3 K_d
          have B_d := Lib.hid K_d
          clear K_d
          have hbeln : Below w.heap.size w _ := Below.grown qbv hg5 (by simp; omega) (fun j hj => by
            rcases (HOWN.out).form with ⟨h0, _⟩ | ⟨g', h0, h1, _⟩
            · simp only at h0; rw [h0] at hj; simp [Value.ownBlock] at hj
            · simp only at h0; rw [h0] at hj; simp [Value.ownBlock] at hj; omega)
          have HO5 := Lib.hid hown5
          have hz5 : w2.heap.size + 1 ≤ w5.heap.size := by have := hg5.size; simp at this; omega
          clear hg5 hown5 hat5
          go_wp2_with fail
          have m1 : w.heap.size ≠ w2.heap.size := by omega
          have m2 : w.heap.size + 1 ≠ w2.heap.size := by omega
          have XD := Lib.hid (B_d.out.set_ 2 (.slice A5 TL5.length c5))
          have XA := Lib.hid (Blk.farr (p := ⟨w2.heap.size, 2, none⟩) (u := .slice A5 TL5.length c5) m1 B_a.out)
          have XB := Lib.hid (Blk.farr (p := ⟨w2.heap.size, 2, none⟩) (u := .slice A5 TL5.length c5) m2 B_b.out)
          go_roundw
          case rel => exact ⟨k + 1, true, TL5, A5, c5, by omega, rfl, by go_num, by omega, by simpa using XA.out, by simpa using XB.out, by simpa using XD.out, (by repeat (first | (with_reducible exact HO5.out) | ((with_reducible refine Own.farr ?_ ?_); focus (first | (simp; done) | (simp; omega) | omega)) | (with_reducible refine Own.alloc ?_ _) | (with_reducible refine Own.drew ?_) | (with_reducible refine Own.drewN ?_ _) | ((with_reducible apply own_via); focus (with_reducible assumption)))), qbv, by simp; omega, by rw [HE.out, lendGo_past (Int.ne_of_lt hxp), ← List.append_assoc, ← HTTL5.out]⟩
          case measure => simp [intOf]; omega
      · subst hxp
        have hws : IntKind.i64.wrap (xu + n) = xu + n := by rw [IntKind.wrap_i64]; omega
        go_wp2_with (at_builtin
                     go_must (refine wpl_append_sl (base := w2.heap.size + 1) _ rfl (.tmp 66) (.tmp 68) _ rfl Try.underlying64 infoLoan (by omega) Loan.k Loan.one ⟨A', c', TL⟩ ⟨some ⟨wr.heap.size + 1, 0, none⟩, 1, [⟨xp, xu + n, xs⟩]⟩ rfl rfl (by repeat (first | (with_reducible exact HOWN.out) | ((with_reducible refine Own.farr ?_ ?_); focus (first | (simp; done) | (simp; omega) | omega)) | (with_reducible refine Own.alloc ?_ _) | (with_reducible refine Own.drew ?_) | (with_reducible refine Own.drewN ?_ _))) (Rd.lit1 ⟨xp, xu + n, xs⟩ Loan.k (by simp)) (by simp [maxLen]; omega) (by simp; omega) (by simp; omega) ?_)
                     intro A5 c5 w5 hown5 hg5 hat5
                     apply Hid.out)
        refine Lib.hid ?_
        obtain ⟨TL5, hTLN⟩ : ∃ l, l = TL ++ [(⟨xp, xu + n, xs⟩ : Loan)] := ⟨_, rfl⟩
        rw [← hTLN] at hown5
        have hlq : TL5.length = TL.length + 1 := by rw [hTLN]; simp
        rw [← hlq]
        have hlTL5 : TL5.length ≤ TL.length + 1 := by omega
        have HTTL5 := Lib.hid hTLN
        clear hlq
        clear hTLN
        clear a0 a1 a2 af b0 b1 b2 bf d0 d1 d2 df
        have K_a : Blk _ (w.heap.size) 66 #[.int .i64 T, .int .i64 U, .slice (some ⟨bq, oq, none⟩) L.length c] := blk_grown hg5 (by simp [hp_past, hp_at, hp_other, hp_same, hp_drew, hp_drewN, B_a.out.eq, B_a.out.lt, hp_same B_a.out.eq, la]) (own_ne HOWN.out (.inl (by omega)))
        obtain ⟨a0, a1, a2, af, az⟩ := Blk.b3 K_a
        have B_a := Lib.hid K_a
        clear K_a
        have K_b : Blk _ (w.heap.size + 1) 66 #[.int .i64 0, .int .i64 0, .slice none 0 0] := blk_grown hg5 (by simp [hp_past, hp_at, hp_other, hp_same, hp_drew, hp_drewN, B_b.out.eq, B_b.out.lt, hp_same B_b.out.eq, lb]) (own_ne HOWN.out (.inl (by omega)))
        obtain ⟨b0, b1, b2, bf, bz⟩ := Blk.b3 K_b
        have B_b := Lib.hid K_b
        clear K_b
        have K_d : Blk _ (w2.heap.size) 66 #[.int .i64 T, .int .i64 U, .slice A' TL.length c'] := blk_grown hg5 (by simp [hp_past, hp_at, hp_other, hp_same, hp_drew, hp_drewN, B_d.out.eq, B_d.out.lt, hp_same B_d.out.eq, ld]) (own_ne HOWN.out (.inl (by omega)))
        obtain ⟨d0, d1, d2, df, dz⟩ := Blk.b3 K_d
        have B_d := Lib.hid K_d
        clear K_d
        have hbeln : Below w.heap.size w _ := Below.grown qbv hg5 (by simp; omega) (fun j hj => by
          rcases (HOWN.out).form with ⟨h0, _⟩ | ⟨g', h0, h1, _⟩
          · simp only at h0; rw [h0] at hj; simp [Value.ownBlock] at hj
          · simp only at h0; rw [h0] at hj; simp [Value.ownBlock] at hj; omega)
        have HO5 := Lib.hid hown5
        have hz5 : w2.heap.size + 1 ≤ w5.heap.size := by have := hg5.size; simp at this; omega
        clear hg5 hown5 hat5
        go_wp2_with fail
        have m1 : w.heap.size ≠ w2.heap.size := by omega
        have m2 : w.heap.size + 1 ≠ w2.heap.size := by omega
        have XD := Lib.hid (B_d.out.set_ 2 (.slice A5 TL5.length c5))
        have XA := Lib.hid (Blk.farr (p := ⟨w2.heap.size, 2, none⟩) (u := .slice A5 TL5.length c5) m1 B_a.out)
        have XB := Lib.hid (Blk.farr (p := ⟨w2.heap.size, 2, none⟩) (u := .slice A5 TL5.length c5) m2 B_b.out)
        go_roundw
        case rel => exact ⟨k + 1, true, TL5, A5, c5, by omega, rfl, by go_num, by omega, by simpa using XA.out, by simpa using XB.out, by simpa using XD.out, (by repeat (first | (with_reducible exact HO5.out) | ((with_reducible refine Own.farr ?_ ?_); focus (first | (simp; done) | (simp; omega) | omega)) | (with_reducible refine Own.alloc ?_ _) | (with_reducible refine Own.drew ?_) | (with_reducible refine Own.drewN ?_ _) | ((with_reducible apply own_via); focus (with_reducible assumption)))), qbv, by simp; omega, by rw [HE.out, lendGo_at (x := ⟨xp, xu, xs⟩) rfl, ← List.append_assoc, ← HTTL5.out]⟩
        case measure => simp [intOf]; omega
      · have hxe : (xp == p) = false := by simp; omega
        cases b
        · skip
          go_wp2_with (at_builtin
                       go_must (refine wpl_append_sl (base := w2.heap.size + 1) _ rfl (.tmp 49) (.tmp 53) _ rfl Try.underlying64 infoLoan (by omega) Loan.k Loan.one ⟨A', c', TL⟩ ⟨some ⟨wr.heap.size + 1, 0, none⟩, 1, [⟨p, n, 0⟩]⟩ rfl rfl (by repeat (first | (with_reducible exact HOWN.out) | ((with_reducible refine Own.farr ?_ ?_); focus (first | (simp; done) | (simp; omega) | omega)) | (with_reducible refine Own.alloc ?_ _) | (with_reducible refine Own.drew ?_) | (with_reducible refine Own.drewN ?_ _))) (Rd.lit1 ⟨p, n, 0⟩ Loan.k (by simp)) (by simp [maxLen]; omega) (by simp; omega) (by simp; omega) ?_)
                       intro A5 c5 w5 hown5 hg5 hat5
                       apply Hid.out)
          refine Lib.hid ?_
          obtain ⟨TL5, hTLN⟩ : ∃ l, l = TL ++ [(⟨p, n, 0⟩ : Loan)] := ⟨_, rfl⟩
          rw [← hTLN] at hown5
          have hlq : TL5.length = TL.length + 1 := by rw [hTLN]; simp
          rw [← hlq]
          have hlTL5 : TL5.length ≤ TL.length + 1 := by omega
          have HTTL5 := Lib.hid hTLN
          clear hlq
          clear hTLN
          clear a0 a1 a2 af b0 b1 b2 bf d0 d1 d2 df
          have K_a : Blk _ (w.heap.size) 66 #[.int .i64 T, .int .i64 U, .slice (some ⟨bq, oq, none⟩) L.length c] := blk_grown hg5 (by simp [hp_past, hp_at, hp_other, hp_same, hp_drew, hp_drewN, B_a.out.eq, B_a.out.lt, hp_same B_a.out.eq, la]) (own_ne HOWN.out (.inl (by omega)))
          obtain ⟨a0, a1, a2, af, az⟩ := Blk.b3 K_a
          have B_a := Lib.hid K_a
          clear K_a
          have K_b : Blk _ (w.heap.size + 1) 66 #[.int .i64 0, .int .i64 0, .slice none 0 0] := blk_grown hg5 (by simp [hp_past, hp_at, hp_other, hp_same, hp_drew, hp_drewN, B_b.out.eq, B_b.out.lt, hp_same B_b.out.eq, lb]) (own_ne HOWN.out (.inl (by omega)))
          obtain ⟨b0, b1, b2, bf, bz⟩ := Blk.b3 K_b
          have B_b := Lib.hid K_b
          clear K_b
          have K_d : Blk _ (w2.heap.size) 66 #[.int .i64 T, .int .i64 U, .slice A' TL.length c'] := blk_grown hg5 (by simp [hp_past, hp_at, hp_other, hp_same, hp_drew, hp_drewN, B_d.out.eq, B_d.out.lt, hp_same B_d.out.eq, ld]) (own_ne HOWN.out (.inl (by omega)))
          obtain ⟨d0, d1, d2, df, dz⟩ := Blk.b3 K_d
          have B_d := Lib.hid K_d
          clear K_d
          have hbeln : Below w.heap.size w _ := Below.grown qbv hg5 (by simp; omega) (fun j hj => by
            rcases (HOWN.out).form with ⟨h0, _⟩ | ⟨g', h0, h1, _⟩
            · simp only at h0; rw [h0] at hj; simp [Value.ownBlock] at hj
            · simp only at h0; rw [h0] at hj; simp [Value.ownBlock] at hj; omega)
          have HO5 := Lib.hid hown5
          have K_x : Blk _ (wr.heap.size) 136 #[.int .i64 xp, .int .i64 xu, .int .i64 xs] := blk_grown hg5 (by simp [hp_past, hp_at, hp_other, hp_same, hp_drew, hp_drewN]) (own_ne HOWN.out (.inr HOWN.out.bound))
          obtain ⟨x0, x1, x2, xf, xz⟩ := Blk.b3 K_x
          have B_x := Lib.hid K_x
          clear K_x
          have hz5 : wr.heap.size + 2 ≤ w5.heap.size := by have := hg5.size; simp at this; omega
          clear hg5 hown5 hat5
          have m1 : w.heap.size ≠ w2.heap.size := by omega
          have m2 : w.heap.size + 1 ≠ w2.heap.size := by omega
          go_wp2_with (at_builtin
                       go_must (refine wpl_append_sl (base := w2.heap.size + 1) _ rfl (.tmp 66) (.tmp 68) _ rfl Try.underlying64 infoLoan (by omega) Loan.k Loan.one ⟨A5, c5, TL5⟩ ⟨some ⟨w5.heap.size, 0, none⟩, 1, [⟨xp, xu, xs⟩]⟩ rfl rfl (by repeat (first | (with_reducible exact HO5.out) | ((with_reducible refine Own.farr ?_ ?_); focus (first | (simp; done) | (simp; omega) | omega)) | (with_reducible refine Own.alloc ?_ _) | (with_reducible refine Own.drew ?_) | (with_reducible refine Own.drewN ?_ _))) (Rd.lit1 ⟨xp, xu, xs⟩ Loan.k (by simp)) (by simp [maxLen]; omega) (by simp; omega) (by simp; omega) ?_)
                       intro A6 c6 w6 hown5 hg5 hat5
                       apply Hid.out)
          refine Lib.hid ?_
          obtain ⟨TL6, hTLN⟩ : ∃ l, l = TL5 ++ [(⟨xp, xu, xs⟩ : Loan)] := ⟨_, rfl⟩
          rw [← hTLN] at hown5
          have hlq : TL6.length = TL5.length + 1 := by rw [hTLN]; simp
          rw [← hlq]
          have hlTL6 : TL6.length ≤ TL5.length + 1 := by omega
          have HTTL6 := Lib.hid hTLN
          clear hlq
          clear hTLN
          clear a0 a1 a2 af b0 b1 b2 bf d0 d1 d2 df
          have K_a : Blk _ (w.heap.size) 66 #[.int .i64 T, .int .i64 U, .slice (some ⟨bq, oq, none⟩) L.length c] := blk_grown hg5 (by simp [hp_past, hp_at, hp_other, hp_same, hp_drew, hp_drewN, B_a.out.eq, B_a.out.lt, hp_same B_a.out.eq, m1]) (own_ne HO5.out (.inl (by omega)))
          obtain ⟨a0, a1, a2, af, az⟩ := Blk.b3 K_a
          have B_a := Lib.hid K_a
          clear K_a
          have K_b : Blk _ (w.heap.size + 1) 66 #[.int .i64 0, .int .i64 0, .slice none 0 0] := blk_grown hg5 (by simp [hp_past, hp_at, hp_other, hp_same, hp_drew, hp_drewN, B_b.out.eq, B_b.out.lt, hp_same B_b.out.eq, m2]) (own_ne HO5.out (.inl (by omega)))
          obtain ⟨b0, b1, b2, bf, bz⟩ := Blk.b3 K_b
          have B_b := Lib.hid K_b
          clear K_b
          have K_d : Blk _ (w2.heap.size) 66 #[.int .i64 T, .int .i64 U, .slice A5 TL5.length c5] := blk_grown hg5 (by simp [hp_past, hp_at, hp_other, hp_same, hp_drew, hp_drewN, B_d.out.eq, B_d.out.lt, hp_same B_d.out.eq]) (own_ne HO5.out (.inl (by omega)))
          obtain ⟨d0, d1, d2, df, dz⟩ := Blk.b3 K_d
          have B_d := Lib.hid K_d
          clear K_d
          have hbelnn : Below w.heap.size w _ := Below.grown qbv hg5 (by simp; omega) (fun j hj => by
            rcases (HO5.out).form with ⟨h0, _⟩ | ⟨g', h0, h1, _⟩
            · simp only at h0; rw [h0] at hj; simp [Value.ownBlock] at hj
            · simp only at h0; rw [h0] at hj; simp [Value.ownBlock] at hj; omega)
          have HO6 := Lib.hid hown5
          have hz6 : w5.heap.size + 1 ≤ w6.heap.size := by have := hg5.size; simp at this; omega
          clear hg5 hown5 hat5
          go_wp2_with fail
          have XD := Lib.hid (B_d.out.set_ 2 (.slice A6 TL6.length c6))
          have XA := Lib.hid (Blk.farr (p := ⟨w2.heap.size, 2, none⟩) (u := .slice A6 TL6.length c6) m1 B_a.out)
          have XB := Lib.hid (Blk.farr (p := ⟨w2.heap.size, 2, none⟩) (u := .slice A6 TL6.length c6) m2 B_b.out)
          go_roundw
          case rel => exact ⟨k + 1, true, TL6, A6, c6, by omega, rfl, by go_num, by omega, by simpa using XA.out, by simpa using XB.out, by simpa using XD.out, (by repeat (first | (with_reducible exact HO6.out) | ((with_reducible refine Own.farr ?_ ?_); focus (first | (simp; done) | (simp; omega) | omega)) | (with_reducible refine Own.alloc ?_ _) | (with_reducible refine Own.drew ?_) | (with_reducible refine Own.drewN ?_ _) | ((with_reducible apply own_via); focus (with_reducible assumption)))), qbv, by simp; omega, by rw [HE.out, lendGo_new hxp, ← List.append_assoc, ← HTTL5.out, ← List.append_assoc, ← HTTL6.out]⟩
          case measure => simp [intOf]; omega
        · skip
          go_wp2_with (at_builtin
                       go_must (refine wpl_append_sl (base := w2.heap.size + 1) _ rfl (.tmp 66) (.tmp 68) _ rfl Try.underlying64 infoLoan (by omega) Loan.k Loan.one ⟨A', c', TL⟩ ⟨some ⟨wr.heap.size + 1, 0, none⟩, 1, [⟨xp, xu, xs⟩]⟩ rfl rfl (by repeat (first | (with_reducible exact HOWN.out) | ((with_reducible refine Own.farr ?_ ?_); focus (first | (simp; done) | (simp; omega) | omega)) | (with_reducible refine Own.alloc ?_ _) | (with_reducible refine Own.drew ?_) | (with_reducible refine Own.drewN ?_ _))) (Rd.lit1 ⟨xp, xu, xs⟩ Loan.k (by simp)) (by simp [maxLen]; omega) (by simp; omega) (by simp; omega) ?_)
                       intro A5 c5 w5 hown5 hg5 hat5
                       apply Hid.out)
          refine Lib.hid ?_
          obtain ⟨TL5, hTLN⟩ : ∃ l, l = TL ++ [(⟨xp, xu, xs⟩ : Loan)] := ⟨_, rfl⟩
          rw [← hTLN] at hown5
          have hlq : TL5.length = TL.length + 1 := by rw [hTLN]; simp
          rw [← hlq]
          have hlTL5 : TL5.length ≤ TL.length + 1 := by omega
          have HTTL5 := Lib.hid hTLN
          clear hlq
          clear hTLN
          clear a0 a1 a2 af b0 b1 b2 bf d0 d1 d2 df
          have K_a : Blk _ (w.heap.size) 66 #[.int .i64 T, .int .i64 U, .slice (some ⟨bq, oq, none⟩) L.length c] := blk_grown hg5 (by simp [hp_past, hp_at, hp_other, hp_same, hp_drew, hp_drewN, B_a.out.eq, B_a.out.lt, hp_same B_a.out.eq, la]) (own_ne HOWN.out (.inl (by omega)))
          obtain ⟨a0, a1, a2, af, az⟩ := Blk.b3 K_a
          have B_a := Lib.hid K_a
          clear K_a
          have K_b : Blk _ (w.heap.size + 1) 66 #[.int .i64 0, .int .i64 0, .slice none 0 0] := blk_grown hg5 (by simp [hp_past, hp_at, hp_other, hp_same, hp_drew, hp_drewN, B_b.out.eq, B_b.out.lt, hp_same B_b.out.eq, lb]) (own_ne HOWN.out (.inl (by omega)))
          obtain ⟨b0, b1, b2, bf, bz⟩ := Blk.b3 K_b
          have B_b := Lib.hid K_b
          clear K_b
          have K_d : Blk _ (w2.heap.size) 66 #[.int .i64 T, .int .i64 U, .slice A' TL.length c'] := blk_grown hg5 (by simp [hp_past, hp_at, hp_other, hp_same, hp_drew, hp_drewN, B_d.out.eq, B_d.out.lt, hp_same B_d.out.eq, ld]) (own_ne HOWN.out (.inl (by omega)))
          obtain ⟨d0, d1, d2, df, dz⟩ := Blk.b3 K_d
          have B_d := Lib.hid K_d
          clear K_d
          have hbeln : Below w.heap.size w _ := Below.grown qbv hg5 (by simp; omega) (fun j hj => by
            rcases (HOWN.out).form with ⟨h0, _⟩ | ⟨g', h0, h1, _⟩
            · simp only at h0; rw [h0] at hj; simp [Value.ownBlock] at hj
            · simp only at h0; rw [h0] at hj; simp [Value.ownBlock] at hj; omega)
          have HO5 := Lib.hid hown5
          have hz5 : w2.heap.size + 1 ≤ w5.heap.size := by have := hg5.size; simp at this; omega
          clear hg5 hown5 hat5
          go_wp2_with fail
          have m1 : w.heap.size ≠ w2.heap.size := by omega
          have m2 : w.heap.size + 1 ≠ w2.heap.size := by omega
          have XD := Lib.hid (B_d.out.set_ 2 (.slice A5 TL5.length c5))
          have XA := Lib.hid (Blk.farr (p := ⟨w2.heap.size, 2, none⟩) (u := .slice A5 TL5.length c5) m1 B_a.out)
          have XB := Lib.hid (Blk.farr (p := ⟨w2.heap.size, 2, none⟩) (u := .slice A5 TL5.length c5) m2 B_b.out)
          go_roundw
          case rel => exact ⟨k + 1, true, TL5, A5, c5, by omega, rfl, by go_num, by omega, by simpa using XA.out, by simpa using XB.out, by simpa using XD.out, (by repeat (first | (with_reducible exact HO5.out) | ((with_reducible refine Own.farr ?_ ?_); focus (first | (simp; done) | (simp; omega) | omega)) | (with_reducible refine Own.alloc ?_ _) | (with_reducible refine Own.drew ?_) | (with_reducible refine Own.drewN ?_ _) | ((with_reducible apply own_via); focus (with_reducible assumption)))), qbv, by simp; omega, by rw [HE.out, lendGo_past (Int.ne_of_gt hxp), ← List.append_assoc, ← HTTL5.out]⟩
          case measure => simp [intOf]; omega
    · have hkl : L.drop k = [] := List.drop_eq_nil_of_le (by omega)
      rw [hkl] at heq
      have HE := Lib.hid heq
      clear hkl heq
      cases b
      · skip
        go_wp2_with (at_builtin
                     go_must (refine wpl_append_sl (base := w2.heap.size + 1) _ rfl (.tmp 74) (.tmp 78) _ rfl Try.underlying64 infoLoan (by omega) Loan.k Loan.one ⟨A', c', TL⟩ ⟨some ⟨wr.heap.size, 0, none⟩, 1, [⟨p, n, 0⟩]⟩ rfl rfl (by repeat (first | (with_reducible exact HOWN.out) | ((with_reducible refine Own.farr ?_ ?_); focus (first | (simp; done) | (simp; omega) | omega)) | (with_reducible refine Own.alloc ?_ _) | (with_reducible refine Own.drew ?_) | (with_reducible refine Own.drewN ?_ _))) (Rd.lit1 ⟨p, n, 0⟩ Loan.k (by simp)) (by simp [maxLen]; omega) (by simp; omega) (by simp; omega) ?_)
                     intro A5 c5 w5 hown5 hg5 hat5
                     apply Hid.out)
        refine Lib.hid ?_
        obtain ⟨TL5, hTLN⟩ : ∃ l, l = TL ++ [(⟨p, n, 0⟩ : Loan)] := ⟨_, rfl⟩
        rw [← hTLN] at hown5
        have hlq : TL5.length = TL.length + 1 := by rw [hTLN]; simp
        rw [← hlq]
        have hlTL5 : TL5.length ≤ TL.length + 1 := by omega
        have HTTL5 := Lib.hid hTLN
        clear hlq
        clear hTLN
        clear a0 a1 a2 af b0 b1 b2 bf d0 d1 d2 df
        have K_a : Blk _ (w.heap.size) 66 #[.int .i64 T, .int .i64 U, .slice A L.length c] := blk_grown hg5 (by simp [hp_past, hp_at, hp_other, hp_same, hp_drew, hp_drewN, B_a.out.eq, B_a.out.lt, hp_same B_a.out.eq]) (own_ne HOWN.out (.inl (by omega)))
        obtain ⟨a0, a1, a2, af, az⟩ := Blk.b3 K_a
        have B_a := Lib.hid K_a
        clear K_a
        have K_b : Blk _ (w.heap.size + 1) 66 #[.int .i64 0, .int .i64 0, .slice none 0 0] := blk_grown hg5 (by simp [hp_past, hp_at, hp_other, hp_same, hp_drew, hp_drewN, B_b.out.eq, B_b.out.lt, hp_same B_b.out.eq]) (own_ne HOWN.out (.inl (by omega)))
        obtain ⟨b0, b1, b2, bf, bz⟩ := Blk.b3 K_b
        have B_b := Lib.hid K_b
        clear K_b
        have K_d : Blk _ (w2.heap.size) 66 #[.int .i64 T, .int .i64 U, .slice A' TL.length c'] := blk_grown hg5 (by simp [hp_past, hp_at, hp_other, hp_same, hp_drew, hp_drewN, B_d.out.eq, B_d.out.lt, hp_same B_d.out.eq]) (own_ne HOWN.out (.inl (by omega)))
        obtain ⟨d0, d1, d2, df, dz⟩ := Blk.b3 K_d
        have B_d := Lib.hid K_d
        clear K_d
        have hbeln : Below w.heap.size w _ := Below.grown qbv hg5 (by simp; omega) (fun j hj => by
          rcases (HOWN.out).form with ⟨h0, _⟩ | ⟨g', h0, h1, _⟩
          · simp only at h0; rw [h0] at hj; simp [Value.ownBlock] at hj
          · simp only at h0; rw [h0] at hj; simp [Value.ownBlock] at hj; omega)
        have HO5 := Lib.hid hown5
        clear hg5 hown5 hat5
        go_wp2_with fail
        have HSD : Hid (Stock.d ⟨T, U, ⟨A5, c5, TL5⟩⟩ = ⟨T, U, lendGo false p n L⟩) := Lib.hid (by simp only [Stock.d]; rw [HE.out, HTTL5.out]; rfl)
        try simp only [Exit.inBlock, Exit.then]
        refine bodyPost_ret (v := .tuple #[.agg #[.int .i64 T, .int .i64 U, .slice A5 TL5.length c5], .int .i64 0]) ?_ rfl ⟨⟨T, U, ⟨A5, c5, TL5⟩⟩, rfl, HSD.out, ?_, qbv⟩
        simp [results, Try.results66, go_sem, a0, a1, a2, af, b0, b1, b2, bf, d0, d1, d2, df, az, bz, dz]
        exact Rd.mono (Own.rd Loan.k (base := w2.heap.size + 1) (e := 136) (by repeat (first | (with_reducible exact HO5.out) | ((with_reducible refine Own.farr ?_ ?_); focus (first | (simp; done) | (simp; omega) | omega)) | (with_reducible refine Own.alloc ?_ _) | (with_reducible refine Own.drew ?_) | (with_reducible refine Own.drewN ?_ _)))) (fun b hb => ⟨by have := hb.1; omega, hb.2⟩)
      · skip
        go_wp2_with fail
        have HSD : Hid (Stock.d ⟨T, U, ⟨A', c', TL⟩⟩ = ⟨T, U, lendGo false p n L⟩) := Lib.hid (by simp only [Stock.d]; rw [HE.out]; simp [lendGo])
        try simp only [Exit.inBlock, Exit.then]
        refine bodyPost_ret (v := .tuple #[.agg #[.int .i64 T, .int .i64 U, .slice A' TL.length c'], .int .i64 0]) ?_ rfl ⟨⟨T, U, ⟨A', c', TL⟩⟩, rfl, HSD.out, ?_, qbv⟩
        simp [results, Try.results66, go_sem, a0, a1, a2, af, b0, b1, b2, bf, d0, d1, d2, df, az', bz', dz]
        exact Rd.mono (Own.rd Loan.k (base := w2.heap.size + 1) (e := 136) (by repeat (first | (with_reducible exact HOWN.out) | ((with_reducible refine Own.farr ?_ ?_); focus (first | (simp; done) | (simp; omega) | omega)) | (with_reducible refine Own.alloc ?_ _) | (with_reducible refine Own.drew ?_) | (with_reducible refine Own.drewN ?_ _)))) (fun b hb => ⟨by have := hb.1; omega, hb.2⟩)
end Go.Proofs.Ythnblhbdfpmolaa
