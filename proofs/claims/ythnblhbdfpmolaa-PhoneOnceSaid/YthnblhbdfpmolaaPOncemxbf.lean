/- Walks of the reference of layer 40: Right, Free, fits, find, Copied, Take. -/
import Derived.Test.YthnblhbdfpmolaaPOncemxbe
namespace Go.Proofs.Ythnblhbdfpmolaa
open Go.RowKit
theorem StockD.left_right {x : StockD} : decide (0 ≤ x.left) = x.right := by
  rcases h : x.right
  · simp [StockD.left, h]
  · have := StockD.free_le h
    unfold StockD.free at this
    rw [h, if_pos rfl] at this
    unfold StockD.left
    rw [h, if_pos rfl]
    simp; omega
theorem StockD.left_free {x : StockD} : max 0 x.left = x.free := by
  rcases h : x.right
  · simp only [StockD.left, StockD.free, h]; rfl
  · have := StockD.free_le h
    unfold StockD.free at this ⊢
    rw [h, if_pos rfl] at this
    unfold StockD.left
    rw [h, if_pos rfl, if_pos rfl]
    omega
theorem rleft (s : Stock) (w : World) (hr : Rd (· < w.heap.size) 3 Loan.enc w s.L) :
    Calls Try.prog 117 #[s.v] w fun e w' => e = .returned (.int .i64 s.d.left) ∧ Below w.heap.size w w' := by
  by_cases h0 : s.d.ok0
  · rcases Nat.lt_or_ge 12 s.L.l.length with hl | hl
    · have : s.d.left = -1 := by
        unfold StockD.left
        rcases h : s.d.right
        · rfl
        · have := StockD.right_len h; simp only [Stock.d] at this; omega
      rw [this]
      exact rleft_no s w (.inr hl)
    · rw [StockD.left_yes h0]
      exact rleft_yes s w hr h0 hl
  · rw [StockD.left_no h0]
    exact rleft_no s w (.inl h0)
set_option maxHeartbeats 400000 in
theorem rright40 (s : Stock) (w : World) (hr : Rd (· < w.heap.size) 3 Loan.enc w s.L) :
    Calls Try.prog 112 #[s.v] w fun e w' => e = .returned (.bool s.d.right) ∧ Below w.heap.size w w' := by
  rw [← StockD.left_right]
  obtain ⟨T, U, L⟩ := s
  have HR := Lib.hid hr
  clear hr
  simp only [Stock.v]
  go_enter Try.func112, Try.ntmps112
  go_wp2_with fail
  refine (rleft ⟨T, U, L⟩ _ (HR.out.lt_alloc _)).mono ?_
  rintro e w1 ⟨rfl, hb1⟩
  have hB1 : Below w.heap.size w w1 := qbv
  generalize hv : StockD.left (Stock.d ⟨T, U, L⟩) = v
  have HV := Lib.hid hv
  clear hb1 hv
  go_wp2_with fail
  go_ret
  exact ⟨ret_bool (by rw [HV.out]), hB1⟩
set_option maxHeartbeats 400000 in
theorem rfree (s : Stock) (w : World) (hr : Rd (· < w.heap.size) 3 Loan.enc w s.L) :
    Calls Try.prog 75 #[s.v] w fun e w' => e = .returned (.int .i64 s.d.free) ∧ Below w.heap.size w w' := by
  rw [← StockD.left_free]
  obtain ⟨T, U, L⟩ := s
  have HR := Lib.hid hr
  clear hr
  simp only [Stock.v]
  go_enter Try.func75, Try.ntmps75
  go_wp2_with fail
  refine (rleft ⟨T, U, L⟩ _ (HR.out.lt_alloc _)).mono ?_
  rintro e w1 ⟨rfl, hb1⟩
  have hB1 : Below w.heap.size w w1 := qbv
  generalize hv : StockD.left (Stock.d ⟨T, U, L⟩) = v
  have HV := Lib.hid hv
  clear hb1 hv
  go_wp2_with fail
  all_goals
    go_ret
    exact ⟨ret_int (by rw [HV.out] <;> omega), hB1⟩
set_option maxHeartbeats 600000 in
theorem rfits (s : Stock) (p n : Int) (w : World) (hr : Rd (· < w.heap.size) 3 Loan.enc w s.L) :
    Calls Try.prog 74 #[s.v, .int .i64 p, .int .i64 n] w fun e w' => e = .returned (.bool (s.d.fits p n)) ∧ Below w.heap.size w w' := by
  have hv : s.d.fits p n = (s.d.right && (rngB p 0 11 && rngB n 1 1000000000000000)) := by
    unfold StockD.fits rngB
    congr 1
    by_cases h1 : 0 ≤ p <;> by_cases h2 : p < 12 <;> simp [h1, h2] <;> omega
  rw [hv]
  clear hv
  obtain ⟨T, U, L⟩ := s
  have HR := Lib.hid hr
  clear hr
  simp only [Stock.v]
  go_enter Try.func74, Try.ntmps74
  go_wp2_with fail
  refine (rright40 ⟨T, U, L⟩ _ (HR.out.lt_alloc _)).mono ?_
  rintro e w1 ⟨rfl, hb1⟩
  have hB1 : Below w.heap.size w w1 := qbv
  clear hb1
  rcases h0 : StockD.right (Stock.d ⟨T, U, L⟩)
  · go_wp2_with fail
    go_ret
    exact ⟨ret_bool (by rw [h0]; rfl), hB1⟩
  · rcases h1 : rngB p 0 11
    · go_wp2_with (go_at_call 116; refine (in40_any _ _ _ _).mono ?_; rintro e w' ⟨rfl, rfl⟩)
      go_ret
      exact ⟨ret_bool (by rw [h0, h1]; rfl), hB1⟩
    · rcases h2 : rngB n 1 1000000000000000
      all_goals
        go_wp2_with (go_at_call 116; refine (in40_any _ _ _ _).mono ?_; rintro e w' ⟨rfl, rfl⟩)
        go_ret
        exact ⟨ret_bool (by rw [h0, h1, h2]; rfl), hB1⟩
/-- The index of the first element with this key, from k on; -1 if there is none. -/
def findK {α : Type} (key : α → Int) (p k : Int) : List α → Int
  | [] => -1
  | x :: r => if key x = p then k else findK key p (k + 1) r
theorem findK_far {α : Type} {key : α → Int} {p k : Int} {x : α} {r : List α} (h : key x ≠ p) : findK key p k (x :: r) = findK key p (k + 1) r := if_neg h
theorem findK_any {α : Type} {key : α → Int} {p : Int} : ∀ {l : List α} {k : Int}, 0 ≤ k → l.any (fun x => decide (key x = p)) = true → 0 ≤ findK key p k l
  | [], _, _, h => by simp at h
  | x :: r, k, hk, h => by
    unfold findK
    split
    · exact hk
    · rename_i hx
      simp only [List.any_cons, hx, decide_false, Bool.false_or] at h
      exact findK_any (by omega) h
theorem findK_none {α : Type} {key : α → Int} {p : Int} : ∀ {l : List α} {k : Int}, l.any (fun x => decide (key x = p)) = false → findK key p k l = -1
  | [], _, _ => rfl
  | x :: r, k, h => by
    simp only [List.any_cons, Bool.or_eq_false_iff, decide_eq_false_iff_not] at h
    unfold findK
    rw [if_neg h.1]
    exact findK_none h.2
theorem findK_at {α : Type} {key : α → Int} {p : Int} : ∀ {l : List α} {k : Int}, l.Pairwise (fun a b => key a < key b) → l.any (fun x => decide (key x = p)) = true → findK key p k l = k + l.countP (fun x => decide (key x < p))
  | [], _, _, h => by simp at h
  | x :: r, k, hs, h => by
    obtain ⟨h1, h2⟩ := List.pairwise_cons.1 hs
    unfold findK
    by_cases hx : key x = p
    · rw [if_pos hx]
      have : (x :: r).countP (fun x => decide (key x < p)) = 0 := by
        rw [List.countP_eq_zero]
        intro y hy
        rcases List.mem_cons.1 hy with rfl | hy
        · simp; omega
        · have := h1 y hy; simp; omega
      rw [this]; simp
    · rw [if_neg hx]
      simp only [List.any_cons, hx, decide_false, Bool.false_or] at h
      rw [findK_at h2 h]
      obtain ⟨y, hy, hyp⟩ := List.any_eq_true.1 h
      have := h1 y hy
      have hyp' := of_decide_eq_true hyp
      rw [List.countP_cons, if_pos (by simp; omega)]
      omega
set_option maxHeartbeats 800000 in
theorem rfind (s : Stock) (p : Int) (w : World) (hr : Rd (· < w.heap.size) 3 Loan.enc w s.L) :
    Calls Try.prog 115 #[s.v, .int .i64 p] w fun e w' => e = .returned (.int .i64 (findK Loan.p p 0 s.L.l)) ∧ Below w.heap.size w w' := by
  obtain ⟨T, U, A, c, L⟩ := s
  have hn := hr.len
  simp only at hn
  have HR := Lib.hid hr
  clear hr
  simp only [Stock.v]
  go_enter Try.func115, Try.ntmps115
  go_wp2_with fail
  go_loopw [5] (fun i wr => ∃ (k : Nat), k ≤ L.length ∧ i = .int .i64 k ∧ Blk wr w.heap.size 66 #[.int .i64 T, .int .i64 U, .slice A L.length c] ∧ Below w.heap.size w wr ∧ findK Loan.p p 0 L = findK Loan.p p k (L.drop k)) (fun i _ => L.length - (intOf i).toNat)
  case atStart => exact ⟨0, by omega, rfl, Blk.new _ _ _, qbl, by simp⟩
  case round =>
    obtain ⟨k, hk, rfl, hblk, hbel, heq⟩ := hrel
    obtain ⟨a0, a1, a2, af, az⟩ := hblk.b3
    have B_a := Lib.hid hblk
    clear hblk
    have hhe : w.heap.size ≤ wr.heap.size := hbel.size
    by_cases hlt : k < L.length
    · obtain ⟨b, o, rfl, hb, hcl⟩ := HR.out.at1 hlt
      obtain ⟨g0, g1, g2⟩ := Cells.c3 (hcl.keep (hbel.block b hb))
      have hd : L.drop k = L[k] :: L.drop (k + 1) := List.drop_eq_getElem_cons hlt
      rw [hd] at heq
      have HE := Lib.hid heq
      clear hd heq hcl
      generalize L[k] = x at *
      obtain ⟨xp, xu, xs⟩ := x
      by_cases hx : xp = p
      · subst hx
        go_wp2_with fail
        go_ret
        exact ⟨ret_int (by rw [HE.out]; simp [findK]), hbel⟩
      · have hx' : (xp == p) = false := by simp [hx]
        have HX := Lib.hid hx
        clear hx
        go_wp2_with fail
        go_roundw
        case rel => exact ⟨k + 1, by omega, by go_num, B_a.out, hbel, by rw [HE.out]; exact findK_far HX.out⟩
        case measure => simp [intOf]; omega
    · have hkl : L.drop k = [] := List.drop_eq_nil_of_le (by omega)
      rw [hkl] at heq
      have HE := Lib.hid heq
      clear hkl heq
      go_wp2_with fail
      go_ret
      exact ⟨ret_int (by rw [HE.out]; rfl), hbel⟩
theorem Own.lit0 {α : Type} {base g : Nat} {e : TypeId} {k : Nat} {enc : α → List Value} {w : World} (hk : ∀ x, (enc x).length = k) (hg : g = w.heap.size) (hb : base ≤ w.heap.size) : Own base e k enc (w.alloc (.cells #[] e)) ⟨some ⟨g, 0, none⟩, 0, []⟩ := by
  subst hg; exact Own.lit w #[] [] hb (Nat.zero_le _) rfl hk
set_option maxHeartbeats 800000 in
theorem rcopied40 (s : Stock) (w : World) (hr : Rd (· < w.heap.size) 3 Loan.enc w s.L) (hb : s.L.l.length * 24 ≤ 140737488355328) :
    Calls Try.prog 76 #[s.v] w fun e w' => ∃ A c, e = .returned (Stock.v ⟨s.T, s.U, ⟨A, c, s.L.l⟩⟩) ∧ Own w.heap.size 136 3 Loan.enc w' ⟨A, c, s.L.l⟩ ∧ Below w.heap.size w w' := by
  obtain ⟨T, U, sA, sc, L⟩ := s
  have HR := Lib.hid hr
  clear hr
  simp only at hb
  simp only [Stock.v]
  go_enter Try.func76, Try.ntmps76
  go_wp2_with (at_builtin
               go_must (refine wpl_append_sl _ rfl (.tmp 3) (.tmp 5) _ rfl Try.underlying64 infoLoan (by omega) Loan.k Loan.one ⟨some ⟨w.heap.size + 2, 0, none⟩, 0, []⟩ ⟨sA, sc, L⟩ rfl rfl (Own.lit0 Loan.k (base := w.heap.size + 2) (by simp) (by simp)) (((HR.out.lt_alloc _).lt_alloc _).lt_alloc _) (by have := HR.out.len; simp [maxLen] at this ⊢; omega) (by simp; omega) (by simp; try omega) ?_)
               intro A' c' w1 hown hg hat
               apply Hid.out)
  refine Lib.hid ?_
  simp only [List.nil_append] at hown
  have l0 : w.heap.size < w.heap.size + 1 + 1 := by omega
  have K_a : Blk _ (w.heap.size) 66 #[.int .i64 T, .int .i64 U, .slice sA L.length sc] := blk_grown hg (by simp [hp_past, hp_at, hp_other, hp_same, hp_drew, hp_drewN, l0]) (by simp [Value.ownBlock])
  obtain ⟨a0, a1, a2, af, az⟩ := Blk.b3 K_a
  have B_a := Lib.hid K_a
  clear K_a
  have K_b : Blk _ (w.heap.size + 1) 66 #[.int .i64 0, .int .i64 0, .slice none 0 0] := blk_grown hg (by simp [hp_past, hp_at, hp_other, hp_same, hp_drew, hp_drewN]) (by simp [Value.ownBlock])
  obtain ⟨b0, b1, b2, bf, bz⟩ := Blk.b3 K_b
  have B_b := Lib.hid K_b
  clear K_b
  have hB1 : Below w.heap.size w w1 := Below.grown qbl hg (by first | omega | (simp; done) | (simp; omega)) (by simp [Value.ownBlock])
  have HO := Lib.hid hown
  clear hg hown hat
  go_wp2_with fail
  try simp only [Exit.inBlock, Exit.then]
  refine bodyPost_ret (v := .agg #[.int .i64 T, .int .i64 U, .slice A' L.length c']) ?_ rfl ⟨A', c', rfl, Own.mono (base := w.heap.size + 2) (by repeat (first | (with_reducible exact HO.out) | ((with_reducible refine Own.farr ?_ ?_); focus (first | (simp; done) | (simp; omega) | omega)) | (with_reducible refine Own.alloc ?_ _) | (with_reducible refine Own.drew ?_) | (with_reducible refine Own.drewN ?_ _) | ((with_reducible apply own_via); focus (with_reducible assumption)))) (by omega), qbv⟩
  simp [results, Try.results76, go_sem, a0, a1, a2, af, b0, b1, b2, bf, az, bz]
end Go.Proofs.Ythnblhbdfpmolaa
/- Walks of the reference of layer 40: Take. -/
namespace Go.Proofs.Ythnblhbdfpmolaa
open Go.RowKit
set_option maxHeartbeats 800000 in
theorem rtake_no (s : Stock) (n : Int) (w : World) (hr : Rd (· < w.heap.size) 3 Loan.enc w s.L) (HF : Hid (s.d.fits 0 n = false)) :
    Calls Try.prog 32 #[s.v, .int .i64 n] w fun e w' => e = .returned (.tuple #[s.v, .int .i64 1]) ∧ Below w.heap.size w w' := by
  obtain ⟨T, U, L⟩ := s
  have HR := Lib.hid hr
  clear hr
  simp only [Stock.v]
  go_enter Try.func32, Try.ntmps32
  go_wp2_with fail
  refine (rfits ⟨T, U, L⟩ 0 n _ ((HR.out.lt_alloc _).lt_alloc _)).mono ?_
  rintro e w1 ⟨rfl, hb1⟩
  rw [HF.out]
  have K_a : Blk _ (w.heap.size) 66 #[.int .i64 T, .int .i64 U, .slice L.A L.l.length L.c] := qkb hb1
  obtain ⟨a0, a1, a2, af, az⟩ := Blk.b3 K_a
  have B_a := Lib.hid K_a
  clear K_a
  have K_b : Blk _ (w.heap.size + 1) 66 #[.int .i64 0, .int .i64 0, .slice none 0 0] := qkb hb1
  obtain ⟨b0, b1, b2, bf, bz⟩ := Blk.b3 K_b
  have B_b := Lib.hid K_b
  clear K_b
  have hB1 : Below w.heap.size w w1 := qbv
  clear hb1
  go_wp2_with fail
  try simp only [Exit.inBlock, Exit.then]
  refine bodyPost_ret (v := .tuple #[.agg #[.int .i64 T, .int .i64 U, .slice L.A L.l.length L.c], .int .i64 1]) ?_ rfl ⟨rfl, qbv⟩
  simp [results, Try.results32, go_sem, a0, a1, a2, af, b0, b1, b2, bf, az, bz]
set_option maxHeartbeats 800000 in
theorem rtake_few (s : Stock) (n : Int) (w : World) (hr : Rd (· < w.heap.size) 3 Loan.enc w s.L) (HF : Hid (s.d.fits 0 n = true)) (hlt : s.d.free < n) :
    Calls Try.prog 32 #[s.v, .int .i64 n] w fun e w' => e = .returned (.tuple #[s.v, .int .i64 21]) ∧ Below w.heap.size w w' := by
  obtain ⟨T, U, L⟩ := s
  have HR := Lib.hid hr
  clear hr
  simp only [Stock.v]
  go_enter Try.func32, Try.ntmps32
  go_wp2_with fail
  refine (rfits ⟨T, U, L⟩ 0 n _ ((HR.out.lt_alloc _).lt_alloc _)).mono ?_
  rintro e w1 ⟨rfl, hb1⟩
  rw [HF.out]
  have K_a : Blk _ (w.heap.size) 66 #[.int .i64 T, .int .i64 U, .slice L.A L.l.length L.c] := qkb hb1
  obtain ⟨a0, a1, a2, af, az⟩ := Blk.b3 K_a
  have B_a := Lib.hid K_a
  clear K_a
  have K_b : Blk _ (w.heap.size + 1) 66 #[.int .i64 0, .int .i64 0, .slice none 0 0] := qkb hb1
  obtain ⟨b0, b1, b2, bf, bz⟩ := Blk.b3 K_b
  have B_b := Lib.hid K_b
  clear K_b
  have hB1 : Below w.heap.size w w1 := qbv
  clear hb1
  go_wp2_with fail
  refine (rfree ⟨T, U, L⟩ _ (HR.out.below' hB1 (Nat.le_refl _))).mono ?_
  rintro e w2 ⟨rfl, hb2⟩
  clear a0 a1 a2 af b0 b1 b2 bf
  have K_a : Blk _ (w.heap.size) 66 #[.int .i64 T, .int .i64 U, .slice L.A L.l.length L.c] := qkc B_a hb2
  obtain ⟨a0, a1, a2, af, az⟩ := Blk.b3 K_a
  have B_a := Lib.hid K_a
  clear K_a
  have K_b : Blk _ (w.heap.size + 1) 66 #[.int .i64 0, .int .i64 0, .slice none 0 0] := qkc B_b hb2
  obtain ⟨b0, b1, b2, bf, bz⟩ := Blk.b3 K_b
  have B_b := Lib.hid K_b
  clear K_b
  have hB2 : Below w.heap.size w w2 := qbv
  clear hb2
  try simp only
  generalize hfv : StockD.free (Stock.d ⟨T, U, L⟩) = fv at *
  clear hfv
  go_wp2_with fail
  try simp only [Exit.inBlock, Exit.then]
  refine bodyPost_ret (v := .tuple #[.agg #[.int .i64 T, .int .i64 U, .slice L.A L.l.length L.c], .int .i64 21]) ?_ rfl ⟨rfl, qbv⟩
  simp [results, Try.results32, go_sem, a0, a1, a2, af, b0, b1, b2, bf, az, bz]
set_option maxHeartbeats 800000 in
theorem rtake_ok (s : Stock) (n : Int) (w : World) (hr : Rd (· < w.heap.size) 3 Loan.enc w s.L) (hb : s.L.l.length * 24 ≤ 140737488355328) (HF : Hid (s.d.fits 0 n = true)) (hle : n ≤ s.d.free) :
    Calls Try.prog 32 #[s.v, .int .i64 n] w fun e w' => ∃ s' : Stock, e = .returned (.tuple #[s'.v, .int .i64 0]) ∧ s'.d = ⟨s.T, s.U + n, s.L.l⟩ ∧ Rd (fun b => w.heap.size ≤ b ∧ b < w'.heap.size) 3 Loan.enc w' s'.L ∧ Below w.heap.size w w' := by
  have h1 := StockD.fits_iff HF.out
  have h2 := StockD.free_le h1.1
  have hn1 : 1 ≤ n := by omega
  have hn2 : n ≤ 1000000000000000 := by omega
  have hu1 : 0 ≤ s.U := h2.2.2.2
  have hu2 : s.U ≤ 1000000000000000 := by have := h2.1; have := h2.2.1; have := h2.2.2.1; simp only [Stock.d] at *; omega
  clear h1 h2
  obtain ⟨T, U, L⟩ := s
  have HR := Lib.hid hr
  clear hr
  simp only [Stock.v]
  go_enter Try.func32, Try.ntmps32
  go_wp2_with fail
  refine (rfits ⟨T, U, L⟩ 0 n _ ((HR.out.lt_alloc _).lt_alloc _)).mono ?_
  rintro e w1 ⟨rfl, hb1⟩
  rw [HF.out]
  have K_a : Blk _ (w.heap.size) 66 #[.int .i64 T, .int .i64 U, .slice L.A L.l.length L.c] := qkb hb1
  obtain ⟨a0, a1, a2, af, az⟩ := Blk.b3 K_a
  have B_a := Lib.hid K_a
  clear K_a
  have K_b : Blk _ (w.heap.size + 1) 66 #[.int .i64 0, .int .i64 0, .slice none 0 0] := qkb hb1
  obtain ⟨b0, b1, b2, bf, bz⟩ := Blk.b3 K_b
  have B_b := Lib.hid K_b
  clear K_b
  have hB1 : Below w.heap.size w w1 := qbv
  clear hb1
  go_wp2_with fail
  try simp only at hb hu1 hu2
  refine (rfree ⟨T, U, L⟩ _ (HR.out.below' hB1 (Nat.le_refl _))).mono ?_
  rintro e w2 ⟨rfl, hb2⟩
  clear a0 a1 a2 af b0 b1 b2 bf
  have K_a : Blk _ (w.heap.size) 66 #[.int .i64 T, .int .i64 U, .slice L.A L.l.length L.c] := qkc B_a hb2
  obtain ⟨a0, a1, a2, af, az⟩ := Blk.b3 K_a
  have B_a := Lib.hid K_a
  clear K_a
  have K_b : Blk _ (w.heap.size + 1) 66 #[.int .i64 0, .int .i64 0, .slice none 0 0] := qkc B_b hb2
  obtain ⟨b0, b1, b2, bf, bz⟩ := Blk.b3 K_b
  have B_b := Lib.hid K_b
  clear K_b
  have hB2 : Below w.heap.size w w2 := qbv
  clear hb2
  try simp only
  generalize hfv : StockD.free (Stock.d ⟨T, U, L⟩) = fv at *
  clear hfv
  go_wp2_with fail
  refine (rcopied40 ⟨T, U, L⟩ _ (HR.out.below' hB2 (Nat.le_refl _)) hb).mono ?_
  rintro e w3 ⟨A, c, rfl, hown, hb3⟩
  clear a0 a1 a2 af b0 b1 b2 bf
  have K_a : Blk _ (w.heap.size) 66 #[.int .i64 T, .int .i64 U, .slice L.A L.l.length L.c] := qkc B_a hb3
  obtain ⟨a0, a1, a2, af, az⟩ := Blk.b3 K_a
  have B_a := Lib.hid K_a
  clear K_a
  have K_b : Blk _ (w.heap.size + 1) 66 #[.int .i64 0, .int .i64 0, .slice none 0 0] := qkc B_b hb3
  obtain ⟨b0, b1, b2, bf, bz⟩ := Blk.b3 K_b
  have B_b := Lib.hid K_b
  clear K_b
  have hB3 : Below w.heap.size w w3 := qbv
  have hRd := (hown.rd Loan.k).mono (G := fun b => w2.heap.size ≤ b ∧ b < w3.heap.size) (fun b hb => hb)
  have HRD := Lib.hid hRd
  clear hb3 hown hRd
  simp only [Stock.v]
  rename_i k2 hk2 k1 hk1
  have HK2 := Lib.hid hk2
  clear hk2
  go_wp2_with fail
  have XA := Lib.hid (((B_a.out.set_ 0 (.int .i64 T)).set_ 1 (.int .i64 U)).set_ 2 (.slice A L.l.length c))
  have n1 : w.heap.size + 1 ≠ w.heap.size := by omega
  have XB := Lib.hid (Blk.farr (p := ⟨w.heap.size, 2, none⟩) (u := .slice A L.l.length c) n1 (Blk.farr (p := ⟨w.heap.size, 1, none⟩) (u := .int .i64 U) n1 (Blk.farr (p := ⟨w.heap.size, 0, none⟩) (u := .int .i64 T) n1 B_b.out)))
  have XR := Lib.hid (Rd.setfarr (p := ⟨w.heap.size, 2, none⟩) (u := .slice A L.l.length c) (by simp; omega) (Rd.setfarr (p := ⟨w.heap.size, 1, none⟩) (u := .int .i64 U) (by simp; omega) (Rd.setfarr (p := ⟨w.heap.size, 0, none⟩) (u := .int .i64 T) (by simp; omega) HRD.out)))
  have XW : Below w.heap.size w (((w3.setCell ⟨w.heap.size, 0, none⟩ (.int .i64 T)).setCell ⟨w.heap.size, 1, none⟩ (.int .i64 U)).setCell ⟨w.heap.size, 2, none⟩ (.slice A L.l.length c)) := qbv
  have XZ : (((w3.setCell ⟨w.heap.size, 0, none⟩ (.int .i64 T)).setCell ⟨w.heap.size, 1, none⟩ (.int .i64 U)).setCell ⟨w.heap.size, 2, none⟩ (.slice A L.l.length c)).heap.size = w3.heap.size := by simp
  generalize (((w3.setCell ⟨w.heap.size, 0, none⟩ (.int .i64 T)).setCell ⟨w.heap.size, 1, none⟩ (.int .i64 U)).setCell ⟨w.heap.size, 2, none⟩ (.slice A L.l.length c)) = w4 at *
  have hk2 := HK2.out
  clear HK2 a0 a1 a2 af b0 b1 b2 bf B_a B_b HRD hB3
  have XA' : Hid (Blk w4 w.heap.size 66 #[.int .i64 T, .int .i64 U, .slice A L.l.length c]) := Lib.hid (by simpa using XA.out)
  obtain ⟨a0, a1, a2, af, az4⟩ := XA'.out.b3
  obtain ⟨b0, b1, b2, bf, bz4⟩ := XB.out.b3
  go_wp2_with fail
  try simp only [Exit.inBlock, Exit.then]
  refine bodyPost_ret (v := .tuple #[.agg #[.int .i64 T, .int .i64 (U + n), .slice A L.l.length c], .int .i64 0]) ?_ rfl ⟨⟨T, U + n, ⟨A, c, L.l⟩⟩, rfl, rfl, ?_, qbv⟩
  simp [results, Try.results32, go_sem, a0, a1, a2, af, b0, b1, b2, bf, az4, bz4]
  refine Rd.mono (F := fun b => w2.heap.size ≤ b ∧ b < w3.heap.size) ?_ (fun b hb => by have := hb.1; have := hb.2; have := hB2.size; simp; omega)
  repeat (refine Rd.setfarr (by first | (simp; done) | (simp; omega)) ?_)
  exact XR.out
theorem rtake (s : Stock) (n : Int) (w : World) (hr : Rd (· < w.heap.size) 3 Loan.enc w s.L) (hb : s.L.l.length * 24 ≤ 140737488355328) :
    Calls Try.prog 32 #[s.v, .int .i64 n] w fun e w' => ∃ s' : Stock, e = .returned (.tuple #[s'.v, .int .i64 (s.d.take n).2]) ∧ s'.d = (s.d.take n).1 ∧ Rd (· < w'.heap.size) 3 Loan.enc w' s'.L ∧ Below w.heap.size w w' := by
  rcases hF : s.d.fits 0 n
  · have ht : s.d.take n = (s.d, 1) := by unfold StockD.take; rw [if_neg (by rw [hF]; simp)]
    rw [ht]
    refine (rtake_no s n w hr hF).mono ?_
    rintro e w' ⟨rfl, hbw⟩
    exact ⟨s, rfl, rfl, hr.below' hbw (Nat.le_refl _), hbw⟩
  · rcases Int.lt_or_le s.d.free n with h | h
    · have ht : s.d.take n = (s.d, 21) := by unfold StockD.take; rw [if_pos hF, if_pos h]
      rw [ht]
      refine (rtake_few s n w hr hF h).mono ?_
      rintro e w' ⟨rfl, hbw⟩
      exact ⟨s, rfl, rfl, hr.below' hbw (Nat.le_refl _), hbw⟩
    · have ht : s.d.take n = (⟨s.T, s.U + n, s.L.l⟩, 0) := by unfold StockD.take; rw [if_pos hF, if_neg (Int.not_lt.2 h)]; rfl
      rw [ht]
      refine (rtake_ok s n w hr hb hF h).mono ?_
      rintro e w' ⟨s', rfl, h1, h2, h3⟩
      exact ⟨s', rfl, h1, h2.mono (fun b hb' => hb'.2), h3⟩
end Go.Proofs.Ythnblhbdfpmolaa
