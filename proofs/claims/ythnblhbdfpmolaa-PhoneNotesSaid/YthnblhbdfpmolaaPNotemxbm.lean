/- Rows that ascend by a key: look-up, change, insertion, deletion. -/
import Derived.Test.YthnblhbdfpmolaaPNotemxab
import Derived.Test.YthnblhbdfpmolaaPNotemxas
namespace Go.Proofs.Ythnblhbdfpmolaa
section
variable {α : Type} (key : α → Int)
def Asc (l : List α) : Prop := l.Pairwise (fun a b => key a < key b)
def lk (l : List α) (p : Int) : Option α := l.find? (fun a => decide (key a = p))
variable {key}
theorem lk_nil {p : Int} : lk key ([] : List α) p = none := rfl
theorem lk_cons {x : α} {l : List α} {p : Int} : lk key (x :: l) p = if key x = p then some x else lk key l p := by
  unfold lk
  rw [List.find?_cons]
  by_cases h : key x = p
  · simp [h]
  · simp [h]
theorem lk_app {A B : List α} {p : Int} : lk key (A ++ B) p = (lk key A p).or (lk key B p) := by
  unfold lk; rw [List.find?_append]
theorem lk_none {l : List α} {p : Int} (h : ∀ a, a ∈ l → key a ≠ p) : lk key l p = none := by
  unfold lk
  rw [List.find?_eq_none]
  intro a ha
  simpa using h a ha
theorem lk_key {l : List α} {p : Int} {x : α} (h : lk key l p = some x) : key x = p ∧ x ∈ l := by
  unfold lk at h
  have h1 := List.find?_some h
  exact ⟨by simpa using h1, List.mem_of_find?_eq_some h⟩
theorem asc_cons {x : α} {l : List α} : Asc key (x :: l) ↔ (∀ a, a ∈ l → key x < key a) ∧ Asc key l := List.pairwise_cons
theorem asc_app {A B : List α} : Asc key (A ++ B) ↔ Asc key A ∧ Asc key B ∧ ∀ a, a ∈ A → ∀ b, b ∈ B → key a < key b := List.pairwise_append
/-- The row at a key: what is less, what is there, what is greater. -/
theorem asc_split : ∀ {l : List α}, Asc key l → ∀ p : Int, ∃ A B : List α, (∀ a, a ∈ A → key a < p) ∧ (∀ b, b ∈ B → p < key b) ∧ A.length = l.countP (fun a => decide (key a < p)) ∧
    ((l = A ++ B ∧ l.any (fun a => decide (key a = p)) = false) ∨ ∃ x, key x = p ∧ l = A ++ x :: B ∧ l.any (fun a => decide (key a = p)) = true)
  | [], _, p => ⟨[], [], by simp, by simp, by simp, .inl ⟨rfl, by simp⟩⟩
  | x :: l, hs, p => by
    obtain ⟨h1, h2⟩ := asc_cons.1 hs
    by_cases hx : key x < p
    · obtain ⟨A, B, hA, hB, hc, hr⟩ := asc_split h2 p
      have hne : ¬ key x = p := by omega
      refine ⟨x :: A, B, ?_, hB, by simp [hc, hx], ?_⟩
      · intro a ha
        rcases List.mem_cons.1 ha with rfl | ha
        · exact hx
        · exact hA a ha
      · rcases hr with ⟨h3, h4⟩ | ⟨y, h3, h4, h5⟩
        · left
          refine ⟨by rw [h3]; rfl, ?_⟩
          rw [List.any_cons, h4]; simp [hne]
        · right
          refine ⟨y, h3, by rw [h4]; rfl, ?_⟩
          rw [List.any_cons, h5]; simp
    · have hcz : l.countP (fun a => decide (key a < p)) = 0 := by
        rw [List.countP_eq_zero]
        intro a ha
        have := h1 a ha
        simp; omega
      by_cases he : key x = p
      · refine ⟨[], l, by simp, fun b hb => by have := h1 b hb; omega, by rw [List.countP_cons, hcz]; simp [hx], .inr ⟨x, he, rfl, ?_⟩⟩
        rw [List.any_cons]; simp [he]
      · refine ⟨[], x :: l, by simp, ?_, by rw [List.countP_cons, hcz]; simp [hx], .inl ⟨rfl, ?_⟩⟩
        · intro b hb
          rcases List.mem_cons.1 hb with rfl | hb
          · omega
          · have := h1 b hb; omega
        · rw [List.any_eq_false]
          intro a ha
          rcases List.mem_cons.1 ha with rfl | ha
          · simpa using he
          · have := h1 a ha
            simp; omega
theorem asc_ext : ∀ {A B : List α}, Asc key A → Asc key B → (∀ p, lk key A p = lk key B p) → A = B
  | [], [], _, _, _ => rfl
  | [], b :: B, _, _, h => by
    have := h (key b)
    rw [lk_nil, lk_cons, if_pos rfl] at this; cases this
  | a :: A, [], _, _, h => by
    have := h (key a)
    rw [lk_nil, lk_cons, if_pos rfl] at this; cases this
  | a :: A, b :: B, hA, hB, h => by
    obtain ⟨a1, a2⟩ := asc_cons.1 hA
    obtain ⟨b1, b2⟩ := asc_cons.1 hB
    have hab : a = b := by
      have e1 := h (key a)
      rw [lk_cons, if_pos rfl, lk_cons] at e1
      by_cases he : key b = key a
      · rw [if_pos he] at e1; injection e1
      · rw [if_neg he] at e1
        have h1 := (lk_key e1.symm).2
        have h2 := b1 a h1
        have e2 := h (key b)
        rw [lk_cons, if_neg (fun h => he h.symm), lk_cons, if_pos rfl] at e2
        have h3 := a1 b (lk_key e2).2
        omega
    subst hab
    congr 1
    refine asc_ext a2 b2 (fun p => ?_)
    have e1 := h p
    rw [lk_cons, lk_cons] at e1
    by_cases he : key a = p
    · rw [lk_none (fun x hx => by have := a1 x hx; omega), lk_none (fun x hx => by have := b1 x hx; omega)]
    · rw [if_neg he, if_neg he] at e1; exact e1
variable {A B : List α} {x y : α} {p : Int}
theorem lk_mid (hA : ∀ a, a ∈ A → key a < p) (hx : key x = p) : lk key (A ++ x :: B) p = some x := by
  rw [lk_app, lk_none (fun a ha => by have := hA a ha; omega), lk_cons, if_pos hx]; rfl
theorem lk_gap (hA : ∀ a, a ∈ A → key a < p) (hB : ∀ b, b ∈ B → p < key b) : lk key (A ++ B) p = none := by
  rw [lk_app, lk_none (fun a ha => by have := hA a ha; omega), lk_none (fun b hb => by have := hB b hb; omega)]; rfl
theorem lk_other {k : Int} (hx : key x = p) (hk : k ≠ p) : lk key (A ++ x :: B) k = lk key (A ++ B) k := by
  rw [lk_app, lk_app, lk_cons, if_neg (fun h => hk (h.symm.trans hx))]
theorem asc_mid (hA : ∀ a, a ∈ A → key a < p) (hB : ∀ b, b ∈ B → p < key b) (hx : key x = p) (h : Asc key (A ++ B)) : Asc key (A ++ x :: B) := by
  obtain ⟨h1, h2, h3⟩ := asc_app.1 h
  refine asc_app.2 ⟨h1, asc_cons.2 ⟨fun b hb => by have := hB b hb; omega, h2⟩, fun a ha b hb => ?_⟩
  rcases List.mem_cons.1 hb with rfl | hb
  · have := hA a ha; omega
  · exact h3 a ha b hb
theorem asc_gap (h : Asc key (A ++ x :: B)) : Asc key (A ++ B) := by
  obtain ⟨h1, h2, h3⟩ := asc_app.1 h
  exact asc_app.2 ⟨h1, (asc_cons.1 h2).2, fun a ha b hb => h3 a ha b (List.mem_cons_of_mem _ hb)⟩
theorem set_mid : (A ++ x :: B).set A.length y = A ++ y :: B := by simp
theorem take_mid : (A ++ x :: B).take A.length = A := by simp
theorem drop_mid : (A ++ x :: B).drop (A.length + 1) = B := by
  rw [List.drop_append]; simp
theorem get_mid : (A ++ x :: B)[A.length]? = some x := by simp
end
end Go.Proofs.Ythnblhbdfpmolaa
/- What the operations of stocks keep. -/
namespace Go.Proofs.Ythnblhbdfpmolaa
theorem sumU_app {A B : List Loan} : sumU (A ++ B) = sumU A + sumU B := by simp [sumU]
theorem sumU_cs {x : Loan} {B : List Loan} : sumU (x :: B) = x.u + sumU B := by simp [sumU]
theorem sumU_nn {L : List Loan} (h : ∀ x, x ∈ L → 1 ≤ x.u) : 0 ≤ sumU L := by
  induction L with
  | nil => simp [sumU]
  | cons x L ih =>
    have h1 := h x (by simp)
    have h2 := ih (fun x hx => h x (List.mem_cons_of_mem _ hx))
    rw [sumU_cs]; omega
theorem rightGo_iff : ∀ {L : List Loan} {f la : Int}, 0 ≤ f → (rightGo f la L = true ↔ Asc Loan.p L ∧ (∀ x, x ∈ L → la < x.p ∧ x.p < 12 ∧ 1 ≤ x.u ∧ 0 ≤ x.s ∧ x.s ≤ x.u) ∧ sumU L ≤ f)
  | [], f, la, hf => by simp [rightGo_nil, Asc, sumU, hf]
  | x :: L, f, la, hf => by
    constructor
    · intro h
      have h1 := rightGo_sorted _ _ _ h
      have h2 := rightGo_mem _ _ _ h
      have h3 := rightGo_sum _ _ _ h hf
      exact ⟨h1, fun y hy => by have := h2 y hy; omega, h3.2⟩
    · rintro ⟨h1, h2, h3⟩
      obtain ⟨a1, a2⟩ := asc_cons.1 h1
      have hx := h2 x (by simp)
      have hn := sumU_nn (L := L) (fun y hy => (h2 y (List.mem_cons_of_mem _ hy)).2.2.1)
      rw [sumU_cs] at h3
      rw [rightGo_go (by omega)]
      refine (rightGo_iff (by omega)).2 ⟨a2, fun y hy => ?_, by omega⟩
      have := h2 y (List.mem_cons_of_mem _ hy)
      have := a1 y hy
      omega
structure RightS (x : StockD) : Prop where
  T0 : 0 ≤ x.T
  T1 : x.T ≤ 1000000000000000
  U0 : 0 ≤ x.U
  U1 : x.U ≤ x.T
  asc : Asc Loan.p x.L
  mem : ∀ l, l ∈ x.L → 0 ≤ l.p ∧ l.p < 12 ∧ 1 ≤ l.u ∧ 0 ≤ l.s ∧ l.s ≤ l.u
  sum : sumU x.L ≤ x.T - x.U
theorem rightS_iff {x : StockD} : x.right = true ↔ RightS x := by
  constructor
  · intro h
    obtain ⟨h0, h1⟩ := StockD.right_iff h
    obtain ⟨a, b, c, d⟩ := h0
    obtain ⟨h2, h3, h4⟩ := (rightGo_iff (by omega)).1 h1
    exact ⟨a, b, c, d, h2, fun l hl => by have := h3 l hl; omega, h4⟩
  · intro h
    unfold StockD.right
    rw [if_pos ⟨h.T0, h.T1, h.U0, h.U1⟩]
    have := h.U1
    exact (rightGo_iff (by omega)).2 ⟨h.asc, fun l hl => by have := h.mem l hl; omega, h.sum⟩
theorem RightS.free {x : StockD} (h : RightS x) : x.free = x.T - x.U - sumU x.L := by
  unfold StockD.free
  rw [if_pos (rightS_iff.2 h)]
theorem has_any {L : List Loan} {p : Int} : has L p = L.any (fun a => decide (a.p = p)) := rfl
theorem idx_cnt {L : List Loan} {p : Int} : idx L p = L.countP (fun a => decide (a.p < p)) := rfl
/-- A loan was given. -/
theorem lend_ok2 {x : StockD} {p n : Int} (h : (x.lend p n).2 = 0) : RightS (x.lend p n).1 ∧ (x.lend p n).1.T = x.T ∧ (x.lend p n).1.U = x.U ∧ 1 ≤ n ∧ (∀ k, k ≠ p → lk Loan.p (x.lend p n).1.L k = lk Loan.p x.L k) ∧
    ((lk Loan.p x.L p = none ∧ lk Loan.p (x.lend p n).1.L p = some ⟨p, n, 0⟩) ∨ ∃ l, lk Loan.p x.L p = some l ∧ lk Loan.p (x.lend p n).1.L p = some { l with u := l.u + n }) := by
  have hf := StockD.lend_fits h
  obtain ⟨hr, hp0, hp1, hn1, hn2⟩ := StockD.fits_iff hf
  have R := rightS_iff.1 hr
  have hfr := R.free
  unfold StockD.lend at h ⊢
  rw [if_pos hf] at h ⊢
  by_cases hl : x.free < n
  · rw [if_pos hl] at h; cases h
  rw [if_neg hl]
  simp only
  obtain ⟨A, B, hA, hB, hc, hs⟩ := asc_split R.asc p
  have hsum := R.sum
  rcases hs with ⟨hL, hno⟩ | ⟨l, hlp, hL, hyes⟩
  · have hl' : lendL x.L p n = A ++ ⟨p, n, 0⟩ :: B := by
      unfold lendL
      rw [has_any, hno, idx_cnt, ← hc]
      simp only [Bool.false_eq_true, if_false]
      rw [hL]; simp
    rw [hl']
    rw [hL] at hsum hfr
    rw [hL]
    have hz : Loan.p ⟨p, n, 0⟩ = p := rfl
    refine ⟨⟨R.T0, R.T1, R.U0, R.U1, asc_mid hA hB hz (hL ▸ R.asc), fun y hy => ?_, ?_⟩, trivial, trivial, hn1, fun k hk => lk_other hz hk, .inl ⟨lk_gap hA hB, lk_mid hA hz⟩⟩
    · rcases List.mem_append.1 hy with hy | hy
      · exact R.mem y (by rw [hL]; exact List.mem_append.2 (.inl hy))
      · rcases List.mem_cons.1 hy with rfl | hy
        · exact ⟨hp0, hp1, hn1, by simp, by simp; omega⟩
        · exact R.mem y (by rw [hL]; exact List.mem_append.2 (.inr hy))
    · simp only [sumU_app, sumU_cs] at hsum hfr ⊢
      omega
  · have hl' : lendL x.L p n = A ++ { l with u := l.u + n } :: B := by
      unfold lendL
      rw [has_any, hyes, idx_cnt, ← hc]
      simp only [if_true]
      unfold bump
      rw [hL, get_mid]
      exact set_mid
    rw [hl']
    rw [hL] at hsum hfr
    rw [hL]
    have hz : Loan.p { l with u := l.u + n } = p := hlp
    have hml := R.mem l (by rw [hL]; simp)
    refine ⟨⟨R.T0, R.T1, R.U0, R.U1, asc_mid hA hB hz (asc_gap (hL ▸ R.asc)), fun y hy => ?_, ?_⟩, trivial, trivial, hn1, fun k hk => by rw [lk_other hz hk, lk_other hlp hk], .inr ⟨l, lk_mid hA hlp, lk_mid hA hz⟩⟩
    · rcases List.mem_append.1 hy with hy | hy
      · exact R.mem y (by rw [hL]; exact List.mem_append.2 (.inl hy))
      · rcases List.mem_cons.1 hy with rfl | hy
        · exact ⟨hml.1, hml.2.1, by simp; omega, hml.2.2.2.1, by simp; omega⟩
        · exact R.mem y (by rw [hL]; exact List.mem_append.2 (.inr (List.mem_cons_of_mem _ hy)))
    · simp only [sumU_app, sumU_cs] at hsum hfr ⊢
      omega
/-- The site took. -/
theorem take_ok2 {x : StockD} {n : Int} (h : (x.take n).2 = 0) : RightS (x.take n).1 ∧ (x.take n).1 = { x with U := x.U + n } ∧ 1 ≤ n := by
  unfold StockD.take at h ⊢
  by_cases hf : x.fits 0 n = true
  · rw [if_pos hf] at h ⊢
    obtain ⟨hr, _, _, hn1, hn2⟩ := StockD.fits_iff hf
    have R := rightS_iff.1 hr
    have hfr := R.free
    by_cases hl : x.free < n
    · rw [if_pos hl] at h; cases h
    rw [if_neg hl]
    have hs := sumU_nn (L := x.L) (fun y hy => (R.mem y hy).2.2.1)
    have h1 := R.U0
    have h2 := R.sum
    exact ⟨⟨R.T0, R.T1, by simp only; omega, by simp only; omega, R.asc, R.mem, by simp only; omega⟩, rfl, hn1⟩
  · rw [if_neg hf] at h; cases h
/-- A phone joined: its loan is settled. -/
theorem joinS_ok2 {x : StockD} {i : Int} {hd : Hold} {l : Loan} (R : RightS x) (hi0 : 0 ≤ i) (hi1 : i < 12) (hl : lk Loan.p x.L i = some l) (hs0 : l.s = 0) (hq0 : 0 ≤ hd.s) (hq1 : hd.s ≤ l.u) :
    RightS (joinS i hd x) ∧ (joinS i hd x).T = x.T ∧ (joinS i hd x).U = x.U + hd.s ∧ lk Loan.p (joinS i hd x).L i = none ∧ ∀ k, k ≠ i → lk Loan.p (joinS i hd x).L k = lk Loan.p x.L k := by
  obtain ⟨A, B, hA, hB, hc, hs⟩ := asc_split R.asc i
  rcases hs with ⟨hL, _⟩ | ⟨l', hlp, hL, hyes⟩
  · rw [hL, lk_gap hA hB] at hl; cases hl
  obtain rfl : l' = l := by rw [hL, lk_mid hA hlp] at hl; injection hl
  have hml := R.mem l' (by rw [hL]; simp)
  have hsum := R.sum
  rw [hL, sumU_app, sumU_cs] at hsum
  have hsA := sumU_nn (L := A) (fun y hy => (R.mem y (by rw [hL]; exact List.mem_append.2 (.inl hy))).2.2.1)
  have hsB := sumU_nn (L := B) (fun y hy => (R.mem y (by rw [hL]; exact List.mem_append.2 (.inr (List.mem_cons_of_mem _ hy)))).2.2.1)
  have hU0 := R.U0
  have hU1 := R.U1
  have hT1 := R.T1
  -- what is used
  obtain ⟨l2, hl2p, hl2s, hl2u, hx1⟩ : ∃ l2 : Loan, l2.p = i ∧ l2.s = hd.s ∧ l2.u = l'.u ∧ (if 0 < hd.s then (x.use i hd.s).1 else x) = ⟨x.T, x.U, A ++ l2 :: B⟩ := by
    by_cases h0 : 0 < hd.s
    · refine ⟨{ l' with s := l'.s + hd.s }, hlp, by simp only; omega, rfl, ?_⟩
      rw [if_pos h0]
      have hf : x.fits i hd.s = true := by
        simp only [StockD.fits, rightS_iff.2 R, Bool.true_and, Bool.and_eq_true, decide_eq_true_eq]
        omega
      unfold StockD.use
      rw [if_pos hf, idx_cnt, ← hc, hL, get_mid, has_any, ← hL, hyes]
      simp only [if_true]
      rw [if_neg (by omega)]
      simp only
      rw [hL, set_mid]
    · refine ⟨l', hlp, by omega, rfl, ?_⟩
      rw [if_neg h0, ← hL]
  have R1 : RightS ⟨x.T, x.U, A ++ l2 :: B⟩ := by
    refine ⟨R.T0, R.T1, R.U0, R.U1, asc_mid hA hB hl2p (asc_gap (hL ▸ R.asc)), fun y hy => ?_, ?_⟩
    · rcases List.mem_append.1 hy with hy | hy
      · exact R.mem y (by rw [hL]; exact List.mem_append.2 (.inl hy))
      · rcases List.mem_cons.1 hy with rfl | hy
        · exact ⟨by omega, by omega, by omega, by omega, by omega⟩
        · exact R.mem y (by rw [hL]; exact List.mem_append.2 (.inr (List.mem_cons_of_mem _ hy)))
    · simp only [sumU_app, sumU_cs]; omega
  have hg : joinS i hd x = ⟨x.T, x.U + hd.s, A ++ B⟩ := by
    unfold joinS
    rw [hx1]
    have hf : StockD.fits ⟨x.T, x.U, A ++ l2 :: B⟩ i 1 = true := by
      simp only [StockD.fits, rightS_iff.2 R1, Bool.true_and, Bool.and_eq_true, decide_eq_true_eq]
      omega
    unfold StockD.give
    rw [if_pos hf]
    have hcn : idx (A ++ l2 :: B) i = A.length := by
      rw [idx_cnt, List.countP_append, List.countP_cons]
      have e1 : A.countP (fun a => decide (a.p < i)) = A.length := by
        rw [List.countP_eq_length]
        intro a ha; simpa using hA a ha
      have e2 : B.countP (fun a => decide (a.p < i)) = 0 := by
        rw [List.countP_eq_zero]
        intro b hb
        have := hB b hb
        simp; omega
      rw [e1, e2]
      simp [hl2p]
    have hhs : has (A ++ l2 :: B) i = true := by rw [has_any]; simp [hl2p]
    simp only [hcn, get_mid, hhs, if_true, take_mid, drop_mid, hl2s]
  rw [hg]
  refine ⟨⟨R.T0, R.T1, by simp only; omega, by simp only; omega, asc_gap R1.asc, fun y hy => R1.mem y ?_, by simp only [sumU_app]; omega⟩, rfl, rfl, lk_gap hA hB, fun k hk => by rw [hL, lk_other hlp hk]⟩
  rcases List.mem_append.1 hy with hy | hy
  · exact List.mem_append.2 (.inl hy)
  · exact List.mem_append.2 (.inr (List.mem_cons_of_mem _ hy))
end Go.Proofs.Ythnblhbdfpmolaa
