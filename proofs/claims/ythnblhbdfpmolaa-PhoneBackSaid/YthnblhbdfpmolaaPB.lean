/- The plain law of PhoneBack: what is lent and given back, with no program in sight. -/
import Derived.Test.YthnblhbdfpmolaaSm
namespace Go.Proofs.Ythnblhbdfpmolaa
open Go.RowKit
theorem fitIn_empty {p : PhoneD} (hH : p.H = []) : ∀ (L : List Loan) (k c c' : Int), fitIn p k c L = some c' → c' = c ∧ ∀ y ∈ L, y.p ≠ p.id
  | [], _, _, _, h => by simp [fitIn] at h; exact ⟨h.symm, by simp⟩
  | y :: L, k, c, c', h => by
    by_cases hy : y.p = p.id
    · rw [fitIn_no hy (by simp [fitOne, hH])] at h; cases h
    · rw [fitIn_far hy] at h
      obtain ⟨h1, h2⟩ := fitIn_empty hH L k c c' h
      exact ⟨h1, fun z hz => by
        rcases List.mem_cons.1 hz with rfl | hz
        · exact hy
        · exact h2 z hz⟩
theorem fitGo_empty {p : PhoneD} (hH : p.H = []) : ∀ (l : List StockD) (k c c' : Int), fitGo p k c l = some c' → ∀ s ∈ l, s.right = true ∧ ∀ y ∈ s.L, y.p ≠ p.id
  | [], _, _, _, _ => by simp
  | s :: r, k, c, c', h => by
    intro x hx
    rcases hs : s.right
    · rw [fitGo_no hs] at h; cases h
    · rcases hi : fitIn p k c s.L with _ | c1
      · rw [fitGo_in hs hi] at h; cases h
      · rw [fitGo_go hs hi] at h
        rcases List.mem_cons.1 hx with rfl | hx
        · exact ⟨hs, (fitIn_empty hH _ _ _ _ hi).2⟩
        · exact fitGo_empty hH r _ _ _ h x hx
theorem fit_empty {p : PhoneD} {l : List StockD} (hH : p.H = []) (h : p.fit l = true) : ∀ s ∈ l, s.right = true ∧ ∀ y ∈ s.L, y.p ≠ p.id := by
  unfold PhoneD.fit at h
  split at h
  · rename_i c hc; exact fitGo_empty hH l _ _ _ hc
  · cases h
theorem fitGo_far {p : PhoneD} : ∀ (l m : List StockD) (k c : Int), (∀ s ∈ l, s.right = true ∧ ∀ y ∈ s.L, y.p ≠ p.id) → fitGo p k c (l ++ m) = fitGo p (k + l.length) c m
  | [], m, k, c, _ => by simp
  | s :: l, m, k, c, h => by
    obtain ⟨h1, h2⟩ := h s (by simp)
    rw [List.cons_append, fitGo_go h1 (fitIn_none p k c s.L h2), fitGo_far l m (k + 1) c (fun x hx => h x (by simp [hx]))]
    congr 1
    simp; omega
theorem fitIn_far' {p : PhoneD} : ∀ (A R : List Loan) (k c : Int), (∀ y ∈ A, y.p ≠ p.id) → fitIn p k c (A ++ R) = fitIn p k c R
  | [], R, k, c, _ => rfl
  | y :: A, R, k, c, h => by
    rw [List.cons_append, fitIn_far (h y (by simp))]
    exact fitIn_far' A R k c (fun z hz => h z (by simp [hz]))
theorem rightGo_mono : ∀ (B : List Loan) (f f' la la' : Int), rightGo f la B = true → sumU B ≤ f' → (∀ b ∈ B, la' < b.p) → rightGo f' la' B = true
  | [], _, _, _, _, _, _, _ => rfl
  | b :: r, f, f', la, la', h, hs, hp => by
    have hb := rightGo_mem _ _ _ h b (by simp)
    have h' := h
    rw [rightGo_go (by omega)] at h'
    have hsr := rightGo_sum r _ _ h' (by omega)
    rw [sumU_cons] at hs
    rw [rightGo_go (by have := hp b (by simp); omega)]
    exact rightGo_mono r _ _ _ _ h' (by omega) (fun c hc => (rightGo_mem _ _ _ h' c hc).2.2.2.2.1)
theorem rightGo_ins : ∀ (A B : List Loan) (z : Loan) (f la : Int), rightGo f la (A ++ B) = true → sumU (A ++ B) + z.u ≤ f → 1 ≤ z.u → 0 ≤ z.s → z.s ≤ z.u → la < z.p → z.p < 12 → (∀ a ∈ A, a.p < z.p) → (∀ b ∈ B, z.p < b.p) → rightGo f la (A ++ z :: B) = true
  | [], B, z, f, la, h, hs, h1, h2, h3, h4, h5, _, hB => by
    simp only [List.nil_append] at h hs ⊢
    have h0 : 0 ≤ sumU B := by
      have := rightGo_mem _ _ _ h
      clear h hs hB
      induction B with
      | nil => simp [sumU]
      | cons y r ih => rw [sumU_cons]; have h1 := this y (by simp); have := ih (fun x hx => this x (by simp [hx])); omega
    rw [rightGo_go (by omega)]
    exact rightGo_mono B _ _ _ _ h (by omega) hB
  | a :: A, B, z, f, la, h, hs, h1, h2, h3, h4, h5, hA, hB => by
    simp only [List.cons_append] at h hs ⊢
    have ha := rightGo_mem _ _ _ h a (by simp)
    rw [rightGo_go (by omega)] at h ⊢
    rw [sumU_cons] at hs
    exact rightGo_ins A B z _ _ h (by omega) h1 h2 h3 (hA a (by simp)) h5 (fun x hx => hA x (by simp [hx])) hB
theorem sorted_split : ∀ (L : List Loan) (p : Int), L.Pairwise (fun a b => a.p < b.p) → (∀ y ∈ L, y.p ≠ p) → (∀ a ∈ L.take (idx L p), a.p < p) ∧ (∀ b ∈ L.drop (idx L p), p < b.p)
  | [], _, _, _ => by simp [idx]
  | y :: L, p, hs, hn => by
    obtain ⟨h1, h2⟩ := List.pairwise_cons.1 hs
    have ih := sorted_split L p h2 (fun z hz => hn z (by simp [hz]))
    have hy := hn y (by simp)
    by_cases hlt : y.p < p
    · have e : idx (y :: L) p = idx L p + 1 := by simp [idx, List.countP_cons, hlt]
      rw [e]
      simp only [List.take_succ_cons, List.drop_succ_cons]
      exact ⟨fun a ha => by
        rcases List.mem_cons.1 ha with rfl | ha
        · exact hlt
        · exact ih.1 a ha, ih.2⟩
    · have e : idx (y :: L) p = 0 := by
        unfold idx
        rw [List.countP_eq_zero]
        intro z hz
        rcases List.mem_cons.1 hz with rfl | hz
        · simp; omega
        · have := h1 z hz; simp; omega
      rw [e]
      simp only [List.take_zero, List.drop_zero]
      exact ⟨by simp, fun b hb => by
        rcases List.mem_cons.1 hb with rfl | hb
        · omega
        · have := h1 b hb; omega⟩
section
variable {A B : List Loan} {z : Loan}
theorem idx_ins (hA : ∀ a ∈ A, a.p < z.p) (hB : ∀ b ∈ B, z.p < b.p) : idx (A ++ z :: B) z.p = A.length := by
  unfold idx
  rw [List.countP_append, List.countP_cons]
  have h1 : A.countP (fun x => decide (x.p < z.p)) = A.length := List.countP_eq_length.2 (fun a ha => by simpa using hA a ha)
  have h2 : B.countP (fun x => decide (x.p < z.p)) = 0 := List.countP_eq_zero.2 (fun b hb => by have := hB b hb; simp; omega)
  rw [h1, h2]; simp
theorem has_ins : has (A ++ z :: B) z.p = true := by simp [has]
end
/-- A stock with a loan of z put in, and what Use and Give make of it. -/
theorem give_ins {T U : Int} {A B : List Loan} {z : Loan} (h : StockD.right ⟨T, U, A ++ z :: B⟩ = true) (hz0 : 0 ≤ z.p) (hz1 : z.p < 12) (hA : ∀ a ∈ A, a.p < z.p) (hB : ∀ b ∈ B, z.p < b.p) :
    (StockD.give ⟨T, U, A ++ z :: B⟩ z.p).1 = ⟨T, U + z.s, A ++ B⟩ := by
  unfold StockD.give
  rw [if_pos (by simp [StockD.fits, h]; omega)]
  simp only [idx_ins hA hB, has_ins, if_true]
  have e : (A ++ z :: B)[A.length]? = some z := by simp
  rw [e]
  simp only
  have e1 : (A ++ z :: B).take A.length = A := by simp
  have e2 : (A ++ z :: B).drop (A.length + 1) = B := by
    rw [List.drop_append]; simp
  rw [e1, e2]
theorem use_ins {T U : Int} {A B : List Loan} {z : Loan} {n : Int} (h : StockD.right ⟨T, U, A ++ z :: B⟩ = true) (hz0 : 0 ≤ z.p) (hz1 : z.p < 12) (hA : ∀ a ∈ A, a.p < z.p) (hB : ∀ b ∈ B, z.p < b.p)
    (hn : 1 ≤ n) (hn2 : n ≤ 1000000000000000) (hle : n ≤ z.u - z.s) : (StockD.use ⟨T, U, A ++ z :: B⟩ z.p n).1 = ⟨T, U, A ++ { z with s := z.s + n } :: B⟩ := by
  unfold StockD.use
  rw [if_pos (by simp [StockD.fits, h]; omega)]
  simp only [idx_ins hA hB, has_ins, if_true]
  have e : (A ++ z :: B)[A.length]? = some z := by simp
  rw [e]
  simp only
  rw [if_neg (by omega)]
  simp
end Go.Proofs.Ythnblhbdfpmolaa
