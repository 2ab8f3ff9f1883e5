/- What a phone that fits its stocks says: each loan that it holds is in its stock, with nothing used. -/
import Derived.Test.YthnblhbdfpmolaaHoldsxau
namespace Go.Proofs.Ythnblhbdfpmolaa
open Go.RowKit
theorem sorted_sub : ∀ (B A : List Int), A.Pairwise (· < ·) → B.Pairwise (· < ·) → (∀ x ∈ A, x ∈ B) → A.length ≤ B.length ∧ (A.length = B.length → A = B)
  | [], A, _, _, h => by
    rcases A with _ | ⟨a, A⟩
    · exact ⟨Nat.le_refl _, fun _ => rfl⟩
    · exact absurd (h a (by simp)) (by simp)
  | b :: B, [], _, _, _ => ⟨Nat.zero_le _, fun h => by simp at h⟩
  | b :: B, a :: A, hA, hB, h => by
    obtain ⟨hA1, hA2⟩ := List.pairwise_cons.1 hA
    obtain ⟨hB1, hB2⟩ := List.pairwise_cons.1 hB
    by_cases hab : a = b
    · subst hab
      have := sorted_sub B A hA2 hB2 (fun x hx => by
        rcases List.mem_cons.1 (h x (by simp [hx])) with rfl | h'
        · exact absurd (hA1 _ hx) (by omega)
        · exact h')
      exact ⟨by simp; omega, fun he => by rw [this.2 (by simpa using he)]⟩
    · have haB : a ∈ B := by
        rcases List.mem_cons.1 (h a (by simp)) with h' | h'
        · exact absurd h' hab
        · exact h'
      have hba := hB1 a haB
      have := sorted_sub B (a :: A) hA hB2 (fun x hx => by
        rcases List.mem_cons.1 (h x hx) with rfl | h'
        · rcases List.mem_cons.1 hx with rfl | hx
          · omega
          · have := hA1 _ hx; omega
        · exact h')
      exact ⟨by simp at this ⊢; omega, fun he => by simp at this he; omega⟩
theorem fitIn_none : ∀ (p : PhoneD) (k c : Int) (l : List Loan), (∀ y ∈ l, y.p ≠ p.id) → fitIn p k c l = some c
  | _, _, _, [], _ => rfl
  | p, k, c, y :: l, h => by rw [fitIn_far (h y (by simp))]; exact fitIn_none p k c l (fun z hz => h z (by simp [hz]))
theorem fitIn_one : ∀ (p : PhoneD) (k c c' : Int) (l : List Loan), l.Pairwise (fun a b => a.p < b.p) → fitIn p k c l = some c' → c' = c ∨ (c' = c + 1 ∧ ∃ y ∈ l, y.p = p.id ∧ fitOne p k y = true)
  | _, _, _, _, [], _, h => by simp [fitIn] at h; exact .inl h.symm
  | p, k, c, c', y :: l, hs, h => by
    obtain ⟨h1, h2⟩ := List.pairwise_cons.1 hs
    by_cases hy : y.p = p.id
    · rcases hf : fitOne p k y
      · rw [fitIn_no hy hf] at h; cases h
      · rw [fitIn_go hy hf, fitIn_none p k (c + 1) l (fun z hz => by have := h1 z hz; omega)] at h
        injection h with h
        exact .inr ⟨h.symm, y, by simp, hy, hf⟩
    · rw [fitIn_far hy] at h
      rcases fitIn_one p k c c' l h2 h with h' | ⟨h', z, hz, h3⟩
      · exact .inl h'
      · exact .inr ⟨h', z, by simp [hz], h3⟩
theorem fitGo_keys : ∀ (p : PhoneD) (k c c' : Int) (l : List StockD), fitGo p k c l = some c' →
    ∃ ks : List Int, ks.Pairwise (· < ·) ∧ c' = c + ks.length ∧ ∀ q ∈ ks, k ≤ q ∧ ∃ s, l[(q - k).toNat]? = some s ∧ ∃ y ∈ s.L, y.p = p.id ∧ fitOne p q y = true
  | p, k, c, c', [], h => by
    simp [fitGo] at h
    exact ⟨[], .nil, by simp [h], by simp⟩
  | p, k, c, c', s :: r, h => by
    rcases hs : s.right
    · rw [fitGo_no hs] at h; cases h
    · rcases hi : fitIn p k c s.L with _ | c1
      · rw [fitGo_in hs hi] at h; cases h
      · rw [fitGo_go hs hi] at h
        obtain ⟨ks, h1, h2, h3⟩ := fitGo_keys p (k + 1) c1 c' r h
        have h3' : ∀ q ∈ ks, k < q ∧ ∃ x, (s :: r)[(q - k).toNat]? = some x ∧ ∃ y ∈ x.L, y.p = p.id ∧ fitOne p q y = true := fun q hq => by
          obtain ⟨a, x, hx, b⟩ := h3 q hq
          refine ⟨by omega, x, ?_, b⟩
          have : (q - k).toNat = (q - (k + 1)).toNat + 1 := by omega
          rw [this, List.getElem?_cons_succ]; exact hx
        rcases fitIn_one p k c c1 s.L (StockD.sorted hs) hi with rfl | ⟨rfl, y, hy, hy2⟩
        · exact ⟨ks, h1, h2, fun q hq => ⟨by have := (h3' q hq).1; omega, (h3' q hq).2⟩⟩
        · refine ⟨k :: ks, List.pairwise_cons.2 ⟨fun q hq => (h3' q hq).1, h1⟩, by simp; omega, fun q hq => ?_⟩
          rcases List.mem_cons.1 hq with rfl | hq
          · exact ⟨Int.le_refl _, s, by simp, y, hy, hy2⟩
          · exact ⟨by have := (h3' q hq).1; omega, (h3' q hq).2⟩
/-- Each loan that the phone holds is in its stock, as it is there, and nothing of it is used. -/
theorem PhoneD.fit_holds {p : PhoneD} {l : List StockD} (h : p.fit l = true) (hH : holdsR p.H = true) : ∀ x ∈ p.H, ∃ s, l[x.st.toNat]? = some s ∧ s.right = true ∧ ∃ y ∈ s.L, y.p = p.id ∧ y.u = x.u ∧ y.s = 0 := by
  unfold PhoneD.fit at h
  split at h
  · rename_i c hc
    have hc' := of_decide_eq_true h
    obtain ⟨ks, h1, h2, h3⟩ := fitGo_keys p 0 0 c l hc
    obtain ⟨_, hso, _⟩ := holdsR_iff hH
    have hsub : ∀ q ∈ ks, q ∈ p.H.map Hold.st := fun q hq => by
      obtain ⟨_, s, _, y, _, _, hf⟩ := h3 q hq
      unfold fitOne at hf
      split at hf
      · simp only [Bool.and_eq_true] at hf
        have := hf.1.1
        simp only [hhas, List.any_eq_true, decide_eq_true_eq] at this
        obtain ⟨x, hx, he⟩ := this
        exact List.mem_map.2 ⟨x, hx, he⟩
      · cases hf
    have hst : (p.H.map Hold.st).Pairwise (· < ·) := List.pairwise_map.2 hso
    have heq := (sorted_sub (p.H.map Hold.st) ks h1 hst hsub).2 (by simp; omega)
    intro x hx
    have hq : x.st ∈ ks := by rw [heq]; exact List.mem_map_of_mem hx
    obtain ⟨h0, s, hs, y, hy, hyp, hf⟩ := h3 _ hq
    rw [Int.sub_zero] at hs
    refine ⟨s, hs, fitGo_right p l 0 0 c hc s (List.mem_of_getElem? hs), y, hy, hyp, ?_⟩
    unfold fitOne at hf
    split at hf
    · rename_i z hz
      simp only [Bool.and_eq_true, decide_eq_true_eq] at hf
      obtain ⟨x', hx', he⟩ := hidx_at hso hf.1.1
      rw [hz] at hx'
      injection hx' with hx'
      subst hx'
      have hzx : z = x := by
        have hzm := List.mem_of_getElem? hz
        obtain ⟨i, hi⟩ := List.getElem?_of_mem hzm
        obtain ⟨j, hj⟩ := List.getElem?_of_mem hx
        rcases Nat.lt_trichotomy i j with hij | hij | hij
        · have := sorted_get hso hi hj hij; omega
        · subst hij; rw [hi] at hj; injection hj
        · have := sorted_get hso hj hi hij; omega
      subst hzx
      exact ⟨hf.1.2.symm, hf.2⟩
    · cases hf
  · cases h
end Go.Proofs.Ythnblhbdfpmolaa
