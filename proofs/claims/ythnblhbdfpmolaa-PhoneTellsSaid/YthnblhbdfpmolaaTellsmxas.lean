/- What a phone that fits its stocks says: each loan that it holds is in its stock, with nothing used. -/
import Derived.Test.YthnblhbdfpmolaaTellsmxar
namespace Go.Proofs.Ythnblhbdfpmolaa
open Go.RowKit
theorem sorted_sub : ∀ (B A : List Int), A.Pairwise (· < ·) → B.Pairwise (· < ·) → (∀ x ∈ A, x ∈ B) → A.length ≤ B.length ∧ (A.length = B.length → A = B)
  | [], A, _, _, h => by
    rcases A with _ | ⟨a, A⟩
    · exact ⟨Nat.le_refl _, fun _ => rfl⟩
    · exact absurd (h a (by simp)) (by simp)
  | b :: B, [], _, _, _ => ⟨Nat.zero_le _, fun h => by simp at h⟩
  | b :: B, a :: A, hA, hB, h => by
    obtain ⟨hA1, hA2⟩ := List.pairwise_cons.1 hA
    obtain ⟨hB1, hB2⟩ := List.pairwise_cons.1 hB
    by_cases hab : a = b
    · subst hab
      have := sorted_sub B A hA2 hB2 (fun x hx => by
        rcases List.mem_cons.1 (h x (by simp [hx])) with rfl | h'
        · exact absurd (hA1 _ hx) (by omega)
        · exact h')
      exact ⟨by simp; omega, fun he => by rw [this.2 (by simpa using he)]⟩
    · have haB : a ∈ B := by
        rcases List.mem_cons.1 (h a (by simp)) with h' | h'
        · exact absurd h' hab
        · exact h'
      have hba := hB1 a haB
      have := sorted_sub B (a :: A) hA hB2 (fun x hx => by
        rcases List.mem_cons.1 (h x hx) with rfl | h'
        · rcases List.mem_cons.1 hx with rfl | hx
          · omega
          · have := hA1 _ hx; omega
        · exact h')
      exact ⟨by simp at this ⊢; omega, fun he => by simp at this he; omega⟩
theorem fitIn_none : ∀ (p : PhoneD) (k c : Int) (l : List Loan), (∀ y ∈ l, y.p ≠ p.id) → fitIn p k c l = some c
  | _, _, _, [], _ => rfl
  | p, k, c, y :: l, h => by rw [fitIn_far (h y (by simp))]; exact fitIn_none p k c l (fun z hz => h z (by simp [hz]))
theorem fitIn_one : ∀ (p : PhoneD) (k c c' : Int) (l : List Loan), l.Pairwise (fun a b => a.p < b.p) → fitIn p k c l = some c' → c' = c ∨ (c' = c + 1 ∧ ∃ y ∈ l, y.p = p.id ∧ fitOne p k y = true)
  | _, _, _, _, [], _, h => by simp [fitIn] at h; exact .inl h.symm
  | p, k, c, c', y :: l, hs, h => by
    obtain ⟨h1, h2⟩ := List.pairwise_cons.1 hs
    by_cases hy : y.p = p.id
    · rcases hf : fitOne p k y
      · rw [fitIn_no hy hf] at h; cases h
      · rw [fitIn_go hy hf, fitIn_none p k (c + 1) l (fun z hz => by have := h1 z hz; omega)] at h
        injection h with h
        exact .inr ⟨h.symm, y, by simp, hy, hf⟩
    · rw [fitIn_far hy] at h
      rcases fitIn_one p k c c' l h2 h with h' | ⟨h', z, hz, h3⟩
      · exact .inl h'
      · exact .inr ⟨h', z, by simp [hz], h3⟩
theorem fitGo_keys : ∀ (p : PhoneD) (k c c' : Int) (l : List StockD), fitGo p k c l = some c' →
    ∃ ks : List Int, ks.Pairwise (· < ·) ∧ c' = c + ks.length ∧ ∀ q ∈ ks, k ≤ q ∧ ∃ s, l[(q - k).toNat]? = some s ∧ ∃ y ∈ s.L, y.p = p.id ∧ fitOne p q y = true
  | p, k, c, c', [], h => by
    simp [fitGo] at h
    exact ⟨[], .nil, by simp [h], by simp⟩
  | p, k, c, c', s :: r, h => by
    rcases hs : s.right
    · rw [fitGo_no hs] at h; cases h
    · rcases hi : fitIn p k c s.L with _ | c1
      · rw [fitGo_in hs hi] at h; cases h
      · rw [fitGo_go hs hi] at h
        obtain ⟨ks, h1, h2, h3⟩ := fitGo_keys p (k + 1) c1 c' r h
        have h3' : ∀ q ∈ ks, k < q ∧ ∃ x, (s :: r)[(q - k).toNat]? = some x ∧ ∃ y ∈ x.L, y.p = p.id ∧ fitOne p q y = true := fun q hq => by
          obtain ⟨a, x, hx, b⟩ := h3 q hq
          refine ⟨by omega, x, ?_, b⟩
          have : (q - k).toNat = (q - (k + 1)).toNat + 1 := by omega
          rw [this, List.getElem?_cons_succ]; exact hx
        rcases fitIn_one p k c c1 s.L (StockD.sorted hs) hi with rfl | ⟨rfl, y, hy, hy2⟩
        · exact ⟨ks, h1, h2, fun q hq => ⟨by have := (h3' q hq).1; omega, (h3' q hq).2⟩⟩
        · refine ⟨k :: ks, List.pairwise_cons.2 ⟨fun q hq => (h3' q hq).1, h1⟩, by simp; omega, fun q hq => ?_⟩
          rcases List.mem_cons.1 hq with rfl | hq
          · exact ⟨Int.le_refl _, s, by simp, y, hy, hy2⟩
          · exact ⟨by have := (h3' q hq).1; omega, (h3' q hq).2⟩
/-- Each loan that the phone holds is in its stock, as it is there, and nothing of it is used. -/
theorem PhoneD.fit_holds {p : PhoneD} {l : List StockD} (h : p.fit l = true) (hH : holdsR p.H = true) : ∀ x ∈ p.H, ∃ s, l[x.st.toNat]? = some s ∧ s.right = true ∧ ∃ y ∈ s.L, y.p = p.id ∧ y.u = x.u ∧ y.s = 0 := by
  unfold PhoneD.fit at h
  split at h
  · rename_i c hc
    have hc' := of_decide_eq_true h
    obtain ⟨ks, h1, h2, h3⟩ := fitGo_keys p 0 0 c l hc
    obtain ⟨_, hso, _⟩ := holdsR_iff hH
    have hsub : ∀ q ∈ ks, q ∈ p.H.map Hold.st := fun q hq => by
      obtain ⟨_, s, _, y, _, _, hf⟩ := h3 q hq
      unfold fitOne at hf
      split at hf
      · simp only [Bool.and_eq_true] at hf
        have := hf.1.1
        simp only [hhas, List.any_eq_true, decide_eq_true_eq] at this
        obtain ⟨x, hx, he⟩ := this
        exact List.mem_map.2 ⟨x, hx, he⟩
      · cases hf
    have hst : (p.H.map Hold.st).Pairwise (· < ·) := List.pairwise_map.2 hso
    have heq := (sorted_sub (p.H.map Hold.st) ks h1 hst hsub).2 (by simp; omega)
    intro x hx
    have hq : x.st ∈ ks := by rw [heq]; exact List.mem_map_of_mem hx
    obtain ⟨h0, s, hs, y, hy, hyp, hf⟩ := h3 _ hq
    rw [Int.sub_zero] at hs
    refine ⟨s, hs, fitGo_right p l 0 0 c hc s (List.mem_of_getElem? hs), y, hy, hyp, ?_⟩
    unfold fitOne at hf
    split at hf
    · rename_i z hz
      simp only [Bool.and_eq_true, decide_eq_true_eq] at hf
      obtain ⟨x', hx', he⟩ := hidx_at hso hf.1.1
      rw [hz] at hx'
      injection hx' with hx'
      subst hx'
      have hzx : z = x := by
        have hzm := List.mem_of_getElem? hz
        obtain ⟨i, hi⟩ := List.getElem?_of_mem hzm
        obtain ⟨j, hj⟩ := List.getElem?_of_mem hx
        rcases Nat.lt_trichotomy i j with hij | hij | hij
        · have := sorted_get hso hi hj hij; omega
        · subst hij; rw [hi] at hj; injection hj
        · have := sorted_get hso hj hi hij; omega
      subst hzx
      exact ⟨hf.1.2.symm, hf.2⟩
    · cases hf
  · cases h
end Go.Proofs.Ythnblhbdfpmolaa
/- The plain law: what the reference asks of stocks that fit is what the program asks. -/
namespace Go.Proofs.Ythnblhbdfpmolaa
open Go.RowKit
def fitT (p : PhoneD) (k : Int) (s : StockD) : Bool :=
  s.right && ((hhas p.H k == has s.L p.id) && (!hhas p.H k || (match p.H[hidx p.H k]?, s.L[idx s.L p.id]? with | some h, some l => decide (l.u = h.u) && decide (l.s = 0) | _, _ => false)))
def fitAll (p : PhoneD) : Int → List StockD → Bool
  | _, [] => true
  | k, s :: r => fitT p k s && fitAll p (k + 1) r
def fitR (p : PhoneD) (l : List StockD) : Bool := p.H.all (fun x => decide (x.st < l.length)) && fitAll p 0 l
def cntH (H : List Hold) : Int → Nat → Int
  | _, 0 => 0
  | k, n + 1 => (if hhas H k then 1 else 0) + cntH H (k + 1) n
theorem hhas_cons {x : Hold} {r : List Hold} {k : Int} (h : x.st ≠ k) : hhas (x :: r) k = hhas r k := by simp [hhas, h]
theorem cntH_cons {x : Hold} {r : List Hold} : ∀ (n : Nat) (k : Int), x.st < k → cntH (x :: r) k n = cntH r k n
  | 0, _, _ => rfl
  | n + 1, k, h => by
    unfold cntH
    rw [hhas_cons (by omega), cntH_cons n (k + 1) (by omega)]
theorem cntH_len : ∀ (n : Nat) (H : List Hold) (k : Int), H.Pairwise (fun a b => a.st < b.st) → (∀ x ∈ H, k ≤ x.st ∧ x.st < k + n) → cntH H k n = H.length
  | 0, H, k, _, h => by
    rcases H with _ | ⟨x, r⟩
    · rfl
    · have := h x (by simp); omega
  | n + 1, H, k, hs, h => by
    unfold cntH
    rcases H with _ | ⟨x, r⟩
    · rw [cntH_len n [] (k + 1) .nil (by simp)]; simp [hhas]
    · obtain ⟨h1, h2⟩ := List.pairwise_cons.1 hs
      by_cases hx : x.st = k
      · have hh : hhas (x :: r) k = true := by simp [hhas, hx]
        rw [hh, if_pos rfl, cntH_cons n (k + 1) (by omega), cntH_len n r (k + 1) h2 (fun y hy => by have := h1 y hy; have := h y (by simp [hy]); omega)]
        simp; omega
      · have hh : hhas (x :: r) k = false := by
          simp only [hhas, List.any_eq_false, decide_eq_true_eq]
          intro y hy
          rcases List.mem_cons.1 hy with rfl | hy
          · exact hx
          · have := h1 y hy; have := h x (by simp); omega
        rw [hh, if_neg (by simp), cntH_len n (x :: r) (k + 1) hs (fun y hy => by
          have h3 := h y hy
          have : k < y.st := by
            rcases List.mem_cons.1 hy with rfl | hy
            · omega
            · have := h1 y hy; have := h x (by simp); omega
          omega)]
        simp
theorem has_mem {l : List Loan} {p : Int} : has l p = true ↔ ∃ y ∈ l, y.p = p := by simp [has]
theorem loan_uniq {l : List Loan} (hs : l.Pairwise (fun a b => a.p < b.p)) {x y : Loan} (hx : x ∈ l) (hy : y ∈ l) (h : x.p = y.p) : x = y := by
  obtain ⟨i, hi⟩ := List.getElem?_of_mem hx
  obtain ⟨j, hj⟩ := List.getElem?_of_mem hy
  rw [List.pairwise_iff_getElem] at hs
  obtain ⟨hi', e1⟩ := List.getElem?_eq_some_iff.1 hi
  obtain ⟨hj', e2⟩ := List.getElem?_eq_some_iff.1 hj
  rcases Nat.lt_trichotomy i j with hij | hij | hij
  · have := hs i j hi' hj' hij; rw [e1, e2] at this; omega
  · subst hij; rw [hi] at hj; injection hj
  · have := hs j i hj' hi' hij; rw [e1, e2] at this; omega
/-- One stock. -/
theorem fitIn_T {p : PhoneD} {k c : Int} {s : StockD} (h : fitT p k s = true) : fitIn p k c s.L = some (c + if hhas p.H k then 1 else 0) := by
  simp only [fitT, Bool.and_eq_true, Bool.or_eq_true, beq_iff_eq, Bool.not_eq_true'] at h
  obtain ⟨hr, he, hv⟩ := h
  have hso := StockD.sorted hr
  rcases hh : hhas p.H k
  · rw [hh] at he
    rw [fitIn_none p k c s.L (fun y hy e => by
      have : has s.L p.id = true := has_mem.2 ⟨y, hy, e⟩
      rw [← he] at this; cases this)]
    simp
  · rw [hh] at he hv
    have hv := hv.resolve_left (by simp)
    obtain ⟨x, hx, hxp⟩ := idx_at hso he.symm
    rw [hx] at hv
    split at hv
    · rename_i h' l' e1 e2
      injection e2 with e2
      subst e2
      simp only [Bool.and_eq_true, decide_eq_true_eq] at hv
      have hone : fitOne p k x = true := by
        unfold fitOne
        rw [e1]
        simp [hh, hv.1, hv.2]
      have hxm := List.mem_of_getElem? hx
      have key : ∀ (l : List Loan) (c : Int), l.Pairwise (fun a b => a.p < b.p) → x ∈ l → fitIn p k c l = some (c + 1) := by
        intro l
        induction l with
        | nil => intro c _ hm; cases hm
        | cons y r ih =>
          intro c hs hm
          obtain ⟨h1, h2⟩ := List.pairwise_cons.1 hs
          rcases List.mem_cons.1 hm with rfl | hm
          · rw [fitIn_go hxp hone, fitIn_none p k (c + 1) r (fun z hz => by have := h1 z hz; omega)]
          · rw [fitIn_far (by have := h1 x hm; omega)]
            exact ih c h2 hm
      rw [key s.L c hso hxm]
      simp
    · cases hv
theorem fitGo_T {p : PhoneD} : ∀ (l : List StockD) (k c : Int), fitAll p k l = true → fitGo p k c l = some (c + cntH p.H k l.length)
  | [], k, c, _ => by simp [fitGo, cntH]
  | s :: r, k, c, h => by
    simp only [fitAll, Bool.and_eq_true] at h
    have hr : s.right = true := by
      have := h.1
      simp only [fitT, Bool.and_eq_true] at this
      exact this.1
    rw [fitGo_go hr (fitIn_T h.1), fitGo_T r (k + 1) _ h.2]
    simp only [List.length_cons, cntH]
    congr 1
    omega
theorem fitIn_all : ∀ {p : PhoneD} {k : Int} (l : List Loan) (c c' : Int), fitIn p k c l = some c' → ∀ y ∈ l, y.p = p.id → fitOne p k y = true
  | _, _, [], _, _, _, y, hy, _ => by cases hy
  | p, k, x :: l, c, c', h, y, hy, e => by
    by_cases hx : x.p = p.id
    · rcases hf : fitOne p k x
      · rw [fitIn_no hx hf] at h; cases h
      · rw [fitIn_go hx hf] at h
        rcases List.mem_cons.1 hy with rfl | hy
        · exact hf
        · exact fitIn_all l _ _ h y hy e
    · rw [fitIn_far hx] at h
      rcases List.mem_cons.1 hy with rfl | hy
      · exact absurd e hx
      · exact fitIn_all l _ _ h y hy e
theorem fitAll_of {p : PhoneD} {H0 : holdsR p.H = true} : ∀ (l : List StockD) (k c c' : Int), fitGo p k c l = some c' → (∀ x ∈ p.H, k ≤ x.st → ∃ s, l[(x.st - k).toNat]? = some s ∧ ∃ y ∈ s.L, y.p = p.id ∧ y.u = x.u ∧ y.s = 0) → fitAll p k l = true
  | [], _, _, _, _, _ => rfl
  | s :: r, k, c, c', h, hx => by
    obtain ⟨_, hso, _⟩ := holdsR_iff H0
    rcases hs : s.right
    · rw [fitGo_no hs] at h; cases h
    · rcases hi : fitIn p k c s.L with _ | c1
      · rw [fitGo_in hs hi] at h; cases h
      · rw [fitGo_go hs hi] at h
        simp only [fitAll, Bool.and_eq_true]
        refine ⟨?_, fitAll_of (H0 := H0) r (k + 1) _ _ h (fun x hm hk => ?_)⟩
        · have hst := StockD.sorted hs
          simp only [fitT, hs, Bool.and_eq_true, Bool.or_eq_true, beq_iff_eq, Bool.not_eq_true', true_and]
          rcases hh : hhas p.H k
          · refine ⟨?_, .inl rfl⟩
            rcases hl : has s.L p.id
            · rfl
            · obtain ⟨y, hy, e⟩ := has_mem.1 hl
              have hf := fitIn_all _ _ _ hi y hy e
              unfold fitOne at hf
              split at hf
              · rw [hh] at hf; simp at hf
              · cases hf
          · obtain ⟨x, hxa, hxs⟩ := hidx_at hso hh
            have hxm := List.mem_of_getElem? hxa
            obtain ⟨s', hs', y, hy, hyp, hyu, hys⟩ := hx x hxm (by omega)
            have e0 : (x.st - k).toNat = 0 := by omega
            rw [e0] at hs'
            simp at hs'
            subst hs'
            have hl : has s.L p.id = true := has_mem.2 ⟨y, hy, hyp⟩
            refine ⟨hl.symm, .inr ?_⟩
            obtain ⟨z, hz, hzp⟩ := idx_at hst hl
            have := loan_uniq hst (List.mem_of_getElem? hz) hy (by omega)
            subst this
            rw [hxa, hz]
            simp [hyu, hys]
        · obtain ⟨s', hs', b⟩ := hx x hm (by omega)
          refine ⟨s', ?_, b⟩
          have : (x.st - k).toNat = (x.st - (k + 1)).toNat + 1 := by omega
          rw [this, List.getElem?_cons_succ] at hs'
          exact hs'
theorem fit_eq {p : PhoneD} {l : List StockD} (H0 : holdsR p.H = true) : fitR p l = p.fit l := by
  obtain ⟨_, hso, hb⟩ := holdsR_iff H0
  rw [Bool.eq_iff_iff]
  constructor
  · intro h
    simp only [fitR, Bool.and_eq_true, List.all_eq_true, decide_eq_true_eq] at h
    unfold PhoneD.fit
    rw [fitGo_T l 0 0 h.2, cntH_len l.length p.H 0 hso (fun x hx => by have := hb x hx; have := h.1 x hx; omega)]
    simp
  · intro h
    have hfh := PhoneD.fit_holds h H0
    simp only [fitR, Bool.and_eq_true, List.all_eq_true, decide_eq_true_eq]
    refine ⟨fun x hx => ?_, ?_⟩
    · obtain ⟨s, hs, _⟩ := hfh x hx
      have := (List.getElem?_eq_some_iff.1 hs).1
      have := hb x hx
      omega
    · unfold PhoneD.fit at h
      split at h
      · rename_i c hc
        refine fitAll_of (H0 := H0) l 0 0 c hc (fun x hx _ => ?_)
        obtain ⟨s, hs, _, y⟩ := hfh x hx
        exact ⟨s, by rw [Int.sub_zero]; exact hs, y⟩
      · cases h
end Go.Proofs.Ythnblhbdfpmolaa
