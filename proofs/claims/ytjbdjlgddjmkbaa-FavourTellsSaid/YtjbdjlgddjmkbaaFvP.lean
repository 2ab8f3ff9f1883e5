/- The ledger of favours as data: what the functions compute, and what holds of it. No program here. -/
import Derived.Test.YtjbdjlgddjmkbaaRows
namespace Go.Proofs.Ytjbdjlgddjmkbaa
structure Bal where
  m : Int
  n : Int
deriving DecidableEq
def rngB (n a b : Int) : Bool := decide (a ≤ n) && decide (n ≤ b)
theorem rngB_iff {n a b : Int} : rngB n a b = true ↔ a ≤ n ∧ n ≤ b := by simp [rngB]
theorem rngB_not {n a b : Int} : rngB n a b = false ↔ n < a ∨ b < n := by simp [rngB]; omega
def validB (x : Bal) : Bool := rngB x.m 0 3999 && rngB x.n (-1099511627776) 1099511627776
theorem validB_iff {x : Bal} : validB x = true ↔ (0 ≤ x.m ∧ x.m ≤ 3999) ∧ -1099511627776 ≤ x.n ∧ x.n ≤ 1099511627776 := by
  simp [validB, rngB_iff]
def ofL (q : Int) : List Bal → Int
  | [] => 0
  | x :: r => if x.m = q then x.n else ofL q r
def goL : Int → List Bal → Bool
  | _, [] => true
  | la, x :: r => validB x && decide (la < x.m) && goL x.m r
def sumL : List Bal → Int
  | [] => 0
  | x :: r => x.n + sumL r
def rightL (l : List Bal) : Bool := goL (-1) l && decide (sumL l = 0)
def SortL (l : List Bal) : Prop := l.Pairwise (fun a b => a.m < b.m)
def keyL (l : List Bal) : List Int := l.map Bal.m
def addL (m d : Int) : List Bal → List Bal
  | [] => [⟨m, d⟩]
  | x :: r => if x.m < m then x :: addL m d r else if x.m = m then ⟨m, x.n + d⟩ :: r else ⟨m, d⟩ :: x :: r
theorem goL_iff : ∀ {l : List Bal} {la : Int}, goL la l = true ↔ SortL l ∧ ∀ x ∈ l, la < x.m ∧ validB x = true
  | [], la => by simp [goL, SortL]
  | x :: r, la => by
    have ih := @goL_iff r x.m
    simp only [goL, Bool.and_eq_true, decide_eq_true_eq, ih, SortL, List.pairwise_cons]
    constructor
    · rintro ⟨⟨h1, h2⟩, h3, h4⟩
      refine ⟨⟨fun y hy => (h4 y hy).1, h3⟩, fun y hy => ?_⟩
      rcases List.mem_cons.1 hy with rfl | hy
      · exact ⟨h2, h1⟩
      · have := h4 y hy; exact ⟨by omega, this.2⟩
    · rintro ⟨⟨h1, h2⟩, h3⟩
      have := h3 x (by simp)
      exact ⟨⟨this.2, this.1⟩, h2, fun y hy => ⟨h1 y hy, (h3 y (by simp [hy])).2⟩⟩
theorem rightL_iff {l : List Bal} : rightL l = true ↔ SortL l ∧ (∀ x ∈ l, validB x = true) ∧ sumL l = 0 := by
  simp only [rightL, Bool.and_eq_true, goL_iff, decide_eq_true_eq]
  constructor
  · rintro ⟨⟨h1, h2⟩, h3⟩
    exact ⟨h1, fun x hx => (h2 x hx).2, h3⟩
  · rintro ⟨h1, h2, h3⟩
    refine ⟨⟨h1, fun x hx => ⟨?_, h2 x hx⟩⟩, h3⟩
    have := validB_iff.1 (h2 x hx); omega
theorem ofL_none : ∀ {l : List Bal} {q : Int}, q ∉ keyL l → ofL q l = 0
  | [], _, _ => rfl
  | x :: r, q, h => by
    simp only [keyL, List.map_cons, List.mem_cons, not_or] at h
    unfold ofL
    rw [if_neg (fun e => h.1 e.symm)]
    exact ofL_none h.2
theorem ofL_mem : ∀ {l : List Bal} {x : Bal}, SortL l → x ∈ l → ofL x.m l = x.n
  | [], _, _, h => by simp at h
  | y :: r, x, hs, h => by
    obtain ⟨h1, h2⟩ := List.pairwise_cons.1 hs
    unfold ofL
    rcases List.mem_cons.1 h with rfl | h
    · simp
    · rw [if_neg (by have := h1 x h; omega)]
      exact ofL_mem h2 h
theorem keyL_addL {m d : Int} : ∀ {l : List Bal} {q : Int}, q ∈ keyL (addL m d l) ↔ q = m ∨ q ∈ keyL l
  | [], q => by simp [addL, keyL]
  | x :: r, q => by
    unfold addL
    by_cases h1 : x.m < m
    · rw [if_pos h1]
      have ih := @keyL_addL m d r q
      simp only [keyL, List.map_cons, List.mem_cons] at ih ⊢
      rw [ih]
      constructor
      · rintro (h | h | h) <;> simp [h]
      · rintro (h | h | h) <;> simp [h]
    · rw [if_neg h1]
      by_cases h2 : x.m = m
      · rw [if_pos h2]; simp [keyL, h2]
      · rw [if_neg h2]; simp [keyL]
theorem addL_ge {m d la : Int} {l : List Bal} (h : ∀ x ∈ l, la < x.m) (hm : la < m) : ∀ x ∈ addL m d l, la < x.m := by
  intro x hx
  have hk : x.m ∈ keyL (addL m d l) := List.mem_map_of_mem (f := Bal.m) hx
  rcases keyL_addL.1 hk with e | e
  · omega
  · obtain ⟨y, hy, he⟩ := List.mem_map.1 e
    have := h y hy; omega
theorem addL_sort {m d : Int} : ∀ {l : List Bal}, SortL l → SortL (addL m d l)
  | [], _ => by simp [addL, SortL]
  | x :: r, hs => by
    obtain ⟨h1, h2⟩ := List.pairwise_cons.1 hs
    unfold addL
    by_cases hx : x.m < m
    · rw [if_pos hx]
      exact List.pairwise_cons.2 ⟨addL_ge h1 hx, addL_sort h2⟩
    · rw [if_neg hx]
      by_cases he : x.m = m
      · rw [if_pos he]
        exact List.pairwise_cons.2 ⟨fun y hy => by have := h1 y hy; simp only; omega, h2⟩
      · rw [if_neg he]
        refine List.pairwise_cons.2 ⟨fun y hy => ?_, hs⟩
        rcases List.mem_cons.1 hy with rfl | hy
        · simp only; omega
        · have := h1 y hy; simp only; omega
theorem ofL_addL {m d q : Int} : ∀ {l : List Bal}, SortL l → ofL q (addL m d l) = ofL q l + if q = m then d else 0
  | [], _ => by
    simp only [addL, ofL]
    by_cases h : q = m
    · simp [h]
    · rw [if_neg (fun e => h e.symm), if_neg h]; omega
  | x :: r, hs => by
    obtain ⟨h1, h2⟩ := List.pairwise_cons.1 hs
    unfold addL
    by_cases hx : x.m < m
    · rw [if_pos hx]
      unfold ofL
      by_cases hq : x.m = q
      · rw [if_pos hq, if_pos hq, if_neg (by omega)]; omega
      · rw [if_neg hq, if_neg hq]; exact ofL_addL h2
    · rw [if_neg hx]
      by_cases he : x.m = m
      · rw [if_pos he]
        unfold ofL
        simp only
        by_cases hq : q = m
        · rw [if_pos hq.symm, if_pos (by omega), if_pos hq]
        · rw [if_neg (fun e => hq e.symm), if_neg (by omega), if_neg hq]; omega
      · rw [if_neg he]
        by_cases hq : q = m
        · have : q ∉ keyL (x :: r) := by
            intro hk
            obtain ⟨y, hy, hye⟩ := List.mem_map.1 hk
            rcases List.mem_cons.1 hy with rfl | hy
            · omega
            · have := h1 y hy; omega
          rw [ofL_none this, if_pos hq]
          show (if m = q then d else _) = _
          rw [if_pos hq.symm]; omega
        · show (if m = q then d else ofL q (x :: r)) = _
          rw [if_neg (fun e => hq e.symm), if_neg hq]; omega
theorem sumL_addL {m d : Int} : ∀ {l : List Bal}, sumL (addL m d l) = sumL l + d
  | [] => by simp [addL, sumL]
  | x :: r => by
    unfold addL
    by_cases hx : x.m < m
    · rw [if_pos hx]; simp only [sumL]; rw [sumL_addL]; omega
    · rw [if_neg hx]
      by_cases he : x.m = m
      · rw [if_pos he]; simp only [sumL]; omega
      · rw [if_neg he]; simp only [sumL]; omega
theorem length_addL {m d : Int} : ∀ {l : List Bal}, (addL m d l).length ≤ l.length + 1
  | [] => by simp [addL]
  | x :: r => by
    unfold addL
    by_cases hx : x.m < m
    · rw [if_pos hx]; have := @length_addL m d r; simp only [List.length_cons]; omega
    · rw [if_neg hx]
      by_cases he : x.m = m
      · rw [if_pos he]; simp
      · rw [if_neg he]; simp
theorem ext_of : ∀ {l r : List Bal}, SortL l → SortL r → (∀ q, q ∈ keyL l ↔ q ∈ keyL r) → (∀ q, ofL q l = ofL q r) → l = r
  | [], [], _, _, _, _ => rfl
  | [], y :: r, _, _, hk, _ => absurd ((hk y.m).2 (by simp [keyL])) (by simp [keyL])
  | x :: l, [], _, _, hk, _ => absurd ((hk x.m).1 (by simp [keyL])) (by simp [keyL])
  | x :: l, y :: r, hl, hr, hk, ho => by
    obtain ⟨a1, a2⟩ := List.pairwise_cons.1 hl
    obtain ⟨b1, b2⟩ := List.pairwise_cons.1 hr
    have lo : ∀ q ∈ keyL l, x.m < q := fun q hq => by obtain ⟨z, hz, he⟩ := List.mem_map.1 hq; have := a1 z hz; omega
    have ro : ∀ q ∈ keyL r, y.m < q := fun q hq => by obtain ⟨z, hz, he⟩ := List.mem_map.1 hq; have := b1 z hz; omega
    have hm : x.m = y.m := by
      have h1 := (hk x.m).1 (by simp [keyL])
      have h2 := (hk y.m).2 (by simp [keyL])
      simp only [keyL, List.map_cons, List.mem_cons] at h1 h2
      rcases h1 with h1 | h1
      · exact h1
      · rcases h2 with h2 | h2
        · exact h2.symm
        · have := ro _ h1; have := lo _ h2; omega
    have hn : x.n = y.n := by
      have := ho x.m
      unfold ofL at this
      rw [if_pos rfl, if_pos hm.symm] at this
      exact this
    have hxy : x = y := by cases x; cases y; simp only at hm hn; rw [hm, hn]
    subst hxy
    congr 1
    refine ext_of a2 b2 (fun q => ?_) (fun q => ?_)
    · have h1 := hk q
      simp only [keyL, List.map_cons, List.mem_cons] at h1 ⊢
      constructor
      · intro h
        rcases h1.1 (.inr h) with e | e
        · have := lo q h; omega
        · exact e
      · intro h
        rcases h1.2 (.inr h) with e | e
        · have := ro q h; omega
        · exact e
    · by_cases hq : x.m = q
      · rw [ofL_none (fun h => by have := lo q h; omega), ofL_none (fun h => by have := ro q h; omega)]
      · have := ho q
        unfold ofL at this
        rwa [if_neg hq, if_neg hq] at this
/-! The order of riders: greatest minutes first, then by number. -/
def befB (l : List Bal) (a b : Int) : Bool := decide (ofL b l < ofL a l) || (decide (ofL a l = ofL b l) && decide (a < b))
theorem befB_iff {l : List Bal} {a b : Int} : befB l a b = true ↔ ofL b l < ofL a l ∨ (ofL a l = ofL b l ∧ a < b) := by simp [befB]
theorem befB_trans {l : List Bal} {a b c : Int} (h : befB l a b = true) (k : befB l b c = true) : befB l a c = true := by
  rw [befB_iff] at *; omega
theorem befB_irr {l : List Bal} {a : Int} : befB l a a = false := by simp [befB]
theorem befB_tot {l : List Bal} {a b : Int} (h : a ≠ b) : befB l a b = true ∨ befB l b a = true := by
  rw [befB_iff, befB_iff]; omega
def insB (l : List Bal) (x : Int) : List Int → List Int
  | [] => [x]
  | y :: r => if befB l x y then x :: y :: r else y :: insB l x r
def ordF (l : List Bal) : List Int → List Int
  | [] => []
  | x :: r => insB l x (ordF l r)
def OrdL (l : List Bal) (o : List Int) : Prop := o.Pairwise (fun a b => befB l a b = true)
theorem insB_perm (l : List Bal) (x : Int) : ∀ o, (insB l x o).Perm (x :: o)
  | [] => List.Perm.refl _
  | y :: r => by
    unfold insB
    split
    · exact List.Perm.refl _
    · exact ((insB_perm l x r).cons y).trans (List.Perm.swap x y r)
theorem ordF_perm (l : List Bal) : ∀ o, (ordF l o).Perm o
  | [] => List.Perm.refl _
  | x :: r => (insB_perm l x _).trans ((ordF_perm l r).cons x)
theorem insB_ord {l : List Bal} {x : Int} : ∀ {o : List Int}, OrdL l o → x ∉ o → OrdL l (insB l x o)
  | [], _, _ => by simp [insB, OrdL]
  | y :: r, h, hx => by
    obtain ⟨h1, h2⟩ := List.pairwise_cons.1 h
    simp only [List.mem_cons, not_or] at hx
    unfold insB
    split
    · rename_i hb
      refine List.pairwise_cons.2 ⟨fun z hz => ?_, h⟩
      rcases List.mem_cons.1 hz with rfl | hz
      · exact hb
      · exact befB_trans hb (h1 z hz)
    · rename_i hb
      refine List.pairwise_cons.2 ⟨fun z hz => ?_, insB_ord h2 hx.2⟩
      rcases List.mem_cons.1 ((insB_perm l x r).mem_iff.1 hz) with rfl | hz
      · rcases befB_tot (l := l) hx.1 with h | h
        · exact absurd h hb
        · exact h
      · exact h1 z hz
theorem ordF_ord {l : List Bal} : ∀ {o : List Int}, o.Nodup → OrdL l (ordF l o)
  | [], _ => by simp [ordF, OrdL]
  | x :: r, h => by
    obtain ⟨h1, h2⟩ := List.nodup_cons.1 h
    exact insB_ord (ordF_ord h2) (fun hx => h1 ((ordF_perm l r).mem_iff.1 hx))
theorem ord_uniq {l : List Bal} : ∀ {o p : List Int}, OrdL l o → OrdL l p → o.Perm p → o = p
  | [], p, _, _, h => (List.nil_perm.1 h).symm
  | x :: o, [], _, _, h => absurd h.length_eq (by simp)
  | x :: o, y :: p, ho, hp, h => by
    obtain ⟨a1, a2⟩ := List.pairwise_cons.1 ho
    obtain ⟨b1, b2⟩ := List.pairwise_cons.1 hp
    have hxy : x = y := by
      have hx := h.mem_iff.1 (List.mem_cons_self (a := x) (l := o))
      have hy := h.mem_iff.2 (List.mem_cons_self (a := y) (l := p))
      rcases List.mem_cons.1 hx with e | hx
      · exact e
      · rcases List.mem_cons.1 hy with e | hy
        · exact e.symm
        · have h1 := a1 y hy
          have h2 := b1 x hx
          have := befB_trans h1 h2
          rw [befB_irr] at this; cases this
    subst hxy
    rw [ord_uniq a2 b2 ((List.perm_cons x).1 h)]
/-- The one of least minutes, and the first of these. -/
def lowB (l : List Bal) (a b : Int) : Bool := decide (ofL a l < ofL b l) || (decide (ofL a l = ofL b l) && decide (a < b))
theorem lowB_iff {l : List Bal} {a b : Int} : lowB l a b = true ↔ ofL a l < ofL b l ∨ (ofL a l = ofL b l ∧ a < b) := by simp [lowB]
def leastF (l : List Bal) : Int → List Int → Int
  | b, [] => b
  | b, x :: r => leastF l (if lowB l x b then x else b) r
def bearerF (l : List Bal) : List Int → Int
  | [] => 0
  | x :: r => leastF l x r
def IsLow (l : List Bal) (b : Int) (rs : List Int) : Prop := b ∈ rs ∧ ∀ x ∈ rs, x ≠ b → lowB l b x = true
theorem leastF_low (l : List Bal) : ∀ (r : List Int) (b : Int), (leastF l b r = b ∨ leastF l b r ∈ r) ∧ (∀ x, x = b ∨ x ∈ r → x ≠ leastF l b r → lowB l (leastF l b r) x = true)
  | [], b => ⟨.inl rfl, fun x hx hne => by
      rcases hx with rfl | hx
      · exact absurd rfl hne
      · simp at hx⟩
  | y :: r, b => by
    obtain ⟨h1, h2⟩ := leastF_low l r (if lowB l y b then y else b)
    unfold leastF
    generalize hg : leastF l (if lowB l y b then y else b) r = g at *
    by_cases hy : lowB l y b = true
    · rw [if_pos hy] at h1 h2
      refine ⟨.inr ?_, fun x hx hne => ?_⟩
      · rcases h1 with e | e
        · simp [e]
        · simp [e]
      · rcases hx with rfl | hx
        · by_cases hgy : y = g
          · rw [← hgy]; exact hy
          · have := h2 y (.inl rfl) hgy
            rw [lowB_iff] at *; omega
        · exact h2 x (List.mem_cons.1 hx) hne
    · rw [if_neg hy] at h1 h2
      refine ⟨?_, fun x hx hne => ?_⟩
      · rcases h1 with e | e
        · exact .inl e
        · exact .inr (by simp [e])
      · rcases hx with rfl | hx
        · exact h2 x (.inl rfl) hne
        · rcases List.mem_cons.1 hx with rfl | hx
          · by_cases hxb : x = b
            · exact h2 x (.inl hxb) hne
            · have h3 : lowB l b x = true := by
                have : ¬ (ofL x l < ofL b l ∨ (ofL x l = ofL b l ∧ x < b)) := fun h => hy (lowB_iff.2 h)
                rw [lowB_iff]; omega
              by_cases hbg : b = g
              · rw [← hbg]; exact h3
              · have := h2 b (.inl rfl) hbg
                rw [lowB_iff] at *; omega
          · exact h2 x (.inr hx) hne
theorem bearerF_low {l : List Bal} {rs : List Int} (h : rs ≠ []) : IsLow l (bearerF l rs) rs := by
  rcases rs with _ | ⟨x, r⟩
  · exact absurd rfl h
  · obtain ⟨h1, h2⟩ := leastF_low l r x
    exact ⟨by simp only [bearerF, List.mem_cons]; exact h1, fun y hy hne => h2 y (List.mem_cons.1 hy) hne⟩
theorem low_uniq {l : List Bal} {rs : List Int} {a b : Int} (ha : IsLow l a rs) (hb : IsLow l b rs) : a = b := by
  by_cases h : a = b
  · exact h
  · have h1 := ha.2 b hb.1 (fun e => h e.symm)
    have h2 := hb.2 a ha.1 h
    rw [lowB_iff] at h1 h2; omega
theorem low_perm {l : List Bal} {rs rs' : List Int} {b : Int} (h : IsLow l b rs) (hp : rs.Perm rs') : IsLow l b rs' :=
  ⟨hp.mem_iff.1 h.1, fun x hx hne => h.2 x (hp.mem_iff.2 hx) hne⟩
def othersF (l : List Bal) (rs : List Int) : List Int := ordF l (rs.erase (bearerF l rs))
def addAll (q r : Int) : Int → List Int → List Bal → List Bal
  | _, [], out => out
  | i, m :: ms, out => addAll q r (i + 1) ms (addL m (-(q + if i < r then 1 else 0)) out)
def ridesGo : List Int → Bool
  | [] => true
  | x :: r => rngB x 0 3999 && !r.contains x && ridesGo r
def ridesL (rs : List Int) : Bool := decide (1 ≤ rs.length) && decide (rs.length ≤ 60) && ridesGo rs
theorem ridesGo_iff : ∀ {l : List Int}, ridesGo l = true ↔ l.Nodup ∧ ∀ x ∈ l, 0 ≤ x ∧ x ≤ 3999
  | [] => by simp [ridesGo]
  | x :: r => by
    simp only [ridesGo, Bool.and_eq_true, rngB_iff, ridesGo_iff (l := r), List.nodup_cons, List.mem_cons, Bool.not_eq_true', List.contains_eq_mem, decide_eq_false_iff_not]
    constructor
    · rintro ⟨⟨h1, h2⟩, h3, h4⟩
      refine ⟨⟨h2, h3⟩, fun y hy => ?_⟩
      rcases hy with rfl | hy
      · exact h1
      · exact h4 y hy
    · rintro ⟨⟨h1, h2⟩, h3⟩
      exact ⟨⟨h3 x (.inl rfl), h1⟩, h2, fun y hy => h3 y (.inr hy)⟩
theorem ridesL_iff {l : List Int} : ridesL l = true ↔ 1 ≤ l.length ∧ l.length ≤ 60 ∧ l.Nodup ∧ ∀ x ∈ l, 0 ≤ x ∧ x ≤ 3999 := by
  simp only [ridesL, Bool.and_eq_true, decide_eq_true_eq, ridesGo_iff]
  exact ⟨fun ⟨⟨a, b⟩, c, d⟩ => ⟨a, b, c, d⟩, fun ⟨a, b, c, d⟩ => ⟨⟨a, b⟩, c, d⟩⟩
def outF (l : List Bal) (rs : List Int) (t : Int) : List Bal :=
  if othersF l rs = [] then l else addAll (t / (othersF l rs).length) (t % (othersF l rs).length) 0 (othersF l rs) (addL (bearerF l rs) t l)
def fineB (l : List Bal) (rs : List Int) (t : Int) : Bool := rightL l && ridesL rs && rngB t 0 1048576
def bearF (l : List Bal) (rs : List Int) (t : Int) : List Bal × Int × Int :=
  if fineB l rs t then if (outF l rs t).all validB then (outF l rs t, bearerF l rs, 0) else ([], 0, 6) else ([], 0, 1)
end Go.Proofs.Ytjbdjlgddjmkbaa
