/- The ledger of favours as data: what a detour leaves. No program here. -/
import Derived.Test.YtjbdjlgddjmkbaaFvP
namespace Go.Proofs.Ytjbdjlgddjmkbaa
def dAll (q r : Int) : Int → List Int → Int → Int
  | _, [], _ => 0
  | i, m :: ms, k => (if k = m then -(q + if i < r then 1 else 0) else 0) + dAll q r (i + 1) ms k
theorem addAll_sort (q r : Int) : ∀ (o : List Int) (i : Int) (out : List Bal), SortL out → SortL (addAll q r i o out)
  | [], _, _, h => h
  | m :: ms, i, out, h => addAll_sort q r ms (i + 1) _ (addL_sort h)
theorem ofL_addAll (q r k : Int) : ∀ (o : List Int) (i : Int) (out : List Bal), SortL out → ofL k (addAll q r i o out) = ofL k out + dAll q r i o k
  | [], _, _, _ => by simp [addAll, dAll]
  | m :: ms, i, out, h => by
    unfold addAll dAll
    rw [ofL_addAll q r k ms (i + 1) _ (addL_sort h), ofL_addL h]; omega
theorem keyL_addAll (q r k : Int) : ∀ (o : List Int) (i : Int) (out : List Bal), k ∈ keyL (addAll q r i o out) ↔ k ∈ o ∨ k ∈ keyL out
  | [], _, _ => by simp [addAll]
  | m :: ms, i, out => by
    unfold addAll
    rw [keyL_addAll q r k ms (i + 1) _, keyL_addL, List.mem_cons]
    constructor
    · rintro (h | h | h) <;> simp [h]
    · rintro ((h | h) | h) <;> simp [h]
theorem length_addAll (q r : Int) : ∀ (o : List Int) (i : Int) (out : List Bal), (addAll q r i o out).length ≤ out.length + o.length
  | [], _, _ => by simp [addAll]
  | m :: ms, i, out => by
    unfold addAll
    have h1 := length_addAll q r ms (i + 1) (addL m (-(q + if i < r then 1 else 0)) out)
    have h2 := @length_addL m (-(q + if i < r then 1 else 0)) out
    simp only [List.length_cons]; omega
def partsN (q r : Int) : Int → Nat → Int
  | _, 0 => 0
  | i, n + 1 => (q + if i < r then 1 else 0) + partsN q r (i + 1) n
theorem partsN_eq (q r : Int) : ∀ (n : Nat) (i : Int), partsN q r i n = q * n + (if r ≤ i then 0 else if r - i ≤ n then r - i else n)
  | 0, i => by simp [partsN]; omega
  | n + 1, i => by
    unfold partsN
    rw [partsN_eq q r n (i + 1)]
    have : q * ((n + 1 : Nat) : Int) = q * n + q := by push_cast; rw [Int.mul_add, Int.mul_one]
    rw [this]
    push_cast
    generalize q * (n : Int) = z
    (repeat' split) <;> omega
theorem partsN_all {t : Int} {n : Nat} (ht : 0 ≤ t) (hn : 0 < n) : partsN (t / n) (t % n) 0 n = t := by
  rw [partsN_eq]
  have h1 := Int.emod_nonneg t (b := (n : Int)) (by omega)
  have h2 := Int.emod_lt_of_pos t (b := (n : Int)) (by omega)
  have h3 := Int.mul_ediv_add_emod t n
  rw [Int.mul_comm] at h3
  by_cases h : t % (n : Int) ≤ 0
  · rw [if_pos h]; omega
  · rw [if_neg h, if_pos (by omega)]; omega
theorem sumL_addAll (q r : Int) : ∀ (o : List Int) (i : Int) (out : List Bal), sumL (addAll q r i o out) = sumL out - partsN q r i o.length
  | [], _, _ => by simp [addAll, partsN]
  | m :: ms, i, out => by
    unfold addAll
    rw [sumL_addAll q r ms (i + 1) _, sumL_addL, List.length_cons, partsN]; omega
theorem dAll_none (q r : Int) : ∀ (o : List Int) (i k : Int), k ∉ o → dAll q r i o k = 0
  | [], _, _, _ => rfl
  | m :: ms, i, k, h => by
    simp only [List.mem_cons, not_or] at h
    unfold dAll
    rw [if_neg h.1, dAll_none q r ms (i + 1) k h.2]; rfl
theorem dAll_at (q r : Int) : ∀ (o : List Int) (i : Int) (j : Nat) (k : Int), o.Nodup → o[j]? = some k → dAll q r i o k = -(q + if i + j < r then 1 else 0)
  | [], _, _, _, _, h => by simp at h
  | m :: ms, i, 0, k, hn, h => by
    simp at h; subst h
    unfold dAll
    rw [dAll_none q r ms (i + 1) m (List.nodup_cons.1 hn).1, if_pos rfl]; simp
  | m :: ms, i, j + 1, k, hn, h => by
    simp only [List.getElem?_cons_succ] at h
    unfold dAll
    have hm : k ≠ m := fun e => (List.nodup_cons.1 hn).1 (by rw [← e]; exact List.mem_of_getElem? h)
    rw [if_neg hm, dAll_at q r ms (i + 1) j k (List.nodup_cons.1 hn).2 h]
    have : i + 1 + (j : Int) = i + ((j + 1 : Nat) : Int) := by push_cast; omega
    rw [this]; omega
theorem fineB_iff {l : List Bal} {rs : List Int} {t : Int} : fineB l rs t = true ↔ rightL l = true ∧ ridesL rs = true ∧ 0 ≤ t ∧ t ≤ 1048576 := by
  simp only [fineB, Bool.and_eq_true, rngB_iff]
  exact ⟨fun ⟨⟨a, b⟩, c⟩ => ⟨a, b, c⟩, fun ⟨a, b, c⟩ => ⟨⟨a, b⟩, c⟩⟩
def dltF (l : List Bal) (rs : List Int) (t k : Int) : Int :=
  if othersF l rs = [] then 0 else (if k = bearerF l rs then t else 0) + dAll (t / (othersF l rs).length) (t % (othersF l rs).length) 0 (othersF l rs) k
theorem others_perm {l : List Bal} {rs : List Int} (h : rs ≠ []) : (bearerF l rs :: othersF l rs).Perm rs :=
  ((ordF_perm l _).cons _).trans (List.perm_cons_erase (bearerF_low h).1).symm
theorem others_ord {l : List Bal} {rs : List Int} (h : rs.Nodup) : OrdL l (othersF l rs) := ordF_ord (h.sublist (List.erase_sublist))
theorem perm_ne {b : Int} {o rs : List Int} (h : rs.Nodup) (hp : (b :: o).Perm rs) : b ∉ o ∧ o.Nodup := List.nodup_cons.1 (hp.nodup_iff.2 h)
structure RawB (l : List Bal) (rs : List Int) (t : Int) : Prop where
  low : IsLow l (bearerF l rs) rs
  perm : (bearerF l rs :: othersF l rs).Perm rs
  nb : bearerF l rs ∉ othersF l rs
  nd : (othersF l rs).Nodup
  ord : OrdL l (othersF l rs)
  sort : SortL (outF l rs t)
  sum : sumL (outF l rs t) = 0
  keys : ∀ k, k ∈ keyL (outF l rs t) ↔ k ∈ keyL l ∨ (othersF l rs ≠ [] ∧ k ∈ rs)
  of_ : ∀ k, ofL k (outF l rs t) = ofL k l + dltF l rs t k
  len : (outF l rs t).length ≤ l.length + rs.length
theorem raw_ok {l : List Bal} {rs : List Int} {t : Int} (h : fineB l rs t = true) : RawB l rs t := by
  obtain ⟨h1, h2, h3, h4⟩ := fineB_iff.1 h
  obtain ⟨r1, r2, r3, r4⟩ := ridesL_iff.1 h2
  obtain ⟨l1, l2, l3⟩ := rightL_iff.1 h1
  have hne : rs ≠ [] := by intro e; rw [e] at r1; simp at r1
  have hp := others_perm (l := l) hne
  have ho := others_ord (l := l) r3
  have hlow := bearerF_low (l := l) hne
  obtain ⟨hb, hno⟩ := perm_ne r3 hp
  have hlen := hp.length_eq
  simp only [List.length_cons] at hlen
  by_cases hoe : othersF l rs = []
  · have ho1 : outF l rs t = l := by unfold outF; rw [if_pos hoe]
    refine ⟨hlow, hp, hb, hno, ho, by rw [ho1]; exact l1, by rw [ho1]; exact l3, fun k => by rw [ho1]; simp [hoe], fun k => by rw [ho1]; unfold dltF; rw [if_pos hoe]; omega, by rw [ho1]; omega⟩
  · have hol : 0 < (othersF l rs).length := List.length_pos_iff.2 hoe
    have hs := addL_sort (m := bearerF l rs) (d := t) l1
    have ho1 : outF l rs t = addAll (t / (othersF l rs).length) (t % (othersF l rs).length) 0 (othersF l rs) (addL (bearerF l rs) t l) := by unfold outF; rw [if_neg hoe]
    refine ⟨hlow, hp, hb, hno, ho, by rw [ho1]; exact addAll_sort _ _ _ _ _ hs, ?_, fun k => ?_, fun k => ?_, ?_⟩
    · rw [ho1, sumL_addAll, sumL_addL, partsN_all h3 hol]; omega
    · rw [ho1, keyL_addAll, keyL_addL, ← hp.mem_iff, List.mem_cons]
      constructor
      · rintro (h | h | h)
        · exact .inr ⟨hoe, .inr h⟩
        · exact .inr ⟨hoe, .inl h⟩
        · exact .inl h
      · rintro (h | ⟨_, h | h⟩)
        · exact .inr (.inr h)
        · exact .inr (.inl h)
        · exact .inl h
    · rw [ho1, ofL_addAll _ _ _ _ _ _ hs, ofL_addL l1]
      unfold dltF
      rw [if_neg hoe]; omega
    · have a1 := length_addAll (t / (othersF l rs).length) (t % (othersF l rs).length) (othersF l rs) 0 (addL (bearerF l rs) t l)
      have a2 := @length_addL (bearerF l rs) t l
      rw [ho1]; omega
section
variable {l : List Bal} {rs : List Int} {t : Int}
theorem RawB.out (R : RawB l rs t) {k : Int} (hk : k ∉ rs) : dltF l rs t k = 0 := by
  have hk' : ¬ k ∈ bearerF l rs :: othersF l rs := fun h => hk (R.perm.mem_iff.1 h)
  simp only [List.mem_cons, not_or] at hk'
  unfold dltF
  split
  · rfl
  · rw [if_neg hk'.1, dAll_none _ _ _ _ _ hk'.2]; rfl
theorem RawB.bearer (R : RawB l rs t) (ho : othersF l rs ≠ []) : dltF l rs t (bearerF l rs) = t := by
  unfold dltF
  rw [if_neg ho, if_pos rfl, dAll_none _ _ _ _ _ R.nb]; omega
theorem RawB.other (R : RawB l rs t) {j : Nat} {k : Int} (hk : (othersF l rs)[j]? = some k) : dltF l rs t k = -(t / (othersF l rs).length + if (j : Int) < t % (othersF l rs).length then 1 else 0) := by
  have hm := List.mem_of_getElem? hk
  have hne : othersF l rs ≠ [] := fun e => by rw [e] at hm; simp at hm
  unfold dltF
  rw [if_neg hne, if_neg (fun e => R.nb (by rw [← e]; exact hm)), dAll_at _ _ _ _ j _ R.nd hk]
  simp
theorem RawB.mem_o (R : RawB l rs t) {k : Int} (hk : k ∈ rs) (hb : k ≠ bearerF l rs) : k ∈ othersF l rs := by
  rcases List.mem_cons.1 (R.perm.mem_iff.2 hk) with e | e
  · exact absurd e hb
  · exact e
theorem RawB.two (R : RawB l rs t) : othersF l rs ≠ [] ↔ 2 ≤ rs.length := by
  have := R.perm.length_eq
  simp only [List.length_cons] at this
  rw [ne_eq, ← List.length_eq_zero_iff]; omega
end
theorem valid_of {l : List Bal} {x : Bal} (hs : SortL l) (hx : x ∈ l) (hv : ∀ k ∈ keyL l, 0 ≤ k ∧ k ≤ 3999) (hn : ∀ k ∈ keyL l, -1099511627776 ≤ ofL k l ∧ ofL k l ≤ 1099511627776) : validB x = true := by
  have hk : x.m ∈ keyL l := List.mem_map_of_mem (f := Bal.m) hx
  have h1 := hn _ hk
  rw [ofL_mem hs hx] at h1
  exact validB_iff.2 ⟨hv _ hk, h1⟩
theorem of_valid {l : List Bal} (hs : SortL l) (hv : ∀ x ∈ l, validB x = true) (k : Int) : -1099511627776 ≤ ofL k l ∧ ofL k l ≤ 1099511627776 := by
  by_cases hk : k ∈ keyL l
  · obtain ⟨x, hx, rfl⟩ := List.mem_map.1 hk
    rw [ofL_mem hs hx]
    exact (validB_iff.1 (hv x hx)).2
  · rw [ofL_none hk]; omega
theorem valid_iff {l : List Bal} {rs : List Int} {t : Int} (h : fineB l rs t = true) : (outF l rs t).all validB = true ↔ ∀ k ∈ rs, -1099511627776 ≤ ofL k (outF l rs t) ∧ ofL k (outF l rs t) ≤ 1099511627776 := by
  have R := raw_ok h
  obtain ⟨h1, h2, h3, h4⟩ := fineB_iff.1 h
  obtain ⟨r1, r2, r3, r4⟩ := ridesL_iff.1 h2
  obtain ⟨l1, l2, l3⟩ := rightL_iff.1 h1
  rw [List.all_eq_true]
  constructor
  · intro hv k _
    exact of_valid R.sort hv k
  · intro hn x hx
    refine valid_of R.sort hx (fun k hk => ?_) (fun k hk => ?_)
    · rcases (R.keys k).1 hk with e | ⟨_, e⟩
      · obtain ⟨y, hy, rfl⟩ := List.mem_map.1 e
        exact (validB_iff.1 (l2 y hy)).1
      · exact r4 k e
    · by_cases hkr : k ∈ rs
      · exact hn k hkr
      · rw [R.of_, R.out hkr]
        have := of_valid l1 l2 k; omega
theorem bear_ok {l : List Bal} {rs : List Int} {t : Int} (h : (bearF l rs t).2.2 = 0) : fineB l rs t = true ∧ (outF l rs t).all validB = true ∧ bearF l rs t = (outF l rs t, bearerF l rs, 0) := by
  unfold bearF at h ⊢
  by_cases hc : fineB l rs t = true
  · rw [if_pos hc] at h ⊢
    by_cases hv : (outF l rs t).all validB = true
    · rw [if_pos hv]; exact ⟨hc, hv, rfl⟩
    · rw [if_neg hv] at h; simp at h
  · rw [if_neg hc] at h; simp at h
theorem bear_er (l : List Bal) (rs : List Int) (t : Int) (h : (bearF l rs t).2.2 ≠ 0) : (bearF l rs t = ([], 0, 1) ∧ fineB l rs t = false) ∨ (bearF l rs t = ([], 0, 6) ∧ fineB l rs t = true) := by
  unfold bearF at h ⊢
  by_cases hc : fineB l rs t = true
  · rw [if_pos hc] at h ⊢
    by_cases hv : (outF l rs t).all validB = true
    · rw [if_pos hv] at h; simp at h
    · rw [if_neg hv]; exact .inr ⟨rfl, hc⟩
  · rw [if_neg hc]; exact .inl ⟨rfl, by simpa using hc⟩
theorem out_right {l : List Bal} {rs : List Int} {t : Int} (h : fineB l rs t = true) (hv : (outF l rs t).all validB = true) : rightL (outF l rs t) = true :=
  rightL_iff.2 ⟨(raw_ok h).sort, fun x hx => List.all_eq_true.1 hv x hx, (raw_ok h).sum⟩
theorem parts_bd {t n : Int} (ht : 0 ≤ t) (hn : 1 ≤ n) (j : Int) (hj : 0 ≤ j) : 0 ≤ t / n + (if j < t % n then 1 else 0) ∧ t / n + (if j < t % n then 1 else 0) ≤ t := by
  have h1 := Int.emod_nonneg t (b := n) (by omega)
  have h2 := Int.emod_lt_of_pos t (b := n) (by omega)
  have h3 := Int.mul_ediv_add_emod t n
  have h4 : 0 ≤ t / n := Int.ediv_nonneg ht (by omega)
  have h5 : t / n * 1 ≤ t / n * n := Int.mul_le_mul_of_nonneg_left hn h4
  have h6 : n * (t / n) = t / n * n := Int.mul_comm _ _
  constructor
  · split <;> omega
  · split <;> omega
end Go.Proofs.Ytjbdjlgddjmkbaa
