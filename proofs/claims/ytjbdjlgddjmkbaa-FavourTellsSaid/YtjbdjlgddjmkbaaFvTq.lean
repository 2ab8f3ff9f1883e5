/- What the reference's Bear reckons, as data. No program here. -/
import Derived.Test.YtjbdjlgddjmkbaaFvQ
namespace Go.Proofs.Ytjbdjlgddjmkbaa
theorem befB_asym {l : List Bal} {a b : Int} (h : befB l a b = true) : befB l b a = false := by
  rcases hx : befB l b a
  · rfl
  · have := befB_trans h hx
    rw [befB_irr] at this; cases this
theorem count_ord {l : List Bal} {q : Int} : ∀ {o : List Int} {j : Nat}, OrdL l o → o[j]? = some q → o.countP (fun y => befB l y q) = j
  | [], j, _, hq => by simp at hq
  | x :: o, 0, ho, hq => by
    simp at hq; subst hq
    obtain ⟨h1, h2⟩ := List.pairwise_cons.1 ho
    rw [List.countP_eq_zero]
    intro y hy
    rcases List.mem_cons.1 hy with rfl | hy
    · simp [befB_irr]
    · simp [befB_asym (h1 y hy)]
  | x :: o, j + 1, ho, hq => by
    obtain ⟨h1, h2⟩ := List.pairwise_cons.1 ho
    simp only [List.getElem?_cons_succ] at hq
    rw [List.countP_cons, count_ord h2 hq, if_pos (h1 q (List.mem_of_getElem? hq))]
def befO (l : List Bal) (b q y : Int) : Bool := (y != b) && befB l y q
section
variable {l : List Bal} {rs : List Int} {t : Int}
theorem place_at (R : RawB l rs t) {q : Int} (hq : q ∈ rs) (hb : q ≠ bearerF l rs) : (othersF l rs)[rs.countP (befO l (bearerF l rs) q)]? = some q := by
  obtain ⟨j, hj⟩ := List.mem_iff_getElem?.1 (R.mem_o hq hb)
  have h1 : rs.countP (befO l (bearerF l rs) q) = j := by
    rw [← R.perm.countP_eq, List.countP_cons]
    have h2 : befO l (bearerF l rs) q (bearerF l rs) = false := by simp [befO]
    rw [h2]
    have h3 : (othersF l rs).countP (befO l (bearerF l rs) q) = (othersF l rs).countP (fun y => befB l y q) := by
      refine List.countP_congr fun y hy => ?_
      have : y ≠ bearerF l rs := fun e => R.nb (by rw [← e]; exact hy)
      simp [befO, this]
    rw [h3, count_ord R.ord hj]; simp
  rw [h1]; exact hj
theorem dlt_place (R : RawB l rs t) {q : Int} {m c : Nat} (hm : (othersF l rs).length = m) (hc : c = rs.countP (befO l (bearerF l rs) q)) (hq : q ∈ rs) (hb : q ≠ bearerF l rs) : dltF l rs t q = -(t / (m : Int) + if (c : Int) < t % (m : Int) then 1 else 0) := by
  rw [R.other (place_at R hq hb), hm, hc]
structure OutR (l : List Bal) (rs : List Int) (t : Int) (k : Nat) (ou : List Bal) : Prop where
  sort : SortL ou
  key : ∀ q, q ∈ keyL ou ↔ q ∈ keyL l ∨ q = bearerF l rs ∨ q ∈ rs.take k
  of_ : ∀ q, ofL q ou = ofL q l + if q = bearerF l rs ∨ q ∈ rs.take k then dltF l rs t q else 0
theorem outR_zero (R : RawB l rs t) (hs : SortL l) (ho : othersF l rs ≠ []) : OutR l rs t 0 (addL (bearerF l rs) t l) := by
  refine ⟨addL_sort hs, fun q => ?_, fun q => ?_⟩
  · rw [keyL_addL]; simp only [List.take_zero, List.not_mem_nil, or_false]
    exact ⟨fun h => h.elim .inr .inl, fun h => h.elim .inr .inl⟩
  · rw [ofL_addL hs]
    by_cases h : q = bearerF l rs
    · subst h
      rw [if_pos rfl, if_pos (.inl rfl), R.bearer ho]
    · rw [if_neg h, if_neg (by simp [h])]
theorem take_next {k : Nat} {q : Int} (hk : rs[k]? = some q) : rs.take (k + 1) = rs.take k ++ [q] := by
  obtain ⟨h, e⟩ := List.getElem?_eq_some_iff.1 hk
  rw [← e]; exact (List.take_append_getElem h).symm
theorem outR_skip {k : Nat} {ou : List Bal} (h : OutR l rs t k ou) (hk : rs[k]? = some (bearerF l rs)) : OutR l rs t (k + 1) ou := by
  have hiff : ∀ q, (q = bearerF l rs ∨ q ∈ rs.take (k + 1)) ↔ (q = bearerF l rs ∨ q ∈ rs.take k) := fun q => by
    rw [take_next hk]; simp only [List.mem_append, List.mem_singleton]
    exact ⟨fun h => h.elim .inl (fun h => h.elim .inr .inl), fun h => h.elim .inl (fun h => .inr (.inl h))⟩
  refine ⟨h.sort, fun q => by rw [h.key, hiff], fun q => by rw [h.of_]; simp only [hiff]⟩
theorem not_take {k : Nat} {q : Int} (hn : rs.Nodup) (hk : rs[k]? = some q) : q ∉ rs.take k := by
  have h1 : (rs.take (k + 1)).Nodup := hn.sublist (List.take_sublist _ _)
  rw [take_next hk, List.nodup_append] at h1
  exact fun h => h1.2.2 q h q (by simp) rfl
theorem outR_of {k : Nat} {q : Int} {ou : List Bal} (hn : rs.Nodup) (h : OutR l rs t k ou) (hk : rs[k]? = some q) (hb : q ≠ bearerF l rs) : ofL q ou = ofL q l := by
  rw [h.of_, if_neg (fun e => e.elim hb (not_take hn hk))]; omega
theorem outR_step {k : Nat} {q : Int} {ou : List Bal} (hn : rs.Nodup) (h : OutR l rs t k ou) (hk : rs[k]? = some q) (hb : q ≠ bearerF l rs) : OutR l rs t (k + 1) (addL q (dltF l rs t q) ou) := by
  have hnt := not_take hn hk
  refine ⟨addL_sort h.sort, fun p => ?_, fun p => ?_⟩
  · rw [keyL_addL, h.key, take_next hk]; simp only [List.mem_append, List.mem_singleton]
    constructor
    · rintro (h | h | h | h)
      · exact .inr (.inr (.inr h))
      · exact .inl h
      · exact .inr (.inl h)
      · exact .inr (.inr (.inl h))
    · rintro (h | h | h | h)
      · exact .inr (.inl h)
      · exact .inr (.inr (.inl h))
      · exact .inr (.inr (.inr h))
      · exact .inl h
  · rw [ofL_addL h.sort, h.of_, take_next hk]
    by_cases hp : p = q
    · subst hp
      rw [if_pos rfl, if_neg (fun e => e.elim hb hnt), if_pos (.inr (by simp))]; omega
    · have : (p = bearerF l rs ∨ p ∈ rs.take k ++ [q]) ↔ (p = bearerF l rs ∨ p ∈ rs.take k) := by simp [hp]
      simp only [this, if_neg hp]; omega
theorem outR_end {ou : List Bal} {k : Nat} (R : RawB l rs t) (ho : othersF l rs ≠ []) (hk : rs.length ≤ k) (h : OutR l rs t k ou) : outF l rs t = ou := by
  have hbm : bearerF l rs ∈ rs := R.perm.mem_iff.1 (by simp)
  rcases h with ⟨h1, h2, h3⟩
  rw [List.take_of_length_le hk] at h2 h3
  refine ext_of R.sort h1 (fun q => ?_) (fun q => ?_)
  · rw [R.keys, h2]
    constructor
    · rintro (h | ⟨_, h⟩)
      · exact .inl h
      · exact .inr (.inr h)
    · rintro (h | h | h)
      · exact .inl h
      · exact .inr ⟨ho, h ▸ hbm⟩
      · exact .inr ⟨ho, h⟩
  · rw [R.of_, h3]
    split
    · rfl
    · rename_i h
      rw [R.out (fun e => h (.inr e))]
end
theorem cnt_next {rs : List Int} {p : Int → Bool} {i c : Nat} {y : Int} (hy : rs[i]? = some y) (hc : c = (rs.take i).countP p) : c + (if p y then 1 else 0) = (rs.take (i + 1)).countP p := by
  rw [take_next hy, List.countP_append, hc]
  simp [List.countP_cons]
theorem right_out {l : List Bal} {rs : List Int} {t : Int} {ou : List Bal} (h : fineB l rs t = true) (ho : outF l rs t = ou) : rightL ou = ou.all validB := by
  rw [Bool.eq_iff_iff]
  constructor
  · intro h1
    exact List.all_eq_true.2 (fun x hx => (rightL_iff.1 h1).2.1 x hx)
  · intro h1
    rw [← ho] at h1 ⊢
    exact out_right h h1
theorem leastF_self (l : List Bal) (x : Int) (r : List Int) : leastF l x (x :: r) = leastF l x r := by
  show leastF l (if lowB l x x = true then x else x) r = leastF l x r
  split <;> rfl
end Go.Proofs.Ytjbdjlgddjmkbaa
