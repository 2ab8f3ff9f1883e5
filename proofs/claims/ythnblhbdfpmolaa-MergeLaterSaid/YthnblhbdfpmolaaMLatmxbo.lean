/- The plain law of orders: what an order is, and that a list put otherwise has the same one. It holds without condition. -/
import Derived.Test.YthnblhbdfpmolaaMLatmxbi
namespace Go.Proofs.Ythnblhbdfpmolaa
theorem find_at {l : List NoteD} {d q : Int} {j : Nat} (h : atN l d q = some j) : l.find? (isK d q) = some (at! l j) := by
  unfold atN at h
  rw [List.findIdx?_eq_some_iff_getElem] at h
  obtain ⟨hj, hk, hno⟩ := h
  rw [List.find?_eq_some_iff_getElem, at!_eq hj]
  exact ⟨hk, j, hj, rfl, fun i hi => by have := hno i hi; simpa using this⟩
theorem find_at_no {l : List NoteD} {d q : Int} (h : atN l d q = none) : l.find? (isK d q) = none := by
  unfold atN at h
  rw [List.findIdx?_eq_none_iff] at h
  rw [List.find?_eq_none]
  exact fun x hx => by rw [h x hx]; simp
/-- The candidate of a device, as a note. -/
def cnN (l : List NoteD) (dn : List Int) (d : Nat) : Option NoteD := match l.find? (isK d (dn.getD d 0)) with
  | some n => if rdyN n dn then some n else none
  | none => none
theorem cand_note (l : List NoteD) (dn : List Int) (d : Nat) : (candN l dn d).map (at! l) = cnN l dn d := by
  unfold candN cnN
  rcases h : atN l d (dn.getD d 0) with _ | j
  · rw [find_at_no h]; rfl
  · rw [find_at h]
    simp only
    split <;> rfl
def bnN (l : List NoteD) (dn : List Int) : Nat → Option NoteD
  | 0 => none
  | d + 1 => match cnN l dn d with
    | none => bnN l dn d
    | some n => match bnN l dn d with
      | none => some n
      | some m => if n.tm < m.tm then some n else some m
theorem best_note (l : List NoteD) (dn : List Int) : ∀ D, (bestU l dn D).map (at! l) = bnN l dn D
  | 0 => rfl
  | D + 1 => by
    have ih := best_note l dn D
    unfold bestU bnN
    rw [← cand_note, ← ih]
    rcases candN l dn D with _ | i
    · rfl
    · rcases bestU l dn D with _ | j
      · rfl
      · simp only [upN, Option.map_some]
        split <;> rfl
theorem cnN_perm {l l' : List NoteD} (hp : l'.Perm l) (ha : l'.Pairwise ApartN) (dn : List Int) (d : Nat) : cnN l' dn d = cnN l dn d := by
  unfold cnN
  rw [find_perm hp ha]
theorem bnN_perm {l l' : List NoteD} (hp : l'.Perm l) (ha : l'.Pairwise ApartN) (dn : List Int) : ∀ D, bnN l' dn D = bnN l dn D
  | 0 => rfl
  | D + 1 => by unfold bnN; rw [cnN_perm hp ha, bnN_perm hp ha dn D]
theorem ordLoop_perm {l l' : List NoteD} (hp : l'.Perm l) (ha : l'.Pairwise ApartN) : ∀ (k : Nat) (dn : List Int) (out out' : List Nat), out'.map (at! l') = out.map (at! l) →
    (ordLoop l' k dn out').2 = (ordLoop l k dn out).2 ∧ (ordLoop l' k dn out').1.map (at! l') = (ordLoop l k dn out).1.map (at! l)
  | 0, _, _, _, h => ⟨rfl, h⟩
  | k + 1, dn, out, out', h => by
    have hb := bnN_perm hp ha dn 12
    rw [← best_note, ← best_note] at hb
    unfold ordLoop
    rcases h1 : bestU l' dn 12 with _ | b'
    · rw [h1] at hb
      rcases h2 : bestU l dn 12 with _ | b
      · exact ⟨rfl, rfl⟩
      · rw [h2] at hb; cases hb
    · rw [h1] at hb
      rcases h2 : bestU l dn 12 with _ | b
      · rw [h2] at hb; cases hb
      · rw [h2] at hb
        simp only [Option.map_some, Option.some.injEq] at hb
        simp only
        rw [hb]
        exact ordLoop_perm hp ha k _ _ _ (by rw [List.map_append, List.map_append, h]; simp [hb])
theorem any_perm {l l' : List NoteD} (hp : l'.Perm l) (p : NoteD → Bool) : l'.any p = l.any p := by
  rcases h : l.any p
  · rw [List.any_eq_false] at h ⊢
    exact fun x hx => h x (hp.mem_iff.1 hx)
  · rw [List.any_eq_true] at h ⊢
    obtain ⟨x, hx, hpx⟩ := h
    exact ⟨x, hp.mem_iff.2 hx, hpx⟩
theorem all_perm {l l' : List NoteD} (hp : l'.Perm l) (p : NoteD → Bool) : l'.all p = l.all p := by
  rcases h : l.all p
  · rw [List.all_eq_false] at h ⊢
    obtain ⟨x, hx, hpx⟩ := h
    exact ⟨x, hp.mem_iff.2 hx, hpx⟩
  · rw [List.all_eq_true] at h ⊢
    exact fun x hx => h x (hp.mem_iff.1 hx)
theorem notesR_perm {l l' : List NoteD} (hp : l'.Perm l) : notesR l' = notesR l := by
  unfold notesR
  rw [hp.length_eq, all_perm hp]
theorem placesE_perm {l l' : List NoteD} (hp : l'.Perm l) : placesE l' = placesE l := by
  have hd : dupN l' = dupN l := by
    rcases h : dupN l
    · exact apart_dupN ((hp.pairwise_iff (fun {a b} h => ApartN.symm h)).2 (dupN_apart h))
    · rcases h' : dupN l'
      · rw [apart_dupN ((hp.pairwise_iff (fun {a b} h => ApartN.symm h)).1 (dupN_apart h'))] at h; cases h
      · rfl
  have hm : missN l' = missN l := by
    unfold missN
    have : missOne l' = missOne l := by
      funext n
      unfold missOne
      rw [any_perm hp]
      congr 1
      apply congrArg
      funext k
      rw [any_perm hp]
    rw [this, any_perm hp]
  unfold placesE
  rw [hd, hm]
theorem ordN_perm {l l' : List NoteD} (hp : l'.Perm l) : (ordN l').2 = (ordN l).2 ∧ (ordN l').1.map (at! l') = (ordN l).1.map (at! l) := by
  unfold ordN
  rw [notesR_perm hp, placesE_perm hp, hp.length_eq]
  split
  · rename_i hr
    by_cases hpl : placesE l = 0
    · rw [if_pos hpl, if_pos hpl]
      exact ordLoop_perm hp (whole_of (by rw [notesR_perm hp]; exact hr) (by rw [placesE_perm hp]; exact hpl)).apart _ _ _ _ rfl
    · rw [if_neg hpl, if_neg hpl]; exact ⟨rfl, rfl⟩
  · exact ⟨rfl, rfl⟩
theorem ordLoop_no : ∀ {k : Nat} {l : List NoteD} {dn : List Int} {out : List Nat}, (ordLoop l k dn out).2 ≠ 0 → (ordLoop l k dn out).1 = []
  | 0, _, _, _, h => absurd rfl h
  | k + 1, l, dn, out, h => by
    unfold ordLoop at h ⊢
    rcases hb : bestU l dn 12 with _ | b
    · rfl
    · rw [hb] at h
      exact ordLoop_no h
theorem ordN_no {l : List NoteD} (h : (ordN l).2 ≠ 0) : (ordN l).1 = [] := by
  unfold ordN at h ⊢
  split
  · rename_i hr
    rw [if_pos hr] at h
    by_cases hp : placesE l = 0
    · rw [if_pos hp] at h ⊢; exact ordLoop_no h
    · rw [if_neg hp]
  · rfl
/-- An order, step for step. -/
structure OrdOK (l : List NoteD) (o : List Nat) : Prop where
  whole : Whole l
  len : o.length = l.length
  best : ∀ t, (ht : t < o.length) → bestR l (o.take t) l.length = some o[t]
theorem ordR_steps {l : List NoteD} : ∀ (k : Nat) (out res : List Nat), ordLoopR l k out = (res, 0) → (∀ t, (ht : t < out.length) → bestR l (out.take t) l.length = some out[t]) →
    res.length = out.length + k ∧ ∀ t, (ht : t < res.length) → bestR l (res.take t) l.length = some res[t]
  | 0, out, res, h, hb => by
    unfold ordLoopR at h
    injection h with h _
    subst h
    exact ⟨rfl, hb⟩
  | k + 1, out, res, h, hb => by
    unfold ordLoopR at h
    rcases hbe : bestR l out l.length with _ | b
    · rw [hbe] at h
      injection h with _ h
      cases h
    · rw [hbe] at h
      obtain ⟨h1, h2⟩ := ordR_steps k (out ++ [b]) res h (fun t ht => by
        simp only [List.length_append, List.length_singleton] at ht
        rcases Nat.lt_or_ge t out.length with h' | h'
        · rw [List.take_append_of_le_length (by omega), List.getElem_append_left h']
          exact hb t h'
        · obtain rfl : t = out.length := by omega
          rw [List.take_append_of_le_length (Nat.le_refl _), List.take_length, hbe]
          simp)
      exact ⟨by rw [h1]; simp; omega, h2⟩
theorem ord_ok {l : List NoteD} (h : (ordN l).2 = 0) : OrdOK l (ordN l).1 := by
  have hn := ordN_R l
  rcases hr : notesR l
  · rw [hr] at hn; rw [hn] at h; cases h
  · rw [hr] at hn
    simp only [if_true] at hn
    by_cases hp : placesE l = 0
    · rw [if_pos hp] at hn
      have hs := ordR_steps l.length [] (ordN l).1 (by rw [← hn, ← h]) (fun t ht => by simp at ht)
      exact ⟨whole_of hr hp, by simpa using hs.1, hs.2⟩
    · rw [if_neg hp] at hn; rw [hn] at h; exact absurd h hp
section
variable {l : List NoteD} {o : List Nat}
theorem OrdOK.rdy (h : OrdOK l o) {t : Nat} (ht : t < o.length) : o[t] < l.length ∧ rdyR l (o.take t) o[t] = true ∧ ∀ i, i < l.length → rdyR l (o.take t) i = true → i = o[t] ∨ firstN (at! l o[t]) (at! l i) = true := by
  have hs := bestR_spec (l := l) (out := o.take t) h.whole.apart l.length (Nat.le_refl _)
  rw [h.best t ht] at hs
  exact ⟨hs.1.1, hs.1.2, hs.2⟩
theorem rdyR_iff {out : List Nat} {i : Nat} : rdyR l out i = true ↔ i ∉ out ∧ ∀ k, k < l.length → k ∈ out ∨ beforeN (at! l k) (at! l i) = false := by
  unfold rdyR
  simp only [Bool.and_eq_true, Bool.not_eq_true', List.contains_eq_mem, decide_eq_false_iff_not, List.all_eq_true, List.mem_range, Bool.or_eq_true, decide_eq_true_eq]
theorem OrdOK.inj (h : OrdOK l o) {s t : Nat} (hs : s < o.length) (ht : t < o.length) (he : o[s] = o[t]) : s = t := by
  have key : ∀ {s t : Nat} (hs : s < o.length) (ht : t < o.length), s < t → o[s] ≠ o[t] := by
    intro s t hs ht hst hc
    have h1 := (rdyR_iff.1 (h.rdy ht).2.1).1
    rw [← hc] at h1
    exact h1 (List.mem_take_iff_getElem.2 ⟨s, by omega, rfl⟩)
  rcases Nat.lt_trichotomy s t with h' | h' | h'
  · exact absurd he (key hs ht h')
  · exact h'
  · exact absurd he.symm (key ht hs h')
theorem OrdOK.before (h : OrdOK l o) {s t : Nat} (hs : s < o.length) (ht : t < o.length) (hb : beforeN (at! l o[s]) (at! l o[t]) = true) : s < t := by
  rcases (rdyR_iff.1 (h.rdy ht).2.1).2 o[s] (h.rdy hs).1 with h1 | h1
  · obtain ⟨i, hi, he⟩ := List.mem_take_iff_getElem.1 h1
    have hi' : i < o.length := by omega
    have := h.inj hi' hs he
    omega
  · rw [hb] at h1; cases h1
theorem OrdOK.next (h : OrdOK l o) {t : Nat} (ht : t + 1 < o.length) : firstN (at! l o[t]) (at! l o[t + 1]) = true ∨ beforeN (at! l o[t]) (at! l o[t + 1]) = true := by
  have ht' : t < o.length := by omega
  have h1 := h.rdy ht
  have h2 := h.rdy ht'
  rcases hb : beforeN (at! l o[t]) (at! l o[t + 1])
  · left
    have hr : rdyR l (o.take t) o[t + 1] = true := by
      rw [rdyR_iff]
      obtain ⟨ha, hc⟩ := rdyR_iff.1 h1.2.1
      refine ⟨fun hm => ha ?_, fun k hk => ?_⟩
      · obtain ⟨i, hi, he⟩ := List.mem_take_iff_getElem.1 hm
        exact List.mem_take_iff_getElem.2 ⟨i, by omega, he⟩
      · rcases hc k hk with h3 | h3
        · obtain ⟨i, hi, he⟩ := List.mem_take_iff_getElem.1 h3
          rcases Nat.lt_or_ge i t with h4 | h4
          · exact .inl (List.mem_take_iff_getElem.2 ⟨i, by omega, he⟩)
          · obtain rfl : i = t := by omega
            right
            rw [← he]; exact hb
        · exact .inr h3
    rcases h2.2.2 _ h1.1 hr with h3 | h3
    · have := h.inj ht ht' h3; omega
    · exact h3
  · exact .inr rfl
theorem nodup_len : ∀ (n : Nat) (o : List Nat), o.Nodup → (∀ x, x ∈ o → x < n) → o.length ≤ n
  | 0, o, _, h => by
    rcases o with _ | ⟨x, o⟩
    · exact Nat.le_refl _
    · have := h x (List.mem_cons_self ..); omega
  | n + 1, o, hn, h => by
    by_cases hm : n ∈ o
    · have h1 := nodup_len n (o.erase n) (hn.erase n) (fun x hx => by
        have h2 := (hn.mem_erase_iff).1 hx
        have := h x h2.2
        have := h2.1
        omega)
      rw [List.length_erase_of_mem hm] at h1
      omega
    · have := nodup_len n o hn (fun x hx => by
        have h1 := h x hx
        rcases Nat.lt_or_ge x n with h2 | h2
        · exact h2
        · obtain rfl : x = n := by omega
          exact absurd hx hm)
      omega
theorem OrdOK.surj (h : OrdOK l o) {j : Nat} (hj : j < l.length) : ∃ t, ∃ ht : t < o.length, o[t] = j := by
  by_cases hm : j ∈ o
  · obtain ⟨t, ht, he⟩ := List.mem_iff_getElem.1 hm
    exact ⟨t, ht, he⟩
  · have hn : (j :: o).Nodup := by
      rw [List.nodup_cons]
      refine ⟨hm, ?_⟩
      rw [List.Nodup, List.pairwise_iff_getElem]
      intro s t hs ht hst hc
      have := h.inj hs ht hc
      omega
    have := nodup_len l.length (j :: o) hn (fun x hx => by
      rcases List.mem_cons.1 hx with rfl | hx
      · exact hj
      · obtain ⟨t, ht, rfl⟩ := List.mem_iff_getElem.1 hx
        exact (h.rdy ht).1)
    simp only [List.length_cons] at this
    have := h.len
    omega
end
end Go.Proofs.Ythnblhbdfpmolaa
