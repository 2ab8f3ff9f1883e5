/- The plain law of orders: what an order is, and that a list put otherwise has the same one. It holds without condition. -/
import Derived.Test.YthnblhbdfpmolaaPNotemxba
import Derived.Test.YthnblhbdfpmolaaPNotemxbl
import Derived.Test.YthnblhbdfpmolaaPNotemxbn
import Derived.Test.YthnblhbdfpmolaaPNotemxbe
namespace Go.Proofs.Ythnblhbdfpmolaa
theorem find_at {l : List NoteD} {d q : Int} {j : Nat} (h : atN l d q = some j) : l.find? (isK d q) = some (at! l j) := by
  unfold atN at h
  rw [List.findIdx?_eq_some_iff_getElem] at h
  obtain ⟨hj, hk, hno⟩ := h
  rw [List.find?_eq_some_iff_getElem, at!_eq hj]
  exact ⟨hk, j, hj, rfl, fun i hi => by have := hno i hi; simpa using this⟩
theorem find_at_no {l : List NoteD} {d q : Int} (h : atN l d q = none) : l.find? (isK d q) = none := by
  unfold atN at h
  rw [List.findIdx?_eq_none_iff] at h
  rw [List.find?_eq_none]
  exact fun x hx => by rw [h x hx]; simp
/-- The candidate of a device, as a note. -/
def cnN (l : List NoteD) (dn : List Int) (d : Nat) : Option NoteD := match l.find? (isK d (dn.getD d 0)) with
  | some n => if rdyN n dn then some n else none
  | none => none
theorem cand_note (l : List NoteD) (dn : List Int) (d : Nat) : (candN l dn d).map (at! l) = cnN l dn d := by
  unfold candN cnN
  rcases h : atN l d (dn.getD d 0) with _ | j
  · rw [find_at_no h]; rfl
  · rw [find_at h]
    simp only
    split <;> rfl
def bnN (l : List NoteD) (dn : List Int) : Nat → Option NoteD
  | 0 => none
  | d + 1 => match cnN l dn d with
    | none => bnN l dn d
    | some n => match bnN l dn d with
      | none => some n
      | some m => if n.tm < m.tm then some n else some m
theorem best_note (l : List NoteD) (dn : List Int) : ∀ D, (bestU l dn D).map (at! l) = bnN l dn D
  | 0 => rfl
  | D + 1 => by
    have ih := best_note l dn D
    unfold bestU bnN
    rw [← cand_note, ← ih]
    rcases candN l dn D with _ | i
    · rfl
    · rcases bestU l dn D with _ | j
      · rfl
      · simp only [upN, Option.map_some]
        split <;> rfl
theorem cnN_perm {l l' : List NoteD} (hp : l'.Perm l) (ha : l'.Pairwise ApartN) (dn : List Int) (d : Nat) : cnN l' dn d = cnN l dn d := by
  unfold cnN
  rw [find_perm hp ha]
theorem bnN_perm {l l' : List NoteD} (hp : l'.Perm l) (ha : l'.Pairwise ApartN) (dn : List Int) : ∀ D, bnN l' dn D = bnN l dn D
  | 0 => rfl
  | D + 1 => by unfold bnN; rw [cnN_perm hp ha, bnN_perm hp ha dn D]
theorem ordLoop_perm {l l' : List NoteD} (hp : l'.Perm l) (ha : l'.Pairwise ApartN) : ∀ (k : Nat) (dn : List Int) (out out' : List Nat), out'.map (at! l') = out.map (at! l) →
    (ordLoop l' k dn out').2 = (ordLoop l k dn out).2 ∧ (ordLoop l' k dn out').1.map (at! l') = (ordLoop l k dn out).1.map (at! l)
  | 0, _, _, _, h => ⟨rfl, h⟩
  | k + 1, dn, out, out', h => by
    have hb := bnN_perm hp ha dn 12
    rw [← best_note, ← best_note] at hb
    unfold ordLoop
    rcases h1 : bestU l' dn 12 with _ | b'
    · rw [h1] at hb
      rcases h2 : bestU l dn 12 with _ | b
      · exact ⟨rfl, rfl⟩
      · rw [h2] at hb; cases hb
    · rw [h1] at hb
      rcases h2 : bestU l dn 12 with _ | b
      · rw [h2] at hb; cases hb
      · rw [h2] at hb
        simp only [Option.map_some, Option.some.injEq] at hb
        simp only
        rw [hb]
        exact ordLoop_perm hp ha k _ _ _ (by rw [List.map_append, List.map_append, h]; simp [hb])
theorem any_perm {l l' : List NoteD} (hp : l'.Perm l) (p : NoteD → Bool) : l'.any p = l.any p := by
  rcases h : l.any p
  · rw [List.any_eq_false] at h ⊢
    exact fun x hx => h x (hp.mem_iff.1 hx)
  · rw [List.any_eq_true] at h ⊢
    obtain ⟨x, hx, hpx⟩ := h
    exact ⟨x, hp.mem_iff.2 hx, hpx⟩
theorem all_perm {l l' : List NoteD} (hp : l'.Perm l) (p : NoteD → Bool) : l'.all p = l.all p := by
  rcases h : l.all p
  · rw [List.all_eq_false] at h ⊢
    obtain ⟨x, hx, hpx⟩ := h
    exact ⟨x, hp.mem_iff.2 hx, hpx⟩
  · rw [List.all_eq_true] at h ⊢
    exact fun x hx => h x (hp.mem_iff.1 hx)
theorem notesR_perm {l l' : List NoteD} (hp : l'.Perm l) : notesR l' = notesR l := by
  unfold notesR
  rw [hp.length_eq, all_perm hp]
theorem placesE_perm {l l' : List NoteD} (hp : l'.Perm l) : placesE l' = placesE l := by
  have hd : dupN l' = dupN l := by
    rcases h : dupN l
    · exact apart_dupN ((hp.pairwise_iff (fun {a b} h => ApartN.symm h)).2 (dupN_apart h))
    · rcases h' : dupN l'
      · rw [apart_dupN ((hp.pairwise_iff (fun {a b} h => ApartN.symm h)).1 (dupN_apart h'))] at h; cases h
      · rfl
  have hm : missN l' = missN l := by
    unfold missN
    have : missOne l' = missOne l := by
      funext n
      unfold missOne
      rw [any_perm hp]
      congr 1
      apply congrArg
      funext k
      rw [any_perm hp]
    rw [this, any_perm hp]
  unfold placesE
  rw [hd, hm]
theorem ordN_perm {l l' : List NoteD} (hp : l'.Perm l) : (ordN l').2 = (ordN l).2 ∧ (ordN l').1.map (at! l') = (ordN l).1.map (at! l) := by
  unfold ordN
  rw [notesR_perm hp, placesE_perm hp, hp.length_eq]
  split
  · rename_i hr
    by_cases hpl : placesE l = 0
    · rw [if_pos hpl, if_pos hpl]
      exact ordLoop_perm hp (whole_of (by rw [notesR_perm hp]; exact hr) (by rw [placesE_perm hp]; exact hpl)).apart _ _ _ _ rfl
    · rw [if_neg hpl, if_neg hpl]; exact ⟨rfl, rfl⟩
  · exact ⟨rfl, rfl⟩
theorem ordLoop_no : ∀ {k : Nat} {l : List NoteD} {dn : List Int} {out : List Nat}, (ordLoop l k dn out).2 ≠ 0 → (ordLoop l k dn out).1 = []
  | 0, _, _, _, h => absurd rfl h
  | k + 1, l, dn, out, h => by
    unfold ordLoop at h ⊢
    rcases hb : bestU l dn 12 with _ | b
    · rfl
    · rw [hb] at h
      exact ordLoop_no h
theorem ordN_no {l : List NoteD} (h : (ordN l).2 ≠ 0) : (ordN l).1 = [] := by
  unfold ordN at h ⊢
  split
  · rename_i hr
    rw [if_pos hr] at h
    by_cases hp : placesE l = 0
    · rw [if_pos hp] at h ⊢; exact ordLoop_no h
    · rw [if_neg hp]
  · rfl
/-- An order, step for step. -/
structure OrdOK (l : List NoteD) (o : List Nat) : Prop where
  whole : Whole l
  len : o.length = l.length
  best : ∀ t, (ht : t < o.length) → bestR l (o.take t) l.length = some o[t]
theorem ordR_steps {l : List NoteD} : ∀ (k : Nat) (out res : List Nat), ordLoopR l k out = (res, 0) → (∀ t, (ht : t < out.length) → bestR l (out.take t) l.length = some out[t]) →
    res.length = out.length + k ∧ ∀ t, (ht : t < res.length) → bestR l (res.take t) l.length = some res[t]
  | 0, out, res, h, hb => by
    unfold ordLoopR at h
    injection h with h _
    subst h
    exact ⟨rfl, hb⟩
  | k + 1, out, res, h, hb => by
    unfold ordLoopR at h
    rcases hbe : bestR l out l.length with _ | b
    · rw [hbe] at h
      injection h with _ h
      cases h
    · rw [hbe] at h
      obtain ⟨h1, h2⟩ := ordR_steps k (out ++ [b]) res h (fun t ht => by
        simp only [List.length_append, List.length_singleton] at ht
        rcases Nat.lt_or_ge t out.length with h' | h'
        · rw [List.take_append_of_le_length (by omega), List.getElem_append_left h']
          exact hb t h'
        · obtain rfl : t = out.length := by omega
          rw [List.take_append_of_le_length (Nat.le_refl _), List.take_length, hbe]
          simp)
      exact ⟨by rw [h1]; simp; omega, h2⟩
theorem ord_ok {l : List NoteD} (h : (ordN l).2 = 0) : OrdOK l (ordN l).1 := by
  have hn := ordN_R l
  rcases hr : notesR l
  · rw [hr] at hn; rw [hn] at h; cases h
  · rw [hr] at hn
    simp only [if_true] at hn
    by_cases hp : placesE l = 0
    · rw [if_pos hp] at hn
      have hs := ordR_steps l.length [] (ordN l).1 (by rw [← hn, ← h]) (fun t ht => by simp at ht)
      exact ⟨whole_of hr hp, by simpa using hs.1, hs.2⟩
    · rw [if_neg hp] at hn; rw [hn] at h; exact absurd h hp
section
variable {l : List NoteD} {o : List Nat}
theorem OrdOK.rdy (h : OrdOK l o) {t : Nat} (ht : t < o.length) : o[t] < l.length ∧ rdyR l (o.take t) o[t] = true ∧ ∀ i, i < l.length → rdyR l (o.take t) i = true → i = o[t] ∨ firstN (at! l o[t]) (at! l i) = true := by
  have hs := bestR_spec (l := l) (out := o.take t) h.whole.apart l.length (Nat.le_refl _)
  rw [h.best t ht] at hs
  exact ⟨hs.1.1, hs.1.2, hs.2⟩
theorem rdyR_iff {out : List Nat} {i : Nat} : rdyR l out i = true ↔ i ∉ out ∧ ∀ k, k < l.length → k ∈ out ∨ beforeN (at! l k) (at! l i) = false := by
  unfold rdyR
  simp only [Bool.and_eq_true, Bool.not_eq_true', List.contains_eq_mem, decide_eq_false_iff_not, List.all_eq_true, List.mem_range, Bool.or_eq_true, decide_eq_true_eq]
theorem OrdOK.inj (h : OrdOK l o) {s t : Nat} (hs : s < o.length) (ht : t < o.length) (he : o[s] = o[t]) : s = t := by
  have key : ∀ {s t : Nat} (hs : s < o.length) (ht : t < o.length), s < t → o[s] ≠ o[t] := by
    intro s t hs ht hst hc
    have h1 := (rdyR_iff.1 (h.rdy ht).2.1).1
    rw [← hc] at h1
    exact h1 (List.mem_take_iff_getElem.2 ⟨s, by omega, rfl⟩)
  rcases Nat.lt_trichotomy s t with h' | h' | h'
  · exact absurd he (key hs ht h')
  · exact h'
  · exact absurd he.symm (key ht hs h')
theorem OrdOK.before (h : OrdOK l o) {s t : Nat} (hs : s < o.length) (ht : t < o.length) (hb : beforeN (at! l o[s]) (at! l o[t]) = true) : s < t := by
  rcases (rdyR_iff.1 (h.rdy ht).2.1).2 o[s] (h.rdy hs).1 with h1 | h1
  · obtain ⟨i, hi, he⟩ := List.mem_take_iff_getElem.1 h1
    have hi' : i < o.length := by omega
    have := h.inj hi' hs he
    omega
  · rw [hb] at h1; cases h1
theorem OrdOK.next (h : OrdOK l o) {t : Nat} (ht : t + 1 < o.length) : firstN (at! l o[t]) (at! l o[t + 1]) = true ∨ beforeN (at! l o[t]) (at! l o[t + 1]) = true := by
  have ht' : t < o.length := by omega
  have h1 := h.rdy ht
  have h2 := h.rdy ht'
  rcases hb : beforeN (at! l o[t]) (at! l o[t + 1])
  · left
    have hr : rdyR l (o.take t) o[t + 1] = true := by
      rw [rdyR_iff]
      obtain ⟨ha, hc⟩ := rdyR_iff.1 h1.2.1
      refine ⟨fun hm => ha ?_, fun k hk => ?_⟩
      · obtain ⟨i, hi, he⟩ := List.mem_take_iff_getElem.1 hm
        exact List.mem_take_iff_getElem.2 ⟨i, by omega, he⟩
      · rcases hc k hk with h3 | h3
        · obtain ⟨i, hi, he⟩ := List.mem_take_iff_getElem.1 h3
          rcases Nat.lt_or_ge i t with h4 | h4
          · exact .inl (List.mem_take_iff_getElem.2 ⟨i, by omega, he⟩)
          · obtain rfl : i = t := by omega
            right
            rw [← he]; exact hb
        · exact .inr h3
    rcases h2.2.2 _ h1.1 hr with h3 | h3
    · have := h.inj ht ht' h3; omega
    · exact h3
  · exact .inr rfl
theorem nodup_len : ∀ (n : Nat) (o : List Nat), o.Nodup → (∀ x, x ∈ o → x < n) → o.length ≤ n
  | 0, o, _, h => by
    rcases o with _ | ⟨x, o⟩
    · exact Nat.le_refl _
    · have := h x (List.mem_cons_self ..); omega
  | n + 1, o, hn, h => by
    by_cases hm : n ∈ o
    · have h1 := nodup_len n (o.erase n) (hn.erase n) (fun x hx => by
        have h2 := (hn.mem_erase_iff).1 hx
        have := h x h2.2
        have := h2.1
        omega)
      rw [List.length_erase_of_mem hm] at h1
      omega
    · have := nodup_len n o hn (fun x hx => by
        have h1 := h x hx
        rcases Nat.lt_or_ge x n with h2 | h2
        · exact h2
        · obtain rfl : x = n := by omega
          exact absurd hx hm)
      omega
theorem OrdOK.surj (h : OrdOK l o) {j : Nat} (hj : j < l.length) : ∃ t, ∃ ht : t < o.length, o[t] = j := by
  by_cases hm : j ∈ o
  · obtain ⟨t, ht, he⟩ := List.mem_iff_getElem.1 hm
    exact ⟨t, ht, he⟩
  · have hn : (j :: o).Nodup := by
      rw [List.nodup_cons]
      refine ⟨hm, ?_⟩
      rw [List.Nodup, List.pairwise_iff_getElem]
      intro s t hs ht hst hc
      have := h.inj hs ht hc
      omega
    have := nodup_len l.length (j :: o) hn (fun x hx => by
      rcases List.mem_cons.1 hx with rfl | hx
      · exact hj
      · obtain ⟨t, ht, rfl⟩ := List.mem_iff_getElem.1 hx
        exact (h.rdy ht).1)
    simp only [List.length_cons] at this
    have := h.len
    omega
end
end Go.Proofs.Ythnblhbdfpmolaa
/- The notes of a play. -/
namespace Go.Proofs.Ythnblhbdfpmolaa
open Go.RowKit
theorem notesGo_get : ∀ {l : List NoteD} {id k la : Int}, notesGo id k la l = true → ∀ j, (hj : j < l.length) → l[j].dev = id ∧ l[j].seq = k + j
  | [], _, _, _, _, j, hj => absurd hj (Nat.not_lt_zero _)
  | x :: l, id, k, la, h, j, hj => by
    by_cases hx : x.dev ≠ id ∨ x.seq ≠ k ∨ x.tm < la
    · rw [notesGo_no hx] at h; cases h
    · have e1 : x.dev = id := Decidable.byContradiction fun h => hx (.inl h)
      have e2 : x.seq = k := Decidable.byContradiction fun h => hx (.inr (.inl h))
      rw [notesGo_go e1 e2 (by omega)] at h
      rcases j with _ | j
      · exact ⟨e1, by simpa using e2⟩
      · have := notesGo_get h j (by simpa using hj)
        simp only [List.getElem_cons_succ]
        exact ⟨this.1, by rw [this.2]; omega⟩
theorem notesGo_app2 : ∀ (l : List NoteD) (id k la : Int) (n : NoteD), notesGo id k la l = true → n.dev = id → n.seq = k + l.length → (∀ x, l.getLast? = some x → x.tm ≤ n.tm) → (l = [] → la ≤ n.tm) → notesGo id k la (l ++ [n]) = true
  | [], id, k, la, n, _, h1, h2, _, h4 => by
    rw [List.nil_append, notesGo_go h1 (by simpa using h2) (h4 rfl)]; rfl
  | x :: l, id, k, la, n, h, h1, h2, h3, _ => by
    by_cases hx : x.dev ≠ id ∨ x.seq ≠ k ∨ x.tm < la
    · rw [notesGo_no hx] at h; cases h
    · have e1 : x.dev = id := Decidable.byContradiction fun h => hx (.inl h)
      have e2 : x.seq = k := Decidable.byContradiction fun h => hx (.inr (.inl h))
      have e3 : la ≤ x.tm := by omega
      rw [notesGo_go e1 e2 e3] at h
      rw [List.cons_append, notesGo_go e1 e2 e3]
      refine notesGo_app2 l id (k + 1) x.tm n h h1 (by simp at h2; omega) (fun y hy => h3 y ?_) (fun hl => h3 x (by rw [hl]; rfl))
      rcases l with _ | ⟨z, r⟩
      · simp at hy
      · rw [List.getLast?_cons_cons]; exact hy
theorem afOk_of2 : ∀ {l : List Int} {d k : Int}, (∀ x, x ∈ l → 0 ≤ x ∧ x ≤ 10000) → (∀ (i : Nat) x, l[i]? = some x → k + i = d → x = 0) → afOk d k l = true
  | [], _, _, _, _ => rfl
  | x :: l, d, k, h1, h2 => by
    rw [afOk_go2 (rngB_iff.2 (h1 x (by simp))) (fun hc => hc.2 (h2 0 x rfl (by simpa using hc.1)))]
    exact afOk_of2 (fun y hy => h1 y (List.mem_cons_of_mem _ hy)) (fun i y hy he => h2 (i + 1) y (by simpa using hy) (by push_cast; omega))
/-- Numbers of notes that were seen. -/
structure SeenOK (i : Nat) (S : List Int) : Prop where
  len : S.length = 12
  rng : ∀ x, x ∈ S → 0 ≤ x ∧ x ≤ 10000
  own : S[i]? = some 0
theorem SeenOK.R {i : Nat} {S : List Int} (h : SeenOK i S) : seenR S = true := by
  unfold seenR
  simp only [Bool.and_eq_true, decide_eq_true_eq, List.all_eq_true]
  exact ⟨h.len, fun x hx => rngB_iff.2 (h.rng x hx)⟩
theorem seenJ_ok {i : Nat} : ∀ {r S : List Int} {k : Nat}, SeenOK i S → (∀ x, x ∈ r → 0 ≤ x ∧ x ≤ 10000) → SeenOK i (seenJ i k S r)
  | [], S, k, h, _ => by rw [seenJ_nil]; exact h
  | n :: r, S, k, h, hr => by
    unfold seenJ
    refine seenJ_ok ?_ (fun x hx => hr x (List.mem_cons_of_mem _ hx))
    by_cases hk : (k : Int) = (i : Int)
    · rw [if_pos hk]; exact h
    · rw [if_neg hk]
      have hn := hr n (by simp)
      refine ⟨by rw [List.length_set]; exact h.len, fun x hx => ?_, ?_⟩
      · rcases List.mem_or_eq_of_mem_set hx with hx | rfl
        · exact h.rng x hx
        · have : 0 ≤ S.getD k 0 ∧ S.getD k 0 ≤ 10000 := by
            rcases Nat.lt_or_ge k S.length with h1 | h1
            · have := h.rng S[k] (List.getElem_mem h1)
              simpa [List.getD, h1] using this
            · have : S.getD k 0 = 0 := by simp [List.getD, List.getElem?_eq_none h1]
              omega
          omega
      · rw [List.getElem?_set_ne (by omega)]; exact h.own
theorem countGo_ok : ∀ {l : List NoteD} {acc : List Int} {b : Nat}, acc.length = 12 → (∀ j, 0 ≤ acc.getD j 0 ∧ acc.getD j 0 ≤ b) → (countGo acc l).length = 12 ∧ ∀ j, 0 ≤ (countGo acc l).getD j 0 ∧ (countGo acc l).getD j 0 ≤ (b + l.length : Nat)
  | [], acc, b, h1, h2 => ⟨h1, fun j => by simpa [countGo] using h2 j⟩
  | n :: l, acc, b, h1, h2 => by
    unfold countGo
    have h3 : (count1 acc n.dev).length = 12 := by unfold count1; split <;> simp [h1]
    have h4 : ∀ j, 0 ≤ (count1 acc n.dev).getD j 0 ∧ (count1 acc n.dev).getD j 0 ≤ (b + 1 : Nat) := by
      intro j
      have := h2 j
      unfold count1
      split
      · have h5 := h2 n.dev.toNat
        simp only [List.getD_eq_getElem?_getD, List.getElem?_set] at this h5 ⊢
        split
        · split
          · simp; omega
          · simp; omega
        · omega
      · omega
    obtain ⟨h5, h6⟩ := countGo_ok (l := l) (b := b + 1) h3 h4
    exact ⟨h5, fun j => by have := h6 j; rw [List.length_cons]; omega⟩
theorem counts_ok {l : List NoteD} (hl : l.length ≤ 10000) : (countsN l).length = 12 ∧ ∀ x, x ∈ countsN l → 0 ≤ x ∧ x ≤ 10000 := by
  obtain ⟨h1, h2⟩ := countGo_ok (l := l) (acc := zl12) (b := 0) rfl (fun j => by simp only [zl12, List.getD_eq_getElem?_getD, List.getElem?_replicate]; split <;> simp)
  refine ⟨h1, fun x hx => ?_⟩
  obtain ⟨j, hj, rfl⟩ := List.mem_iff_getElem.1 hx
  have := h2 j
  have hj' : j < (countGo zl12 l).length := hj
  rw [getD_at hj'] at this
  show 0 ≤ (countGo zl12 l)[j] ∧ (countGo zl12 l)[j] ≤ 10000
  omega
/-- The notes of a phone. -/
structure JourOK (i : Nat) (l : List NoteD) : Prop where
  right : ∀ n, n ∈ l → n.right = true
  go : notesGo i 0 0 l = true
theorem JourOK.R {i : Nat} {l : List NoteD} (h : JourOK i l) (hl : l.length ≤ 10000) : notesR l = true := by
  simp only [notesR, Bool.and_eq_true, decide_eq_true_eq, List.all_eq_true]
  exact ⟨hl, h.right⟩
theorem JourOK.key {i : Nat} {l : List NoteD} (h : JourOK i l) {x y : NoteD} (hx : x ∈ l) (hy : y ∈ l) (hk : x.seq = y.seq) : x = y := by
  obtain ⟨a, ha, rfl⟩ := List.mem_iff_getElem.1 hx
  obtain ⟨b, hb, rfl⟩ := List.mem_iff_getElem.1 hy
  have h1 := (notesGo_get h.go a ha).2
  have h2 := (notesGo_get h.go b hb).2
  have : a = b := by omega
  subst this; rfl
theorem JourOK.dev {i : Nat} {l : List NoteD} (h : JourOK i l) {x : NoteD} (hx : x ∈ l) : x.dev = i ∧ 0 ≤ x.seq ∧ x.seq < l.length := by
  obtain ⟨a, ha, rfl⟩ := List.mem_iff_getElem.1 hx
  have h1 := notesGo_get h.go a ha
  exact ⟨h1.1, by omega, by omega⟩
end Go.Proofs.Ythnblhbdfpmolaa
/- Stocks that are plain. -/
namespace Go.Proofs.Ythnblhbdfpmolaa
open Go.RowKit
set_option maxHeartbeats 1000000 in
theorem pplain (ss : Sl Stock) (w : World) (hr : RdStocks (· < w.heap.size) w ss) :
    Calls Try.prog 46 #[.slice ss.A ss.l.length ss.c] w fun e w' => AnyB (fun b => b = true → ss.l.length ≤ 3 ∧ ∀ s, s ∈ ss.l → s.d.right = true ∧ s.L.l = []) e ∧ Below w.heap.size w w' := by
  obtain ⟨A, c, l⟩ := ss
  have HR := Lib.hid hr
  clear hr
  simp only
  go_enter Try.func46, Try.ntmps46
  go_wp2_with fail
  go_loopw [3] (fun i wr => ∃ (k : Nat), k ≤ l.length ∧ k ≤ 4 ∧ i = .int .i64 k ∧ (∀ s, s ∈ l.take k → s.d.right = true ∧ s.L.l = []) ∧ Below w.heap.size w wr) (fun i _ => l.length - (intOf i).toNat)
  case atStart => exact ⟨0, by omega, by omega, rfl, by simp, Below.refl _ _⟩
  case round =>
    obtain ⟨k, hk, hk4, rfl, hall, hbel⟩ := hrel
    by_cases hkl : k < l.length
    · have hkl' : (k : Int) < (l.length : Int) := by omega
      by_cases hk3 : k ≤ 3
      · have hk3' : (k : Int) ≤ 3 := by omega
        obtain ⟨b, o, hA, hF, hcl⟩ := HR.out.1.at1 hkl
        simp only at hA
        subst hA
        obtain ⟨g0, g1, g2⟩ := Cells.c3 (hcl.keep (hbel.block b hF))
        have hsr := stock_right l[k] wr ((HR.out.2 _ (List.getElem_mem hkl)).below' hbel (Nat.le_refl _))
        have htk : l.take (k + 1) = l.take k ++ [l[k]] := List.take_succ_eq_append_getElem hkl
        clear hcl
        generalize l[k] = s at *
        obtain ⟨sT, sU, ⟨sA, sc, sl⟩⟩ := s
        have HALL := Lib.hid hall
        have HTK := Lib.hid htk
        clear hall htk
        simp only [Stock.v] at hsr
        go_wp2_with fail
        refine hsr.mono ?_
        rintro e w1 ⟨rfl, hb1⟩
        have g2' := keep_cell hb1 g2
        have hbel1 : Below w.heap.size w w1 := hbel.trans (hb1.mono hbel.size)
        clear hb1 hsr
        rcases hri : (Stock.d ⟨sT, sU, ⟨sA, sc, sl⟩⟩).right
        · go_wp2_with fail
          go_ret
          exact ⟨⟨false, by simp [Act.eval, go_sem], fun h => by cases h⟩, hbel1⟩
        · have HRI := Lib.hid hri
          clear hri
          by_cases hs0 : sl = []
          · subst hs0
            go_wp2_with fail
            go_roundw
            case rel =>
              refine ⟨k + 1, by omega, by omega, by go_num, ?_, hbel1⟩
              rw [HTK.out]
              intro s hs
              rcases List.mem_append.1 hs with hs | hs
              · exact HALL.out s hs
              · rw [List.mem_singleton.1 hs]; exact ⟨HRI.out, rfl⟩
            case measure => simp [intOf]; omega
          · have e1 : ((sl.length : Int) != 0) = true := by
              have : sl.length ≠ 0 := fun h => hs0 (List.eq_nil_of_length_eq_zero h)
              simp; omega
            clear hs0
            go_wp2_with fail
            go_ret
            exact ⟨⟨false, by simp [Act.eval, go_sem], fun h => by cases h⟩, hbel1⟩
      · have hk5 : ¬ (k : Int) ≤ 3 := by omega
        have hl4 : ¬ (l.length : Int) ≤ 3 := by omega
        have HALL := Lib.hid hall
        clear hall
        go_wp2_with fail
        go_ret
        exact ⟨⟨false, by simp [Act.eval, go_sem], fun h => by cases h⟩, hbel⟩
    · have HALL := Lib.hid hall
      clear hall
      go_wp2_with fail
      go_ret
      refine ⟨⟨decide ((l.length : Int) ≤ 3), by simp [Act.eval, go_sem], fun h => ?_⟩, hbel⟩
      have h3 : (l.length : Int) ≤ 3 := of_decide_eq_true h
      refine ⟨by omega, fun s hs => HALL.out s ?_⟩
      rw [List.take_of_length_le (by omega)]
      exact hs
end Go.Proofs.Ythnblhbdfpmolaa
