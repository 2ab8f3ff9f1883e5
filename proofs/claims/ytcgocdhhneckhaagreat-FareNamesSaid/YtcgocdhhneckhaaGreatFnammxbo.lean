/- The plain law of FareNames, first half: another value of what is not named makes no difference. -/
import Derived.Test.YtcgocdhhneckhaaGreatFnammxbn
namespace Go.Proofs.YtcgocdhhneckhaaGreat
open Go.RowKit
/-- An expression names a thing (2: of a trip, 3: of a member), down to a depth. -/
def inE (o : Int) (s : ByteArray) : Nat → PT → Bool
  | 0, _ => false
  | k + 1, ⟨p, _, _, x, _, _, l⟩ => (decide (p = o) && sameB x s) || l.any (inE o s k)
def NotIn (o : Int) (s : ByteArray) (e : PT) : Prop := ∀ k, inE o s k e = false
theorem NotIn.kid {o : Int} {s : ByteArray} {p n u : Int} {x : ByteArray} {A : Option Addr} {c : Nat} {l : List PT} (h : NotIn o s ⟨p, n, u, x, A, c, l⟩) : ∀ y, y ∈ l → NotIn o s y := fun y hy k => by
  have h1 := h (k + 1)
  unfold inE at h1
  rw [Bool.or_eq_false_iff, List.any_eq_false] at h1
  simpa using h1.2 y hy
theorem NotIn.own {o : Int} {s : ByteArray} {p n u : Int} {x : ByteArray} {A : Option Addr} {c : Nat} {l : List PT} (h : NotIn o s ⟨p, n, u, x, A, c, l⟩) (hp : p = o) : sameB x s = false := by
  have h1 := h 1
  unfold inE at h1
  rw [Bool.or_eq_false_iff, Bool.and_eq_false_iff] at h1
  rcases h1.1 with h2 | h2
  · simp [hp] at h2
  · exact h2
theorem NotIn.mk {o : Int} {s : ByteArray} {p n u : Int} {x : ByteArray} {A : Option Addr} {c : Nat} {l : List PT} (h1 : p = o → sameB x s = false) (h2 : ∀ y, y ∈ l → NotIn o s y) : NotIn o s ⟨p, n, u, x, A, c, l⟩ := fun k => by
  cases k with
  | zero => rfl
  | succ k =>
    unfold inE
    rw [Bool.or_eq_false_iff, Bool.and_eq_false_iff, List.any_eq_false]
    refine ⟨?_, fun y hy => by rw [h2 y hy k]; simp⟩
    by_cases hp : p = o
    · exact .inr (h1 hp)
    · exact .inl (by simp [hp])
/-- Facts that differ at most at the name s, if o says so. -/
structure Agree (o : Int) (s : ByteArray) (T T' M M' : List FT) : Prop where
  t : ∀ x, (o = 2 → sameB x s = false) → factF x T = factF x T'
  m : ∀ x, (o = 3 → sameB x s = false) → factF x M = factF x M'
theorem evE_agree {o : Int} {s : ByteArray} {T T' M M' : List FT} (h : Agree o s T T' M M') {lk lk' : ByteArray → FrR} (hk : ∀ x, lk x = lk' x) : ∀ k e, NotIn o s e → evE lk T M k e = evE lk' T' M' k e
  | 0, _, _ => rfl
  | k + 1, ⟨p, n, u, x, A, c, l⟩, hn => by
    have ih := fun y (hy : y ∈ l) => evE_agree h hk k y (hn.kid y hy)
    have hl : l.map (evE lk T M k) = l.map (evE lk' T' M' k) := List.map_congr_left ih
    unfold evE
    split
    · rfl
    split
    · exact hk x
    split
    · rename_i h2; exact h.t x fun ho => hn.own (h2.trans ho.symm)
    split
    · rename_i h3; exact h.m x fun ho => hn.own (h3.trans ho.symm)
    rw [hl]
theorem lvN_agree {o : Int} {s : ByteArray} {T T' M M' : List FT} (h : Agree o s T T' M M') {L : List LT} (hL : ∀ x, x ∈ L → NotIn o s x.b) : ∀ k, lvN T M L k = lvN T' M' L k
  | 0 => rfl
  | k + 1 => by
    have ih := lvN_agree h hL k
    unfold lvN
    rw [ih]
    cases hx : L[k]? with
    | none => rfl
    | some x => simp only; rw [evE_agree h (fun _ => rfl) 12 x.b (hL x (List.mem_of_getElem? hx))]
theorem evalF_agree {o : Int} {s : ByteArray} {T T' M M' : List FT} (h : Agree o s T T' M M') {L : List LT} (hL : ∀ x, x ∈ L → NotIn o s x.b) {e : PT} (he : NotIn o s e) (h1 : factsB T = true) (h2 : factsB T' = true) (h3 : factsB M = true) (h4 : factsB M' = true) : evalF L e T M = evalF L e T' M' := by
  unfold evalF evN
  rw [h1, h2, h3, h4, lvN_agree h hL, evE_agree h (fun _ => rfl) 12 e he]
/-- Facts in which those with a name have another value. -/
def chgF (l : List FT) (s : ByteArray) (v : Int) : List FT := l.map fun f => if sameB f.nm s = true then ⟨f.nm, v⟩ else f
theorem chgF_nm (l : List FT) (s : ByteArray) (v : Int) : (chgF l s v).map (·.nm) = l.map (·.nm) := by
  unfold chgF
  rw [List.map_map]
  refine List.map_congr_left fun f _ => ?_
  simp only [Function.comp]
  split <;> rfl
theorem sameB_tr {a b c : ByteArray} (h : sameB a b = true) : sameB b c = sameB a c := by
  unfold sameB at h ⊢
  rw [beq_iff_eq.1 h]
theorem chgF_fact {l : List FT} {s : ByteArray} {v : Int} {x : ByteArray} (h : sameB x s = false) : factF x l = factF x (chgF l s v) := by
  induction l with
  | nil => rfl
  | cons f l ih =>
    unfold chgF at ih ⊢
    rw [List.map_cons]
    conv => lhs; unfold factF
    conv => rhs; unfold factF
    by_cases hf : sameB f.nm x = true
    · have hs : sameB f.nm s = false := by rw [← sameB_tr hf]; exact h
      rw [hs]
      simp [hf]
    · rw [if_neg hf, ih, if_neg]
      split <;> exact hf
theorem chgF_factsB {l : List FT} {s : ByteArray} {v : Int} (h : factsB l = true) (hv : near v) : factsB (chgF l s v) = true := by
  unfold factsB near at *
  rw [Bool.and_eq_true, List.all_eq_true] at h ⊢
  refine ⟨by unfold chgF; rw [List.length_map]; exact h.1, fun f hf => ?_⟩
  unfold chgF at hf
  obtain ⟨g, hg, rfl⟩ := List.mem_map.1 hf
  have hg2 := h.2 g hg
  split
  · simp only [Bool.and_eq_true, decide_eq_true_eq] at hg2 ⊢
    exact ⟨hg2.1, by omega, by omega⟩
  · exact hg2
theorem agree_trip {T M : List FT} {s : ByteArray} {v : Int} : Agree 2 s T (chgF T s v) M M := ⟨fun _ h => chgF_fact (h rfl), fun _ _ => rfl⟩
theorem agree_memb {T M : List FT} {s : ByteArray} {v : Int} : Agree 3 s T T M (chgF M s v) := ⟨fun _ _ => rfl, fun _ h => chgF_fact (h rfl)⟩
/-- Nothing of the bylaws names it. -/
structure BylNo (o : Int) (s : ByteArray) (b : Byl) : Prop where
  lets : ∀ x, x ∈ b.lets.l → NotIn o s x.b
  ad : NotIn o s b.ad
  fa : NotIn o s b.fa
  la : NotIn o s b.la
  no : NotIn o s b.no
theorem whC_agree {o : Int} {s : ByteArray} {T T' M M' : List FT} (h : Agree o s T T' M M') {b : Byl} (hL : ∀ x, x ∈ b.lets.l → NotIn o s x.b) {e : PT} (he : NotIn o s e) (h1 : factsB T = true) (h2 : factsB T' = true) (h3 : factsB M = true) (h4 : factsB M' = true) : whC b e T M = whC b e T' M' := by
  unfold whC
  rw [evalF_agree h hL he h1 h2 h3 h4]
theorem admC_agree {o : Int} {s : ByteArray} {T T' M M' : List FT} (h : Agree o s T T' M M') {b : Byl} (hb : BylNo o s b) (h1 : factsB T = true) (h2 : factsB T' = true) (h3 : factsB M = true) (h4 : factsB M' = true) : (admC b T M).2 = (admC b T' M').2 ∧ (tripsN M = tripsN M' → admC b T M = admC b T' M') := by
  unfold admC
  rw [evalF_agree h hb.lets hb.ad h1 h2 h3 h4]
  refine ⟨?_, fun ht => by rw [ht]⟩
  split
  · rfl
  split <;> rfl
end Go.Proofs.YtcgocdhhneckhaaGreat
/- The plain law of FareNames, second half: a definition in the place of the fare. -/
namespace Go.Proofs.YtcgocdhhneckhaaGreat
open Go.RowKit
def hasN (s : ByteArray) (L : List LT) : Prop := ∃ x, x ∈ L ∧ (x.nm.toList == s.toList) = true
theorem hasN_of {s : ByteArray} {L : List LT} {U : List Int} (h : nameU s L U ≠ -1) : hasN s L := by
  refine Classical.byContradiction fun hc => h (nameU_none fun x hx => ?_)
  rcases hb : (x.nm.toList == s.toList) with _ | _
  · rfl
  · exact absurd ⟨x, hx, hb⟩ hc
theorem nameU_app {s : ByteArray} {A : List LT} {B : List Int} : ∀ {L : List LT} {U : List Int}, L.length = U.length → hasN s L → nameU s (L ++ A) (U ++ B) = nameU s L U
  | [], _, _, h => by obtain ⟨x, hx, _⟩ := h; cases hx
  | x :: L, [], h, _ => by simp at h
  | x :: L, u :: U, h, hs => by
    simp only [List.cons_append]
    unfold nameU
    by_cases hx : (x.nm.toList == s.toList) = true
    · rw [if_pos hx, if_pos hx]
    · rw [if_neg hx, if_neg hx]
      refine nameU_app (by simpa using h) ?_
      obtain ⟨y, hy, hys⟩ := hs
      rcases List.mem_cons.1 hy with rfl | hy
      · exact absurd hys hx
      · exact ⟨y, hy, hys⟩
theorem lkF_app {s : ByteArray} {A : List LT} {B : List FrR} : ∀ {L : List LT} {U : List FrR}, L.length = U.length → hasN s L → lkF s (L ++ A) (U ++ B) = lkF s L U
  | [], _, _, h => by obtain ⟨x, hx, _⟩ := h; cases hx
  | x :: L, [], h, _ => by simp at h
  | x :: L, u :: U, h, hs => by
    simp only [List.cons_append]
    unfold lkF
    by_cases hx : sameB x.nm s = true
    · rw [if_pos hx, if_pos hx]
    · rw [if_neg hx, if_neg hx]
      refine lkF_app (by simpa using h) ?_
      obtain ⟨y, hy, hys⟩ := hs
      rcases List.mem_cons.1 hy with rfl | hy
      · exact absurd hys hx
      · exact ⟨y, hy, hys⟩
theorem nameU_last {s : ByteArray} {y : LT} {u : Int} (hy : (y.nm.toList == s.toList) = true) : ∀ {L : List LT} {U : List Int}, L.length = U.length → ¬ hasN s L → nameU s (L ++ [y]) (U ++ [u]) = u
  | [], [], _, _ => by simp only [List.nil_append]; unfold nameU; rw [if_pos hy]
  | [], u :: U, h, _ => by simp at h
  | x :: L, [], h, _ => by simp at h
  | x :: L, u :: U, h, hs => by
    simp only [List.cons_append]
    unfold nameU
    rw [if_neg fun hx => hs ⟨x, List.mem_cons_self .., hx⟩]
    exact nameU_last hy (by simpa using h) fun ⟨z, hz, hzs⟩ => hs ⟨z, List.mem_cons_of_mem _ hz, hzs⟩
theorem lkF_last {s : ByteArray} {y : LT} {u : FrR} (hy : sameB y.nm s = true) : ∀ {L : List LT} {U : List FrR}, L.length = U.length → ¬ hasN s L → lkF s (L ++ [y]) (U ++ [u]) = u
  | [], [], _, _ => by simp only [List.nil_append]; unfold lkF; rw [if_pos hy]
  | [], u :: U, h, _ => by simp at h
  | x :: L, [], h, _ => by simp at h
  | x :: L, u :: U, h, hs => by
    simp only [List.cons_append]
    unfold lkF
    rw [if_neg (show ¬ sameB x.nm s = true from fun hx => hs ⟨x, List.mem_cons_self .., hx⟩)]
    exact lkF_last hy (by simpa using h) fun ⟨z, hz, hzs⟩ => hs ⟨z, List.mem_cons_of_mem _ hz, hzs⟩
theorem seqU_al2 {α : Type} {f : α → Int × Int} : ∀ {l : List α}, (seqU (l.map f)).2 = 0 → ∀ x, x ∈ l → (f x).2 = 0
  | [], _, x, hx => by cases hx
  | y :: l, h, x, hx => by
    rw [List.map_cons] at h
    obtain ⟨a, b, hy⟩ : ∃ a b, f y = (a, b) := ⟨_, _, rfl⟩
    rw [hy] at h
    unfold seqU at h
    by_cases hb : b = 0
    · rw [if_pos hb] at h
      rcases List.mem_cons.1 hx with rfl | hx
      · rw [hy]; exact hb
      · exact seqU_al2 h x hx
    · rw [if_neg hb] at h; exact absurd h hb
/-- What has a unit: each operand has, each name is a let's. -/
theorem unU_kids {L : List LT} {U : List Int} {k : Nat} {o n u : Int} {s : ByteArray} {A : Option Addr} {c : Nat} {l : List PT} (h : (unU L U (k + 1) ⟨o, n, u, s, A, c, l⟩).2 = 0) (h0 : ¬ o = 0) (h1 : ¬ o = 1) (h2 : ¬ o = 2) (h3 : ¬ o = 3) : ∀ x, x ∈ l → (unU L U k x).2 = 0 := by
  unfold unU at h
  rw [if_neg h0, if_neg h2, if_neg h3, if_neg h1] at h
  refine seqU_al2 (Classical.byContradiction fun hc => ?_)
  rw [if_pos hc] at h
  exact hc h
theorem unU_nm {L : List LT} {U : List Int} {k : Nat} {n u : Int} {s : ByteArray} {A : Option Addr} {c : Nat} {l : List PT} (h : (unU L U (k + 1) ⟨1, n, u, s, A, c, l⟩).2 = 0) : hasN s L := by
  unfold unU at h
  rw [if_neg (by decide), if_neg (by decide), if_neg (by decide), if_pos rfl] at h
  refine hasN_of (U := U) fun hc => ?_
  rw [if_pos hc] at h
  cases h
theorem unU_app {L A : List LT} {U B : List Int} (hl : L.length = U.length) : ∀ k e, (unU L U k e).2 = 0 → unU (L ++ A) (U ++ B) k e = unU L U k e
  | 0, _, _ => rfl
  | k + 1, ⟨o, n, u, s, Ad, c, l⟩, h => by
    by_cases h0 : o = 0
    · subst h0; rfl
    by_cases h1 : o = 1
    · subst h1
      have hs := unU_nm h
      unfold unU
      rw [nameU_app hl hs]
      rfl
    by_cases h2 : o = 2
    · subst h2; rfl
    by_cases h3 : o = 3
    · subst h3; rfl
    have hk := unU_kids h h0 h1 h2 h3
    have hm : l.map (unU (L ++ A) (U ++ B) k) = l.map (unU L U k) := List.map_congr_left fun x hx => unU_app hl k x (hk x hx)
    unfold unU
    rw [hm, if_neg h1, if_neg h1]
theorem evE_app {T M : List FT} {L : List LT} {U : List Int} {lk lk' : ByteArray → FrR} (hl : ∀ s, hasN s L → lk s = lk' s) : ∀ k e, (unU L U k e).2 = 0 → evE lk T M k e = evE lk' T M k e
  | 0, _, _ => rfl
  | k + 1, ⟨o, n, u, s, Ad, c, l⟩, h => by
    by_cases h0 : o = 0
    · subst h0; rfl
    by_cases h1 : o = 1
    · subst h1
      have hs := unU_nm h
      unfold evE
      rw [hl s hs]
      rfl
    by_cases h2 : o = 2
    · subst h2; rfl
    by_cases h3 : o = 3
    · subst h3; rfl
    have hk := unU_kids h h0 h1 h2 h3
    have hm : l.map (evE lk T M k) = l.map (evE lk' T M k) := List.map_congr_left fun x hx => evE_app hl k x (hk x hx)
    unfold evE
    rw [hm, if_neg h1, if_neg h1]
theorem take_app {L A : List LT} {k : Nat} (h : k ≤ L.length) : (L ++ A).take k = L.take k := List.take_append_of_le_length h
theorem get_app {L A : List LT} {k : Nat} (h : k < L.length) : (L ++ A)[k]? = L[k]? := List.getElem?_append_left h
theorem scN_app {L A : List LT} : ∀ k, k ≤ L.length → scN (L ++ A) k = scN L k
  | 0, _ => rfl
  | k + 1, h => by
    unfold scN
    rw [get_app (A := A) (by omega : k < L.length), take_app (A := A) (by omega : k ≤ L.length), scN_app k (by omega)]
theorem lvN_app {T M : List FT} {L A : List LT} : ∀ k, k ≤ L.length → lvN T M (L ++ A) k = lvN T M L k
  | 0, _ => rfl
  | k + 1, h => by
    unfold lvN
    rw [get_app (A := A) (by omega : k < L.length), take_app (A := A) (by omega : k ≤ L.length), lvN_app k (by omega)]
/-- The let at the end. -/
theorem scU_snoc {L : List LT} {y : LT} : scU (L ++ [y]) = scU L ++ [uo (unU L (scU L) 12 y.b)] := by
  unfold scU
  rw [List.length_append]
  simp only [List.length_cons, List.length_nil, Nat.zero_add]
  rw [scN_succ (x := y) (by simp), scN_app _ (Nat.le_refl _), take_app (Nat.le_refl _), List.take_length]
theorem lvN_snoc {T M : List FT} {L : List LT} {y : LT} : lvN T M (L ++ [y]) (L ++ [y]).length = lvN T M L L.length ++ [evN T M L L.length 12 y.b] := by
  rw [List.length_append]
  simp only [List.length_cons, List.length_nil, Nat.zero_add]
  rw [lvN_succ T M (x := y) (by simp), lvN_app _ (Nat.le_refl _), take_app (Nat.le_refl _)]
  rfl
end Go.Proofs.YtcgocdhhneckhaaGreat
/- The plain law of FareNames: the bylaws with a definition in the place of the fare. -/
namespace Go.Proofs.YtcgocdhhneckhaaGreat
open Go.RowKit
theorem fee_name : nameB (⟨#[102, 101, 101]⟩ : ByteArray) = true := by kernel_rfl
theorem fee_rexp : rexp ⟨1, 0, 0, (⟨#[102, 101, 101]⟩ : ByteArray), none, 0, []⟩ = true := by kernel_rfl
theorem uniqB_snoc {x : ByteArray} : ∀ {p l : List ByteArray}, uniqB p (l ++ [x]) = (uniqB p l && (nameB x && !inL x (p ++ l)))
  | p, [] => by simp [uniqB]
  | p, y :: l => by
    rw [List.cons_append]
    unfold uniqB
    rw [uniqB_snoc, List.append_assoc, List.singleton_append]
    simp only [Bool.and_assoc]
theorem chk_unit {b : Byl} (h : chkU b = 0) : ∀ i x, [b.ad, b.fa, b.la, b.no][i]? = some x → (ofU b.lets.l x).2 = 0 ∧ (ofU b.lets.l x).1 = if i = 0 then 3 else 1 := fun i x hi => by
  unfold chkU at h
  split at h
  · have hi4 : i < 4 := by
      have := (List.getElem?_eq_some_iff.1 hi).1
      simpa using this
    have h4 := firstE_all h _ (List.mem_append_right _ (List.mem_map_of_mem (f := fourE b.lets.l [b.ad, b.fa, b.la, b.no]) (List.mem_range.2 hi4)))
    rw [fourE_at hi] at h4
    by_cases h2 : (ofU b.lets.l x).2 = 0
    · refine ⟨h2, Classical.byContradiction fun hc => ?_⟩
      rw [if_neg (fun h' => h' h2), if_pos hc] at h4
      cases h4
    · rw [if_pos h2] at h4; exact absurd h4 h2
  · cases h
theorem chk_mk {b : Byl} (h : bylB b = true) (h0 : ∀ i, i < b.lets.l.length → letE b.lets.l i = 0) (h1 : ∀ i x, [b.ad, b.fa, b.la, b.no][i]? = some x → (ofU b.lets.l x).2 = 0 ∧ (ofU b.lets.l x).1 = if i = 0 then 3 else 1) : chkU b = 0 := chkU_ok h h0 fun i hi => by
  have hx : [b.ad, b.fa, b.la, b.no][i]? = some ([b.ad, b.fa, b.la, b.no][i]'hi) := List.getElem?_eq_getElem hi
  obtain ⟨ha, hb⟩ := h1 i _ hx
  rw [fourE_at hx, if_neg (fun h' => h' ha), if_neg (fun h' => h' hb)]
section
variable {L : List LT} {f : PT}
theorem fee_has (hno : ∀ x, x ∈ L → sameB x.nm (⟨#[102, 101, 101]⟩ : ByteArray) = false) : ¬ hasN (⟨#[102, 101, 101]⟩ : ByteArray) L := fun ⟨x, hx, hs⟩ => by
  have h1 := hno x hx
  have h2 : sameB x.nm (⟨#[102, 101, 101]⟩ : ByteArray) = true := hs
  rw [h1] at h2
  cases h2
theorem ofU_fee {x : PT} (hx : rexp x = true) (hL : L.all (fun y => rexp y.b) = true) (hf : rexp f = true) (h6 : L.length ≤ 6) (h : (ofU L x).2 = 0) : ofU (L ++ [⟨(⟨#[102, 101, 101]⟩ : ByteArray), f⟩]) x = ofU L x := by
  have hL' : (L ++ [(⟨(⟨#[102, 101, 101]⟩ : ByteArray), f⟩ : LT)]).all (fun y => rexp y.b) = true := by
    rw [List.all_append, hL]; simp [hf]
  rw [ofU_ok ⟨hx, by omega, hL⟩] at h ⊢
  rw [ofU_ok ⟨hx, by rw [List.length_append]; simp; omega, hL'⟩, scU_snoc, unU_app (by rw [scU, scN_len L _ (Nat.le_refl _)]) 12 x h]
theorem ofU_name (hL : L.all (fun y => rexp y.b) = true) (hf : rexp f = true) (h6 : L.length ≤ 6) (hno : ∀ x, x ∈ L → sameB x.nm (⟨#[102, 101, 101]⟩ : ByteArray) = false) (h : (ofU L f).2 = 0) (h1 : (ofU L f).1 = 1) : ofU (L ++ [⟨(⟨#[102, 101, 101]⟩ : ByteArray), f⟩]) ⟨1, 0, 0, (⟨#[102, 101, 101]⟩ : ByteArray), none, 0, []⟩ = (1, 0) := by
  have hL' : (L ++ [(⟨(⟨#[102, 101, 101]⟩ : ByteArray), f⟩ : LT)]).all (fun y => rexp y.b) = true := by
    rw [List.all_append, hL]; simp [hf]
  rw [ofU_ok ⟨hf, by omega, hL⟩] at h h1
  simp only at h h1
  rw [if_pos h] at h1
  have hu : uo (unU L (scU L) 12 f) = 1 := by unfold uo; rw [if_pos h, h1]
  have hn : unU (L ++ [⟨(⟨#[102, 101, 101]⟩ : ByteArray), f⟩]) (scU (L ++ [⟨(⟨#[102, 101, 101]⟩ : ByteArray), f⟩])) 12 ⟨1, 0, 0, (⟨#[102, 101, 101]⟩ : ByteArray), none, 0, []⟩ = (1, 0) := by
    rw [scU_snoc]
    unfold unU
    rw [nameU_last (by kernel_rfl) (by rw [scU, scN_len L _ (Nat.le_refl _)]) (fee_has hno), hu]
    rfl
  rw [ofU_ok ⟨fee_rexp, by rw [List.length_append]; simp; omega, hL'⟩, hn]
  rfl
variable {T M : List FT}
theorem evalF_fee {x : PT} (hx : rexp x = true) (hL : L.all (fun y => rexp y.b) = true) (hf : rexp f = true) (h6 : L.length ≤ 6) (h : (ofU L x).2 = 0) : evalF (L ++ [⟨(⟨#[102, 101, 101]⟩ : ByteArray), f⟩]) x T M = evalF L x T M := by
  have hL' : (L ++ [(⟨(⟨#[102, 101, 101]⟩ : ByteArray), f⟩ : LT)]).all (fun y => rexp y.b) = true := by
    rw [List.all_append, hL]; simp [hf]
  rw [ofU_ok ⟨hx, by omega, hL⟩] at h
  by_cases hb : factsB T = true ∧ factsB M = true
  · unfold evalF
    rw [if_pos ⟨hx, by rw [List.length_append]; simp; omega, hL', hb.1, hb.2⟩, if_pos ⟨hx, by omega, hL, hb.1, hb.2⟩]
    unfold evN
    refine evE_app (L := L) (U := scU L) (fun s hs => ?_) 12 x h
    rw [lvN_snoc, List.take_length, List.take_length]
    exact lkF_app (by rw [lvN_len T M L _ (Nat.le_refl _)]) hs
  · unfold evalF
    rw [if_neg (fun hc => hb ⟨hc.2.2.2.1, hc.2.2.2.2⟩), if_neg (fun hc => hb ⟨hc.2.2.2.1, hc.2.2.2.2⟩)]
theorem evalF_name (hL : L.all (fun y => rexp y.b) = true) (hf : rexp f = true) (h6 : L.length ≤ 6) (hno : ∀ x, x ∈ L → sameB x.nm (⟨#[102, 101, 101]⟩ : ByteArray) = false) : evalF (L ++ [⟨(⟨#[102, 101, 101]⟩ : ByteArray), f⟩]) ⟨1, 0, 0, (⟨#[102, 101, 101]⟩ : ByteArray), none, 0, []⟩ T M = evalF L f T M := by
  have hL' : (L ++ [(⟨(⟨#[102, 101, 101]⟩ : ByteArray), f⟩ : LT)]).all (fun y => rexp y.b) = true := by
    rw [List.all_append, hL]; simp [hf]
  by_cases hb : factsB T = true ∧ factsB M = true
  · unfold evalF
    rw [if_pos ⟨fee_rexp, by rw [List.length_append]; simp; omega, hL', hb.1, hb.2⟩, if_pos ⟨hf, by omega, hL, hb.1, hb.2⟩]
    conv => lhs; unfold evN evE
    rw [if_neg (by decide), if_pos rfl, lvN_snoc, List.take_length]
    exact lkF_last (by kernel_rfl) (by rw [lvN_len T M L _ (Nat.le_refl _)]) (fee_has hno)
  · unfold evalF
    rw [if_neg (fun hc => hb ⟨hc.2.2.2.1, hc.2.2.2.2⟩), if_neg (fun hc => hb ⟨hc.2.2.2.1, hc.2.2.2.2⟩)]
end
theorem fee_inL {L : List LT} (hno : ∀ x, x ∈ L → sameB x.nm (⟨#[102, 101, 101]⟩ : ByteArray) = false) : inL (⟨#[102, 101, 101]⟩ : ByteArray) (namesL L) = false := by
  unfold inL namesL
  rw [List.any_eq_false]
  intro y hy
  obtain ⟨x, hx, rfl⟩ := List.mem_map.1 hy
  have h := hno x hx
  unfold sameB at h
  intro hc
  rw [beq_iff_eq.1 hc] at h
  simp at h
/-- The bylaws with a definition in the place of the fare. -/
def feeB (b : Byl) (A : Option Addr) (c : Nat) : Byl := ⟨b.nm, ⟨A, c, b.lets.l ++ [⟨(⟨#[102, 101, 101]⟩ : ByteArray), b.fa⟩]⟩, b.ad, ⟨1, 0, 0, (⟨#[102, 101, 101]⟩ : ByteArray), none, 0, []⟩, b.la, b.no, b.q, b.sh, b.ch⟩
theorem fee_byl {b : Byl} {A : Option Addr} {c : Nat} (h : bylB b = true) (h6 : b.lets.l.length ≤ 6) (hno : ∀ x, x ∈ b.lets.l → sameB x.nm (⟨#[102, 101, 101]⟩ : ByteArray) = false) : bylB (feeB b A c) = true := by
  unfold bylB feeB at *
  simp only [Bool.and_eq_true, decide_eq_true_eq, List.all_cons, List.all_nil, and_true, List.all_append, and_assoc] at h ⊢
  obtain ⟨h1, h2, h3, h4, h5, h7, h8, h9, h10, h11, h12⟩ := h
  refine ⟨h1, h10, h2, h3, h4, h5, ?_, ?_, h9, fee_rexp, h11, h12⟩
  · unfold namesL at *
    rw [List.map_append, List.map_cons, List.map_nil, uniqB_snoc, h7, fee_name, List.nil_append]
    have := fee_inL hno
    unfold namesL at this
    rw [this]
    rfl
  · rw [List.length_append]; simp; omega
theorem fee_chk {b : Byl} {A : Option Addr} {c : Nat} (h : chkU b = 0) (h6 : b.lets.l.length ≤ 6) (hno : ∀ x, x ∈ b.lets.l → sameB x.nm (⟨#[102, 101, 101]⟩ : ByteArray) = false) : chkU (feeB b A c) = 0 := by
  obtain ⟨hb, h0, _⟩ := chk_rule h
  have hu := chk_unit h
  obtain ⟨hl, h20, h4⟩ := byl_rexp hb
  have hla : b.lets.l.all (fun x => rexp x.b) = true := List.all_eq_true.2 hl
  have hf : rexp b.fa = true := h4 _ (by simp)
  have hfu := hu 1 b.fa rfl
  refine chk_mk (fee_byl hb h6 hno) (fun i hi => ?_) fun i x hx => ?_
  · have hi' : i < b.lets.l.length + 1 := by simpa [feeB] using hi
    by_cases hk : i < b.lets.l.length
    · have e := h0 i hk
      unfold letE at e ⊢
      simp only [feeB]
      rw [get_app hk, take_app (by omega)]
      exact e
    · obtain rfl : i = b.lets.l.length := by omega
      simp only [feeB]
      rw [letE_at (x := ⟨(⟨#[102, 101, 101]⟩ : ByteArray), b.fa⟩) (by simp), take_app (Nat.le_refl _), List.take_length]
      exact hfu.1
  · simp only [feeB] at hx ⊢
    rcases i with _ | _ | _ | _ | i
    · obtain rfl : b.ad = x := by simpa using hx
      have hq := hu 0 b.ad rfl
      rw [ofU_fee (h4 _ (by simp)) hla hf h6 hq.1]
      exact hq
    · obtain rfl : (⟨1, 0, 0, (⟨#[102, 101, 101]⟩ : ByteArray), none, 0, []⟩ : PT) = x := by simpa using hx
      rw [ofU_name hla hf h6 hno hfu.1 hfu.2]
      exact ⟨rfl, rfl⟩
    · obtain rfl : b.la = x := by simpa using hx
      have hq := hu 2 b.la rfl
      rw [ofU_fee (h4 _ (by simp)) hla hf h6 hq.1]
      exact hq
    · obtain rfl : b.no = x := by simpa using hx
      have hq := hu 3 b.no rfl
      rw [ofU_fee (h4 _ (by simp)) hla hf h6 hq.1]
      exact hq
    · simp at hx
theorem fee_all {b : Byl} {A : Option Addr} {c : Nat} (h : chkU b = 0) (h6 : b.lets.l.length ≤ 6) (hno : ∀ x, x ∈ b.lets.l → sameB x.nm (⟨#[102, 101, 101]⟩ : ByteArray) = false) (T M : List FT) :
    admC (feeB b A c) T M = admC b T M ∧ whC (feeB b A c) (feeB b A c).fa T M = whC b b.fa T M ∧ whC (feeB b A c) (feeB b A c).la T M = whC b b.la T M ∧ whC (feeB b A c) (feeB b A c).no T M = whC b b.no T M := by
  have hc := fee_chk (A := A) (c := c) h h6 hno
  obtain ⟨hb, _, hu⟩ := chk_rule h
  obtain ⟨hl, h20, h4⟩ := byl_rexp hb
  have hla : b.lets.l.all (fun x => rexp x.b) = true := List.all_eq_true.2 hl
  have hf : rexp b.fa = true := h4 _ (by simp)
  have e1 : evalF (feeB b A c).lets.l (feeB b A c).ad T M = evalF b.lets.l b.ad T M := evalF_fee (h4 b.ad (by simp)) hla hf h6 (hu b.ad (by simp))
  have e2 : evalF (feeB b A c).lets.l (feeB b A c).fa T M = evalF b.lets.l b.fa T M := evalF_name hla hf h6 hno
  have e3 : evalF (feeB b A c).lets.l (feeB b A c).la T M = evalF b.lets.l b.la T M := evalF_fee (h4 b.la (by simp)) hla hf h6 (hu b.la (by simp))
  have e4 : evalF (feeB b A c).lets.l (feeB b A c).no T M = evalF b.lets.l b.no T M := evalF_fee (h4 b.no (by simp)) hla hf h6 (hu b.no (by simp))
  unfold admC whC
  rw [hc, h, e1, e2, e3, e4]
  exact ⟨rfl, rfl, rfl, rfl⟩
end Go.Proofs.YtcgocdhhneckhaaGreat
