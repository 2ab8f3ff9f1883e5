/- The loans that a phone holds, from the stocks. -/
import Derived.Test.YthnblhbdfpmolaaPNotemxbm
import Derived.Test.YthnblhbdfpmolaaPNotemxav
namespace Go.Proofs.Ythnblhbdfpmolaa
def hc (i : Int) (m : Nat) (s : StockD) (v : Int) : Option Hold := (lk Loan.p s.L i).map (fun l => ⟨m, l.u, v⟩)
def hoF (i : Int) : Nat → List StockD → List Int → List Hold
  | _, [], _ => []
  | k, s :: r, q => (hc i k s (q.headD 0)).toList ++ hoF i (k + 1) r q.tail
theorem hoF_cons {i : Int} {k : Nat} {s : StockD} {r : List StockD} {q : List Int} : hoF i k (s :: r) q = (hc i k s (q.headD 0)).toList ++ hoF i (k + 1) r q.tail := rfl
theorem headD_getD (q : List Int) : q.headD 0 = q.getD 0 0 := by cases q <;> rfl
theorem tail_getD (q : List Int) (j : Nat) : q.tail.getD j 0 = q.getD (j + 1) 0 := by cases q <;> simp
theorem hc_st {i : Int} {m : Nat} {s : StockD} {v : Int} {h : Hold} (e : hc i m s v = some h) : h.st = m ∧ h.s = v ∧ ∃ l, lk Loan.p s.L i = some l ∧ h.u = l.u := by
  unfold hc at e
  rcases hl : lk Loan.p s.L i with _ | l
  · rw [hl] at e; cases e
  · rw [hl] at e
    simp only [Option.map_some, Option.some.injEq] at e
    subst e
    exact ⟨rfl, rfl, l, rfl, rfl⟩
theorem hoF_mem : ∀ {S : List StockD} {i : Int} {k : Nat} {q : List Int} {h : Hold}, h ∈ hoF i k S q → ∃ j s, S[j]? = some s ∧ hc i (k + j) s (q.getD j 0) = some h
  | [], i, k, q, h, hm => by simp [hoF] at hm
  | s :: r, i, k, q, h, hm => by
    unfold hoF at hm
    rcases List.mem_append.1 hm with hm | hm
    · refine ⟨0, s, rfl, ?_⟩
      rw [headD_getD] at hm
      rcases hh : hc i k s (q.getD 0 0) with _ | h'
      · rw [hh] at hm; simp at hm
      · rw [hh] at hm
        simp only [Option.toList_some, List.mem_singleton] at hm
        rw [hm]
    · obtain ⟨j, s', h1, h2⟩ := hoF_mem hm
      refine ⟨j + 1, s', by simpa using h1, ?_⟩
      rw [tail_getD] at h2
      rw [show k + (j + 1) = k + 1 + j by omega]; exact h2
theorem hoF_ge {S : List StockD} {i : Int} {k : Nat} {q : List Int} {h : Hold} (hm : h ∈ hoF i k S q) : (k : Int) ≤ h.st := by
  obtain ⟨j, s, _, h2⟩ := hoF_mem hm
  have := (hc_st h2).1
  rw [this]; omega
theorem hoF_asc : ∀ (S : List StockD) (i : Int) (k : Nat) (q : List Int), Asc Hold.st (hoF i k S q)
  | [], _, _, _ => List.Pairwise.nil
  | s :: r, i, k, q => by
    unfold hoF
    refine asc_app.2 ⟨?_, hoF_asc r i (k + 1) q.tail, fun a ha b hb => ?_⟩
    · rcases hc i k s (q.headD 0) with _ | h
      · exact List.Pairwise.nil
      · exact List.pairwise_singleton _ _
    · rcases hh : hc i k s (q.headD 0) with _ | h
      · rw [hh] at ha; simp at ha
      · rw [hh] at ha
        simp only [Option.toList_some, List.mem_singleton] at ha
        subst ha
        have h1 := (hc_st hh).1
        have h2 := hoF_ge hb
        rw [h1]; omega
theorem hoF_lkneg {S : List StockD} {i : Int} {k : Nat} {q : List Int} {z : Int} (hz : z < k) : lk Hold.st (hoF i k S q) z = none :=
  lk_none fun a ha => by have := hoF_ge ha; omega
theorem hoF_lk : ∀ (S : List StockD) (i : Int) (k : Nat) (q : List Int) (j : Nat), lk Hold.st (hoF i k S q) ((k + j : Nat) : Int) = match S[j]? with
    | some s => hc i (k + j) s (q.getD j 0)
    | none => none
  | [], i, k, q, j => by simp [hoF, lk_nil]
  | s :: r, i, k, q, j => by
    unfold hoF
    rw [lk_app, headD_getD]
    rcases j with _ | j
    · simp only [Nat.add_zero, List.getElem?_cons_zero]
      rw [hoF_lkneg (by omega)]
      rcases hh : hc i k s (q.getD 0 0) with _ | h
      · simp [lk_nil]
      · have := (hc_st hh).1
        simp [lk_cons, lk_nil, this]
    · rw [lk_none (fun a ha => by
        rcases hh : hc i k s (q.getD 0 0) with _ | h
        · rw [hh] at ha; simp at ha
        · rw [hh] at ha
          simp only [Option.toList_some, List.mem_singleton] at ha
          subst ha
          have := (hc_st hh).1
          rw [this]; omega)]
      have := hoF_lk r i (k + 1) q.tail j
      rw [show k + 1 + j = k + (j + 1) by omega, tail_getD] at this
      rw [Option.none_or, this]
      simp
theorem hoF_ext {H : List Hold} {S : List StockD} {i : Int} {q : List Int} (ha : Asc Hold.st H) (hn : ∀ h, h ∈ H → 0 ≤ h.st) (hl : ∀ j : Nat, lk Hold.st H j = match S[j]? with
    | some s => hc i j s (q.getD j 0)
    | none => none) : H = hoF i 0 S q := by
  refine asc_ext ha (hoF_asc _ _ _ _) (fun z => ?_)
  rcases Int.lt_or_le z 0 with hz | hz
  · rw [hoF_lkneg (by omega), lk_none (fun a h => by have := hn a h; omega)]
  · obtain ⟨j, rfl⟩ := Int.eq_ofNat_of_zero_le hz
    have := hoF_lk S i 0 q j
    rw [Nat.zero_add] at this
    rw [this]; exact hl j
theorem hoF_congr : ∀ {S S' : List StockD} {i : Int} {k : Nat} {q : List Int}, S.length = S'.length → (∀ (m : Nat) s s', S[m]? = some s → S'[m]? = some s' → lk Loan.p s.L i = lk Loan.p s'.L i) → hoF i k S q = hoF i k S' q
  | [], [], _, _, _, _, _ => rfl
  | [], _ :: _, _, _, _, h, _ => by simp at h
  | _ :: _, [], _, _, _, h, _ => by simp at h
  | s :: S, s' :: S', i, k, q, h, hl => by
    unfold hoF
    rw [hoF_congr (S := S) (S' := S') (by simpa using h) (fun m a b ha hb => hl (m + 1) a b (by simpa using ha) (by simpa using hb))]
    congr 2
    unfold hc
    rw [hl 0 s s' rfl rfl]
theorem hoF_nil {S : List StockD} {i : Int} {k : Nat} {q : List Int} (h : ∀ s, s ∈ S → lk Loan.p s.L i = none) : hoF i k S q = [] := by
  rw [List.eq_nil_iff_forall_not_mem]
  intro a ha
  obtain ⟨j, s, h1, h2⟩ := hoF_mem ha
  obtain ⟨_, _, l, h3, _⟩ := hc_st h2
  rw [h s (List.mem_of_getElem? h1)] at h3
  cases h3
theorem hoF_none {S : List StockD} {i : Int} {q : List Int} (h : hoF i 0 S q = []) : ∀ s, s ∈ S → lk Loan.p s.L i = none := by
  intro s hs
  obtain ⟨j, hj, rfl⟩ := List.mem_iff_getElem.1 hs
  have := hoF_lk S i 0 q j
  rw [h, lk_nil, List.getElem?_eq_getElem hj] at this
  simp only [hc] at this
  rcases hl : lk Loan.p S[j].L i with _ | l
  · rfl
  · rw [hl] at this; simp at this
theorem hoF_len : ∀ (S : List StockD) (i : Int) (k : Nat) (q : List Int), (hoF i k S q).length ≤ S.length
  | [], _, _, _ => by simp [hoF]
  | s :: r, i, k, q => by
    unfold hoF
    have := hoF_len r i (k + 1) q.tail
    have h2 : (hc i k s (q.headD 0)).toList.length ≤ 1 := by rcases hc i k s (q.headD 0) with _ | h <;> simp
    rw [List.length_append, List.length_cons]; omega
/-- A hold by its stock. -/
theorem hold_at {H : List Hold} {p : Int} {h : Hold} (ha : Asc Hold.st H) (hl : lk Hold.st H p = some h) : H[hidx H p]? = some h ∧ hhas H p = true := by
  obtain ⟨A, B, hA, hB, hc, hs⟩ := asc_split ha p
  rcases hs with ⟨hL, _⟩ | ⟨h', hp, hL, hy⟩
  · rw [hL, lk_gap hA hB] at hl; cases hl
  · obtain rfl : h' = h := by rw [hL, lk_mid hA hp] at hl; injection hl
    refine ⟨?_, hy⟩
    show H[H.countP (fun a => decide (a.st < p))]? = some h'
    rw [← hc, hL]; exact get_mid
theorem hold_no {H : List Hold} {p : Int} (ha : Asc Hold.st H) (hl : lk Hold.st H p = none) : hhas H p = false := by
  obtain ⟨A, B, hA, hB, hc, hs⟩ := asc_split ha p
  rcases hs with ⟨_, hn⟩ | ⟨h', hp, hL, hy⟩
  · exact hn
  · rw [hL, lk_mid hA hp] at hl; cases hl
theorem fitIn_asc {p : PhoneD} {k : Int} : ∀ {L : List Loan} {c : Int}, Asc Loan.p L → (∀ l, lk Loan.p L p.id = some l → fitOne p k l = true) → fitIn p k c L = some (c + if (lk Loan.p L p.id).isSome then 1 else 0)
  | [], c, _, _ => by simp [fitIn, lk_nil]
  | x :: L, c, ha, hf => by
    obtain ⟨h1, h2⟩ := asc_cons.1 ha
    by_cases hx : x.p = p.id
    · have hl : lk Loan.p (x :: L) p.id = some x := by rw [lk_cons, if_pos hx]
      have hn : lk Loan.p L p.id = none := lk_none fun a h => by have := h1 a h; omega
      rw [fitIn_go hx (hf x hl), fitIn_asc h2 (fun l hl => by rw [hn] at hl; cases hl), hl, hn]
      simp
    · have hl : lk Loan.p (x :: L) p.id = lk Loan.p L p.id := by rw [lk_cons, if_neg hx]
      rw [fitIn_far hx, fitIn_asc h2 (fun l h => hf l (hl.trans h)), hl]
theorem fitGo_hoF {p : PhoneD} : ∀ {S : List StockD} {k : Nat} {q : List Int} {c : Int}, (∀ s, s ∈ S → RightS s) → (∀ (j : Nat) s l, S[j]? = some s → lk Loan.p s.L p.id = some l → fitOne p ((k + j : Nat) : Int) l = true) → fitGo p k c S = some (c + (hoF p.id k S q).length)
  | [], k, q, c, _, _ => by simp [fitGo, hoF]
  | s :: r, k, q, c, hr, hf => by
    have h0 := fitIn_asc (p := p) (k := (k : Int)) (c := c) (hr s (by simp)).asc (fun l hl => by simpa using hf 0 s l rfl hl)
    rw [fitGo_go (rightS_iff.2 (hr s (by simp))) h0]
    have h1 := fitGo_hoF (p := p) (S := r) (k := k + 1) (q := q.tail) (c := c + if (lk Loan.p s.L p.id).isSome then 1 else 0) (fun x hx => hr x (List.mem_cons_of_mem _ hx)) (fun j x l hx hl => by
      have := hf (j + 1) x l (by simpa using hx) hl
      rw [show k + 1 + j = k + (j + 1) by omega]; exact this)
    rw [show ((k : Int) + 1) = ((k + 1 : Nat) : Int) by omega, h1]
    rw [hoF_cons, List.length_append]
    unfold hc
    rcases lk Loan.p s.L p.id with _ | l
    · simp
    · simp; omega
theorem holdsGo_of : ∀ {H : List Hold} {la : Int}, Asc Hold.st H → (∀ h, h ∈ H → la < h.st ∧ 1 ≤ h.u ∧ h.u ≤ 1000000000000000 ∧ 0 ≤ h.s ∧ h.s ≤ h.u) → holdsGo la H = true
  | [], _, _, _ => rfl
  | x :: H, la, ha, hb => by
    obtain ⟨h1, h2⟩ := asc_cons.1 ha
    have hx := hb x (by simp)
    have hr := holdsGo_of (H := H) (la := x.st) h2 (fun h hh => by have := hb h (List.mem_cons_of_mem _ hh); have := h1 h hh; omega)
    rw [holdsGo_go hx.1 (rngB_iff.2 ⟨hx.2.1, hx.2.2.1⟩) (rngB_iff.2 ⟨hx.2.2.2.1, hx.2.2.2.2⟩)]
    exact hr
end Go.Proofs.Ythnblhbdfpmolaa
/- The plain law of MergeSame: to merge is commutative, associative and idempotent, as far as notes agree. -/
namespace Go.Proofs.Ythnblhbdfpmolaa
theorem seenN_out {l : List Int} {i : Nat} (h : l.length ≤ i) : seenN l i = 0 := by unfold seenN; rw [if_neg (by omega)]
theorem same_iff {a b : NoteD} : a.same b = true ↔ (∀ i : Nat, seenN a.af i = seenN b.af i) ∧ a.dev = b.dev ∧ a.seq = b.seq ∧ a.tm = b.tm ∧ a.tx = b.tx := by
  unfold NoteD.same
  simp only [Bool.and_eq_true, decide_eq_true_eq]
  constructor
  · rintro ⟨h, g⟩
    refine ⟨fun i => ?_, g⟩
    rcases Nat.lt_or_ge i (max a.af.length b.af.length) with hi | hi
    · exact h i hi
    · rw [seenN_out (by omega), seenN_out (by omega)]
  · rintro ⟨h, g⟩
    exact ⟨fun i _ => h i, g⟩
theorem same_symm {a b : NoteD} (h : a.same b = true) : b.same a = true := by
  rw [same_iff] at *
  exact ⟨fun i => (h.1 i).symm, h.2.1.symm, h.2.2.1.symm, h.2.2.2.1.symm, h.2.2.2.2.symm⟩
theorem same_trans {a b c : NoteD} (h : a.same b = true) (g : b.same c = true) : a.same c = true := by
  rw [same_iff] at *
  exact ⟨fun i => (h.1 i).trans (g.1 i), h.2.1.trans g.2.1, h.2.2.1.trans g.2.2.1, h.2.2.2.1.trans g.2.2.2.1, h.2.2.2.2.trans g.2.2.2.2⟩
theorem same_key {a b : NoteD} (h : a.same b = true) : a.dev = b.dev ∧ a.seq = b.seq := by rw [same_iff] at h; exact ⟨h.2.1, h.2.2.1⟩
def KeyN (a b : NoteD) : Prop := a.dev = b.dev ∧ a.seq = b.seq
def ClashN (l : List NoteD) : Prop := ∃ x, x ∈ l ∧ ∃ y, y ∈ l ∧ KeyN x y ∧ x.same y = false
def CoverN (l m : List NoteD) : Prop := ∀ x, x ∈ l → ∃ y, y ∈ m ∧ y.same x = true
theorem CoverN.of_mem {l m : List NoteD} (h : ∀ x, x ∈ l → x ∈ m) : CoverN l m := fun x hx => ⟨x, h x hx, NoteD.same_refl x⟩
theorem CoverN.trans {l m k : List NoteD} (h : CoverN l m) (g : CoverN m k) : CoverN l k := by
  intro x hx
  obtain ⟨y, hy, hs⟩ := h x hx
  obtain ⟨z, hz, hs'⟩ := g y hy
  exact ⟨z, hz, same_trans hs' hs⟩
theorem CoverN.app {l m k : List NoteD} (h : CoverN l k) (g : CoverN m k) : CoverN (l ++ m) k := by
  intro x hx
  rcases List.mem_append.1 hx with h' | h'
  · exact h x h'
  · exact g x h'
theorem CoverN.left {l m k : List NoteD} (h : CoverN l m) : CoverN l (m ++ k) := h.trans (CoverN.of_mem fun _ hx => List.mem_append.2 (.inl hx))
theorem CoverN.right {l m k : List NoteD} (h : CoverN l m) : CoverN l (k ++ m) := h.trans (CoverN.of_mem fun _ hx => List.mem_append.2 (.inr hx))
theorem ClashN.cover {l m : List NoteD} (hc : CoverN l m) (h : ClashN l) : ClashN m := by
  obtain ⟨x, hx, y, hy, hk, hn⟩ := h
  obtain ⟨x', hx', hsx⟩ := hc x hx
  obtain ⟨y', hy', hsy⟩ := hc y hy
  have kx := same_key hsx
  have ky := same_key hsy
  refine ⟨x', hx', y', hy', ⟨kx.1.trans (hk.1.trans ky.1.symm), kx.2.trans (hk.2.trans ky.2.symm)⟩, ?_⟩
  rcases hs : x'.same y' with _ | _
  · rfl
  · have := same_trans (same_symm hsx) (same_trans hs hsy)
    rw [hn] at this; cases this
theorem foldP_some : ∀ {l out o : List NoteD}, foldP out l = some o → (∀ x, x ∈ o → x ∈ out ∨ x ∈ l) ∧ (∀ x, x ∈ out → x ∈ o) ∧ CoverN l o ∧ o.length ≤ out.length + l.length
  | [], out, o, h => by
    unfold foldP at h; cases h
    exact ⟨fun x hx => .inl hx, fun x hx => hx, fun x hx => (by cases hx), by simp⟩
  | n :: l, out, o, h => by
    unfold foldP at h
    split at h
    · rename_i p hp
      split at h
      · rename_i hs
        obtain ⟨h1, h2, h3, h4⟩ := foldP_some h
        refine ⟨fun x hx => ?_, h2, fun x hx => ?_, by simp only [List.length_cons]; omega⟩
        · rcases h1 x hx with h | h
          · exact .inl h
          · exact .inr (List.mem_cons_of_mem _ h)
        · rcases List.mem_cons.1 hx with rfl | hx
          · exact ⟨p, h2 p (List.mem_of_find?_eq_some hp), hs⟩
          · exact h3 x hx
      · cases h
    · obtain ⟨h1, h2, h3, h4⟩ := foldP_some h
      refine ⟨fun x hx => ?_, fun x hx => h2 x (List.mem_append.2 (.inl hx)), fun x hx => ?_, by simp only [List.length_append, List.length_singleton] at h4; simp only [List.length_cons]; omega⟩
      · rcases h1 x hx with h | h
        · rcases List.mem_append.1 h with h | h
          · exact .inl h
          · rw [List.mem_singleton.1 h]; exact .inr (List.mem_cons_self ..)
        · exact .inr (List.mem_cons_of_mem _ h)
      · rcases List.mem_cons.1 hx with rfl | hx
        · exact ⟨x, h2 x (List.mem_append.2 (.inr (List.mem_singleton.2 rfl))), NoteD.same_refl x⟩
        · exact h3 x hx
theorem foldP_none : ∀ {l out : List NoteD}, foldP out l = none → ClashN (out ++ l)
  | [], out, h => by unfold foldP at h; cases h
  | n :: l, out, h => by
    unfold foldP at h
    split at h
    · rename_i p hp
      have hpo := List.mem_of_find?_eq_some hp
      have hpk := isK_iff.1 (List.find?_some hp)
      split at h
      · exact (foldP_none h).cover (CoverN.of_mem fun x hx => by
          rcases List.mem_append.1 hx with h | h
          · exact List.mem_append.2 (.inl h)
          · exact List.mem_append.2 (.inr (List.mem_cons_of_mem _ h)))
      · rename_i hs
        exact ⟨p, List.mem_append.2 (.inl hpo), n, List.mem_append.2 (.inr (List.mem_cons_self ..)), hpk, by simpa using hs⟩
    · exact (foldP_none h).cover (CoverN.of_mem fun x hx => by
        simp only [List.mem_append, List.mem_cons, List.not_mem_nil, or_false] at hx ⊢
        rcases hx with (h | h) | h
        · exact .inl h
        · exact .inr (.inl h)
        · exact .inr (.inr h))
theorem apart_clash {o : List NoteD} (h : o.Pairwise ApartN) : ¬ ClashN o := by
  rintro ⟨x, hx, y, hy, hk, hn⟩
  by_cases he : x = y
  · subst he; rw [NoteD.same_refl] at hn; cases hn
  · rcases List.mem_iff_getElem.1 hx with ⟨i, hi, rfl⟩
    rcases List.mem_iff_getElem.1 hy with ⟨j, hj, rfl⟩
    rw [List.pairwise_iff_getElem] at h
    rcases Nat.lt_trichotomy i j with hij | hij | hij
    · exact h i j hi hj hij hk
    · subst hij; exact he rfl
    · exact h j i hj hi hij ⟨hk.1.symm, hk.2.symm⟩
/-- What a merging that is accepted gives. -/
structure MgdN (a b r : List NoteD) : Prop where
  ra : notesR a = true
  rb : notesR b = true
  sorted : r.Pairwise LtN
  mem : ∀ x, x ∈ r → x ∈ a ∨ x ∈ b
  ca : CoverN a r
  cb : CoverN b r
  len : r.length ≤ a.length + b.length
  clash : ¬ ClashN (a ++ b)
theorem merge_cases (a b : List NoteD) : ((mergeN a b).2 = 0 ∧ MgdN a b (mergeN a b).1) ∨ ((mergeN a b).1 = [] ∧ (((mergeN a b).2 = 1 ∧ (notesR a && notesR b) = false) ∨ ((mergeN a b).2 = 23 ∧ notesR a = true ∧ notesR b = true ∧ ClashN (a ++ b)))) := by
  unfold mergeN
  rcases hR : (notesR a && notesR b) with _ | _
  · right; exact ⟨rfl, .inl ⟨rfl, rfl⟩⟩
  · rw [Bool.and_eq_true] at hR
    rcases hf : foldP [] (a ++ b) with _ | o
    · right; exact ⟨rfl, .inr ⟨rfl, hR.1, hR.2, by have := foldP_none hf; simpa using this⟩⟩
    · left
      have ha := foldP_apart List.Pairwise.nil hf
      obtain ⟨h1, h2, h3, h4⟩ := foldP_some hf
      have hp := sortN_perm o
      have hc : CoverN (a ++ b) (sortN o) := h3.trans (CoverN.of_mem fun x hx => hp.mem_iff.2 hx)
      refine ⟨rfl, hR.1, hR.2, sortN_sorted ha, fun x hx => ?_, fun x hx => hc x (List.mem_append.2 (.inl hx)), fun x hx => hc x (List.mem_append.2 (.inr hx)), ?_, fun hk => apart_clash ha (hk.cover h3)⟩
      · rcases h1 x (hp.mem_iff.1 hx) with h | h
        · cases h
        · exact List.mem_append.1 h
      · show (sortN o).length ≤ _
        rw [hp.length_eq]; simpa using h4
theorem merge_zero {a b : List NoteD} (h : (mergeN a b).2 = 0) : MgdN a b (mergeN a b).1 := by
  rcases merge_cases a b with ⟨_, g⟩ | ⟨_, ⟨g, _⟩ | ⟨g, _⟩⟩
  · exact g
  · rw [h] at g; cases g
  · rw [h] at g; cases g
theorem merge_ok {a b : List NoteD} (ha : notesR a = true) (hb : notesR b = true) (hc : ¬ ClashN (a ++ b)) : (mergeN a b).2 = 0 := by
  rcases merge_cases a b with ⟨g, _⟩ | ⟨_, ⟨_, g⟩ | ⟨_, _, _, g⟩⟩
  · exact g
  · rw [ha, hb] at g; cases g
  · exact absurd g hc
theorem merge_len (a b : List NoteD) : (mergeN a b).1.length ≤ a.length + b.length := by
  rcases merge_cases a b with ⟨_, g⟩ | ⟨g, _⟩
  · exact g.len
  · rw [g]; simp
theorem merge_no_list {a b : List NoteD} (h : (mergeN a b).2 ≠ 0) : (mergeN a b).1 = [] ∧ ((mergeN a b).2 = 1 ∨ (mergeN a b).2 = 23) := by
  rcases merge_cases a b with ⟨g, _⟩ | ⟨g, ⟨g2, _⟩ | ⟨g2, _⟩⟩
  · exact absurd g h
  · exact ⟨g, .inl g2⟩
  · exact ⟨g, .inr g2⟩
theorem MgdN.right {a b r : List NoteD} (h : MgdN a b r) (hl : a.length + b.length ≤ 10000) : notesR r = true := by
  have h1 := h.ra
  have h2 := h.rb
  simp only [notesR, Bool.and_eq_true, decide_eq_true_eq, List.all_eq_true] at *
  refine ⟨Nat.le_trans h.len hl, fun x hx => ?_⟩
  rcases h.mem x hx with g | g
  · exact h1.2 x g
  · exact h2.2 x g
/-- Two sorted lists that have the same notes are the same lists. -/
theorem lists_cover : ∀ {l m : List NoteD}, l.Pairwise LtN → m.Pairwise LtN → CoverN l m → CoverN m l → listsN l m = true
  | [], [], _, _, _, _ => rfl
  | [], y :: m, _, _, _, h => by obtain ⟨z, hz, _⟩ := h y (List.mem_cons_self ..); cases hz
  | x :: l, [], _, _, h, _ => by obtain ⟨z, hz, _⟩ := h x (List.mem_cons_self ..); cases hz
  | x :: l, y :: m, hl, hm, h, g => by
    obtain ⟨hl1, hl2⟩ := List.pairwise_cons.1 hl
    obtain ⟨hm1, hm2⟩ := List.pairwise_cons.1 hm
    have key_lt : ∀ {a b c d : NoteD}, a.same c = true → b.same d = true → LtN a b → LtN c d := by
      intro a b c d h1 h2 h3
      have k1 := same_key h1
      have k2 := same_key h2
      unfold LtN at *
      rw [lessN_iff] at *
      omega
    have hxy : x.same y = true := by
      obtain ⟨y', hy', hs⟩ := h x (List.mem_cons_self ..)
      obtain ⟨x', hx', hs'⟩ := g y (List.mem_cons_self ..)
      rcases List.mem_cons.1 hy' with rfl | hy'
      · exact same_symm hs
      · rcases List.mem_cons.1 hx' with rfl | hx'
        · exact hs'
        · have l1 := hl1 x' hx'
          have l2 : LtN x' x := key_lt (same_symm hs') hs (hm1 y' hy')
          exact absurd l1 l2.asymm
    have tail : ∀ {x y : NoteD} {l m : List NoteD}, x.same y = true → (∀ z, z ∈ l → LtN x z) → CoverN (x :: l) (y :: m) → CoverN l m := by
      intro x y l m hxy hlt hc z hz
      obtain ⟨z', hz', hs⟩ := hc z (List.mem_cons_of_mem _ hz)
      rcases List.mem_cons.1 hz' with rfl | hz'
      · have := same_key (same_trans hxy hs)
        have hz2 := hlt z hz
        unfold LtN at hz2
        rw [lessN_iff] at hz2
        omega
      · exact ⟨z', hz', hs⟩
    simp only [listsN, Bool.and_eq_true]
    exact ⟨hxy, lists_cover hl2 hm2 (tail hxy hl1 h) (tail (same_symm hxy) hm1 g)⟩
theorem clash_comm {a b : List NoteD} (h : ClashN (a ++ b)) : ClashN (b ++ a) := h.cover (CoverN.of_mem fun x hx => by
  rcases List.mem_append.1 hx with h | h
  · exact List.mem_append.2 (.inr h)
  · exact List.mem_append.2 (.inl h))
/-- Commutative. -/
theorem merge_comm (a b : List NoteD) : (mergeN a b).2 = (mergeN b a).2 ∧ listsN (mergeN a b).1 (mergeN b a).1 = true := by
  rcases merge_cases a b with ⟨g, h⟩ | ⟨g, ⟨g2, h⟩ | ⟨g2, h1, h2, h⟩⟩
  · have h' := merge_ok h.rb h.ra (fun hc => h.clash (clash_comm hc))
    have m := merge_zero h'
    exact ⟨g.trans h'.symm, lists_cover h.sorted m.sorted ((CoverN.of_mem fun x hx => List.mem_append.2 (h.mem x hx)).trans (m.cb.app m.ca)) ((CoverN.of_mem fun x hx => List.mem_append.2 (m.mem x hx)).trans (h.cb.app h.ca))⟩
  · rcases merge_cases b a with ⟨g', h'⟩ | ⟨g', ⟨g2', h'⟩ | ⟨g2', h1', h2', h'⟩⟩
    · rw [h'.ra, h'.rb] at h; cases h
    · exact ⟨g2.trans g2'.symm, by rw [g, g']; rfl⟩
    · rw [h1', h2'] at h; cases h
  · rcases merge_cases b a with ⟨g', h'⟩ | ⟨g', ⟨g2', h'⟩ | ⟨g2', h1', h2', h'⟩⟩
    · exact absurd (clash_comm h) h'.clash
    · rw [h1, h2] at h'; cases h'
    · exact ⟨g2.trans g2'.symm, by rw [g, g']; rfl⟩
/-- Idempotent. -/
theorem merge_idem {a b : List NoteD} (h : (mergeN a b).2 = 0) (hl : a.length + b.length ≤ 10000) : (mergeN (mergeN a b).1 (mergeN a b).1).2 = 0 ∧ listsN (mergeN a b).1 (mergeN (mergeN a b).1 (mergeN a b).1).1 = true := by
  have m := merge_zero h
  have hr := m.right hl
  generalize (mergeN a b).1 = r at *
  have h' := merge_ok hr hr (fun hc => apart_clash (m.sorted.imp LtN.apart) (hc.cover ((CoverN.of_mem fun x hx => hx).app (CoverN.of_mem fun x hx => hx))))
  have m' := merge_zero h'
  exact ⟨h', lists_cover m.sorted m'.sorted m'.ca (CoverN.of_mem fun x hx => (m'.mem x hx).elim id id)⟩
/-- Associative. -/
theorem merge_assoc {a b c : List NoteD} (h : (mergeN a b).2 = 0) (hl : a.length + b.length + c.length ≤ 10000) :
    ((mergeN (mergeN a b).1 c).2 = 0 → (mergeN b c).2 = 0 ∧ (mergeN a (mergeN b c).1).2 = 0 ∧ listsN (mergeN (mergeN a b).1 c).1 (mergeN a (mergeN b c).1).1 = true) ∧
    ((mergeN b c).2 = 0 → (mergeN a (mergeN b c).1).2 = 0 → (mergeN (mergeN a b).1 c).2 = 0) := by
  have m := merge_zero h
  have hr := m.right (by omega)
  constructor
  · intro h1
    have m1 := merge_zero h1
    have cab : CoverN b ((mergeN a b).1 ++ c) := m.cb.left
    have hbc := merge_ok m.rb m1.rb (fun hc => m1.clash (hc.cover (cab.app (CoverN.of_mem fun x hx => List.mem_append.2 (.inr hx)))))
    have m2 := merge_zero hbc
    have hr2 := m2.right (by omega)
    have c2 : CoverN (mergeN b c).1 ((mergeN a b).1 ++ c) := (CoverN.of_mem fun x hx => List.mem_append.2 (m2.mem x hx)).trans (cab.app (CoverN.of_mem fun x hx => List.mem_append.2 (.inr hx)))
    have h3 := merge_ok m.ra hr2 (fun hc => m1.clash (hc.cover (m.ca.left.app c2)))
    have m3 := merge_zero h3
    refine ⟨hbc, h3, lists_cover m1.sorted m3.sorted ?_ ?_⟩
    · refine (CoverN.of_mem fun x hx => List.mem_append.2 (m1.mem x hx)).trans (CoverN.app ?_ (m2.cb.trans m3.cb))
      exact (CoverN.of_mem fun x hx => List.mem_append.2 (m.mem x hx)).trans (CoverN.app m3.ca (m2.ca.trans m3.cb))
    · refine (CoverN.of_mem fun x hx => List.mem_append.2 (m3.mem x hx)).trans (CoverN.app (m.ca.trans m1.ca) ?_)
      exact c2.trans (m1.ca.app m1.cb)
  · intro h2 h3
    have m2 := merge_zero h2
    have m3 := merge_zero h3
    have c1 : CoverN (mergeN a b).1 (a ++ (mergeN b c).1) := (CoverN.of_mem fun x hx => List.mem_append.2 (m.mem x hx)).trans ((CoverN.of_mem fun x hx => List.mem_append.2 (.inl hx)).app m2.ca.right)
    exact merge_ok hr m2.rb (fun hc => m3.clash (hc.cover (c1.app m2.cb.right)))
def hasN (l : List NoteD) (n : NoteD) : Bool := l.any fun x => x.same n
theorem hasN_cover {l m : List NoteD} (h : CoverN l m) {x : NoteD} (hx : x ∈ l) : hasN m x = true := by
  obtain ⟨y, hy, hs⟩ := h x hx
  exact List.any_eq_true.2 ⟨y, hy, hs⟩
theorem hasN_mem {l : List NoteD} {x : NoteD} (hx : x ∈ l) : hasN l x = true := List.any_eq_true.2 ⟨x, hx, NoteD.same_refl x⟩
end Go.Proofs.Ythnblhbdfpmolaa
