/- The plain law of merging notes, and of their order. It holds without condition. -/
import Derived.Test.YthnblhbdfpmolaaPNotemxau
namespace Go.Proofs.Ythnblhbdfpmolaa
def lessN (a b : NoteD) : Bool := decide (a.dev < b.dev) || (decide (a.dev = b.dev) && decide (a.seq < b.seq))
def isK (d s : Int) (n : NoteD) : Bool := decide (n.dev = d) && decide (n.seq = s)
theorem lessN_iff {a b : NoteD} : lessN a b = true ↔ a.dev < b.dev ∨ (a.dev = b.dev ∧ a.seq < b.seq) := by simp [lessN]
theorem isK_iff {d s : Int} {n : NoteD} : isK d s n = true ↔ n.dev = d ∧ n.seq = s := by simp [isK]
def LtN (a b : NoteD) : Prop := lessN a b = true
theorem LtN.trans {a b c : NoteD} (h : LtN a b) (g : LtN b c) : LtN a c := by
  unfold LtN at *; rw [lessN_iff] at *; omega
theorem LtN.asymm {a b : NoteD} (h : LtN a b) : ¬ LtN b a := by
  unfold LtN at *; rw [lessN_iff] at *; omega
/-- Different places. -/
def ApartN (a b : NoteD) : Prop := ¬ (a.dev = b.dev ∧ a.seq = b.seq)
theorem ApartN.symm {a b : NoteD} (h : ApartN a b) : ApartN b a := fun g => h ⟨g.1.symm, g.2.symm⟩
theorem LtN.apart {a b : NoteD} (h : LtN a b) : ApartN a b := by
  unfold LtN at h; rw [lessN_iff] at h; unfold ApartN; omega
theorem ApartN.lt {a b : NoteD} (h : ApartN a b) : LtN a b ∨ LtN b a := by
  unfold LtN ApartN at *; rw [lessN_iff, lessN_iff]; omega
theorem apart_isK {a b : NoteD} : ApartN a b ↔ isK b.dev b.seq a = false := by
  unfold ApartN isK; simp
def insN (n : NoteD) : List NoteD → List NoteD
  | [] => [n]
  | x :: l => if lessN x n then x :: insN n l else n :: x :: l
def sortN (l : List NoteD) : List NoteD := l.foldr insN []
theorem insN_perm (n : NoteD) : ∀ l : List NoteD, (insN n l).Perm (n :: l)
  | [] => List.Perm.refl _
  | x :: l => by
    unfold insN
    split
    · exact ((insN_perm n l).cons x).trans (List.Perm.swap n x l)
    · exact List.Perm.refl _
theorem sortN_perm : ∀ l : List NoteD, (sortN l).Perm l
  | [] => List.Perm.refl _
  | x :: l => (insN_perm x _).trans ((sortN_perm l).cons x)
theorem insN_sorted {n : NoteD} : ∀ {l : List NoteD}, l.Pairwise LtN → (∀ m, m ∈ l → ApartN m n) → (insN n l).Pairwise LtN
  | [], _, _ => List.pairwise_singleton _ _
  | x :: l, h, hn => by
    obtain ⟨h1, h2⟩ := List.pairwise_cons.1 h
    unfold insN
    split
    · rename_i hx
      refine List.pairwise_cons.2 ⟨fun m hm => ?_, insN_sorted h2 (fun m hm => hn m (List.mem_cons_of_mem _ hm))⟩
      rcases List.mem_cons.1 ((insN_perm n l).mem_iff.1 hm) with rfl | hm
      · exact hx
      · exact h1 m hm
    · rename_i hx
      have hnx : LtN n x := by
        rcases (hn x (List.mem_cons_self ..)).lt with h' | h'
        · exact absurd h' hx
        · exact h'
      refine List.pairwise_cons.2 ⟨fun m hm => ?_, h⟩
      rcases List.mem_cons.1 hm with rfl | hm
      · exact hnx
      · exact hnx.trans (h1 m hm)
theorem sortN_sorted : ∀ {l : List NoteD}, l.Pairwise ApartN → (sortN l).Pairwise LtN
  | [], _ => List.Pairwise.nil
  | x :: l, h => by
    obtain ⟨h1, h2⟩ := List.pairwise_cons.1 h
    exact insN_sorted (sortN_sorted h2) (fun m hm => (h1 m ((sortN_perm l).mem_iff.1 hm)).symm)
theorem sorted_one {l m : List NoteD} (hp : l.Perm m) (hl : l.Pairwise LtN) (hm : m.Pairwise LtN) : l = m :=
  List.Perm.eq_of_pairwise (le := LtN) (fun a b _ _ h g => absurd g h.asymm) hl hm hp
/-- A list sorted so that nothing stands ahead of something less, with places all different, is the sorted list. -/
theorem sorted_is {l m : List NoteD} (hp : l.Perm m) (hm : m.Pairwise ApartN) (hs : l.Pairwise (fun a b => ¬ LtN b a)) : l = sortN m := by
  have hl : l.Pairwise ApartN := (hp.pairwise_iff (fun {a b} h => ApartN.symm h)).2 hm
  refine sorted_one (hp.trans (sortN_perm m).symm) ?_ (sortN_sorted hm)
  refine List.Pairwise.imp₂ (fun a b h g => ?_) hs hl
  rcases g.lt with h' | h'
  · exact h'
  · exact absurd h' h
def foldP : List NoteD → List NoteD → Option (List NoteD)
  | out, [] => some out
  | out, n :: l => match out.find? (isK n.dev n.seq) with
    | some o => if o.same n then foldP out l else none
    | none => foldP (out ++ [n]) l
def foldR : List NoteD → List NoteD → Option (List NoteD)
  | out, [] => some out
  | out, n :: l => match out.find? (isK n.dev n.seq) with
    | some o => if o.same n then foldR out l else none
    | none => foldR (insN n out) l
theorem find_apart {l : List NoteD} {d s : Int} : l.Pairwise ApartN → ∀ {x : NoteD}, x ∈ l → isK d s x = true → l.find? (isK d s) = some x := by
  intro h x hx hk
  rcases hf : l.find? (isK d s) with _ | y
  · rw [List.find?_eq_none] at hf
    exact absurd hk (hf x hx)
  · have hy := List.mem_of_find?_eq_some hf
    have hyk := List.find?_some hf
    rw [isK_iff] at hk hyk
    by_cases hxy : x = y
    · rw [hxy]
    · exfalso
      rcases List.mem_iff_getElem.1 hx with ⟨i, hi, rfl⟩
      rcases List.mem_iff_getElem.1 hy with ⟨j, hj, rfl⟩
      rw [List.pairwise_iff_getElem] at h
      rcases Nat.lt_trichotomy i j with hij | hij | hij
      · exact h i j hi hj hij ⟨hk.1.trans hyk.1.symm, hk.2.trans hyk.2.symm⟩
      · subst hij; exact hxy rfl
      · exact h j i hj hi hij ⟨hyk.1.trans hk.1.symm, hyk.2.trans hk.2.symm⟩
theorem find_perm {l m : List NoteD} (hp : l.Perm m) (hl : l.Pairwise ApartN) (d s : Int) : l.find? (isK d s) = m.find? (isK d s) := by
  have hm : m.Pairwise ApartN := (hp.pairwise_iff (fun {a b} h => ApartN.symm h)).1 hl
  rcases hf : m.find? (isK d s) with _ | y
  · rw [List.find?_eq_none] at hf ⊢
    exact fun x hx => hf x (hp.mem_iff.1 hx)
  · exact find_apart hl (hp.mem_iff.2 (List.mem_of_find?_eq_some hf)) (List.find?_some hf)
theorem find_no {out : List NoteD} {n : NoteD} (h : out.find? (isK n.dev n.seq) = none) : ∀ m, m ∈ out → ApartN m n := by
  intro m hm
  rw [List.find?_eq_none] at h
  rw [apart_isK]; simpa using h m hm
theorem apart_snoc {out : List NoteD} {n : NoteD} (h : out.Pairwise ApartN) (hn : ∀ m, m ∈ out → ApartN m n) : (out ++ [n]).Pairwise ApartN := by
  rw [List.pairwise_append]
  exact ⟨h, List.pairwise_singleton _ _, fun a ha b hb => by rw [List.mem_singleton.1 hb]; exact hn a ha⟩
theorem foldP_apart : ∀ {l out o : List NoteD}, out.Pairwise ApartN → foldP out l = some o → o.Pairwise ApartN
  | [], out, o, h, he => by unfold foldP at he; cases he; exact h
  | n :: l, out, o, h, he => by
    unfold foldP at he
    split at he
    · split at he
      · exact foldP_apart h he
      · cases he
    · rename_i hf
      exact foldP_apart (apart_snoc h (find_no hf)) he
theorem foldP_R : ∀ {l out out' : List NoteD}, out'.Perm out → out'.Pairwise LtN → foldR out' l = (foldP out l).map sortN
  | [], out, out', hp, hs => by
    have ha : out.Pairwise ApartN := (hp.pairwise_iff (fun {a b} h => ApartN.symm h)).1 (hs.imp LtN.apart)
    simp only [foldR, foldP, Option.map_some]
    rw [sorted_one (hp.trans (sortN_perm out).symm) hs (sortN_sorted ha)]
  | n :: l, out, out', hp, hs => by
    have ha' := hs.imp LtN.apart
    have hf := find_perm hp ha' n.dev n.seq
    unfold foldR foldP
    rw [hf]
    split
    · split
      · exact foldP_R hp hs
      · rfl
    · rename_i hn
      rw [← hf] at hn
      exact foldP_R ((insN_perm n out').trans ((hp.cons n).trans (List.perm_append_singleton n out).symm)) (insN_sorted hs (find_no hn))
def mergeN (a b : List NoteD) : List NoteD × Int :=
  if notesR a && notesR b then (match foldP [] (a ++ b) with | none => ([], 23) | some o => (sortN o, 0)) else ([], 1)
theorem mergeN_R (a b : List NoteD) : mergeN a b = if notesR a && notesR b then (match foldR [] (a ++ b) with | none => (([], 23) : List NoteD × Int) | some o => (o, 0)) else ([], 1) := by
  unfold mergeN
  rw [foldP_R (List.Perm.refl []) List.Pairwise.nil]
  split
  · rcases foldP [] (a ++ b) with _ | o <;> rfl
  · rfl
instance : Inhabited NoteD := ⟨⟨0, 0, [], 0, ByteArray.empty⟩⟩
def at! (l : List NoteD) (i : Nat) : NoteD := l.getD i default
theorem at!_eq {l : List NoteD} {i : Nat} (h : i < l.length) : at! l i = l[i] := by simp [at!, List.getD, h]
def atN (l : List NoteD) (d s : Int) : Option Nat := l.findIdx? (isK d s)
/-- What stands wrong among right notes: nothing twice, nothing that is missing. -/
def dupN : List NoteD → Bool
  | [] => false
  | n :: l => l.any (isK n.dev n.seq) || dupN l
theorem dupN_apart : ∀ {l : List NoteD}, dupN l = false → l.Pairwise ApartN
  | [], _ => List.Pairwise.nil
  | n :: l, h => by
    simp only [dupN, Bool.or_eq_false_iff] at h
    refine List.pairwise_cons.2 ⟨fun m hm => ?_, dupN_apart h.2⟩
    have := List.any_eq_false.1 h.1 m hm
    exact (apart_isK.2 (by simpa using this)).symm
def missOne (l : List NoteD) (n : NoteD) : Bool :=
  (decide (0 < n.seq) && !l.any (isK n.dev (n.seq - 1))) || (List.range n.af.length).any (fun k => decide (0 < seenN n.af k) && !l.any (isK k (seenN n.af k - 1)))
def missN (l : List NoteD) : Bool := l.any (missOne l)
def placesE (l : List NoteD) : Int := if dupN l then 5 else if missN l then 18 else 0
def rdyN (n : NoteD) (dn : List Int) : Bool := decide (∀ d, d < dn.length → (d : Int) = n.dev ∨ seenN n.af d ≤ dn.getD d 0)
def candN (l : List NoteD) (dn : List Int) (d : Nat) : Option Nat := match atN l d (dn.getD d 0) with
  | some i => if rdyN (at! l i) dn then some i else none
  | none => none
def upN (l : List NoteD) (b : Option Nat) (i : Nat) : Option Nat := match b with
  | none => some i
  | some j => if (at! l i).tm < (at! l j).tm then some i else some j
def bestU (l : List NoteD) (dn : List Int) : Nat → Option Nat
  | 0 => none
  | d + 1 => match candN l dn d with
    | none => bestU l dn d
    | some i => upN l (bestU l dn d) i
def bumpN (dn : List Int) (d : Int) : List Int := dn.set d.toNat (dn.getD d.toNat 0 + 1)
def ordLoop (l : List NoteD) : Nat → List Int → List Nat → List Nat × Int
  | 0, _, out => (out, 0)
  | k + 1, dn, out => match bestU l dn 12 with
    | none => ([], 25)
    | some b => ordLoop l k (bumpN dn (at! l b).dev) (out ++ [b])
def ordN (l : List NoteD) : List Nat × Int :=
  if notesR l then (if placesE l = 0 then ordLoop l l.length (List.replicate 12 0) [] else ([], placesE l)) else ([], 1)
/-! the reference -/
def befN (a b : NoteD) : Bool := if a.dev = b.dev then decide (a.seq < b.seq) else decide (a.seq < seenN b.af a.dev)
def beforeN (a b : NoteD) : Bool := a.right && (b.right && befN a b)
def firstN (a b : NoteD) : Bool := if a.tm ≠ b.tm then decide (a.tm < b.tm) else lessN a b
def rdyR (l : List NoteD) (out : List Nat) (i : Nat) : Bool := !out.contains i && (List.range l.length).all (fun k => out.contains k || !beforeN (at! l k) (at! l i))
def bestR (l : List NoteD) (out : List Nat) : Nat → Option Nat
  | 0 => none
  | i + 1 => if rdyR l out i && (match bestR l out i with | none => true | some j => firstN (at! l i) (at! l j)) then some i else bestR l out i
def ordLoopR (l : List NoteD) : Nat → List Nat → List Nat × Int
  | 0, out => (out, 0)
  | k + 1, out => match bestR l out l.length with
    | none => ([], 25)
    | some b => ordLoopR l k (out ++ [b])
theorem firstN_iff {a b : NoteD} : firstN a b = true ↔ a.tm < b.tm ∨ (a.tm = b.tm ∧ LtN a b) := by
  unfold firstN LtN
  split
  · simp; omega
  · rename_i h; simp only [ne_eq, Decidable.not_not] at h; rw [h]; simp
theorem firstN_trans {a b c : NoteD} (h : firstN a b = true) (g : firstN b c = true) : firstN a c = true := by
  rw [firstN_iff] at *
  rcases h with h | ⟨h, h'⟩ <;> rcases g with g | ⟨g, g'⟩
  · exact .inl (by omega)
  · exact .inl (by omega)
  · exact .inl (by omega)
  · exact .inr ⟨by omega, h'.trans g'⟩
theorem firstN_asymm {a b : NoteD} (h : firstN a b = true) : ¬ firstN b a = true := by
  rw [firstN_iff] at *
  rintro (g | ⟨g, g'⟩)
  · rcases h with h | ⟨h, _⟩ <;> omega
  · rcases h with h | ⟨_, h'⟩
    · omega
    · exact g'.asymm h'
theorem firstN_total {a b : NoteD} (h : ApartN a b) : firstN a b = true ∨ firstN b a = true := by
  rw [firstN_iff, firstN_iff]
  rcases Int.lt_trichotomy a.tm b.tm with h' | h' | h'
  · exact .inl (.inl h')
  · rcases h.lt with g | g
    · exact .inl (.inr ⟨h', g⟩)
    · exact .inr (.inr ⟨h'.symm, g⟩)
  · exact .inr (.inl h')
/-- What placesE = 0 says. -/
structure Whole (l : List NoteD) : Prop where
  apart : l.Pairwise ApartN
  right : ∀ n, n ∈ l → n.right = true
  prev : ∀ n, n ∈ l → 0 < n.seq → ∃ m, m ∈ l ∧ m.dev = n.dev ∧ m.seq = n.seq - 1
  seen : ∀ n, n ∈ l → ∀ d : Int, 0 < seenN n.af d → ∃ m, m ∈ l ∧ m.dev = d ∧ m.seq = seenN n.af d - 1
theorem seenN_pos {l : List Int} {d : Int} (h : 0 < seenN l d) : 0 ≤ d ∧ d < l.length := by
  unfold seenN at h
  split at h
  · assumption
  · omega
theorem whole_of {l : List NoteD} (hr : notesR l = true) (h : placesE l = 0) : Whole l := by
  unfold placesE at h
  rcases hd : dupN l with _ | _
  · rw [hd] at h
    rcases hm : missN l with _ | _
    · rw [missN, List.any_eq_false] at hm
      have hsplit : ∀ n, n ∈ l → (0 < n.seq → l.any (isK n.dev (n.seq - 1)) = true) ∧ ∀ k, k < n.af.length → 0 < seenN n.af k → l.any (isK k (seenN n.af k - 1)) = true := by
        intro n hn
        have := hm n hn
        simp only [missOne, Bool.or_eq_true, not_or, Bool.and_eq_true, decide_eq_true_eq, Bool.not_eq_true', not_and, Bool.not_eq_false] at this
        refine ⟨this.1, fun k hk h0 => ?_⟩
        have h2 := this.2
        rw [Bool.not_eq_true, List.any_eq_false] at h2
        have := h2 k (List.mem_range.2 hk)
        simp only [Bool.and_eq_true, decide_eq_true_eq, Bool.not_eq_true', not_and, Bool.not_eq_false] at this
        exact this h0
      have hex : ∀ {d s : Int}, l.any (isK d s) = true → ∃ m, m ∈ l ∧ m.dev = d ∧ m.seq = s := by
        intro d s h
        obtain ⟨m, hm, hk⟩ := List.any_eq_true.1 h
        exact ⟨m, hm, isK_iff.1 hk⟩
      simp only [notesR, Bool.and_eq_true, decide_eq_true_eq, List.all_eq_true] at hr
      refine ⟨dupN_apart hd, hr.2, fun n hn h0 => hex ((hsplit n hn).1 h0), fun n hn d h0 => ?_⟩
      obtain ⟨h1, h2⟩ := seenN_pos h0
      obtain ⟨k, rfl⟩ := Int.eq_ofNat_of_zero_le h1
      exact hex ((hsplit n hn).2 k (by omega) h0)
    · rw [hm] at h; simp at h
  · rw [hd] at h; simp at h
theorem right_ok0 {n : NoteD} (h : n.right = true) : n.ok0 = true := by
  unfold NoteD.right at h
  split at h
  · assumption
  · cases h
theorem right_rng {n : NoteD} (h : n.right = true) : (0 ≤ n.dev ∧ n.dev ≤ 11) ∧ (0 ≤ n.seq ∧ n.seq ≤ 9999) ∧ (0 ≤ n.tm ∧ n.tm ≤ 1048576) ∧ n.af.length ≤ 12 := by
  have := right_ok0 h
  simp only [NoteD.ok0, Bool.and_eq_true, rngB_iff, decide_eq_true_eq] at this
  exact ⟨this.1, this.2.1, this.2.2.1, this.2.2.2.1⟩
/-- A device's notes have no gap. -/
theorem Whole.down {l : List NoteD} (W : Whole l) : ∀ (k : Nat) (n : NoteD), n ∈ l → ∀ s : Int, 0 ≤ s → n.seq = s + k → ∃ m, m ∈ l ∧ m.dev = n.dev ∧ m.seq = s
  | 0, n, hn, s, _, h => ⟨n, hn, rfl, by simpa using h⟩
  | k + 1, n, hn, s, hs, h => by
    obtain ⟨m, hm, hd, hq⟩ := W.prev n hn (by omega)
    obtain ⟨m', hm', hd', hq'⟩ := W.down k m hm s hs (by omega)
    exact ⟨m', hm', hd'.trans hd, hq'⟩
theorem Whole.down' {l : List NoteD} (W : Whole l) {n : NoteD} (hn : n ∈ l) {s : Int} (hs : 0 ≤ s) (h : s ≤ n.seq) : ∃ m, m ∈ l ∧ m.dev = n.dev ∧ m.seq = s :=
  W.down (n.seq - s).toNat n hn s hs (by omega)
theorem atN_some {l : List NoteD} {d s : Int} {i : Nat} (h : atN l d s = some i) : ∃ hi : i < l.length, l[i].dev = d ∧ l[i].seq = s := by
  unfold atN at h
  rw [List.findIdx?_eq_some_iff_getElem] at h
  obtain ⟨hi, hk, _⟩ := h
  exact ⟨hi, isK_iff.1 hk⟩
theorem apart_idx {l : List NoteD} (h : l.Pairwise ApartN) {i j : Nat} (hi : i < l.length) (hj : j < l.length) (hd : l[i].dev = l[j].dev) (hs : l[i].seq = l[j].seq) : i = j := by
  rw [List.pairwise_iff_getElem] at h
  rcases Nat.lt_trichotomy i j with hij | hij | hij
  · exact absurd ⟨hd, hs⟩ (h i j hi hj hij)
  · exact hij
  · exact absurd ⟨hd.symm, hs.symm⟩ (h j i hj hi hij)
theorem atN_of {l : List NoteD} (h : l.Pairwise ApartN) {i : Nat} (hi : i < l.length) : atN l l[i].dev l[i].seq = some i := by
  rcases ha : atN l l[i].dev l[i].seq with _ | j
  · unfold atN at ha
    rw [List.findIdx?_eq_none_iff] at ha
    have := ha l[i] (List.getElem_mem hi)
    rw [isK_iff.2 ⟨rfl, rfl⟩] at this; cases this
  · obtain ⟨hj, hd, hs⟩ := atN_some ha
    rw [apart_idx h hj hi hd hs]
/-- What the loop of Order keeps. -/
structure OInv (l : List NoteD) (dn : List Int) (out : List Nat) : Prop where
  len : dn.length = 12
  pos : ∀ d, 0 ≤ dn.getD d 0
  out : ∀ i, (hi : i < l.length) → (i ∈ out ↔ l[i].seq < dn.getD l[i].dev.toNat 0)
theorem OInv.start {l : List NoteD} (W : Whole l) : OInv l (List.replicate 12 0) [] where
  len := by simp
  pos d := by simp only [List.getD_eq_getElem?_getD, List.getElem?_replicate]; split <;> simp
  out i hi := by
    have := (right_rng (W.right _ (List.getElem_mem hi))).2.1.1
    have : (List.replicate 12 (0 : Int)).getD l[i].dev.toNat 0 = 0 := by simp only [List.getD_eq_getElem?_getD, List.getElem?_replicate]; split <;> rfl
    rw [this]; simp; omega
theorem getD_bumpN {dn : List Int} {d : Int} {e : Nat} (hd : d.toNat < dn.length) : (bumpN dn d).getD e 0 = if e = d.toNat then dn.getD e 0 + 1 else dn.getD e 0 := by
  unfold bumpN
  simp only [List.getD_eq_getElem?_getD, List.getElem?_set]
  split
  · rename_i h; subst h; simp [hd]
  · rename_i h; rw [if_neg (fun g => h g.symm)]
theorem OInv.step {l : List NoteD} {dn : List Int} {out : List Nat} (W : Whole l) (I : OInv l dn out) {b : Nat} (hb : b < l.length) (hs : l[b].seq = dn.getD l[b].dev.toNat 0) : OInv l (bumpN dn l[b].dev) (out ++ [b]) where
  len := by unfold bumpN; simp [I.len]
  pos d := by
    have hr := right_rng (W.right _ (List.getElem_mem hb))
    rw [getD_bumpN (by rw [I.len]; omega)]
    have := I.pos d
    split <;> omega
  out i hi := by
    have hr := right_rng (W.right _ (List.getElem_mem hb))
    have hri := right_rng (W.right _ (List.getElem_mem hi))
    rw [getD_bumpN (by rw [I.len]; omega), List.mem_append, List.mem_singleton, I.out i hi]
    by_cases hd : l[i].dev = l[b].dev
    · rw [if_pos (by rw [hd])]
      constructor
      · rintro (h | rfl)
        · omega
        · omega
      · intro h
        rcases Int.lt_or_le l[i].seq (dn.getD l[i].dev.toNat 0) with h' | h'
        · exact .inl h'
        · exact .inr (apart_idx W.apart hi hb hd (by rw [hs, ← hd]; omega))
    · rw [if_neg (by omega)]
      constructor
      · rintro (h | rfl)
        · exact h
        · exact absurd rfl hd
      · exact .inl
theorem mem_idx {l : List NoteD} {n : NoteD} (h : n ∈ l) : ∃ i, ∃ hi : i < l.length, l[i] = n := List.mem_iff_getElem.1 h
/-- Who is ready in the reference is next of its device, and has seen nothing that is not done. -/
theorem rdy_iff {l : List NoteD} {dn : List Int} {out : List Nat} (W : Whole l) (I : OInv l dn out) {i : Nat} (hi : i < l.length) :
    rdyR l out i = true ↔ candN l dn l[i].dev.toNat = some i := by
  have hri := right_rng (W.right _ (List.getElem_mem hi))
  have hdev : ((l[i].dev.toNat : Nat) : Int) = l[i].dev := by omega
  have hC : candN l dn l[i].dev.toNat = some i ↔ l[i].seq = dn.getD l[i].dev.toNat 0 ∧ rdyN l[i] dn = true := by
    unfold candN
    rw [hdev]
    constructor
    · intro h
      split at h
      · rename_i j hj
        split at h
        · rename_i hrd
          cases h
          obtain ⟨_, _, hs⟩ := atN_some hj
          exact ⟨hs, by rw [at!_eq hi] at hrd; exact hrd⟩
        · cases h
      · cases h
    · rintro ⟨hs, hrd⟩
      have := atN_of W.apart hi
      rw [hs] at this
      rw [this]
      simp only [at!_eq hi, hrd, if_true]
  rw [hC]
  unfold rdyR rdyN
  simp only [Bool.and_eq_true, Bool.not_eq_true', List.contains_eq_mem, decide_eq_false_iff_not, decide_eq_true_eq, List.all_eq_true, List.mem_range, Bool.or_eq_true]
  rw [I.out i hi]
  have hbef : ∀ k, (hk : k < l.length) → (beforeN (at! l k) (at! l i) = befN l[k] l[i]) := by
    intro k hk
    unfold beforeN
    rw [at!_eq hk, at!_eq hi, W.right _ (List.getElem_mem hk), W.right _ (List.getElem_mem hi)]; simp
  constructor
  · rintro ⟨h1, h2⟩
    have hnx : ∀ (m : NoteD), m ∈ l → ∀ d : Int, 0 ≤ d → m.dev = d → dn.getD d.toNat 0 ≤ m.seq → ∃ k, ∃ hk : k < l.length, l[k].dev = d ∧ l[k].seq = dn.getD d.toNat 0 ∧ k ∉ out := by
      intro m hm d hd hmd hq
      obtain ⟨m', hm', hd', hq'⟩ := W.down' hm (I.pos d.toNat) hq
      obtain ⟨k, hk, hkm⟩ := mem_idx hm'
      refine ⟨k, hk, by rw [hkm, hd', hmd], by rw [hkm, hq'], ?_⟩
      rw [I.out k hk, hkm, hd', hmd, hq']; omega
    refine ⟨?_, fun d hd => ?_⟩
    · rcases Int.lt_or_le (dn.getD l[i].dev.toNat 0) l[i].seq with h | h
      · exfalso
        obtain ⟨k, hk, hkd, hks, hko⟩ := hnx l[i] (List.getElem_mem hi) l[i].dev hri.1.1 rfl (by omega)
        rcases h2 k hk with h3 | h3
        · exact hko h3
        · rw [hbef k hk, befN, if_pos hkd] at h3; simp at h3; omega
      · omega
    · by_cases hdi : (d : Int) = l[i].dev
      · exact .inl hdi
      · right
        rcases Int.lt_or_le (dn.getD d 0) (seenN l[i].af d) with h | h
        · exfalso
          have hp := I.pos d
          obtain ⟨m, hm, hmd, hmq⟩ := W.seen l[i] (List.getElem_mem hi) d (by omega)
          obtain ⟨k, hk, hkd, hks, hko⟩ := hnx m hm d (by omega) hmd (by simp only [Int.toNat_natCast]; omega)
          rcases h2 k hk with h3 | h3
          · exact hko h3
          · rw [hbef k hk, befN, if_neg (by omega), hkd] at h3; simp at h3; simp only [Int.toNat_natCast] at hks; omega
        · exact h
  · rintro ⟨h1, h2⟩
    refine ⟨by omega, fun k hk => ?_⟩
    rw [I.out k hk, hbef k hk]
    have hrk := right_rng (W.right _ (List.getElem_mem hk))
    rcases Int.lt_or_le l[k].seq (dn.getD l[k].dev.toNat 0) with h | h
    · exact .inl h
    · right
      unfold befN
      split
      · rename_i hd; rw [hd] at h; simp; omega
      · rename_i hd
        have := h2 l[k].dev.toNat (by rw [I.len]; omega)
        have hkd : ((l[k].dev.toNat : Nat) : Int) = l[k].dev := by omega
        rw [hkd] at this
        rcases this with h3 | h3
        · exact absurd h3 hd
        · simp; omega
theorem cand_spec {l : List NoteD} {dn : List Int} {d i : Nat} (h : candN l dn d = some i) : ∃ hi : i < l.length, l[i].dev = d ∧ l[i].seq = dn.getD d 0 := by
  unfold candN at h
  split at h
  · rename_i j hj
    split at h
    · cases h; exact atN_some hj
    · cases h
  · cases h
/-- The best of the first devices. -/
theorem bestU_spec {l : List NoteD} {dn : List Int} : ∀ D : Nat, match bestU l dn D with
    | none => ∀ d, d < D → candN l dn d = none
    | some b => (∃ d, d < D ∧ candN l dn d = some b) ∧ ∀ d i, d < D → candN l dn d = some i → i = b ∨ firstN (at! l b) (at! l i) = true
  | 0 => by intro d hd; omega
  | D + 1 => by
    have ih := bestU_spec (l := l) (dn := dn) D
    unfold bestU
    rcases hc : candN l dn D with _ | i
    · simp only
      rcases hb : bestU l dn D with _ | b
      · rw [hb] at ih
        intro d hd
        rcases Nat.lt_or_ge d D with h | h
        · exact ih d h
        · obtain rfl : d = D := by omega
          exact hc
      · rw [hb] at ih
        obtain ⟨⟨d, hd, hd'⟩, h2⟩ := ih
        refine ⟨⟨d, by omega, hd'⟩, fun d i hd hi => ?_⟩
        rcases Nat.lt_or_ge d D with h | h
        · exact h2 d i h hi
        · obtain rfl : d = D := by omega
          rw [hc] at hi; cases hi
    · simp only
      rcases hb : bestU l dn D with _ | b
      · rw [hb] at ih
        refine ⟨⟨D, by omega, hc⟩, fun d j hd hj => ?_⟩
        rcases Nat.lt_or_ge d D with h | h
        · have := ih d h
          rw [this] at hj; cases hj
        · obtain rfl : d = D := by omega
          rw [hc] at hj; cases hj; exact .inl rfl
      · rw [hb] at ih
        obtain ⟨⟨d0, hd0, hd0'⟩, h2⟩ := ih
        obtain ⟨hi, hid, _⟩ := cand_spec hc
        obtain ⟨hb', hbd, _⟩ := cand_spec hd0'
        simp only [upN]
        by_cases ht : (at! l i).tm < (at! l b).tm
        · rw [if_pos ht]
          refine ⟨⟨D, by omega, hc⟩, fun d j hd hj => ?_⟩
          rcases Nat.lt_or_ge d D with h | h
          · right
            have h3 : firstN (at! l i) (at! l b) = true := by rw [firstN_iff]; exact .inl ht
            rcases h2 d j h hj with rfl | h4
            · exact h3
            · exact firstN_trans h3 h4
          · obtain rfl : d = D := by omega
            rw [hc] at hj; cases hj; exact .inl rfl
        · rw [if_neg ht]
          refine ⟨⟨d0, by omega, hd0'⟩, fun d j hd hj => ?_⟩
          rcases Nat.lt_or_ge d D with h | h
          · exact h2 d j h hj
          · obtain rfl : d = D := by omega
            rw [hc] at hj; cases hj
            right
            rw [firstN_iff]
            by_cases h5 : (at! l b).tm < (at! l i).tm
            · exact .inl h5
            · refine .inr ⟨by omega, ?_⟩
              unfold LtN
              rw [at!_eq hi, at!_eq hb', lessN_iff]; omega
theorem bestR_spec {l : List NoteD} {out : List Nat} (ha : l.Pairwise ApartN) : ∀ D : Nat, D ≤ l.length → match bestR l out D with
    | none => ∀ i, i < D → rdyR l out i = false
    | some b => (b < D ∧ rdyR l out b = true) ∧ ∀ i, i < D → rdyR l out i = true → i = b ∨ firstN (at! l b) (at! l i) = true
  | 0, _ => by intro d hd; omega
  | D + 1, hD => by
    have ih := bestR_spec (l := l) (out := out) ha D (by omega)
    unfold bestR
    rcases hb : bestR l out D with _ | b
    · rw [hb] at ih
      simp only [Bool.and_true]
      rcases hr : rdyR l out D with _ | _
      · simp only [Bool.false_eq_true, if_false]
        intro i hi
        rcases Nat.lt_or_ge i D with h | h
        · exact ih i h
        · obtain rfl : i = D := by omega
          exact hr
      · simp only [if_true]
        refine ⟨⟨by omega, hr⟩, fun i hi hir => ?_⟩
        rcases Nat.lt_or_ge i D with h | h
        · have := ih i h; rw [this] at hir; cases hir
        · exact .inl (by omega)
    · rw [hb] at ih
      obtain ⟨⟨h1, h2⟩, h3⟩ := ih
      simp only
      rcases hr : rdyR l out D with _ | _
      · simp only [Bool.false_and, Bool.false_eq_true, if_false]
        refine ⟨⟨by omega, h2⟩, fun i hi hir => ?_⟩
        rcases Nat.lt_or_ge i D with h | h
        · exact h3 i h hir
        · obtain rfl : i = D := by omega
          rw [hr] at hir; cases hir
      · simp only [Bool.true_and]
        rcases hf : firstN (at! l D) (at! l b) with _ | _
        · simp only [Bool.false_eq_true, if_false]
          refine ⟨⟨by omega, h2⟩, fun i hi hir => ?_⟩
          rcases Nat.lt_or_ge i D with h | h
          · exact h3 i h hir
          · obtain rfl : i = D := by omega
            right
            have hb' : b < l.length := by omega
            rw [at!_eq hb', at!_eq (show i < l.length by omega)] at *
            rcases firstN_total (a := l[i]) (b := l[b]) (by
              rw [List.pairwise_iff_getElem] at ha
              exact (ha b i (by omega) (by omega) h1).symm) with h4 | h4
            · rw [h4] at hf; cases hf
            · exact h4
        · simp only [if_true]
          refine ⟨⟨by omega, hr⟩, fun i hi hir => ?_⟩
          rcases Nat.lt_or_ge i D with h | h
          · right
            rcases h3 i h hir with rfl | h4
            · exact hf
            · exact firstN_trans hf h4
          · exact .inl (by omega)
theorem best_eq {l : List NoteD} {dn : List Int} {out : List Nat} (W : Whole l) (I : OInv l dn out) : bestR l out l.length = bestU l dn 12 := by
  have hU := bestU_spec (l := l) (dn := dn) 12
  have hR := bestR_spec (out := out) W.apart l.length (Nat.le_refl _)
  have hcr : ∀ d i, candN l dn d = some i → ∃ hi : i < l.length, rdyR l out i = true := by
    intro d i h
    obtain ⟨hi, hd, _⟩ := cand_spec h
    refine ⟨hi, (rdy_iff W I hi).2 ?_⟩
    rw [show l[i].dev.toNat = d by omega]; exact h
  have hrc : ∀ i, (hi : i < l.length) → rdyR l out i = true → ∃ d, d < 12 ∧ candN l dn d = some i := by
    intro i hi h
    have := right_rng (W.right _ (List.getElem_mem hi))
    exact ⟨l[i].dev.toNat, by omega, (rdy_iff W I hi).1 h⟩
  rcases hr : bestR l out l.length with _ | b
  · rw [hr] at hR
    rcases hu : bestU l dn 12 with _ | c
    · rfl
    · rw [hu] at hU
      obtain ⟨⟨d, _, hd⟩, _⟩ := hU
      obtain ⟨hi, h⟩ := hcr d c hd
      rw [hR c hi] at h; cases h
  · rw [hr] at hR
    obtain ⟨⟨hb, hrb⟩, hRb⟩ := hR
    obtain ⟨d, hd, hdb⟩ := hrc b hb hrb
    rcases hu : bestU l dn 12 with _ | c
    · rw [hu] at hU
      rw [hU d hd] at hdb; cases hdb
    · rw [hu] at hU
      obtain ⟨⟨d', _, hdc⟩, hUc⟩ := hU
      obtain ⟨hc, hrc'⟩ := hcr d' c hdc
      rcases hUc d b hd hdb with h | h
      · rw [h]
      · rcases hRb c hc hrc' with h' | h'
        · rw [h']
        · exact absurd h' (firstN_asymm h)
theorem loop_eq {l : List NoteD} (W : Whole l) : ∀ (k : Nat) (dn : List Int) (out : List Nat), OInv l dn out → ordLoopR l k out = ordLoop l k dn out
  | 0, _, _, _ => rfl
  | k + 1, dn, out, I => by
    unfold ordLoopR ordLoop
    rw [best_eq W I]
    have hU := bestU_spec (l := l) (dn := dn) 12
    rcases hu : bestU l dn 12 with _ | b
    · rfl
    · rw [hu] at hU
      obtain ⟨⟨d, _, hd⟩, _⟩ := hU
      obtain ⟨hb, hbd, hbs⟩ := cand_spec hd
      simp only
      rw [at!_eq hb]
      exact loop_eq W k _ _ (I.step W hb (by rw [hbs, show l[b].dev.toNat = d by omega]))
theorem ordN_R (l : List NoteD) : ordN l = if notesR l then (if placesE l = 0 then ordLoopR l l.length [] else ([], placesE l)) else ([], 1) := by
  unfold ordN
  rcases hr : notesR l
  · rfl
  · simp only [if_true]
    by_cases hp : placesE l = 0
    · rw [if_pos hp, if_pos hp, loop_eq (whole_of hr hp) _ _ _ (OInv.start (whole_of hr hp))]
    · rw [if_neg hp, if_neg hp]
end Go.Proofs.Ythnblhbdfpmolaa
