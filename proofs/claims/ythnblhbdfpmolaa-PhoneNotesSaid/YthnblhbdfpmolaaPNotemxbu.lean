/- The notes of a play in the order in which they were made. -/
import Derived.Test.YthnblhbdfpmolaaPNotemxbt
import Derived.Test.YthnblhbdfpmolaaPNotemxbr
import Derived.Test.YthnblhbdfpmolaaPNotemxbo
namespace Go.Proofs.Ythnblhbdfpmolaa
open Go.RowKit
/-- A note that is made after others has all that it has seen, and its own earlier ones, among them. -/
def Aft (A : List NoteD) (n : NoteD) : Prop := (∀ s : Int, 0 ≤ s → s < n.seq → ∃ m, m ∈ A ∧ m.dev = n.dev ∧ m.seq = s) ∧ ∀ d s : Int, 0 ≤ s → s < seenN n.af d → ∃ m, m ∈ A ∧ m.dev = d ∧ m.seq = s
def Logged (G : List NoteD) : Prop := ∀ A n B, G = A ++ n :: B → Aft A n
theorem Logged.nil : Logged [] := fun A n B h => by cases A <;> cases h
theorem Logged.snoc {G : List NoteD} {n : NoteD} (h : Logged G) (hn : Aft G n) : Logged (G ++ [n]) := by
  intro A m B he
  rcases List.eq_nil_or_concat B with rfl | ⟨B', x, rfl⟩
  · obtain ⟨h1, h2⟩ := List.append_inj' he rfl
    injection h2 with h2
    subst h1
    subst h2
    exact hn
  · rw [List.concat_eq_append, ← List.cons_append, ← List.append_assoc] at he
    obtain ⟨h1, _⟩ := List.append_inj' he rfl
    exact h A m B' h1
def lenN (P : List PhoneD) (z : Nat) : Int := ((P[z]?).map (fun p => (p.N.length : Int))).getD 0
theorem lenN_at {P : List PhoneD} {z : Nat} {p : PhoneD} (h : P[z]? = some p) : lenN P z = p.N.length := by unfold lenN; rw [h]; rfl
theorem lenN_nn (P : List PhoneD) (z : Nat) : 0 ≤ lenN P z := by
  unfold lenN
  rcases P[z]? with _ | p
  · simp
  · simp
theorem lenN_set {P : List PhoneD} {i : Nat} {p p' : PhoneD} (hp : P[i]? = some p) (hl : p.N.length ≤ p'.N.length) (z : Nat) : lenN P z ≤ lenN (P.set i p') z := by
  have hi : i < P.length := (List.getElem?_eq_some_iff.1 hp).1
  by_cases hz : i = z
  · subst hz
    rw [lenN_at hp, lenN_at (List.getElem?_set_self hi)]; omega
  · unfold lenN; rw [List.getElem?_set_ne hz]; omega
structure NInv (d : PlD) (G : List NoteD) : Prop where
  log : Logged G
  mem : ∀ x, x ∈ G ↔ ∃ (i : Nat) (p : PhoneD), d.P[i]? = some p ∧ x ∈ p.N
  seen : ∀ (i : Nat) p, d.P[i]? = some p → ∀ z : Nat, p.S.getD z 0 ≤ lenN d.P z
section
variable {c : Nat} {d : PlD} {G : List NoteD}
theorem NInv.same {d' : PlD} (h : NInv d G) (hd : d'.P = d.P) : NInv d' G where
  log := h.log
  mem := by rw [hd]; exact h.mem
  seen := by rw [hd]; exact h.seen
theorem NInv.setP {d' : PlD} (h : NInv d G) {i : Nat} {p p' : PhoneD} (hp : d.P[i]? = some p) (hN : p'.N = p.N) (hS : ∀ z, p'.S.getD z 0 ≤ lenN d.P z) (hd : d'.P = d.P.set i p') : NInv d' G where
  log := h.log
  mem x := by
    have hi : i < d.P.length := (List.getElem?_eq_some_iff.1 hp).1
    rw [h.mem, hd]
    constructor
    · rintro ⟨j, pj, g1, g2⟩
      by_cases hj : i = j
      · subst hj
        rw [hp] at g1
        injection g1 with g1
        subst g1
        exact ⟨i, p', List.getElem?_set_self hi, hN ▸ g2⟩
      · exact ⟨j, pj, by rw [List.getElem?_set_ne hj]; exact g1, g2⟩
    · rintro ⟨j, pj, g1, g2⟩
      rcases set_at g1 with ⟨rfl, _, rfl⟩ | ⟨_, g1⟩
      · exact ⟨j, p, hp, hN ▸ g2⟩
      · exact ⟨j, pj, g1, g2⟩
  seen j pj g1 z := by
    rw [hd] at g1 ⊢
    have hm := lenN_set (p' := p') hp (by rw [hN]; exact Nat.le_refl _) z
    rcases set_at g1 with ⟨rfl, _, rfl⟩ | ⟨_, g1⟩
    · exact Int.le_trans (hS z) hm
    · exact Int.le_trans (h.seen j pj g1 z) hm
theorem cutS_NS (p : PhoneD) : p.cutS.1.N = p.N ∧ p.cutS.1.S = p.S := by
  unfold PhoneD.cutS
  split
  · split
    · exact ⟨rfl, rfl⟩
    · exact ⟨rfl, rfl⟩
  · exact ⟨rfl, rfl⟩
theorem NInv.cut (h : NInv d G) {i : Nat} {p : PhoneD} (hp : d.P[i]? = some p) : NInv { d with P := d.P.set i p.cutS.1 } G :=
  h.setP hp (cutS_NS p).1 (fun z => by rw [(cutS_NS p).2]; exact h.seen i p hp z) rfl
theorem NInv.doCut (h : NInv d G) {i : Nat} {p : PhoneD} (hp : d.P[i]? = some p) : NInv (d.doCut i p) G := by
  unfold PlD.doCut
  split
  · exact h.cut hp
  · exact h
theorem NInv.doTake (h : NInv d G) (k : Nat) (s : StockD) (un : Int) : NInv (d.doTake k s un) G := by
  unfold PlD.doTake
  split
  · exact h.same rfl
  · exact h
theorem NInv.doLend (h : NInv d G) {i k : Nat} {p : PhoneD} {s : StockD} (hp : d.P[i]? = some p) (hs : d.S[k]? = some s) (un : Int) : NInv (d.doLend i k p un) G := by
  unfold PlD.doLend
  split
  · rename_i h0
    obtain ⟨_, h1, _⟩ := lend_ok3 hs h0
    refine h.setP (d' := { d with P := d.P.set i (p.lend d.S k un).1, S := (p.lend d.S k un).2.1 }) hp (by rw [h1]) (fun z => by rw [h1]; exact h.seen i p hp z) rfl
  · exact h
/-- The notes that are there. -/
theorem NInv.note (hI : PInv c d) (hc : c ≤ 10000) (h : NInv d G) {z : Nat} {s : Int} (h0 : 0 ≤ s) (hs : s < lenN d.P z) : ∃ m, m ∈ G ∧ m.dev = z ∧ m.seq = s := by
  rcases hp : d.P[z]? with _ | p
  · unfold lenN at hs; rw [hp] at hs; simp at hs; omega
  · rw [lenN_at hp] at hs
    obtain ⟨_, _, q, _, hph⟩ := hI.right' hc hp
    obtain ⟨k, rfl⟩ := Int.eq_ofNat_of_zero_le h0
    have hk : k < p.N.length := by omega
    have := notesGo_get hph.jr.go k hk
    exact ⟨p.N[k], (h.mem _).2 ⟨z, p, hp, List.getElem_mem hk⟩, this.1, by rw [this.2]; omega⟩
theorem NInv.promise (hI : PInv c d) (hc : c ≤ 10000) (h : NInv d G) {i k : Nat} {p : PhoneD} (hp : d.P[i]? = some p) (q : List Int) (un tm : Int) : ∃ G', NInv (d.doPromise i k p q un tm) G' := by
  unfold PlD.doPromise
  by_cases h0 : (p.promise k un tm nB).2 = 0
  · rw [if_pos h0]
    obtain ⟨_, _, _, _, _, hh, _, _, _, _, he⟩ := promise_ok h0
    have hi : i < d.P.length := (List.getElem?_eq_some_iff.1 hp).1
    obtain ⟨_, _, q', _, hph⟩ := hI.right' hc hp
    have hl : p.N.length ≤ (p.promise k un tm nB).1.N.length := by rw [he]; simp
    refine ⟨G ++ [⟨p.id, p.N.length, p.S, tm, nB⟩], h.log.snoc ⟨fun s h1 h2 => ?_, fun z s h1 h2 => ?_⟩, fun x => ?_, fun j pj g1 z => ?_⟩
    · obtain ⟨m, m1, m2, m3⟩ := NInv.note hI hc h (z := i) h1 (by rw [lenN_at hp]; exact h2)
      exact ⟨m, m1, by rw [m2]; exact hph.eid.symm, m3⟩
    · have h2' : s < seenN p.S z := h2
      obtain ⟨h3, h4⟩ := seenN_pos (show 0 < seenN p.S z by omega)
      obtain ⟨y, rfl⟩ := Int.eq_ofNat_of_zero_le h3
      have hS := h.seen i p hp y
      have hv : seenN p.S (y : Int) = p.S.getD y 0 := by unfold seenN; rw [if_pos ⟨h3, h4⟩]; simp
      exact NInv.note hI hc h h1 (by omega)
    · rw [List.mem_append, h.mem, List.mem_singleton]
      constructor
      · rintro (⟨j, pj, g1, g2⟩ | rfl)
        · by_cases hj : i = j
          · subst hj
            rw [hp] at g1
            injection g1 with g1
            subst g1
            exact ⟨i, _, List.getElem?_set_self hi, by rw [he]; exact List.mem_append.2 (.inl g2)⟩
          · exact ⟨j, pj, by show (d.P.set i _)[j]? = _; rw [List.getElem?_set_ne hj]; exact g1, g2⟩
        · exact ⟨i, _, List.getElem?_set_self hi, by rw [he]; exact List.mem_append.2 (.inr (by simp))⟩
      · rintro ⟨j, pj, g1, g2⟩
        rcases set_at g1 with ⟨rfl, _, rfl⟩ | ⟨_, g1⟩
        · rw [he] at g2
          rcases List.mem_append.1 g2 with g2 | g2
          · exact .inl ⟨j, p, hp, g2⟩
          · exact .inr (List.mem_singleton.1 g2)
        · exact .inl ⟨j, pj, g1, g2⟩
    · have hm := lenN_set (p' := (p.promise k un tm nB).1) hp hl z
      rcases set_at g1 with ⟨rfl, _, rfl⟩ | ⟨_, g1⟩
      · refine Int.le_trans ?_ hm
        rw [he]
        exact h.seen j p hp z
      · exact Int.le_trans (h.seen j pj g1 z) hm
  · rw [if_neg h0]; exact ⟨G, h⟩
end
theorem seenJ_le {i : Int} {M : Nat → Int} : ∀ {r S : List Int} {k : Nat}, (∀ z, S.getD z 0 ≤ M z) → (∀ j, j < r.length → r.getD j 0 ≤ M (k + j)) → ∀ z, (seenJ i k S r).getD z 0 ≤ M z
  | [], S, k, h, _ => by rw [seenJ_nil]; exact h
  | n :: r, S, k, h, hr => by
    unfold seenJ
    refine seenJ_le ?_ (fun j hj => ?_)
    · split
      · exact h
      · intro z
        have hk := h k
        have hn : n ≤ M k := by have := hr 0 (by simp); simpa using this
        have hz := h z
        simp only [List.getD_eq_getElem?_getD, List.getElem?_set] at hz hk ⊢
        split
        · rename_i e
          subst e
          split
          · simp; omega
          · rename_i hlt
            rw [List.getElem?_eq_none (by omega)] at hk
            simpa using hk
        · exact hz
    · have := hr (j + 1) (by simpa using hj)
      rw [show k + 1 + j = k + (j + 1) by omega]
      simpa using this
theorem count1_get {acc : List Int} (h : acc.length = 12) (d : Int) {j : Nat} (hj : j < 12) : (count1 acc d).getD j 0 = acc.getD j 0 + if d = j then 1 else 0 := by
  by_cases hd : 0 ≤ d ∧ d < 12
  · obtain ⟨k, rfl⟩ := Int.eq_ofNat_of_zero_le hd.1
    rw [count1_in (by omega), getD_set (by omega)]
    by_cases e : k = j
    · subst e; rw [if_pos rfl, if_pos rfl]
    · rw [if_neg e, if_neg (by omega)]; omega
  · rw [count1_out hd, if_neg (by omega)]; omega
theorem count1_len {acc : List Int} (d : Int) : (count1 acc d).length = acc.length := by unfold count1; split <;> simp
theorem countGo_get {j : Nat} (hj : j < 12) : ∀ {l : List NoteD} {acc : List Int}, acc.length = 12 → (countGo acc l).getD j 0 = acc.getD j 0 + (l.filter (fun n : NoteD => decide (n.dev = (j : Int)))).length
  | [], acc, _ => by simp [countGo]
  | n :: l, acc, h => by
    unfold countGo
    rw [countGo_get hj (by rw [count1_len]; exact h), count1_get h _ hj, List.filter_cons]
    by_cases e : n.dev = j
    · rw [if_pos e, if_pos (by simpa using e), List.length_cons]; omega
    · rw [if_neg e, if_neg (by simpa using e)]; omega
section
variable {c : Nat} {d : PlD} {G : List NoteD}
theorem PInv.counts (h : PInv c d) (hc : c ≤ 10000) {j : Nat} (hj : j < 12) : (countsN d.N).getD j 0 ≤ lenN d.P j := by
  have e : (countsN d.N).getD j 0 = zl12.getD j 0 + (d.N.filter (fun n : NoteD => decide (n.dev = (j : Int)))).length := countGo_get hj rfl
  have e0 : zl12.getD j 0 = 0 := by simp only [zl12, List.getD_eq_getElem?_getD, List.getElem?_replicate]; split <;> simp
  rw [e, e0]
  have hx : ∀ x, x ∈ d.N.filter (fun n : NoteD => decide (n.dev = (j : Int))) → x.dev = j ∧ 0 ≤ x.seq ∧ x.seq < lenN d.P j := by
    intro x hx
    obtain ⟨h1, h2⟩ := List.mem_filter.1 hx
    have h2 : x.dev = j := by simpa using h2
    obtain ⟨i, p, hp, hm⟩ := h.mN x h1
    obtain ⟨_, _, q, _, hph⟩ := h.right' hc hp
    have hd := hph.jr.dev hm
    obtain rfl : i = j := by omega
    rw [lenN_at hp]
    exact ⟨h2, hd.2⟩
  have hnn := lenN_nn d.P j
  have := nodup_len (lenN d.P j).toNat ((d.N.filter (fun n : NoteD => decide (n.dev = (j : Int)))).map (fun x => x.seq.toNat)) (by
    rw [List.Nodup, List.pairwise_map]
    refine List.Pairwise.imp_of_mem ?_ (h.sN.sublist List.filter_sublist)
    intro a b ha hb hab he
    have h1 := hx a ha
    have h2 := hx b hb
    have h3 := lessN_iff.1 hab
    omega) (by
    intro y hy
    obtain ⟨x, hxm, rfl⟩ := List.mem_map.1 hy
    have := hx x hxm
    omega)
  rw [List.length_map] at this
  omega
theorem NInv.join (hI : PInv c d) (hc : c ≤ 40) (h : NInv d G) {i : Nat} {p : PhoneD} {q : List Int} (hp : d.P[i]? = some p) (hq : d.Q[i]? = some q) : NInv (d.join i p q) G := by
  have hE := hI.joinE hc hp hq
  unfold PlD.join
  rw [hE]
  by_cases hcut : p.cut = true
  · rw [if_pos hcut]
    simp only [if_true]
    have hl : (countsN d.N).length = 12 := (counts_ok (l := d.N) (by have := hI.Nlen hc; omega)).1
    exact h.setP (p' := { p with cut := false, H := [], S := seenJ i 0 p.S (countsN d.N) }) hp rfl (fun z => seenJ_le (fun z => h.seen i p hp z) (fun j hj => by rw [Nat.zero_add]; exact hI.counts (by omega) (by omega)) z) rfl
  · rw [if_neg hcut]
    simp only
    rw [if_neg (by decide)]
    exact h
theorem NInv.act (hI : PInv c d) (hc : c ≤ 40) (h : NInv d G) (kd pn sn un tm : Int) : ∃ G', NInv (d.act kd pn sn un tm) G' := by
  unfold PlD.act
  split
  · exact ⟨G, h⟩
  · split
    · rename_i p q s hp hq hs
      split
      · exact ⟨G, h.doLend hp hs un⟩
      · split
        · exact NInv.promise hI (by omega) h hp q un tm
        · split
          · exact ⟨G, h.doCut hp⟩
          · split
            · exact ⟨G, NInv.join hI hc h hp hq⟩
            · split
              · exact ⟨G, h.doTake _ _ _⟩
              · exact ⟨G, h⟩
    · exact ⟨G, h⟩
theorem NInv.start (ss : List StockD) : NInv (begunD ss) [] where
  log := Logged.nil
  mem x := by
    refine ⟨fun h => (by cases h), ?_⟩
    rintro ⟨i, p, h1, h2⟩
    obtain ⟨j, _, rfl⟩ := List.mem_map.1 (List.mem_of_getElem? h1)
    cases h2
  seen i p h1 z := by
    obtain ⟨j, _, rfl⟩ := List.mem_map.1 (List.mem_of_getElem? h1)
    refine Int.le_trans ?_ (lenN_nn _ _)
    simp only [pZ, List.getD_eq_getElem?_getD, List.getElem?_replicate]
    split <;> simp
end
end Go.Proofs.Ythnblhbdfpmolaa
/- What is asked of a play that has come to its end; how an order is walked. -/
namespace Go.Proofs.Ythnblhbdfpmolaa
open Go.RowKit
/-- E j d b: the phones from j on have joined, and b is what their notes are merged to. -/
structure Ends (I : Nat → PlD → Prop) (E : Nat → PlD → List NoteD → Prop) : Prop where
  e0 : ∀ {c d}, I c d → c ≤ 40 → E 3 d []
  inv : ∀ {j d b}, E j d b → ∃ c, c ≤ 40 ∧ I c d
  cut : ∀ {j d b}, E j d b → ∀ i p, d.P[i]? = some p → E j { d with P := d.P.set i p.cutS.1 } b
  join : ∀ {j d b}, E (j + 1) d b → ∀ p q, d.P[j]? = some p → d.Q[j]? = some q → p.cut = true → ∃ p', (d.join j p q).P[j]? = some p' ∧ (mergeN b p'.N).2 = 0 ∧ b.length + p'.N.length ≤ 10000 ∧ E j (d.join j p q) (mergeN b p'.N).1
  fin : ∀ {d b}, E 0 d b → listsN b d.N = true ∧ (ordN d.N).2 = 0 ∧ d.N.length ≤ 10000
theorem OrdOK.had {l : List NoteD} {o : List Nat} (h : OrdOK l o) {t : Nat} (ht : t < o.length) {dn : List Int} (I : OInv l dn (o.take t)) :
    o[t] < l.length ∧ (at! l o[t]).right = true ∧ (at! l o[t]).seq = dn.getD (at! l o[t]).dev.toNat 0 ∧ (∀ d : Nat, d < 12 → seenN (at! l o[t]).af d ≤ dn.getD d 0) ∧ OInv l (bumpN dn (at! l o[t]).dev) (o.take (t + 1)) := by
  obtain ⟨hi, hr, _⟩ := h.rdy ht
  have W := h.whole
  have hc := (rdy_iff W I hi).1 hr
  have hR := W.right _ (List.getElem_mem hi)
  have hdv := (right_rng hR).1
  rw [at!_eq hi]
  have hs : l[o[t]].seq = dn.getD l[o[t]].dev.toNat 0 := by
    obtain ⟨_, _, h2⟩ := cand_spec hc
    exact h2
  refine ⟨hi, hR, hs, fun d hd => ?_, ?_⟩
  · have hy : rdyN (at! l o[t]) dn = true := by
      unfold candN at hc
      split at hc
      · split at hc
        · injection hc with hc
          subst hc
          assumption
        · cases hc
      · cases hc
    rw [at!_eq hi] at hy
    unfold rdyN at hy
    rcases of_decide_eq_true hy d (by rw [I.len]; exact hd) with e | e
    · rw [e, right_self hR]; exact I.pos d
    · exact e
  · rw [List.take_succ_eq_append_getElem ht]
    exact I.step W hi hs
end Go.Proofs.Ythnblhbdfpmolaa
/- The notes of a play have an order; what holds when all have joined. -/
namespace Go.Proofs.Ythnblhbdfpmolaa
open Go.RowKit
theorem range_len : ∀ (n : Nat) (out : List Nat), (∀ i, i < n → i ∈ out) → n ≤ out.length
  | 0, _, _ => Nat.zero_le _
  | n + 1, out, h => by
    have hn := h n (by omega)
    have h1 := range_len n (out.erase n) (fun i hi => (List.mem_erase_of_ne (by omega)).2 (h i (by omega)))
    rw [List.length_erase_of_mem hn] at h1
    have := List.length_pos_of_mem hn
    omega
theorem bestR_some {l : List NoteD} {out : List Nat} : ∀ (n : Nat), (∃ i, i < n ∧ rdyR l out i = true) → ∃ b, bestR l out n = some b
  | 0, ⟨i, h, _⟩ => absurd h (Nat.not_lt_zero _)
  | n + 1, ⟨i, hi, hr⟩ => by
    unfold bestR
    rcases hb : bestR l out n with _ | j
    · simp only [Bool.and_true]
      by_cases hin : i = n
      · subst hin
        rw [if_pos hr]; exact ⟨i, rfl⟩
      · obtain ⟨b, h⟩ := bestR_some n ⟨i, by omega, hr⟩
        rw [hb] at h; cases h
    · simp only
      split
      · exact ⟨n, rfl⟩
      · exact ⟨j, rfl⟩
theorem loopR_ok {l : List NoteD} (h : ∀ out : List Nat, out.length < l.length → ∃ b, bestR l out l.length = some b) : ∀ (k : Nat) (out : List Nat), out.length + k ≤ l.length → (ordLoopR l k out).2 = 0
  | 0, out, _ => rfl
  | k + 1, out, hk => by
    obtain ⟨b, hb⟩ := h out (by omega)
    unfold ordLoopR
    rw [hb]
    exact loopR_ok h k (out ++ [b]) (by simp; omega)
theorem ready_in {l G : List NoteD} {out : List Nat} (hG : Logged G) (one : ∀ x y, x ∈ G → y ∈ G → KeyN x y → x = y) (hl : ∀ x, x ∈ l → x ∈ G) (hr : ∀ x, x ∈ l → x.right = true) : ∀ (n : Nat) (A B : List NoteD), A.length = n → G = A ++ B → (∃ i, i < l.length ∧ i ∉ out ∧ at! l i ∈ A) → ∃ i, i < l.length ∧ rdyR l out i = true
  | 0, A, B, hn, _, ⟨i, _, _, hi⟩ => by rw [List.length_eq_zero_iff.1 hn] at hi; cases hi
  | n + 1, A, B, hn, he, hx => by
    rcases List.eq_nil_or_concat A with rfl | ⟨A', x, rfl⟩
    · cases hn
    rw [List.concat_eq_append] at he hn hx
    have he' : G = A' ++ x :: B := by rw [he]; simp
    by_cases hex : ∃ i, i < l.length ∧ i ∉ out ∧ at! l i ∈ A'
    · exact ready_in hG one hl hr n A' (x :: B) (by simpa using hn) he' hex
    · obtain ⟨i, h1, h2, h3⟩ := hx
      have hix : at! l i = x := by
        rcases List.mem_append.1 h3 with h3 | h3
        · exact absurd ⟨i, h1, h2, h3⟩ hex
        · exact List.mem_singleton.1 h3
      refine ⟨i, h1, rdyR_iff.2 ⟨h2, fun k hk => ?_⟩⟩
      by_cases hko : k ∈ out
      · exact .inl hko
      · right
        rcases hb : beforeN (at! l k) (at! l i) with _ | _
        · rfl
        · exfalso
          have ha := hG A' x B he'
          have hkl : at! l k ∈ l := by rw [at!_eq hk]; exact List.getElem_mem hk
          have hkr := right_rng (hr _ hkl)
          have key : ∀ m, m ∈ A' → m.dev = (at! l k).dev → m.seq = (at! l k).seq → False := by
            intro m m1 m2 m3
            have : m = at! l k := one m _ (by rw [he']; exact List.mem_append.2 (.inl m1)) (hl _ hkl) ⟨m2, m3⟩
            exact hex ⟨k, hk, hko, this ▸ m1⟩
          simp only [beforeN, Bool.and_eq_true] at hb
          have hbf := hb.2.2
          rw [hix] at hbf
          unfold befN at hbf
          split at hbf
          · rename_i hd
            obtain ⟨m, m1, m2, m3⟩ := ha.1 (at! l k).seq hkr.2.1.1 (of_decide_eq_true hbf)
            exact key m m1 (by rw [m2, hd]) m3
          · obtain ⟨m, m1, m2, m3⟩ := ha.2 (at! l k).dev (at! l k).seq hkr.2.1.1 (of_decide_eq_true hbf)
            exact key m m1 m2 m3
theorem order_is {l G : List NoteD} (hG : Logged G) (one : ∀ x y, x ∈ G → y ∈ G → KeyN x y → x = y) (hl : ∀ x, x ∈ l ↔ x ∈ G) (hn : notesR l = true) (ha : l.Pairwise ApartN) : (ordN l).2 = 0 := by
  have hr : ∀ x, x ∈ l → x.right = true := by
    simp only [notesR, Bool.and_eq_true, decide_eq_true_eq, List.all_eq_true] at hn
    exact hn.2
  have hp : placesE l = 0 := by
    refine placesE_ok ha fun n hm => ?_
    obtain ⟨A, B, he⟩ := List.append_of_mem ((hl n).1 hm)
    have hA := hG A n B he
    have hin : ∀ m, m ∈ A → m ∈ l := fun m h => (hl m).2 (by rw [he]; exact List.mem_append.2 (.inl h))
    rcases hmo : missOne l n with _ | _
    · rfl
    · exfalso
      simp only [missOne, Bool.or_eq_true, Bool.and_eq_true, decide_eq_true_eq, Bool.not_eq_true', List.any_eq_true, List.any_eq_false] at hmo
      rcases hmo with ⟨h1, h2⟩ | ⟨k, _, h1, h2⟩
      · obtain ⟨m, m1, m2, m3⟩ := hA.1 (n.seq - 1) (by omega) (by omega)
        exact h2 m (hin m m1) (isK_iff.2 ⟨m2, m3⟩)
      · obtain ⟨m, m1, m2, m3⟩ := hA.2 k (seenN n.af k - 1) (by omega) (by omega)
        exact h2 m (hin m m1) (isK_iff.2 ⟨m2, m3⟩)
  rw [ordN_R, if_pos hn, if_pos hp]
  refine loopR_ok (fun out ho => bestR_some _ ?_) _ _ (by simp)
  have hex : ∃ i, i < l.length ∧ i ∉ out := by
    refine Decidable.byContradiction fun h => ?_
    have := range_len l.length out (fun i hi => Decidable.byContradiction fun h2 => h ⟨i, hi, h2⟩)
    omega
  obtain ⟨i, h1, h2⟩ := hex
  exact ready_in hG one (fun x hx => (hl x).1 hx) hr _ G [] rfl (by simp) ⟨i, h1, h2, (hl _).1 (by rw [at!_eq h1]; exact List.getElem_mem h1)⟩
section
variable {c : Nat} {d : PlD} {G : List NoteD}
theorem PInv.one (h : PInv c d) (hc : c ≤ 10000) {x y : NoteD} (hx : ∃ (i : Nat) (p : PhoneD), d.P[i]? = some p ∧ x ∈ p.N) (hy : ∃ (i : Nat) (p : PhoneD), d.P[i]? = some p ∧ y ∈ p.N) (hk : KeyN x y) : x = y := by
  obtain ⟨j, pj, h1, h2⟩ := hx
  obtain ⟨l, pl, h3, h4⟩ := hy
  obtain ⟨_, _, q1, _, hj⟩ := h.right' hc h1
  obtain ⟨_, _, q2, _, hl⟩ := h.right' hc h3
  have e1 := (hj.jr.dev h2).1
  have e2 := (hl.jr.dev h4).1
  have e3 := hk.1
  obtain rfl : j = l := by omega
  rw [h1] at h3
  injection h3 with h3
  subst h3
  exact hj.jr.key h2 h4 hk.2
theorem PInv.setN (h : PInv c d) (hc : c ≤ 10000) {b : List NoteD} (hs : b.Pairwise LtN) (hm : ∀ x, x ∈ b → ∃ (i : Nat) (p : PhoneD), d.P[i]? = some p ∧ x ∈ p.N) : PInv c { d with N := b } :=
  { n := h.n, lP := h.lP, lQ := h.lQ, lT := h.lT, lH := h.lH, T0 := h.T0, H0 := h.H0, right := h.right, loan := h.loan, U := h.U, ph := h.ph
    nN := fun x hx => by
      obtain ⟨i, p, h1, h2⟩ := hm x hx
      obtain ⟨_, _, q, _, hph⟩ := h.right' hc h1
      exact hph.jr.right x h2
    sN := hs
    mN := hm }
theorem merge_in {a b r : List NoteD} (hM : MgdN a b r) (one : ∀ x y, (x ∈ a ∨ x ∈ b) → (y ∈ a ∨ y ∈ b) → KeyN x y → x = y) {x : NoteD} (hx : x ∈ a ∨ x ∈ b) : x ∈ r := by
  have : ∃ y, y ∈ r ∧ y.same x = true := by
    rcases hx with hx | hx
    · exact hM.ca x hx
    · exact hM.cb x hx
  obtain ⟨y, h1, h2⟩ := this
  have := one y x (hM.mem y h1) hx (same_key h2)
  exact this ▸ h1
structure EndI (j : Nat) (d : PlD) (b : List NoteD) : Prop where
  inv : ∃ c, PInv c d ∧ c ≤ 40
  lg : ∃ G, NInv d G
  all : ∀ (i : Nat) (p : PhoneD), j ≤ i → d.P[i]? = some p → ∀ x, x ∈ p.N → x ∈ d.N ∧ x ∈ b
  sB : b.Pairwise LtN
  mB : ∀ x, x ∈ b → ∃ (i : Nat) (p : PhoneD), d.P[i]? = some p ∧ x ∈ p.N
theorem EndI.join {j : Nat} {b : List NoteD} (e : EndI (j + 1) d b) {p : PhoneD} {q : List Int} (hp : d.P[j]? = some p) (hq : d.Q[j]? = some q) (hcut : p.cut = true) : ∃ p', (d.join j p q).P[j]? = some p' ∧ (mergeN b p'.N).2 = 0 ∧ b.length + p'.N.length ≤ 10000 ∧ EndI j (d.join j p q) (mergeN b p'.N).1 := by
  obtain ⟨c, h, hc⟩ := e.inv
  obtain ⟨G, hN⟩ := e.lg
  have hj : j < d.P.length := (List.getElem?_eq_some_iff.1 hp).1
  have hd : (d.join j p q).P = d.P.set j { p with cut := false, H := [], S := seenJ j 0 p.S (countsN d.N) } ∧ (d.join j p q).N = (mergeN d.N p.N).1 := by
    unfold PlD.join
    rw [h.joinE hc hp hq, if_pos hcut]
    simp only [if_true]
    exact ⟨trivial, trivial⟩
  have hb := h.setN (by omega) e.sB e.mB
  have hbl := hb.Nlen hc
  obtain ⟨_, _, q', _, hph⟩ := h.right' (by omega) hp
  have hm : (mergeN b p.N).2 = 0 := hb.merged hc hp
  have hM := merge_zero hm
  have hD := merge_zero (h.merged hc hp)
  have hjn := NInv.join h hc hN hp hq
  have hin : ∀ x, (∃ (i : Nat) (p : PhoneD), d.P[i]? = some p ∧ x ∈ p.N) → ∃ (i : Nat) (p2 : PhoneD), (d.join j p q).P[i]? = some p2 ∧ x ∈ p2.N := fun x hx => (hjn.mem x).1 ((hN.mem x).2 hx)
  have hbm : ∀ x, x ∈ b ∨ x ∈ p.N → ∃ (i : Nat) (p : PhoneD), d.P[i]? = some p ∧ x ∈ p.N := by
    intro x hx
    rcases hx with hx | hx
    · exact e.mB x hx
    · exact ⟨j, p, hp, hx⟩
  have hdm : ∀ x, x ∈ d.N ∨ x ∈ p.N → ∃ (i : Nat) (p : PhoneD), d.P[i]? = some p ∧ x ∈ p.N := by
    intro x hx
    rcases hx with hx | hx
    · exact h.mN x hx
    · exact ⟨j, p, hp, hx⟩
  have hib : ∀ {x}, x ∈ b ∨ x ∈ p.N → x ∈ (mergeN b p.N).1 := fun {x} hx => merge_in hM (fun x y h1 h2 hk => h.one (by omega) (hbm x h1) (hbm y h2) hk) hx
  have hid : ∀ {x}, x ∈ d.N ∨ x ∈ p.N → x ∈ (mergeN d.N p.N).1 := fun {x} hx => merge_in hD (fun x y h1 h2 hk => h.one (by omega) (hdm x h1) (hdm y h2) hk) hx
  refine ⟨{ p with cut := false, H := [], S := seenJ j 0 p.S (countsN d.N) }, by rw [hd.1]; exact List.getElem?_set_self hj, hm, ?_, ⟨c, (h.join hc hp hq).1, hc⟩, ⟨G, hjn⟩, ?_, hM.sorted, fun x hx => hin x (hbm x (hM.mem x hx))⟩
  · have := hph.lN
    have hbl' : b.length ≤ 120 := hbl
    show b.length + p.N.length ≤ 10000
    omega
  · intro i p2 hi hp2 x hx
    rw [hd.2]
    rw [hd.1] at hp2
    rcases set_at hp2 with ⟨rfl, _, rfl⟩ | ⟨hij, hp2⟩
    · exact ⟨hid (.inr hx), hib (.inr hx)⟩
    · have := e.all i p2 (by omega) hp2 x hx
      exact ⟨hid (.inl this.1), hib (.inl this.2)⟩
theorem EndI.fin {b : List NoteD} (e : EndI 0 d b) : listsN b d.N = true ∧ (ordN d.N).2 = 0 ∧ d.N.length ≤ 10000 := by
  obtain ⟨c, h, hc⟩ := e.inv
  obtain ⟨G, hN⟩ := e.lg
  have hall : ∀ x, (∃ (i : Nat) (p : PhoneD), d.P[i]? = some p ∧ x ∈ p.N) → x ∈ d.N ∧ x ∈ b := by
    rintro x ⟨i, p, h1, h2⟩
    exact e.all i p (Nat.zero_le _) h1 x h2
  refine ⟨lists_cover e.sB h.sN (CoverN.of_mem fun x hx => (hall x (e.mB x hx)).1) (CoverN.of_mem fun x hx => (hall x (h.mN x hx)).2), ?_, by have := h.Nlen hc; omega⟩
  exact order_is hN.log (fun x y hx hy hk => h.one (by omega) ((hN.mem x).1 hx) ((hN.mem y).1 hy) hk) (fun x => ⟨fun hx => (hN.mem x).2 (h.mN x hx), fun hx => (hall x ((hN.mem x).1 hx)).1⟩) (h.nR hc) (h.sN.imp fun {a b} hab => LtN.apart hab)
end
theorem playsN : Plays (fun c d => (PInv c d ∧ c ≤ 40) ∧ ∃ G, NInv d G) where
  start ss h1 h2 := ⟨plays.start ss h1 h2, [], NInv.start ss⟩
  fine h := plays.fine h.1
  lP h := plays.lP h.1
  ok h := plays.ok h.1
  jok h := plays.jok h.1
  act h hc kd pn sn un tm := by
    obtain ⟨h1, G, h2⟩ := h
    exact ⟨plays.act h1 hc kd pn sn un tm, NInv.act h1.1 h1.2 h2 kd pn sn un tm⟩
  cut h i p hp := by
    obtain ⟨h1, G, h2⟩ := h
    exact ⟨⟨(plays.cut h1 i p hp).1, G, h2.cut hp⟩, (plays.cut h1 i p hp).2⟩
  join h i p q hp hq := by
    obtain ⟨h1, G, h2⟩ := h
    exact ⟨plays.join h1 i p q hp hq, G, NInv.join h1.1 h1.2 h2 hp hq⟩
  done h := plays.done h.1
  free h := plays.free h.1
theorem endsN : Ends (fun c d => (PInv c d ∧ c ≤ 40) ∧ ∃ G, NInv d G) EndI where
  e0 := @fun c d h hc => by
    obtain ⟨⟨h1, h2⟩, h3⟩ := h
    refine ⟨⟨c, h1, h2⟩, h3, fun i p hi hp => ?_, List.Pairwise.nil, fun x hx => by cases hx⟩
    have := (List.getElem?_eq_some_iff.1 hp).1
    have := h1.lP
    omega
  inv e := by
    obtain ⟨c, h, hc⟩ := e.inv
    exact ⟨c, hc, ⟨h, hc⟩, e.lg⟩
  cut := @fun j d b e i p hp => by
    obtain ⟨c, h, hc⟩ := e.inv
    obtain ⟨G, hG⟩ := e.lg
    have hG' := hG.cut hp
    refine ⟨⟨c, (plays.cut ⟨h, hc⟩ i p hp).1.1, hc⟩, ⟨G, hG'⟩, fun k p2 hk hp2 x hx => ?_, e.sB, fun x hx => (hG'.mem x).1 ((hG.mem x).2 (e.mB x hx))⟩
    rcases set_at hp2 with ⟨rfl, _, rfl⟩ | ⟨_, hp2⟩
    · rw [(cutS_NS p).1] at hx; exact e.all k p hk hp x hx
    · exact e.all k p2 hk hp2 x hx
  join e p q hp hq hcut := e.join hp hq hcut
  fin e := e.fin
end Go.Proofs.Ythnblhbdfpmolaa
