/- What a play keeps. -/
import Derived.Test.YthnblhbdfpmolaaPNotemxbo
import Derived.Test.YthnblhbdfpmolaaPNotemxbr
namespace Go.Proofs.Ythnblhbdfpmolaa
open Go.RowKit
structure PhOK (S : List StockD) (i : Nat) (p : PhoneD) (q : List Int) (c : Nat) : Prop where
  eid : p.id = i
  hd : p.H = hoF i 0 S q
  jr : JourOK i p.N
  lN : p.N.length ≤ c
  sn : SeenOK i p.S
  q0 : ∀ k, 0 ≤ q.getD k 0
  qu : ∀ k s l, S[k]? = some s → lk Loan.p s.L i = some l → q.getD k 0 ≤ l.u
  qn : ∀ k s, S[k]? = some s → lk Loan.p s.L i = none → q.getD k 0 = 0
  lq : q.length = S.length
structure PInv (c : Nat) (d : PlD) : Prop where
  n : d.S.length ≤ 3
  lP : d.P.length = 3
  lQ : d.Q.length = 3
  lT : d.T.length = d.S.length
  lH : d.H.length = d.S.length
  T0 : ∀ k, 0 ≤ d.T.getD k 0
  H0 : ∀ k, 0 ≤ d.H.getD k 0
  right : ∀ s, s ∈ d.S → RightS s
  loan : ∀ s, s ∈ d.S → ∀ z l, lk Loan.p s.L z = some l → (0 ≤ z ∧ z < 3) ∧ l.s = 0
  U : ∀ (k : Nat) s, d.S[k]? = some s → s.U = d.T.getD k 0 + d.H.getD k 0
  ph : ∀ (i : Nat) p q, d.P[i]? = some p → d.Q[i]? = some q → PhOK d.S i p q c
  nN : ∀ x, x ∈ d.N → x.right = true
  sN : d.N.Pairwise LtN
  mN : ∀ x, x ∈ d.N → ∃ (i : Nat) (p : PhoneD), d.P[i]? = some p ∧ x ∈ p.N
theorem getD_out {l : List Int} {k : Nat} (h : l.length ≤ k) : l.getD k 0 = 0 := by simp [List.getD, List.getElem?_eq_none h]
theorem lk_le {x : StockD} (R : RightS x) {z : Int} {l : Loan} (h : lk Loan.p x.L z = some l) : l.u ≤ sumU x.L ∧ 1 ≤ l.u := by
  have hm := (lk_key h).2
  have h1 := (R.mem l hm).2.2.1
  refine ⟨?_, h1⟩
  have key : ∀ {L : List Loan}, (∀ y, y ∈ L → 1 ≤ y.u) → l ∈ L → l.u ≤ sumU L := by
    intro L
    induction L with
    | nil => intro _ h; cases h
    | cons y L ih =>
      intro hy hm
      have h2 := sumU_nn (L := L) (fun z hz => hy z (List.mem_cons_of_mem _ hz))
      rw [sumU_cs]
      rcases List.mem_cons.1 hm with rfl | hm
      · omega
      · have := ih (fun z hz => hy z (List.mem_cons_of_mem _ hz)) hm
        have := hy y (by simp)
        omega
  exact key (fun y hy => (R.mem y hy).2.2.1) hm
def uAt (L : List Loan) (z : Int) : Int := match lk Loan.p L z with | some l => l.u | none => 0
theorem uAt_cons {x : Loan} {L : List Loan} {z : Int} : uAt (x :: L) z = if x.p = z then x.u else uAt L z := by
  unfold uAt
  rw [lk_cons]
  by_cases h : x.p = z
  · rw [if_pos h, if_pos h]
  · rw [if_neg h, if_neg h]
theorem uAt_sum : ∀ {L : List Loan}, Asc Loan.p L → (∀ x, x ∈ L → 1 ≤ x.u) → uAt L 0 + uAt L 1 + uAt L 2 ≤ sumU L
  | [], _, _ => by simp [uAt, lk_nil, sumU]
  | x :: L, ha, hu => by
    obtain ⟨h1, h2⟩ := asc_cons.1 ha
    have ih := uAt_sum h2 (fun y hy => hu y (List.mem_cons_of_mem _ hy))
    have hx := hu x (by simp)
    have hz : uAt L x.p = 0 := by
      unfold uAt
      rw [lk_none (fun a h => by have := h1 a h; omega)]
    rw [uAt_cons, uAt_cons, uAt_cons, sumU_cs]
    by_cases e0 : x.p = 0
    · rw [e0] at hz
      rw [if_pos e0, if_neg (by omega), if_neg (by omega)]; omega
    · by_cases e1 : x.p = 1
      · rw [e1] at hz
        rw [if_neg e0, if_pos e1, if_neg (by omega)]; omega
      · by_cases e2 : x.p = 2
        · rw [e2] at hz
          rw [if_neg e0, if_neg e1, if_pos e2]; omega
        · rw [if_neg e0, if_neg e1, if_neg e2]; omega
section
variable {c : Nat} {d : PlD}
theorem PhOK.qle {S : List StockD} {i : Nat} {p : PhoneD} {q : List Int} (h : PhOK S i p q c) {k : Nat} {s : StockD} (hs : S[k]? = some s) : q.getD k 0 ≤ uAt s.L i := by
  unfold uAt
  rcases hl : lk Loan.p s.L (i : Int) with _ | l
  · have := h.qn k s hs hl
    simp only; omega
  · exact h.qu k s l hs hl
theorem PhOK.right {S : List StockD} {i : Nat} {p : PhoneD} {q : List Int} (h : PhOK S i p q c) (hi : i < 3) (hR : ∀ s, s ∈ S → RightS s) (hn : S.length ≤ 3) (hc : c ≤ 10000) : p.right = true := by
  have hH : holdsR p.H = true := by
    unfold holdsR
    rw [h.hd]
    have hl := hoF_len S i 0 q
    simp only [Bool.and_eq_true, decide_eq_true_eq]
    refine ⟨holdsGo_of (hoF_asc _ _ _ _) (fun x hx => ?_), by omega⟩
    obtain ⟨j, s, h1, h2⟩ := hoF_mem hx
    obtain ⟨e1, e2, l, e3, e4⟩ := hc_st h2
    have Rs := hR s (List.mem_of_getElem? h1)
    have h3 := lk_le Rs e3
    have h4 := h.q0 j
    have h5 := h.qu j s l h1 e3
    have h6 := Rs.sum
    have h7 := Rs.T1
    have h8 := Rs.U0
    rw [e1, e2, e4]
    exact ⟨by omega, by omega, by omega, by omega, by omega⟩
  unfold PhoneD.right
  rw [hH, h.jr.R (Nat.le_trans h.lN hc), h.sn.R, h.eid]
  have hg := h.jr.go
  simp only [Int.toNat_natCast, hg, h.sn.own, decide_true, Bool.and_true, Bool.true_and]
  exact rngB_iff.2 ⟨by omega, by omega⟩
theorem PhOK.fit {S : List StockD} {i : Nat} {p : PhoneD} {q : List Int} (h : PhOK S i p q c) (hR : ∀ s, s ∈ S → RightS s) (hs0 : ∀ s, s ∈ S → ∀ z l, lk Loan.p s.L z = some l → l.s = 0) : p.fit S = true := by
  have ha : Asc Hold.st p.H := by rw [h.hd]; exact hoF_asc _ _ _ _
  have hg := fitGo_hoF (p := p) (S := S) (k := 0) (q := q) (c := 0) hR (fun j s l hj hl => by
    have hlk := hoF_lk S i 0 q j
    rw [hj] at hlk
    simp only [hc] at hlk
    rw [h.eid] at hl
    rw [hl] at hlk
    simp only [Option.map_some] at hlk
    rw [← h.hd] at hlk
    obtain ⟨e1, e2⟩ := hold_at ha hlk
    unfold fitOne
    rw [e1]
    simp only [e2, hs0 s (List.mem_of_getElem? hj) _ l hl, decide_true, Bool.and_true])
  have he : fitGo p 0 0 S = some ((0 : Int) + (hoF p.id 0 S q).length) := hg
  rw [fit_some he, h.eid, ← h.hd]
  simp
theorem PInv.right' (h : PInv c d) (hc : c ≤ 10000) {i : Nat} {p : PhoneD} (hp : d.P[i]? = some p) : p.right = true ∧ p.fit d.S = true ∧ ∃ q, d.Q[i]? = some q ∧ PhOK d.S i p q c := by
  have hi : i < d.P.length := (List.getElem?_eq_some_iff.1 hp).1
  have hl := h.lP
  have hq := h.lQ
  have hqi : i < d.Q.length := by omega
  have he := h.ph i p d.Q[i] hp (List.getElem?_eq_getElem hqi)
  exact ⟨he.right (by omega) h.right h.n hc, he.fit h.right (fun s hs z l hl => (h.loan s hs z l hl).2), _, List.getElem?_eq_getElem hqi, he⟩
theorem PInv.fine (h : PInv c d) : FineD d where
  lT := h.lT
  lH := h.lH
  lq q hq := by
    obtain ⟨i, hi, rfl⟩ := List.mem_iff_getElem.1 hq
    have hP := h.lP
    have hQ := h.lQ
    have hip : i < d.P.length := by omega
    exact (h.ph i d.P[i] _ (List.getElem?_eq_getElem hip) (List.getElem?_eq_getElem hi)).lq
  right s hs := rightS_iff.2 (h.right s hs)
  T0 := h.T0
  H0 := h.H0
  q0 q hq := by
    obtain ⟨i, hi, rfl⟩ := List.mem_iff_getElem.1 hq
    have hP := h.lP
    have hQ := h.lQ
    have hip : i < d.P.length := by omega
    exact (h.ph i d.P[i] _ (List.getElem?_eq_getElem hip) (List.getElem?_eq_getElem hi)).q0
  U k hk := h.U k _ (List.getElem?_eq_getElem hk)
  le k hk := by
    have hU := h.U k _ (List.getElem?_eq_getElem hk)
    have R := h.right _ (List.getElem_mem hk)
    have hs := uAt_sum R.asc (fun x hx => (R.mem x hx).2.2.1)
    have hP := h.lP
    have hQ := h.lQ
    have hv : ∀ i, (hi : i < d.Q.length) → d.Q[i].getD k 0 ≤ uAt d.S[k].L i := fun i hi => by
      have hip : i < d.P.length := by omega
      exact (h.ph i d.P[i] _ (List.getElem?_eq_getElem hip) (List.getElem?_eq_getElem hi)).qle (List.getElem?_eq_getElem hk)
    have hsum := R.sum
    have e : d.Q = [d.Q[0], d.Q[1], d.Q[2]] := by
      apply List.ext_getElem (by simpa using hQ)
      intro j h1 h2
      match j, h2 with
      | 0, _ => rfl
      | 1, _ => rfl
      | 2, _ => rfl
    have h0 := hv 0 (by omega)
    have h1 := hv 1 (by omega)
    have h2 := hv 2 (by omega)
    have hq : qsum d.Q k = d.Q[0].getD k 0 + d.Q[1].getD k 0 + d.Q[2].getD k 0 := by
      conv => lhs; rw [e]
      simp only [qsum, List.map_cons, List.map_nil, List.sum_cons, List.sum_nil]
      omega
    rw [hq]
    simp only [Int.natCast_zero, Int.natCast_one] at h0 h1
    have h2' : d.Q[2].getD k 0 ≤ uAt d.S[k].L 2 := h2
    omega
  n := h.n
  m := h.lQ
theorem PInv.Nlen (h : PInv c d) (hc : c ≤ 40) : d.N.length ≤ 120 := by
  have hx : ∀ x, x ∈ d.N → 0 ≤ x.dev ∧ x.dev < 3 ∧ 0 ≤ x.seq ∧ x.seq < 40 := by
    intro x hx
    obtain ⟨i, p, hp, hm⟩ := h.mN x hx
    obtain ⟨_, _, q, _, hph⟩ := h.right' (by omega) hp
    have hd := hph.jr.dev hm
    have hi : i < d.P.length := (List.getElem?_eq_some_iff.1 hp).1
    have hl := h.lP
    have hn := hph.lN
    omega
  have := nodup_len 120 (d.N.map (fun x => (x.dev * 40 + x.seq).toNat)) (by
    rw [List.Nodup, List.pairwise_map]
    refine List.Pairwise.imp_of_mem ?_ h.sN
    intro a b ha hb hab he
    have h1 := hx a ha
    have h2 := hx b hb
    have h3 := lessN_iff.1 hab
    omega) (by
    intro y hy
    obtain ⟨x, hxm, rfl⟩ := List.mem_map.1 hy
    have := hx x hxm
    omega)
  simpa using this
end
end Go.Proofs.Ythnblhbdfpmolaa
/- A phone's part after an operation. -/
namespace Go.Proofs.Ythnblhbdfpmolaa
open Go.RowKit
theorem getD_set {l : List Int} {k j : Nat} {v : Int} (hk : k < l.length) : (l.set k v).getD j 0 = if k = j then v else l.getD j 0 := by
  simp only [List.getD_eq_getElem?_getD, List.getElem?_set]
  split
  · rename_i h; subst h; simp [hk]
  · rfl
theorem PhOK.mono {S : List StockD} {i : Nat} {p : PhoneD} {q : List Int} {c c' : Nat} (h : PhOK S i p q c) (hc : c ≤ c') : PhOK S i p q c' :=
  { eid := h.eid, hd := h.hd, jr := h.jr, lN := Nat.le_trans h.lN hc, sn := h.sn, q0 := h.q0, qu := h.qu, qn := h.qn, lq := h.lq }
theorem PhOK.setCut {S : List StockD} {i : Nat} {p : PhoneD} {q : List Int} {c : Nat} (h : PhOK S i p q c) (b : Bool) : PhOK S i { p with cut := b } q c :=
  { eid := h.eid, hd := h.hd, jr := h.jr, lN := h.lN, sn := h.sn, q0 := h.q0, qu := h.qu, qn := h.qn, lq := h.lq }
/-- Other stocks with the same loans of this phone. -/
theorem PhOK.congr {S S' : List StockD} {i : Nat} {p : PhoneD} {q : List Int} {c : Nat} (h : PhOK S i p q c) (hl : S'.length = S.length) (hs : ∀ (m : Nat) s', S'[m]? = some s' → ∃ s, S[m]? = some s ∧ lk Loan.p s'.L i = lk Loan.p s.L i) : PhOK S' i p q c where
  eid := h.eid
  hd := by
    rw [h.hd]
    refine hoF_congr hl.symm (fun m s s' h1 h2 => ?_)
    obtain ⟨t, h3, h4⟩ := hs m s' h2
    rw [h1] at h3
    injection h3 with h3
    rw [h4, h3]
  jr := h.jr
  lN := h.lN
  sn := h.sn
  q0 := h.q0
  qu k s' l h1 h2 := by
    obtain ⟨t, h3, h4⟩ := hs k s' h1
    exact h.qu k t l h3 (h4 ▸ h2)
  qn k s' h1 h2 := by
    obtain ⟨t, h3, h4⟩ := hs k s' h1
    exact h.qn k t h3 (h4 ▸ h2)
  lq := by rw [hl]; exact h.lq
theorem promise_ok {p : PhoneD} {k n t : Int} {tx : ByteArray} (h : (p.promise k n t tx).2 = 0) : p.right = true ∧ 1 ≤ n ∧ 0 ≤ t ∧ t ≤ 1048576 ∧ tx.size ≤ 20000 ∧ ∃ hh, p.H[hidx p.H k]? = some hh ∧ hhas p.H k = true ∧ n ≤ hh.u - hh.s ∧ lateN p.N t = false ∧
    (p.promise k n t tx).1 = { p with H := p.H.set (hidx p.H k) { hh with s := hh.s + n }, N := p.N ++ [⟨p.id, p.N.length, p.S, t, tx⟩] } := by
  unfold PhoneD.promise at h ⊢
  by_cases ho : okPro p n t tx = true
  · rw [if_pos ho] at h ⊢
    simp only [okPro, Bool.and_eq_true, rngB_iff, decide_eq_true_eq] at ho
    rcases hg : p.H[hidx p.H k]? with _ | hh
    · rw [hg] at h; cases h
    · rw [hg] at h
      simp only at h ⊢
      by_cases h1 : hhas p.H k = true
      · rw [if_pos h1] at h ⊢
        by_cases h2 : hh.u - hh.s < n
        · rw [if_pos h2] at h; cases h
        · rw [if_neg h2] at h ⊢
          rcases h3 : lateN p.N t
          · rw [h3] at h
            simp only [Bool.false_eq_true, if_false] at h ⊢
            by_cases h4 : p.N.length = 10000
            · rw [if_pos h4] at h; cases h
            · rw [if_neg h4]
              exact ⟨ho.1, ho.2.1.1, ho.2.2.1.1, ho.2.2.1.2, ho.2.2.2, hh, rfl, h1, by omega, trivial, rfl⟩
          · rw [h3] at h; cases h
      · rw [if_neg h1] at h; cases h
  · rw [if_neg ho] at h; cases h
theorem hold_split {H : List Hold} {p : Int} {h : Hold} (ha : Asc Hold.st H) (hg : H[hidx H p]? = some h) (hh : hhas H p = true) : lk Hold.st H p = some h := by
  obtain ⟨A, B, hA, hB, hc, hs⟩ := asc_split ha p
  rcases hs with ⟨_, hn⟩ | ⟨h', hp, hL, hy⟩
  · have : hhas H p = false := hn
    rw [this] at hh; cases hh
  · have e1 : H[hidx H p]? = some h' := by
      show H[H.countP (fun a => decide (a.st < p))]? = some h'
      rw [← hc, hL]; exact get_mid
    rw [e1] at hg
    injection hg with hg
    subst hg
    rw [hL]; exact lk_mid hA hp
/-- One hold is changed. -/
theorem hold_set {H : List Hold} {p : Int} {h h' : Hold} (ha : Asc Hold.st H) (hl : lk Hold.st H p = some h) (hst : h'.st = p) : Asc Hold.st (H.set (hidx H p) h') ∧ lk Hold.st (H.set (hidx H p) h') p = some h' ∧ ∀ z, z ≠ p → lk Hold.st (H.set (hidx H p) h') z = lk Hold.st H z := by
  obtain ⟨A, B, hA, hB, hc, hs⟩ := asc_split ha p
  rcases hs with ⟨hL, hn⟩ | ⟨x, hp, hL, hy⟩
  · rw [hL, lk_gap hA hB] at hl; cases hl
  · have e1 : H.set (hidx H p) h' = A ++ h' :: B := by
      show H.set (H.countP (fun a => decide (a.st < p))) h' = _
      rw [← hc, hL]; exact set_mid
    rw [e1]
    refine ⟨asc_mid hA hB hst (asc_gap (hL ▸ ha)), lk_mid hA hst, fun z hz => ?_⟩
    rw [lk_other hst hz, hL, lk_other hp hz]
theorem hold_ins {H : List Hold} {p : Int} {h' : Hold} (ha : Asc Hold.st H) (hl : lk Hold.st H p = none) (hst : h'.st = p) : Asc Hold.st (H.take (hidx H p) ++ h' :: H.drop (hidx H p)) ∧ lk Hold.st (H.take (hidx H p) ++ h' :: H.drop (hidx H p)) p = some h' ∧ ∀ z, z ≠ p → lk Hold.st (H.take (hidx H p) ++ h' :: H.drop (hidx H p)) z = lk Hold.st H z := by
  obtain ⟨A, B, hA, hB, hc, hs⟩ := asc_split ha p
  rcases hs with ⟨hL, hn⟩ | ⟨x, hp, hL, hy⟩
  · have e1 : H.take (hidx H p) ++ h' :: H.drop (hidx H p) = A ++ h' :: B := by
      show H.take (H.countP (fun a => decide (a.st < p))) ++ h' :: H.drop (H.countP (fun a => decide (a.st < p))) = _
      rw [← hc, hL]; simp
    rw [e1]
    refine ⟨asc_mid hA hB hst (hL ▸ ha), lk_mid hA hst, fun z hz => ?_⟩
    rw [lk_other hst hz, hL]
  · rw [hL, lk_mid hA hp] at hl; cases hl
theorem lk_hoF {S : List StockD} {i : Nat} {q : List Int} {k : Nat} {s : StockD} (hs : S[k]? = some s) : lk Hold.st (hoF i 0 S q) (k : Int) = hc i k s (q.getD k 0) := by
  have := hoF_lk S i 0 q k
  rw [hs, Nat.zero_add] at this
  exact this
theorem PhOK.promise {S : List StockD} {i : Nat} {p : PhoneD} {q : List Int} {c : Nat} (h : PhOK S i p q c) (hi : i < 3) {k : Nat} {s : StockD} (hs : S[k]? = some s) {un tm : Int} (hp : (p.promise k un tm nB).2 = 0) (hc' : c < 10000) : PhOK S i (p.promise k un tm nB).1 (q.set k (q.getD k 0 + un)) (c + 1) := by
  obtain ⟨hr, hn1, ht0, ht1, _, hh, hg, hhs, hle, hlt, he⟩ := promise_ok hp
  have ha : Asc Hold.st p.H := by rw [h.hd]; exact hoF_asc _ _ _ _
  have hl := hold_split ha hg hhs
  have hcc : hc i k s (q.getD k 0) = some hh := by rw [← lk_hoF hs, ← h.hd]; exact hl
  obtain ⟨e1, e2, l, e3, e4⟩ := hc_st hcc
  have hkS : k < S.length := (List.getElem?_eq_some_iff.1 hs).1
  have hkq : k < q.length := by rw [h.lq]; exact hkS
  obtain ⟨a1, a2, a3⟩ := hold_set (h' := { hh with s := hh.s + un }) ha hl e1
  have hsn := h.sn
  have hq0 := h.q0 k
  rw [he]
  exact {
    eid := h.eid
    hd := by
      refine hoF_ext a1 (fun x hx => ?_) (fun j => ?_)
      · rcases List.mem_or_eq_of_mem_set hx with hx | rfl
        · rw [h.hd] at hx; have := hoF_ge hx; omega
        · show 0 ≤ hh.st
          rw [e1]; omega
      · by_cases hj : j = k
        · subst hj
          rw [a2, hs]
          simp only
          unfold hc
          rw [e3]
          simp only [Option.map_some, Option.some.injEq]
          rw [getD_set hkq, if_pos rfl]
          rcases hh with ⟨x1, x2, x3⟩
          simp only at e1 e2 e4 ⊢
          rw [e1, e2, e4]
        · rw [a3 _ (by omega)]
          have e5 := hoF_lk S i 0 q j
          rw [Nat.zero_add] at e5
          rw [h.hd, e5, getD_set hkq, if_neg (fun h => hj h.symm)]
    jr := by
      refine ⟨fun n hn => ?_, ?_⟩
      · rcases List.mem_append.1 hn with hn | hn
        · exact h.jr.right n hn
        · rw [List.mem_singleton.1 hn]
          have hlN := h.lN
          have hnb : nB.size = 1 := rfl
          unfold NoteD.right
          rw [if_pos]
          · refine afOk_of2 hsn.rng (fun j x hx hj => ?_)
            have e6 := hsn.own
            simp only [h.eid] at hj
            obtain rfl : j = i := by omega
            rw [hx] at e6
            injection e6
          · simp only [NoteD.ok0, Bool.and_eq_true, rngB_iff, decide_eq_true_eq, h.eid, hsn.len, hnb]
            exact ⟨by omega, by omega, by omega, by omega, by omega⟩
      · refine notesGo_app2 _ _ _ _ _ h.jr.go h.eid (by simp) (fun x hx => ?_) (fun _ => ht0)
        unfold lateN at hlt
        rw [hx] at hlt
        simpa using hlt
    lN := by simp only [List.length_append, List.length_singleton]; have := h.lN; omega
    sn := hsn
    q0 := fun j => by
      rw [getD_set hkq]
      split
      · omega
      · exact h.q0 j
    qu := fun j s2 l2 h1 h2 => by
      rw [getD_set hkq]
      split
      · rename_i hjk
        subst hjk
        rw [hs] at h1
        injection h1 with h1
        subst h1
        rw [e3] at h2
        injection h2 with h2
        subst h2
        omega
      · exact h.qu j s2 l2 h1 h2
    qn := fun j s2 h1 h2 => by
      rw [getD_set hkq]
      split
      · rename_i hjk
        subst hjk
        rw [hs] at h1
        injection h1 with h1
        subst h1
        rw [e3] at h2; cases h2
      · exact h.qn j s2 h1 h2
    lq := by rw [List.length_set]; exact h.lq }
theorem lend_ok3 {p : PhoneD} {ss : List StockD} {k : Nat} {n : Int} {s : StockD} (hs : ss[k]? = some s) (h : (p.lend ss k n).2.2 = 0) : (s.lend p.id n).2 = 0 ∧ (p.lend ss k n).1 = { p with H := addH p.H k n } ∧ (p.lend ss k n).2.1 = ss.set k (s.lend p.id n).1 := by
  unfold PhoneD.lend at h ⊢
  by_cases ho : okLend p ss k = true
  · rw [if_pos ho] at h ⊢
    by_cases h1 : p.cut = true
    · rw [if_pos h1] at h; cases h
    · rw [if_neg h1] at h ⊢
      by_cases h2 : (!hhas p.H k && decide (p.H.length = 100)) = true
      · rw [if_pos h2] at h; cases h
      · rw [if_neg h2] at h ⊢
        simp only [Int.toNat_natCast] at h ⊢
        rw [hs] at h ⊢
        simp only at h ⊢
        by_cases h3 : (s.lend p.id n).2 = 0
        · rw [if_pos h3]; exact ⟨h3, rfl, rfl⟩
        · rw [if_neg h3] at h; exact absurd h h3
  · rw [if_neg ho] at h; cases h
theorem PhOK.lend {S : List StockD} {i : Nat} {p : PhoneD} {q : List Int} {c : Nat} (h : PhOK S i p q c) {k : Nat} {s s' : StockD} (hs : S[k]? = some s) {un : Int} (hn1 : 1 ≤ un)
    (hlk : (lk Loan.p s.L i = none ∧ lk Loan.p s'.L i = some ⟨i, un, 0⟩) ∨ ∃ l, lk Loan.p s.L i = some l ∧ lk Loan.p s'.L i = some { l with u := l.u + un }) : PhOK (S.set k s') i { p with H := addH p.H k un } q c := by
  have ha : Asc Hold.st p.H := by rw [h.hd]; exact hoF_asc _ _ _ _
  have hkS : k < S.length := (List.getElem?_eq_some_iff.1 hs).1
  have hks' : (S.set k s')[k]? = some s' := List.getElem?_set_self hkS
  have hot : ∀ {j : Nat}, j ≠ k → (S.set k s')[j]? = S[j]? := fun hj => List.getElem?_set_ne (fun h => hj h.symm)
  have hH : addH p.H k un = hoF i 0 (S.set k s') q := by
    rcases hlk with ⟨h1, h2⟩ | ⟨l, h1, h2⟩
    · have hno : lk Hold.st p.H (k : Int) = none := by rw [h.hd, lk_hoF hs]; unfold hc; rw [h1]; rfl
      have hq := h.qn k s hs h1
      obtain ⟨a1, a2, a3⟩ := hold_ins (h' := ⟨k, un, 0⟩) ha hno rfl
      unfold addH
      rw [hold_no ha hno]
      simp only [Bool.false_eq_true, if_false]
      refine hoF_ext a1 (fun x hx => ?_) (fun j => ?_)
      · rcases List.mem_append.1 hx with hx | hx
        · have hx := List.mem_of_mem_take hx
          rw [h.hd] at hx; have := hoF_ge hx; omega
        · rcases List.mem_cons.1 hx with rfl | hx
          · simp
          · have hx := List.mem_of_mem_drop hx
            rw [h.hd] at hx; have := hoF_ge hx; omega
      · by_cases hj : j = k
        · subst hj
          rw [a2, hks']
          simp only
          unfold hc
          rw [h2, hq]; rfl
        · rw [a3 _ (by omega), hot hj]
          have e5 := hoF_lk S i 0 q j
          rw [Nat.zero_add] at e5
          rw [h.hd, e5]
    · have hyes : lk Hold.st p.H (k : Int) = some ⟨k, l.u, q.getD k 0⟩ := by rw [h.hd, lk_hoF hs]; unfold hc; rw [h1]; rfl
      obtain ⟨b1, b2⟩ := hold_at ha hyes
      obtain ⟨a1, a2, a3⟩ := hold_set (h' := ⟨k, l.u + un, q.getD k 0⟩) ha hyes rfl
      unfold addH
      rw [b2, b1]
      simp only [if_true]
      refine hoF_ext a1 (fun x hx => ?_) (fun j => ?_)
      · rcases List.mem_or_eq_of_mem_set hx with hx | rfl
        · rw [h.hd] at hx; have := hoF_ge hx; omega
        · simp
      · by_cases hj : j = k
        · subst hj
          rw [a2, hks']
          simp only
          unfold hc
          rw [h2]; rfl
        · rw [a3 _ (by omega), hot hj]
          have e5 := hoF_lk S i 0 q j
          rw [Nat.zero_add] at e5
          rw [h.hd, e5]
  exact {
    eid := h.eid
    hd := hH
    jr := h.jr
    lN := h.lN
    sn := h.sn
    q0 := h.q0
    qu := fun j s2 l2 g1 g2 => by
      by_cases hj : j = k
      · subst hj
        rw [hks'] at g1
        injection g1 with g1
        subst g1
        rcases hlk with ⟨h1, h2⟩ | ⟨l, h1, h2⟩
        · rw [h2] at g2
          injection g2 with g2
          subst g2
          have := h.qn j s hs h1
          simp only; omega
        · rw [h2] at g2
          injection g2 with g2
          subst g2
          have := h.qu j s l hs h1
          simp only; omega
      · rw [hot hj] at g1; exact h.qu j s2 l2 g1 g2
    qn := fun j s2 g1 g2 => by
      by_cases hj : j = k
      · subst hj
        rw [hks'] at g1
        injection g1 with g1
        subst g1
        rcases hlk with ⟨h1, h2⟩ | ⟨l, h1, h2⟩
        · rw [h2] at g2; cases g2
        · rw [h2] at g2; cases g2
      · rw [hot hj] at g1; exact h.qn j s2 g1 g2
    lq := by rw [List.length_set]; exact h.lq }
end Go.Proofs.Ythnblhbdfpmolaa
