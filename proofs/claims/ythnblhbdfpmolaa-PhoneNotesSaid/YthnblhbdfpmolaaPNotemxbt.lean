/- A play keeps what it keeps. -/
import Derived.Test.YthnblhbdfpmolaaPNotemxbs
namespace Go.Proofs.Ythnblhbdfpmolaa
open Go.RowKit
def jS (i : Int) : Nat → List StockD → List Int → List StockD
  | _, [], _ => []
  | k, s :: r, q => (match hc i k s (q.headD 0) with | some h => joinS i h s | none => s) :: jS i (k + 1) r q.tail
theorem jS_len : ∀ (S : List StockD) (i : Int) (k : Nat) (q : List Int), (jS i k S q).length = S.length
  | [], _, _, _ => rfl
  | s :: r, i, k, q => by simp [jS, jS_len r i (k + 1) q.tail]
theorem jS_get : ∀ (S : List StockD) (i : Int) (k : Nat) (q : List Int) (m : Nat), (jS i k S q)[m]? = (S[m]?).map (fun s => match hc i (k + m) s (q.getD m 0) with | some h => joinS i h s | none => s)
  | [], _, _, _, _ => rfl
  | s :: r, i, k, q, m => by
    unfold jS
    rcases m with _ | m
    · simp only [List.getElem?_cons_zero, Option.map_some, Nat.add_zero, headD_getD]
    · simp only [List.getElem?_cons_succ]
      rw [jS_get r i (k + 1) q.tail m, tail_getD, show k + 1 + m = k + (m + 1) by omega]
theorem joinGo_hoF : ∀ (S : List StockD) (i : Int) (q : List Int) (Pre : List StockD), joinGo i (hoF i Pre.length S q) (Pre ++ S) = Pre ++ jS i Pre.length S q
  | [], i, q, Pre => by simp [hoF, jS, joinGo]
  | s :: r, i, q, Pre => by
    rw [hoF_cons]
    unfold jS
    have hap : ∀ x : StockD, Pre ++ x :: r = (Pre ++ [x]) ++ r := fun x => by simp
    have hlen : ∀ x : StockD, (Pre ++ [x]).length = Pre.length + 1 := fun x => by simp
    rcases hh : hc i Pre.length s (q.headD 0) with _ | h
    · simp only [Option.toList_none, List.nil_append]
      have := joinGo_hoF r i q.tail (Pre ++ [s])
      rw [hlen, ← hap] at this
      rw [this]; simp
    · simp only [Option.toList_some, List.singleton_append]
      have hst := (hc_st hh).1
      unfold joinGo
      have e1 : (Pre ++ s :: r)[h.st.toNat]? = some s := by rw [hst]; simp
      rw [e1]
      simp only
      have e2 : (Pre ++ s :: r).set h.st.toNat (joinS i h s) = Pre ++ joinS i h s :: r := by rw [hst]; simp
      rw [e2]
      have := joinGo_hoF r i q.tail (Pre ++ [joinS i h s])
      rw [hlen, ← hap] at this
      rw [this]; simp
theorem zero_getD (q : List Int) (k : Nat) : (q.map fun _ => (0 : Int)).getD k 0 = 0 := by
  simp only [List.getD_eq_getElem?_getD, List.getElem?_map]
  rcases q[k]? with _ | x <;> rfl
theorem zipA_getD {H q : List Int} (h : H.length = q.length) (k : Nat) : (zipA H q).getD k 0 = H.getD k 0 + q.getD k 0 := by
  unfold zipA
  simp only [List.getD_eq_getElem?_getD, List.getElem?_zipWith]
  rcases Nat.lt_or_ge k H.length with h1 | h1
  · rw [List.getElem?_eq_getElem h1, List.getElem?_eq_getElem (show k < q.length by omega)]; rfl
  · rw [List.getElem?_eq_none h1, List.getElem?_eq_none (show q.length ≤ k by omega)]; rfl
section
variable {c : Nat} {d : PlD}
theorem PInv.mono {c' : Nat} (h : PInv c d) (hc : c ≤ c') : PInv c' d :=
  { n := h.n, lP := h.lP, lQ := h.lQ, lT := h.lT, lH := h.lH, T0 := h.T0, H0 := h.H0, right := h.right, loan := h.loan, U := h.U, ph := fun i p q hp hq => (h.ph i p q hp hq).mono hc, nN := h.nN, sN := h.sN, mN := h.mN }
theorem set_at {α : Type} {l : List α} {i j : Nat} {x y : α} (h : (l.set i x)[j]? = some y) : (j = i ∧ i < l.length ∧ y = x) ∨ (j ≠ i ∧ l[j]? = some y) := by
  rw [List.getElem?_set] at h
  split at h
  · rename_i e
    subst e
    split at h
    · rename_i hl; injection h with h; exact .inl ⟨rfl, hl, h.symm⟩
    · cases h
  · rename_i e; exact .inr ⟨fun h => e h.symm, h⟩
/-- One phone is another one. -/
theorem PInv.setP {c' : Nat} (h : PInv c d) (hc : c ≤ c') {i : Nat} {p p' : PhoneD} (hp : d.P[i]? = some p) {Q' : List (List Int)} {q' : List Int} (hQ : ∀ j q, Q'[j]? = some q → (j = i ∧ q = q') ∨ (j ≠ i ∧ d.Q[j]? = some q)) (hlQ : Q'.length = 3) (hok : PhOK d.S i p' q' c') (hN : ∀ x, x ∈ p.N → x ∈ p'.N) : PInv c' { d with P := d.P.set i p', Q := Q' } where
  n := h.n
  lP := by simp only [List.length_set]; exact h.lP
  lQ := hlQ
  lT := h.lT
  lH := h.lH
  T0 := h.T0
  H0 := h.H0
  right := h.right
  loan := h.loan
  U := h.U
  ph j p2 q2 h1 h2 := by
    rcases set_at h1 with ⟨rfl, _, rfl⟩ | ⟨hj, h1⟩
    · rcases hQ j q2 h2 with ⟨_, rfl⟩ | ⟨hj, _⟩
      · exact hok
      · exact absurd rfl hj
    · rcases hQ j q2 h2 with ⟨hj2, _⟩ | ⟨_, h2⟩
      · exact absurd hj2 hj
      · exact (h.ph j p2 q2 h1 h2).mono hc
  nN := h.nN
  sN := h.sN
  mN x hx := by
    obtain ⟨j, p2, h1, h2⟩ := h.mN x hx
    have hi : i < d.P.length := (List.getElem?_eq_some_iff.1 hp).1
    by_cases hj : j = i
    · subst hj
      rw [hp] at h1
      injection h1 with h1
      subst h1
      exact ⟨j, p', List.getElem?_set_self hi, hN x h2⟩
    · exact ⟨j, p2, by simp only; rw [List.getElem?_set_ne (fun h => hj h.symm)]; exact h1, h2⟩
theorem cutS_eq (p : PhoneD) (hr : p.right = true) : p.cutS.1 = { p with cut := true } := by
  unfold PhoneD.cutS
  rw [if_pos hr]
  by_cases h : p.cut = true
  · rw [if_pos h]
    rcases p with ⟨a, b, e, f, g⟩
    simp only at h
    rw [h]
  · rw [if_neg h]
theorem PInv.cut (h : PInv c d) (hc : c ≤ 10000) {i : Nat} {p : PhoneD} (hp : d.P[i]? = some p) : PInv c { d with P := d.P.set i p.cutS.1 } := by
  obtain ⟨hr, _, q, hq, hph⟩ := h.right' hc hp
  rw [cutS_eq p hr]
  exact h.setP (Nat.le_refl _) hp (Q' := d.Q) (q' := q) (fun j q2 h2 => by
    by_cases hj : j = i
    · subst hj; rw [hq] at h2; injection h2 with h2; exact .inl ⟨rfl, h2.symm⟩
    · exact .inr ⟨hj, h2⟩) h.lQ (hph.setCut true) (fun x hx => hx)
theorem PInv.doCut (h : PInv c d) (hc : c ≤ 10000) {i : Nat} {p : PhoneD} (hp : d.P[i]? = some p) : PInv c (d.doCut i p) := by
  unfold PlD.doCut
  split
  · exact h.cut hc hp
  · exact h
theorem PInv.doPromise (h : PInv c d) (hc : c < 10000) {i k : Nat} {p : PhoneD} {q : List Int} {s : StockD} (hp : d.P[i]? = some p) (hq : d.Q[i]? = some q) (hs : d.S[k]? = some s) (un tm : Int) : PInv (c + 1) (d.doPromise i k p q un tm) := by
  unfold PlD.doPromise
  split
  · rename_i hE
    have hph := h.ph i p q hp hq
    have hi : i < d.P.length := (List.getElem?_eq_some_iff.1 hp).1
    have hl := h.lP
    have hiQ : i < d.Q.length := (List.getElem?_eq_some_iff.1 hq).1
    exact h.setP (Nat.le_succ _) hp (Q' := d.Q.set i (q.set k (q.getD k 0 + un))) (q' := q.set k (q.getD k 0 + un)) (fun j q2 h2 => by
      rcases set_at h2 with ⟨h3, _, h4⟩ | h3
      · exact .inl ⟨h3, h4⟩
      · exact .inr h3) (by rw [List.length_set]; exact h.lQ) (hph.promise (by omega) hs hE hc) (fun x hx => by
      obtain ⟨_, _, _, _, _, hh, _, _, _, _, he⟩ := promise_ok hE
      rw [he]; exact List.mem_append.2 (.inl hx))
  · exact h.mono (Nat.le_succ _)
theorem PInv.doTake (h : PInv c d) {k : Nat} {s : StockD} (hs : d.S[k]? = some s) (un : Int) : PInv c (d.doTake k s un) := by
  unfold PlD.doTake
  split
  · rename_i hE
    obtain ⟨R, he, hn1⟩ := take_ok2 hE
    rw [he] at R ⊢
    have hk : k < d.S.length := (List.getElem?_eq_some_iff.1 hs).1
    have hkT : k < d.T.length := by rw [h.lT]; exact hk
    have hat : ∀ (m : Nat) s', (d.S.set k { s with U := s.U + un })[m]? = some s' → ∃ s0, d.S[m]? = some s0 ∧ s'.L = s0.L ∧ s'.U = s0.U + if k = m then un else 0 := by
      intro m s' h1
      rcases set_at h1 with ⟨rfl, _, rfl⟩ | ⟨hm, h1⟩
      · exact ⟨s, hs, rfl, by simp⟩
      · exact ⟨s', h1, rfl, by rw [if_neg (fun h => hm h.symm)]; omega⟩
    exact {
      n := by simp only [List.length_set]; exact h.n
      lP := h.lP
      lQ := h.lQ
      lT := by simp only [List.length_set]; exact h.lT
      lH := by simp only [List.length_set]; exact h.lH
      T0 := fun j => by
        simp only
        rw [getD_set hkT]
        have := h.T0 k
        split
        · omega
        · exact h.T0 j
      H0 := h.H0
      right := fun s' hs' => by
        rcases List.mem_or_eq_of_mem_set hs' with hs' | rfl
        · exact h.right s' hs'
        · exact R
      loan := fun s' hs' z l hl => by
        rcases List.mem_or_eq_of_mem_set hs' with hs' | rfl
        · exact h.loan s' hs' z l hl
        · exact h.loan s (List.mem_of_getElem? hs) z l hl
      U := fun j s' h1 => by
        obtain ⟨s0, h2, _, h4⟩ := hat j s' h1
        have h5 := h.U j s0 h2
        simp only
        rw [getD_set hkT, h4, h5]
        split
        · rename_i hkj; subst hkj; omega
        · omega
      ph := fun j p q hp hq => (h.ph j p q hp hq).congr (by simp) (fun m s' h1 => by
        obtain ⟨s0, h2, h3, _⟩ := hat m s' h1
        exact ⟨s0, h2, by rw [h3]⟩)
      nN := h.nN
      sN := h.sN
      mN := h.mN }
  · exact h
theorem PInv.doLend (h : PInv c d) (hcc : c ≤ 10000) {i k : Nat} {p : PhoneD} {s : StockD} (hp : d.P[i]? = some p) (hs : d.S[k]? = some s) (un : Int) : PInv c (d.doLend i k p un) := by
  unfold PlD.doLend
  split
  · rename_i hE
    obtain ⟨hr, _, q, hq, hph⟩ := h.right' hcc hp
    obtain ⟨h1, h2, h3⟩ := lend_ok3 hs hE
    rw [h2, h3]
    obtain ⟨R, hT, hU, hn1, hot, hlk⟩ := lend_ok2 h1
    rw [hph.eid] at R hT hU hot hlk ⊢
    generalize (s.lend i un).1 = s' at *
    have hi : i < d.P.length := (List.getElem?_eq_some_iff.1 hp).1
    have hl := h.lP
    have hk : k < d.S.length := (List.getElem?_eq_some_iff.1 hs).1
    have hls := fun z l hl => h.loan s (List.mem_of_getElem? hs) z l hl
    exact {
      n := by simp only [List.length_set]; exact h.n
      lP := by simp only [List.length_set]; exact h.lP
      lQ := h.lQ
      lT := by simp only [List.length_set]; exact h.lT
      lH := by simp only [List.length_set]; exact h.lH
      T0 := h.T0
      H0 := h.H0
      right := fun t ht => by
        rcases List.mem_or_eq_of_mem_set ht with ht | rfl
        · exact h.right t ht
        · exact R
      loan := fun t ht z l hl => by
        rcases List.mem_or_eq_of_mem_set ht with ht | rfl
        · exact h.loan t ht z l hl
        · by_cases hz : z = i
          · subst hz
            refine ⟨by omega, ?_⟩
            rcases hlk with ⟨_, g2⟩ | ⟨l0, g1, g2⟩
            · rw [g2] at hl; injection hl with hl; rw [← hl]
            · rw [g2] at hl; injection hl with hl; rw [← hl]; exact (hls _ _ g1).2
          · rw [hot z hz] at hl; exact hls z l hl
      U := fun j t g1 => by
        rcases set_at g1 with ⟨rfl, _, rfl⟩ | ⟨hj, g1⟩
        · rw [hU]; exact h.U j s hs
        · exact h.U j t g1
      ph := fun j p2 q2 g1 g2 => by
        rcases set_at g1 with ⟨rfl, _, rfl⟩ | ⟨hj, g1⟩
        · have hq2 : d.Q[j]? = some q2 := g2
          rw [hq] at hq2
          injection hq2 with hq2
          subst hq2
          have hnew := hph.lend hs hn1 hlk
          rw [hph.eid] at hnew
          exact hnew
        · refine (h.ph j p2 q2 g1 g2).congr (by simp) (fun m t g3 => ?_)
          rcases set_at g3 with ⟨rfl, _, rfl⟩ | ⟨hm, g3⟩
          · exact ⟨s, hs, hot j (by omega)⟩
          · exact ⟨t, g3, rfl⟩
      nN := h.nN
      sN := h.sN
      mN := fun x hx => by
        obtain ⟨j, p2, g1, g2⟩ := h.mN x hx
        by_cases hj : j = i
        · subst hj
          rw [hp] at g1
          injection g1 with g1
          subst g1
          exact ⟨j, _, List.getElem?_set_self hi, g2⟩
        · exact ⟨j, p2, by simp only; rw [List.getElem?_set_ne (fun h => hj h.symm)]; exact g1, g2⟩ }
  · exact h
end
end Go.Proofs.Ythnblhbdfpmolaa
/- A play keeps what it keeps: joining; all together. -/
namespace Go.Proofs.Ythnblhbdfpmolaa
open Go.RowKit
section
variable {c : Nat} {d : PlD}
theorem PInv.nR (h : PInv c d) (hc : c ≤ 40) : notesR d.N = true := by
  have := h.Nlen hc
  simp only [notesR, Bool.and_eq_true, decide_eq_true_eq, List.all_eq_true]
  exact ⟨by omega, h.nN⟩
theorem PInv.joinE (h : PInv c d) (hc : c ≤ 40) {i : Nat} {p : PhoneD} {q : List Int} (hp : d.P[i]? = some p) (hq : d.Q[i]? = some q) : p.join d.S (countsN d.N) = if p.cut then ({ p with cut := false, H := [], S := seenJ i 0 p.S (countsN d.N) }, jS i 0 d.S q, p.N, 0) else (p, d.S, [], 7) := by
  obtain ⟨hr, hf, q', hq', hph⟩ := h.right' (by omega) hp
  rw [hq] at hq'
  injection hq' with hq'
  subst hq'
  have hn := h.Nlen hc
  obtain ⟨hc1, hc2⟩ := counts_ok (l := d.N) (by omega)
  have hs : seenR (countsN d.N) = true := by
    unfold seenR
    simp only [Bool.and_eq_true, decide_eq_true_eq, List.all_eq_true]
    exact ⟨hc1, fun x hx => rngB_iff.2 (hc2 x hx)⟩
  unfold PhoneD.join
  have ho : okJoin p d.S (countsN d.N) = true := by unfold okJoin; rw [hr, hf, hs]; rfl
  rw [if_pos ho]
  by_cases hcut : p.cut = true
  · rw [if_pos hcut, if_pos hcut, hph.eid]
    have := joinGo_hoF d.S i q []
    simp only [List.length_nil, List.nil_append] at this
    rw [hph.hd, this]
  · rw [if_neg hcut, if_neg hcut]
theorem PInv.clash (h : PInv c d) (hc : c ≤ 40) {i : Nat} {p : PhoneD} (hp : d.P[i]? = some p) : ¬ ClashN (d.N ++ p.N) := by
  have key : ∀ x, x ∈ d.N ++ p.N → ∃ (j : Nat) (pj : PhoneD), d.P[j]? = some pj ∧ x ∈ pj.N := by
    intro x hx
    rcases List.mem_append.1 hx with hx | hx
    · exact h.mN x hx
    · exact ⟨i, p, hp, hx⟩
  rintro ⟨x, hx, y, hy, ⟨hk1, hk2⟩, hs⟩
  obtain ⟨j, pj, h1, h2⟩ := key x hx
  obtain ⟨l, pl, h3, h4⟩ := key y hy
  obtain ⟨_, _, q1, _, hj⟩ := h.right' (by omega) h1
  obtain ⟨_, _, q2, _, hl⟩ := h.right' (by omega) h3
  have e1 := (hj.jr.dev h2).1
  have e2 := (hl.jr.dev h4).1
  obtain rfl : j = l := by omega
  rw [h1] at h3
  injection h3 with h3
  subst h3
  have := hj.jr.key h2 h4 hk2
  subst this
  rw [NoteD.same_refl] at hs; cases hs
theorem PInv.merged (h : PInv c d) (hc : c ≤ 40) {i : Nat} {p : PhoneD} (hp : d.P[i]? = some p) : (mergeN d.N p.N).2 = 0 := by
  obtain ⟨_, _, q, _, hph⟩ := h.right' (by omega) hp
  exact merge_ok (h.nR hc) (hph.jr.R (by have := hph.lN; omega)) (h.clash hc hp)
theorem PInv.bnd (h : PInv c d) : (∀ k, 0 ≤ d.T.getD k 0 ∧ d.T.getD k 0 ≤ 1000000000000000) ∧ (∀ k, 0 ≤ d.H.getD k 0 ∧ d.H.getD k 0 ≤ 1000000000000000) := by
  have key : ∀ k, d.T.getD k 0 + d.H.getD k 0 ≤ 1000000000000000 := by
    intro k
    rcases Nat.lt_or_ge k d.S.length with hk | hk
    · have h1 := h.U k _ (List.getElem?_eq_getElem hk)
      have R := h.right _ (List.getElem_mem hk)
      have := R.U1
      have := R.T1
      omega
    · rw [getD_out (by rw [h.lT]; exact hk), getD_out (by rw [h.lH]; exact hk)]; omega
  refine ⟨fun k => ?_, fun k => ?_⟩
  · have := key k; have := h.T0 k; have := h.H0 k; omega
  · have := key k; have := h.T0 k; have := h.H0 k; omega
theorem PhOK.bnd {S : List StockD} {i : Nat} {p : PhoneD} {q : List Int} (h : PhOK S i p q c) (hR : ∀ s, s ∈ S → RightS s) : ∀ k, 0 ≤ q.getD k 0 ∧ q.getD k 0 ≤ 1000000000000000 := by
  intro k
  refine ⟨h.q0 k, ?_⟩
  rcases Nat.lt_or_ge k S.length with hk | hk
  · rcases hl : lk Loan.p S[k].L (i : Int) with _ | l
    · rw [h.qn k _ (List.getElem?_eq_getElem hk) hl]; omega
    · have h1 := h.qu k _ l (List.getElem?_eq_getElem hk) hl
      have R := hR _ (List.getElem_mem hk)
      have h2 := lk_le R hl
      have := R.sum
      have := R.T1
      have := R.U0
      omega
  · rw [getD_out (by rw [h.lq]; exact hk)]; omega
theorem PInv.jok (h : PInv c d) (hc : c ≤ 40) {i : Nat} {p : PhoneD} {q : List Int} (hp : d.P[i]? = some p) (hq : d.Q[i]? = some q) : JoinOK d i p q := by
  have hi : i < d.P.length := (List.getElem?_eq_some_iff.1 hp).1
  have hl := h.lP
  have hph := h.ph i p q hp hq
  have hN := h.Nlen hc
  have hlN := hph.lN
  have hE := h.joinE hc hp hq
  exact {
    P := hp
    Q := hq
    i3 := by omega
    lP := h.lP
    lQ := h.lQ
    lS := h.n
    lH := by rw [h.lH, hph.lq]
    lHS := by rw [h.lH]; exact h.n
    bH := h.bnd.2
    bq := hph.bnd h.right
    lN := by omega
    ok := fun h0 => by
      rw [hE] at h0 ⊢
      split at h0
      · rename_i hcut
        rw [if_pos hcut]
        exact ⟨h.merged hc hp, jS_len _ _ _ _, rfl⟩
      · cases h0 }
theorem PInv.aok (h : PInv c d) {i k : Nat} {p : PhoneD} {q : List Int} {s : StockD} (hp : d.P[i]? = some p) (hq : d.Q[i]? = some q) (hs : d.S[k]? = some s) : ActOK d i k p q s := by
  have hi : i < d.P.length := (List.getElem?_eq_some_iff.1 hp).1
  have hl := h.lP
  have hph := h.ph i p q hp hq
  exact { P := hp, Q := hq, S := hs, i3 := by omega, lP := h.lP, lQ := h.lQ, lS := h.n, lq := hph.lq, lT := h.lT, bq := hph.bnd h.right, bT := h.bnd.1 }
theorem PInv.join (h : PInv c d) (hc : c ≤ 40) {i : Nat} {p : PhoneD} {q : List Int} (hp : d.P[i]? = some p) (hq : d.Q[i]? = some q) : PInv c (d.join i p q) ∧ (p.cut = true → ∃ p', (d.join i p q).P = d.P.set i p' ∧ p'.cut = false ∧ p'.H = []) := by
  have hE := h.joinE hc hp hq
  unfold PlD.join
  rw [hE]
  by_cases hcut : p.cut = true
  · rw [if_pos hcut]
    simp only [if_true]
    refine ⟨?_, fun _ => ⟨_, rfl, rfl, rfl⟩⟩
    have hi : i < d.P.length := (List.getElem?_eq_some_iff.1 hp).1
    have hl := h.lP
    have hph := h.ph i p q hp hq
    have hiQ : i < d.Q.length := (List.getElem?_eq_some_iff.1 hq).1
    have hm := merge_zero (h.merged hc hp)
    have hN := h.Nlen hc
    obtain ⟨hc1, hc2⟩ := counts_ok (l := d.N) (by omega)
    have hlH : d.H.length = q.length := by rw [h.lH, hph.lq]
    have hat : ∀ (m : Nat) s', (jS i 0 d.S q)[m]? = some s' → ∃ s0, d.S[m]? = some s0 ∧ RightS s' ∧ s'.U = s0.U + q.getD m 0 ∧ lk Loan.p s'.L i = none ∧ ∀ z, z ≠ (i : Int) → lk Loan.p s'.L z = lk Loan.p s0.L z := by
      intro m s' h1
      rw [jS_get, Nat.zero_add] at h1
      rcases hs : d.S[m]? with _ | s0
      · rw [hs] at h1; cases h1
      · rw [hs] at h1
        simp only [Option.map_some, Option.some.injEq] at h1
        have R := h.right s0 (List.mem_of_getElem? hs)
        rcases hlk : lk Loan.p s0.L (i : Int) with _ | l
        · have hh : Go.Proofs.Ythnblhbdfpmolaa.hc i m s0 (q.getD m 0) = none := by
            show (lk Loan.p s0.L (i : Int)).map _ = none
            rw [hlk]; rfl
          rw [hh] at h1
          simp only at h1
          subst h1
          exact ⟨s0, rfl, R, by rw [hph.qn m s0 hs hlk]; omega, hlk, fun z _ => rfl⟩
        · have hh : Go.Proofs.Ythnblhbdfpmolaa.hc i m s0 (q.getD m 0) = some ⟨m, l.u, q.getD m 0⟩ := by
            show (lk Loan.p s0.L (i : Int)).map _ = _
            rw [hlk]; rfl
          rw [hh] at h1
          simp only at h1
          have hlo := h.loan s0 (List.mem_of_getElem? hs) i l hlk
          obtain ⟨g1, g2, g3, g4, g5⟩ := joinS_ok2 (hd := ⟨m, l.u, q.getD m 0⟩) R (by omega) (by omega) hlk hlo.2 (hph.q0 m) (hph.qu m s0 l hs hlk)
          rw [h1] at g1 g2 g3 g4 g5
          exact ⟨s0, rfl, g1, g3, g4, g5⟩
    exact {
      n := by simp only [jS_len]; exact h.n
      lP := by simp only [List.length_set]; exact h.lP
      lQ := by simp only [List.length_set]; exact h.lQ
      lT := by simp only [jS_len]; exact h.lT
      lH := by
        simp only [jS_len]
        unfold zipA
        rw [List.length_zipWith, h.lH, hph.lq]; omega
      T0 := h.T0
      H0 := fun k => by
        simp only
        rw [zipA_getD hlH]
        have := h.H0 k
        have := hph.q0 k
        omega
      right := fun s' hs' => by
        obtain ⟨m, hm', rfl⟩ := List.mem_iff_getElem.1 hs'
        obtain ⟨_, _, R, _⟩ := hat m _ (List.getElem?_eq_getElem hm')
        exact R
      loan := fun s' hs' z l hl' => by
        obtain ⟨m, hm', rfl⟩ := List.mem_iff_getElem.1 hs'
        obtain ⟨s0, g1, _, _, g4, g5⟩ := hat m _ (List.getElem?_eq_getElem hm')
        by_cases hz : z = (i : Int)
        · subst hz; rw [g4] at hl'; cases hl'
        · rw [g5 z hz] at hl'; exact h.loan s0 (List.mem_of_getElem? g1) z l hl'
      U := fun m s' g0 => by
        obtain ⟨s0, g1, _, g3, _⟩ := hat m s' g0
        simp only
        rw [g3, zipA_getD hlH, h.U m s0 g1]; omega
      ph := fun j p2 q2 g1 g2 => by
        rcases set_at g1 with ⟨rfl, _, rfl⟩ | ⟨hj, g1⟩
        · rcases set_at g2 with ⟨_, _, rfl⟩ | ⟨hj, _⟩
          · exact {
              eid := hph.eid
              hd := by
                simp only
                rw [hoF_nil]
                intro s' hs'
                obtain ⟨m, hm', rfl⟩ := List.mem_iff_getElem.1 hs'
                obtain ⟨_, _, _, _, g4, _⟩ := hat m _ (List.getElem?_eq_getElem hm')
                exact g4
              jr := hph.jr
              lN := hph.lN
              sn := seenJ_ok hph.sn hc2
              q0 := fun k => by rw [zero_getD]; omega
              qu := fun k s' l g3 g4 => by
                obtain ⟨_, _, _, _, g5, _⟩ := hat k s' g3
                rw [g5] at g4; cases g4
              qn := fun k s' _ _ => zero_getD _ _
              lq := by rw [List.length_map, jS_len]; exact hph.lq }
          · exact absurd rfl hj
        · rcases set_at g2 with ⟨hj2, _, _⟩ | ⟨_, g2⟩
          · exact absurd hj2 hj
          · refine (h.ph j p2 q2 g1 g2).congr (jS_len _ _ _ _) (fun m s' g3 => ?_)
            obtain ⟨s0, g4, _, _, _, g5⟩ := hat m s' g3
            exact ⟨s0, g4, g5 j (by omega)⟩
      nN := fun x hx => by
        rcases hm.mem x hx with hx | hx
        · exact h.nN x hx
        · exact hph.jr.right x hx
      sN := hm.sorted
      mN := fun x hx => by
        have hx2 : ∃ (j : Nat) (pj : PhoneD), d.P[j]? = some pj ∧ x ∈ pj.N := by
          rcases hm.mem x hx with hx | hx
          · exact h.mN x hx
          · exact ⟨i, p, hp, hx⟩
        obtain ⟨j, pj, g1, g2⟩ := hx2
        by_cases hj : j = i
        · subst hj
          rw [hp] at g1
          injection g1 with g1
          subst g1
          exact ⟨j, _, List.getElem?_set_self hi, g2⟩
        · exact ⟨j, pj, by simp only; rw [List.getElem?_set_ne (fun h => hj h.symm)]; exact g1, g2⟩ }
  · rw [if_neg hcut]
    simp only
    rw [if_neg (by decide)]
    exact ⟨h, fun h => absurd h hcut⟩
end
theorem plays : Plays (fun c d => PInv c d ∧ c ≤ 40) where
  start ss hn hs := by
    refine ⟨?_, by omega⟩
    have hL : ∀ s, s ∈ ss → ∀ z : Int, lk Loan.p s.L z = none := fun s h z => by rw [(hs s h).2]; rfl
    have hz : ∀ n k : Nat, (List.replicate n (0 : Int)).getD k 0 = 0 := fun n k => by
      simp only [List.getD_eq_getElem?_getD, List.getElem?_replicate]; split <;> rfl
    exact {
      n := hn
      lP := by simp [begunD]
      lQ := by simp [begunD]
      lT := by simp [begunD]
      lH := by simp [begunD]
      T0 := fun k => by
        simp only [begunD, List.getD_eq_getElem?_getD, List.getElem?_map]
        rcases h : ss[k]? with _ | s
        · simp
        · have R := rightS_iff.1 (hs s (List.mem_of_getElem? h)).1
          simp only [Option.map_some, Option.getD_some]
          exact R.U0
      H0 := fun k => by simp only [begunD, hz]; omega
      right := fun s h => rightS_iff.1 (hs s h).1
      loan := fun s h z l hl => by rw [hL s h z] at hl; cases hl
      U := fun k s h => by
        have h' : ss[k]? = some s := h
        simp only [begunD, hz, List.getD_eq_getElem?_getD, List.getElem?_map, h']
        simp
      ph := fun i p q hp hq => by
        simp only [begunD, List.getElem?_map, List.getElem?_replicate] at hp hq
        split at hq
        · rename_i hi
          injection hq with hq
          subst hq
          rw [List.getElem?_range hi] at hp
          simp only [Option.map_some, Option.some.injEq] at hp
          subst hp
          exact {
            eid := rfl
            hd := (hoF_nil (fun s h => hL s h _)).symm
            jr := ⟨fun n hn => (by cases hn), rfl⟩
            lN := by simp [pZ]
            sn := ⟨rfl, fun x hx => by simp [pZ] at hx; omega, by
              show (List.replicate 12 (0 : Int))[i]? = some 0
              rw [List.getElem?_replicate, if_pos (by omega)]⟩
            q0 := fun k => by rw [hz]; omega
            qu := fun k s l h hl => by rw [hL s (List.mem_of_getElem? h) _] at hl; cases hl
            qn := fun k s _ _ => hz _ _
            lq := by simp [begunD] }
        · cases hq
      nN := fun x hx => by cases hx
      sN := List.Pairwise.nil
      mN := fun x hx => by cases hx }
  fine h := h.1.fine
  lP h := h.1.lP
  ok h _ i k p q s hp hq hs := ⟨h.1.aok hp hq hs, by
    have := StockD.right_len (rightS_iff.2 (h.1.right s (List.mem_of_getElem? hs)))
    omega⟩
  jok h _ i p q hp hq := h.1.jok h.2 hp hq
  act h hc kd pn sn un tm := by
    refine ⟨?_, by omega⟩
    obtain ⟨h, _⟩ := h
    unfold PlD.act
    split
    · exact h.mono (Nat.le_succ _)
    · split
      · rename_i p q s hp hq hs
        split
        · exact (h.doLend (by omega) hp hs un).mono (Nat.le_succ _)
        · split
          · exact h.doPromise (by omega) hp hq hs un tm
          · split
            · exact (h.doCut (by omega) hp).mono (Nat.le_succ _)
            · split
              · exact (h.join (by omega) hp hq).1.mono (Nat.le_succ _)
              · split
                · exact (h.doTake hs un).mono (Nat.le_succ _)
                · exact h.mono (Nat.le_succ _)
      · exact h.mono (Nat.le_succ _)
  cut h i p hp := by
    obtain ⟨hr, _, _⟩ := h.1.right' (by have := h.2; omega) hp
    refine ⟨⟨h.1.cut (by have := h.2; omega) hp, h.2⟩, ?_, ?_⟩
    · rw [cutS_eq p hr]
    · rw [cutS_eq p hr]
  join h i p q hp hq := ⟨(h.1.join h.2 hp hq).1, h.2⟩
  done h i p q hp hq hcut := (h.1.join h.2 hp hq).2 hcut
  free := @fun c d h hP s hs => by
    obtain ⟨h, hc⟩ := h
    rcases hL : s.L with _ | ⟨l, r⟩
    · rfl
    · exfalso
      have R := h.right s hs
      have hl : lk Loan.p s.L l.p = some l := by rw [hL, lk_cons, if_pos rfl]
      obtain ⟨⟨h0, h3⟩, _⟩ := h.loan s hs _ l hl
      obtain ⟨i, hi⟩ := Int.eq_ofNat_of_zero_le h0
      have hlP := h.lP
      have hiP : i < d.P.length := by omega
      have hp := List.getElem?_eq_getElem hiP
      obtain ⟨_, _, q, _, hph⟩ := h.right' (by omega) hp
      have he := hph.hd
      rw [hP _ (List.getElem_mem hiP)] at he
      have := hoF_none he.symm s hs
      rw [← hi, hl] at this
      cases this
end Go.Proofs.Ythnblhbdfpmolaa
