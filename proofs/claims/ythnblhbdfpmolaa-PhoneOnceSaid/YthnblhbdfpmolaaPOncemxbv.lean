/- A play keeps what it keeps: joining; all together. -/
import Derived.Test.YthnblhbdfpmolaaPOncemxbu
import Derived.Test.YthnblhbdfpmolaaPOncemxab
import Derived.ProofKit
import Derived.Deep.Slices
import Derived.Deep.Fields
import Derived.ChangeSame
import Derived.Carry
namespace Go.Proofs.Ythnblhbdfpmolaa
open Go.RowKit
section
variable {c : Nat} {d : PlD}
theorem PInv.nR (h : PInv c d) (hc : c ≤ 40) : notesR d.N = true := by
  have := h.Nlen hc
  simp only [notesR, Bool.and_eq_true, decide_eq_true_eq, List.all_eq_true]
  exact ⟨by omega, h.nN⟩
theorem PInv.joinE (h : PInv c d) (hc : c ≤ 40) {i : Nat} {p : PhoneD} {q : List Int} (hp : d.P[i]? = some p) (hq : d.Q[i]? = some q) : p.join d.S (countsN d.N) = if p.cut then ({ p with cut := false, H := [], S := seenJ i 0 p.S (countsN d.N) }, jS i 0 d.S q, p.N, 0) else (p, d.S, [], 7) := by
  obtain ⟨hr, hf, q', hq', hph⟩ := h.right' (by omega) hp
  rw [hq] at hq'
  injection hq' with hq'
  subst hq'
  have hn := h.Nlen hc
  obtain ⟨hc1, hc2⟩ := counts_ok (l := d.N) (by omega)
  have hs : seenR (countsN d.N) = true := by
    unfold seenR
    simp only [Bool.and_eq_true, decide_eq_true_eq, List.all_eq_true]
    exact ⟨hc1, fun x hx => rngB_iff.2 (hc2 x hx)⟩
  unfold PhoneD.join
  have ho : okJoin p d.S (countsN d.N) = true := by unfold okJoin; rw [hr, hf, hs]; rfl
  rw [if_pos ho]
  by_cases hcut : p.cut = true
  · rw [if_pos hcut, if_pos hcut, hph.eid]
    have := joinGo_hoF d.S i q []
    simp only [List.length_nil, List.nil_append] at this
    rw [hph.hd, this]
  · rw [if_neg hcut, if_neg hcut]
theorem PInv.clash (h : PInv c d) (hc : c ≤ 40) {i : Nat} {p : PhoneD} (hp : d.P[i]? = some p) : ¬ ClashN (d.N ++ p.N) := by
  have key : ∀ x, x ∈ d.N ++ p.N → ∃ (j : Nat) (pj : PhoneD), d.P[j]? = some pj ∧ x ∈ pj.N := by
    intro x hx
    rcases List.mem_append.1 hx with hx | hx
    · exact h.mN x hx
    · exact ⟨i, p, hp, hx⟩
  rintro ⟨x, hx, y, hy, ⟨hk1, hk2⟩, hs⟩
  obtain ⟨j, pj, h1, h2⟩ := key x hx
  obtain ⟨l, pl, h3, h4⟩ := key y hy
  obtain ⟨_, _, q1, _, hj⟩ := h.right' (by omega) h1
  obtain ⟨_, _, q2, _, hl⟩ := h.right' (by omega) h3
  have e1 := (hj.jr.dev h2).1
  have e2 := (hl.jr.dev h4).1
  obtain rfl : j = l := by omega
  rw [h1] at h3
  injection h3 with h3
  subst h3
  have := hj.jr.key h2 h4 hk2
  subst this
  rw [NoteD.same_refl] at hs; cases hs
theorem PInv.merged (h : PInv c d) (hc : c ≤ 40) {i : Nat} {p : PhoneD} (hp : d.P[i]? = some p) : (mergeN d.N p.N).2 = 0 := by
  obtain ⟨_, _, q, _, hph⟩ := h.right' (by omega) hp
  exact merge_ok (h.nR hc) (hph.jr.R (by have := hph.lN; omega)) (h.clash hc hp)
theorem PInv.bnd (h : PInv c d) : (∀ k, 0 ≤ d.T.getD k 0 ∧ d.T.getD k 0 ≤ 1000000000000000) ∧ (∀ k, 0 ≤ d.H.getD k 0 ∧ d.H.getD k 0 ≤ 1000000000000000) := by
  have key : ∀ k, d.T.getD k 0 + d.H.getD k 0 ≤ 1000000000000000 := by
    intro k
    rcases Nat.lt_or_ge k d.S.length with hk | hk
    · have h1 := h.U k _ (List.getElem?_eq_getElem hk)
      have R := h.right _ (List.getElem_mem hk)
      have := R.U1
      have := R.T1
      omega
    · rw [getD_out (by rw [h.lT]; exact hk), getD_out (by rw [h.lH]; exact hk)]; omega
  refine ⟨fun k => ?_, fun k => ?_⟩
  · have := key k; have := h.T0 k; have := h.H0 k; omega
  · have := key k; have := h.T0 k; have := h.H0 k; omega
theorem PhOK.bnd {S : List StockD} {i : Nat} {p : PhoneD} {q : List Int} (h : PhOK S i p q c) (hR : ∀ s, s ∈ S → RightS s) : ∀ k, 0 ≤ q.getD k 0 ∧ q.getD k 0 ≤ 1000000000000000 := by
  intro k
  refine ⟨h.q0 k, ?_⟩
  rcases Nat.lt_or_ge k S.length with hk | hk
  · rcases hl : lk Loan.p S[k].L (i : Int) with _ | l
    · rw [h.qn k _ (List.getElem?_eq_getElem hk) hl]; omega
    · have h1 := h.qu k _ l (List.getElem?_eq_getElem hk) hl
      have R := hR _ (List.getElem_mem hk)
      have h2 := lk_le R hl
      have := R.sum
      have := R.T1
      have := R.U0
      omega
  · rw [getD_out (by rw [h.lq]; exact hk)]; omega
theorem PInv.jok (h : PInv c d) (hc : c ≤ 40) {i : Nat} {p : PhoneD} {q : List Int} (hp : d.P[i]? = some p) (hq : d.Q[i]? = some q) : JoinOK d i p q := by
  have hi : i < d.P.length := (List.getElem?_eq_some_iff.1 hp).1
  have hl := h.lP
  have hph := h.ph i p q hp hq
  have hN := h.Nlen hc
  have hlN := hph.lN
  have hE := h.joinE hc hp hq
  exact {
    P := hp
    Q := hq
    i3 := by omega
    lP := h.lP
    lQ := h.lQ
    lS := h.n
    lH := by rw [h.lH, hph.lq]
    lHS := by rw [h.lH]; exact h.n
    bH := h.bnd.2
    bq := hph.bnd h.right
    lN := by omega
    ok := fun h0 => by
      rw [hE] at h0 ⊢
      split at h0
      · rename_i hcut
        rw [if_pos hcut]
        exact ⟨h.merged hc hp, jS_len _ _ _ _, rfl⟩
      · cases h0 }
theorem PInv.aok (h : PInv c d) {i k : Nat} {p : PhoneD} {q : List Int} {s : StockD} (hp : d.P[i]? = some p) (hq : d.Q[i]? = some q) (hs : d.S[k]? = some s) : ActOK d i k p q s := by
  have hi : i < d.P.length := (List.getElem?_eq_some_iff.1 hp).1
  have hl := h.lP
  have hph := h.ph i p q hp hq
  exact { P := hp, Q := hq, S := hs, i3 := by omega, lP := h.lP, lQ := h.lQ, lS := h.n, lq := hph.lq, lT := h.lT, bq := hph.bnd h.right, bT := h.bnd.1 }
theorem PInv.join (h : PInv c d) (hc : c ≤ 40) {i : Nat} {p : PhoneD} {q : List Int} (hp : d.P[i]? = some p) (hq : d.Q[i]? = some q) : PInv c (d.join i p q) ∧ (p.cut = true → ∃ p', (d.join i p q).P = d.P.set i p' ∧ p'.cut = false ∧ p'.H = []) := by
  have hE := h.joinE hc hp hq
  unfold PlD.join
  rw [hE]
  by_cases hcut : p.cut = true
  · rw [if_pos hcut]
    simp only [if_true]
    refine ⟨?_, fun _ => ⟨_, rfl, rfl, rfl⟩⟩
    have hi : i < d.P.length := (List.getElem?_eq_some_iff.1 hp).1
    have hl := h.lP
    have hph := h.ph i p q hp hq
    have hiQ : i < d.Q.length := (List.getElem?_eq_some_iff.1 hq).1
    have hm := merge_zero (h.merged hc hp)
    have hN := h.Nlen hc
    obtain ⟨hc1, hc2⟩ := counts_ok (l := d.N) (by omega)
    have hlH : d.H.length = q.length := by rw [h.lH, hph.lq]
    have hat : ∀ (m : Nat) s', (jS i 0 d.S q)[m]? = some s' → ∃ s0, d.S[m]? = some s0 ∧ RightS s' ∧ s'.U = s0.U + q.getD m 0 ∧ lk Loan.p s'.L i = none ∧ ∀ z, z ≠ (i : Int) → lk Loan.p s'.L z = lk Loan.p s0.L z := by
      intro m s' h1
      rw [jS_get, Nat.zero_add] at h1
      rcases hs : d.S[m]? with _ | s0
      · rw [hs] at h1; cases h1
      · rw [hs] at h1
        simp only [Option.map_some, Option.some.injEq] at h1
        have R := h.right s0 (List.mem_of_getElem? hs)
        rcases hlk : lk Loan.p s0.L (i : Int) with _ | l
        · have hh : Go.Proofs.Ythnblhbdfpmolaa.hc i m s0 (q.getD m 0) = none := by
            show (lk Loan.p s0.L (i : Int)).map _ = none
            rw [hlk]; rfl
          rw [hh] at h1
          simp only at h1
          subst h1
          exact ⟨s0, rfl, R, by rw [hph.qn m s0 hs hlk]; omega, hlk, fun z _ => rfl⟩
        · have hh : Go.Proofs.Ythnblhbdfpmolaa.hc i m s0 (q.getD m 0) = some ⟨m, l.u, q.getD m 0⟩ := by
            show (lk Loan.p s0.L (i : Int)).map _ = _
            rw [hlk]; rfl
          rw [hh] at h1
          simp only at h1
          have hlo := h.loan s0 (List.mem_of_getElem? hs) i l hlk
          obtain ⟨g1, g2, g3, g4, g5⟩ := joinS_ok2 (hd := ⟨m, l.u, q.getD m 0⟩) R (by omega) (by omega) hlk hlo.2 (hph.q0 m) (hph.qu m s0 l hs hlk)
          rw [h1] at g1 g2 g3 g4 g5
          exact ⟨s0, rfl, g1, g3, g4, g5⟩
    exact {
      n := by simp only [jS_len]; exact h.n
      lP := by simp only [List.length_set]; exact h.lP
      lQ := by simp only [List.length_set]; exact h.lQ
      lT := by simp only [jS_len]; exact h.lT
      lH := by
        simp only [jS_len]
        unfold zipA
        rw [List.length_zipWith, h.lH, hph.lq]; omega
      T0 := h.T0
      H0 := fun k => by
        simp only
        rw [zipA_getD hlH]
        have := h.H0 k
        have := hph.q0 k
        omega
      right := fun s' hs' => by
        obtain ⟨m, hm', rfl⟩ := List.mem_iff_getElem.1 hs'
        obtain ⟨_, _, R, _⟩ := hat m _ (List.getElem?_eq_getElem hm')
        exact R
      loan := fun s' hs' z l hl' => by
        obtain ⟨m, hm', rfl⟩ := List.mem_iff_getElem.1 hs'
        obtain ⟨s0, g1, _, _, g4, g5⟩ := hat m _ (List.getElem?_eq_getElem hm')
        by_cases hz : z = (i : Int)
        · subst hz; rw [g4] at hl'; cases hl'
        · rw [g5 z hz] at hl'; exact h.loan s0 (List.mem_of_getElem? g1) z l hl'
      U := fun m s' g0 => by
        obtain ⟨s0, g1, _, g3, _⟩ := hat m s' g0
        simp only
        rw [g3, zipA_getD hlH, h.U m s0 g1]; omega
      ph := fun j p2 q2 g1 g2 => by
        rcases set_at g1 with ⟨rfl, _, rfl⟩ | ⟨hj, g1⟩
        · rcases set_at g2 with ⟨_, _, rfl⟩ | ⟨hj, _⟩
          · exact {
              eid := hph.eid
              hd := by
                simp only
                rw [hoF_nil]
                intro s' hs'
                obtain ⟨m, hm', rfl⟩ := List.mem_iff_getElem.1 hs'
                obtain ⟨_, _, _, _, g4, _⟩ := hat m _ (List.getElem?_eq_getElem hm')
                exact g4
              jr := hph.jr
              lN := hph.lN
              sn := seenJ_ok hph.sn hc2
              q0 := fun k => by rw [zero_getD]; omega
              qu := fun k s' l g3 g4 => by
                obtain ⟨_, _, _, _, g5, _⟩ := hat k s' g3
                rw [g5] at g4; cases g4
              qn := fun k s' _ _ => zero_getD _ _
              lq := by rw [List.length_map, jS_len]; exact hph.lq }
          · exact absurd rfl hj
        · rcases set_at g2 with ⟨hj2, _, _⟩ | ⟨_, g2⟩
          · exact absurd hj2 hj
          · refine (h.ph j p2 q2 g1 g2).congr (jS_len _ _ _ _) (fun m s' g3 => ?_)
            obtain ⟨s0, g4, _, _, _, g5⟩ := hat m s' g3
            exact ⟨s0, g4, g5 j (by omega)⟩
      nN := fun x hx => by
        rcases hm.mem x hx with hx | hx
        · exact h.nN x hx
        · exact hph.jr.right x hx
      sN := hm.sorted
      mN := fun x hx => by
        have hx2 : ∃ (j : Nat) (pj : PhoneD), d.P[j]? = some pj ∧ x ∈ pj.N := by
          rcases hm.mem x hx with hx | hx
          · exact h.mN x hx
          · exact ⟨i, p, hp, hx⟩
        obtain ⟨j, pj, g1, g2⟩ := hx2
        by_cases hj : j = i
        · subst hj
          rw [hp] at g1
          injection g1 with g1
          subst g1
          exact ⟨j, _, List.getElem?_set_self hi, g2⟩
        · exact ⟨j, pj, by simp only; rw [List.getElem?_set_ne (fun h => hj h.symm)]; exact g1, g2⟩ }
  · rw [if_neg hcut]
    simp only
    rw [if_neg (by decide)]
    exact ⟨h, fun h => absurd h hcut⟩
end
theorem plays : Plays (fun c d => PInv c d ∧ c ≤ 40) where
  start ss hn hs := by
    refine ⟨?_, by omega⟩
    have hL : ∀ s, s ∈ ss → ∀ z : Int, lk Loan.p s.L z = none := fun s h z => by rw [(hs s h).2]; rfl
    have hz : ∀ n k : Nat, (List.replicate n (0 : Int)).getD k 0 = 0 := fun n k => by
      simp only [List.getD_eq_getElem?_getD, List.getElem?_replicate]; split <;> rfl
    exact {
      n := hn
      lP := by simp [begunD]
      lQ := by simp [begunD]
      lT := by simp [begunD]
      lH := by simp [begunD]
      T0 := fun k => by
        simp only [begunD, List.getD_eq_getElem?_getD, List.getElem?_map]
        rcases h : ss[k]? with _ | s
        · simp
        · have R := rightS_iff.1 (hs s (List.mem_of_getElem? h)).1
          simp only [Option.map_some, Option.getD_some]
          exact R.U0
      H0 := fun k => by simp only [begunD, hz]; omega
      right := fun s h => rightS_iff.1 (hs s h).1
      loan := fun s h z l hl => by rw [hL s h z] at hl; cases hl
      U := fun k s h => by
        have h' : ss[k]? = some s := h
        simp only [begunD, hz, List.getD_eq_getElem?_getD, List.getElem?_map, h']
        simp
      ph := fun i p q hp hq => by
        simp only [begunD, List.getElem?_map, List.getElem?_replicate] at hp hq
        split at hq
        · rename_i hi
          injection hq with hq
          subst hq
          rw [List.getElem?_range hi] at hp
          simp only [Option.map_some, Option.some.injEq] at hp
          subst hp
          exact {
            eid := rfl
            hd := (hoF_nil (fun s h => hL s h _)).symm
            jr := ⟨fun n hn => (by cases hn), rfl⟩
            lN := by simp [pZ]
            sn := ⟨rfl, fun x hx => by simp [pZ] at hx; omega, by
              show (List.replicate 12 (0 : Int))[i]? = some 0
              rw [List.getElem?_replicate, if_pos (by omega)]⟩
            q0 := fun k => by rw [hz]; omega
            qu := fun k s l h hl => by rw [hL s (List.mem_of_getElem? h) _] at hl; cases hl
            qn := fun k s _ _ => hz _ _
            lq := by simp [begunD] }
        · cases hq
      nN := fun x hx => by cases hx
      sN := List.Pairwise.nil
      mN := fun x hx => by cases hx }
  fine h := h.1.fine
  lP h := h.1.lP
  ok h _ i k p q s hp hq hs := ⟨h.1.aok hp hq hs, by
    have := StockD.right_len (rightS_iff.2 (h.1.right s (List.mem_of_getElem? hs)))
    omega⟩
  jok h _ i p q hp hq := h.1.jok h.2 hp hq
  act h hc kd pn sn un tm := by
    refine ⟨?_, by omega⟩
    obtain ⟨h, _⟩ := h
    unfold PlD.act
    split
    · exact h.mono (Nat.le_succ _)
    · split
      · rename_i p q s hp hq hs
        split
        · exact (h.doLend (by omega) hp hs un).mono (Nat.le_succ _)
        · split
          · exact h.doPromise (by omega) hp hq hs un tm
          · split
            · exact (h.doCut (by omega) hp).mono (Nat.le_succ _)
            · split
              · exact (h.join (by omega) hp hq).1.mono (Nat.le_succ _)
              · split
                · exact (h.doTake hs un).mono (Nat.le_succ _)
                · exact h.mono (Nat.le_succ _)
      · exact h.mono (Nat.le_succ _)
  cut h i p hp := by
    obtain ⟨hr, _, _⟩ := h.1.right' (by have := h.2; omega) hp
    refine ⟨⟨h.1.cut (by have := h.2; omega) hp, h.2⟩, ?_, ?_⟩
    · rw [cutS_eq p hr]
    · rw [cutS_eq p hr]
  join h i p q hp hq := ⟨(h.1.join h.2 hp hq).1, h.2⟩
  done h i p q hp hq hcut := (h.1.join h.2 hp hq).2 hcut
  free := @fun c d h hP s hs => by
    obtain ⟨h, hc⟩ := h
    rcases hL : s.L with _ | ⟨l, r⟩
    · rfl
    · exfalso
      have R := h.right s hs
      have hl : lk Loan.p s.L l.p = some l := by rw [hL, lk_cons, if_pos rfl]
      obtain ⟨⟨h0, h3⟩, _⟩ := h.loan s hs _ l hl
      obtain ⟨i, hi⟩ := Int.eq_ofNat_of_zero_le h0
      have hlP := h.lP
      have hiP : i < d.P.length := by omega
      have hp := List.getElem?_eq_getElem hiP
      obtain ⟨_, _, q, _, hph⟩ := h.right' (by omega) hp
      have he := hph.hd
      rw [hP _ (List.getElem_mem hiP)] at he
      have := hoF_none he.symm s hs
      rw [← hi, hl] at this
      cases this
end Go.Proofs.Ythnblhbdfpmolaa
/- Arguments of the laws: lists of stocks and of loans, as they lie in cells. -/
namespace Go.Proofs.Ythnblhbdfpmolaa
open Go.ChangeShapes Go.WideShapes Go.ChangeAt Go.RowKit Go.Deep
section
variable {H : Type} {enc : TypeId × Value → H} {P : Program} {w : World} {base : Nat} {spare : Nat → Bool} {held : Bool}
/-- A slice of structs of three fields of one cell each. -/
theorem rows3 {t e : TypeId} {f0 f1 f2 : Field} {fuel : Nat} {cs : List Value} {x : DataW H × List MemPlace} (ht : P.underlying t = some (.slice e)) (he : P.underlying e = some (.struct #[f0, f1, f2]))
    (hone : oneCellFields P #[f0, f1, f2] = true) (hC : P.cellsOf e = 3) (h : DataW.trod enc P w base spare held fuel t cs = some x) :
    cs = [.slice none 0 0] ∨ ∃ (a : Addr) (len cap : Nat), cs = [.slice (some a) len cap] ∧ len ≤ cap ∧ cap ≤ maxLen ∧
      ∀ i, i < len → ∃ (v0 v1 v2 : Value) (y0 y1 y2 : DataW H × List MemPlace) (n : Nat), w.cell? (a.add (i * 3)) = some v0 ∧ w.cell? (a.add (i * 3 + 1)) = some v1 ∧ w.cell? (a.add (i * 3 + 2)) = some v2 ∧
        DataW.trod enc P w base spare held n f0.type [v0] = some y0 ∧ DataW.trod enc P w base spare held n f1.type [v1] = some y1 ∧ DataW.trod enc P w base spare held n f2.type [v2] = some y2 := by
  rcases open_slice ht h with ⟨h0, _⟩ | ⟨a, len, cap, m, n, D, Pl, hcs, _, hl, hm, hmm, _, hi⟩
  · exact .inl h0
  · refine .inr ⟨a, len, cap, hcs, hl, hm, fun i hil => ?_⟩
    have him : i < m := by rw [hmm]; split <;> omega
    obtain ⟨cs', hc, ht'⟩ := hi i him
    rw [hC] at hc
    obtain ⟨ys, n', _, _, _, hyl, hf⟩ := DataW.trod_struct he ht'
    obtain ⟨_, hcl, hat⟩ := World.cells?_some hc
    obtain ⟨o0, k0⟩ := hone_of hone 0 f0 rfl
    obtain ⟨o1, k1⟩ := hone_of hone 1 f1 rfl
    obtain ⟨o2, k2⟩ := hone_of hone 2 f2 rfl
    have hyl' : ys.length = 3 := hyl
    match cs', hcl, ys, hyl' with
    | [c0, c1, c2], _, [y0, y1, y2], _ =>
      have g0 := hf 0 f0 rfl
      have g1 := hf 1 f1 rfl
      have g2 := hf 2 f2 rfl
      rw [o0, k0] at g0
      rw [o1, k1] at g1
      rw [o2, k2] at g2
      refine ⟨c0, c1, c2, y0, y1, y2, n', ?_, ?_, ?_, by simpa using g0, by simpa using g1, by simpa using g2⟩
      · have := hat 0 (by omega); simpa [add_add] using this
      · have := hat 1 (by omega); simpa [add_add] using this
      · have := hat 2 (by omega); simpa [add_add] using this
end
theorem list_of {α : Type} {n : Nat} {Q : Nat → α → Prop} (h : ∀ i, i < n → ∃ x, Q i x) : ∃ l : List α, l.length = n ∧ ∀ i x, l[i]? = some x → Q i x := by
  induction n with
  | zero => exact ⟨[], rfl, fun i x hx => by simp at hx⟩
  | succ n ih =>
    obtain ⟨l, hl, hq⟩ := ih (fun i hi => h i (by omega))
    obtain ⟨y, hy⟩ := h n (by omega)
    refine ⟨l ++ [y], by simp [hl], fun i x hx => ?_⟩
    rcases Nat.lt_or_ge i l.length with hi | hi
    · rw [List.getElem?_append_left hi] at hx; exact hq i x hx
    · rw [List.getElem?_append_right hi] at hx
      have : i - l.length = 0 := by
        rcases Nat.eq_zero_or_pos (i - l.length) with h0 | h0
        · exact h0
        · rw [List.getElem?_eq_none (by simp; omega)] at hx; cases hx
      rw [this] at hx
      simp at hx
      subst hx
      have : i = n := by omega
      subst this
      exact hy
section
variable {H : Type} {enc : TypeId × Value → H} {w : World} {base : Nat} {spare : Nat → Bool} {held : Bool}
theorem Try.cl136 : Try.prog.cellsOf 136 = 3 := by kernel_rfl
theorem Try.cl66 : Try.prog.cellsOf 66 = 3 := by kernel_rfl
theorem Try.one136 : oneCellFields Try.prog (Try.prog.fieldsOf 136) = true := by kernel_rfl
theorem cells3_of {b o i : Nat} {v0 v1 v2 : Value} (h0 : w.cell? ⟨b, o + i * 3, none⟩ = some v0) (h1 : w.cell? ⟨b, o + (i * 3 + 1), none⟩ = some v1) (h2 : w.cell? ⟨b, o + (i * 3 + 2), none⟩ = some v2) : Cells w b (o + i * 3) [v0, v1, v2] := by
  intro j u hu
  match j, hu with
  | 0, hu => simp at hu; subst hu; exact h0
  | 1, hu => simp at hu; subst hu; rw [Nat.add_assoc]; exact h1
  | 2, hu => simp at hu; subst hu; rw [Nat.add_assoc]; exact h2
theorem spot_none {a : Addr} {v : Value} (h : w.cell? (a.add (0 * 3)) = some v) : a.spot = none := by
  obtain ⟨b, off, spot⟩ := a
  simpa [Addr.add] using World.cell?_spot h
theorem open_loans {fuel : Nat} {v : Value} {x : DataW H × List MemPlace} (h : DataW.trod enc Try.prog w base spare held fuel 64 [v] = some x) :
    ∃ L : Sl Loan, v = .slice L.A L.l.length L.c ∧ Rd (· < w.heap.size) 3 Loan.enc w L := by
  rcases rows3 Try.underlying64 Try.underlying136 (by kernel_rfl) Try.cl136 h with h0 | ⟨a, len, cap, h0, hl, hm, hi⟩
  · injection h0 with h0
    exact ⟨⟨none, 0, []⟩, h0, Rd.nil _ _ _ _⟩
  · injection h0 with h0
    have hq : ∀ i, i < len → ∃ z : Loan, ∃ b o, a = ⟨b, o, none⟩ ∧ b < w.heap.size ∧ Cells w b (o + i * 3) (Loan.enc z) := fun i hil => by
      obtain ⟨v0, v1, v2, y0, y1, y2, n, c0, c1, c2, t0, t1, t2⟩ := hi i hil
      obtain ⟨z0, e0, _, _⟩ := DataW.trod_int Try.underlying3 t0
      obtain ⟨z1, e1, _, _⟩ := DataW.trod_int Try.underlying3 t1
      obtain ⟨z2, e2, _, _⟩ := DataW.trod_int Try.underlying3 t2
      injection e0 with e0
      injection e1 with e1
      injection e2 with e2
      subst e0 e1 e2
      obtain ⟨u0, _, _, _, _, _, _, d0, _⟩ := hi 0 (by omega)
      have hs := spot_none d0
      obtain ⟨b, o, sp⟩ := a
      simp only at hs
      subst hs
      rw [Go.WideShapes.add_plain] at c0 c1 c2
      exact ⟨⟨z0, z1, z2⟩, b, o, rfl, World.block_lt_of_cell? w _ c0, cells3_of c0 c1 c2⟩
    obtain ⟨l, hll, hlq⟩ := list_of hq
    refine ⟨⟨some a, cap, l⟩, by rw [h0, hll], by simp only; omega, hm, fun h => (by cases h), fun i x hx => ?_⟩
    obtain ⟨b, o, ha, hb, hc⟩ := hlq i x hx
    exact ⟨b, o, by rw [ha], hb, hc⟩
theorem open_stocks {fuel : Nat} {v : Value} {x : DataW H × List MemPlace} (h : DataW.trod enc Try.prog w base spare held fuel 27 [v] = some x) :
    ∃ s : Sl Stock, v = .slice s.A s.l.length s.c ∧ RdStocks (· < w.heap.size) w s := by
  rcases rows3 Try.underlying27 Try.underlying66 (by kernel_rfl) Try.cl66 h with h0 | ⟨a, len, cap, h0, hl, hm, hi⟩
  · injection h0 with h0
    exact ⟨⟨none, 0, []⟩, h0, Rd.nil _ _ _ _, by simp⟩
  · injection h0 with h0
    have hq : ∀ i, i < len → ∃ z : Stock, (∃ b o, a = ⟨b, o, none⟩ ∧ b < w.heap.size ∧ Cells w b (o + i * 3) (Stock.enc z)) ∧ Rd (· < w.heap.size) 3 Loan.enc w z.L := fun i hil => by
      obtain ⟨v0, v1, v2, y0, y1, y2, n, c0, c1, c2, t0, t1, t2⟩ := hi i hil
      obtain ⟨z0, e0, _, _⟩ := DataW.trod_int Try.underlying3 t0
      obtain ⟨z1, e1, _, _⟩ := DataW.trod_int Try.underlying3 t1
      obtain ⟨L, rfl, hL⟩ := open_loans t2
      injection e0 with e0
      injection e1 with e1
      subst e0 e1
      obtain ⟨u0, _, _, _, _, _, _, d0, _⟩ := hi 0 (by omega)
      have hs := spot_none d0
      obtain ⟨b, o, sp⟩ := a
      simp only at hs
      subst hs
      rw [Go.WideShapes.add_plain] at c0 c1 c2
      exact ⟨⟨z0, z1, L⟩, ⟨b, o, rfl, World.block_lt_of_cell? w _ c0, cells3_of c0 c1 c2⟩, hL⟩
    obtain ⟨l, hll, hlq⟩ := list_of hq
    refine ⟨⟨some a, cap, l⟩, by rw [h0, hll], ⟨by simp only; omega, hm, fun h => (by cases h), fun i x hx => ?_⟩, fun x hx => ?_⟩
    · obtain ⟨⟨b, o, ha, hb, hc⟩, _⟩ := hlq i x hx
      exact ⟨b, o, by rw [ha], hb, hc⟩
    · obtain ⟨i, hi'⟩ := List.getElem?_of_mem hx
      exact (hlq i x hi').2
end
end Go.Proofs.Ythnblhbdfpmolaa
