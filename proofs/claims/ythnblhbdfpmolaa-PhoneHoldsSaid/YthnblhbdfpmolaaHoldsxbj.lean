/- The plain law of PhoneBack: lent, cut off, joined again. -/
import Derived.Test.YthnblhbdfpmolaaHoldsxbi
namespace Go.Proofs.Ythnblhbdfpmolaa
open Go.RowKit
def zz : List Int := List.replicate 12 0
def pN (id : Int) : PhoneD := ⟨id, false, [], [], zz⟩
def cP (id : Int) (cut : Bool) (k u s : Int) (N : List NoteD) : PhoneD := ⟨id, cut, [⟨k, u, s⟩], N, zz⟩
def nP (id : Int) : NoteD := ⟨id, 0, zz, 5, nB⟩
theorem afOk_zero : ∀ (l : List Int) (d k : Int), (∀ x ∈ l, x = 0) → afOk d k l = true
  | [], _, _, _ => rfl
  | x :: l, d, k, h => by
    rw [afOk_go2 (by rw [h x (by simp)]; rfl) (fun hc => hc.2 (h x (by simp)))]
    exact afOk_zero l d (k + 1) (fun y hy => h y (by simp [hy]))
theorem nP_right {id : Int} (h0 : 0 ≤ id) (h1 : id ≤ 11) : (nP id).right = true := by
  unfold NoteD.right
  have h : (nP id).ok0 = true := by
    simp only [NoteD.ok0, nP, Bool.and_eq_true]
    exact ⟨rngB_iff.2 ⟨h0, h1⟩, rfl, rfl, rfl, rfl⟩
  rw [if_pos h]
  exact afOk_zero _ _ _ (by simp [nP, zz])
theorem zz_at {id : Int} (h0 : 0 ≤ id) (h1 : id ≤ 11) : zz[id.toNat]? = some 0 := by
  unfold zz
  rw [List.getElem?_replicate, if_pos (by omega)]
theorem cP_right {id k u s : Int} {cut : Bool} {N : List NoteD} (h0 : 0 ≤ id) (h1 : id ≤ 11) (hk : 0 ≤ k) (hu : 1 ≤ u) (hu2 : u ≤ 1000000000000000) (hs : 0 ≤ s) (hs2 : s ≤ u) (hN : N = [] ∨ N = [nP id]) : (cP id cut k u s N).right = true := by
  simp only [PhoneD.right, cP, Bool.and_eq_true]
  refine ⟨rngB_iff.2 ⟨h0, h1⟩, ?_, ?_, by decide, by simp [zz_at h0 h1], ?_⟩
  · simp only [holdsR, Bool.and_eq_true]
    refine ⟨?_, by simp⟩
    rw [holdsGo_go (by simp only; omega) (rngB_iff.2 ⟨hu, hu2⟩) (rngB_iff.2 ⟨hs, hs2⟩)]
    rfl
  · rcases hN with rfl | rfl
    · rfl
    · simp [notesR, nP_right h0 h1]
  · rcases hN with rfl | rfl
    · rfl
    · rw [notesGo_go (by rfl) (by rfl) (by simp [nP])]; rfl
theorem pN_right {id : Int} (h0 : 0 ≤ id) (h1 : id ≤ 11) : (pN id).right = true := by
  simp only [PhoneD.right, pN, Bool.and_eq_true]
  exact ⟨rngB_iff.2 ⟨h0, h1⟩, by decide, by decide, by decide, by simp [zz_at h0 h1], rfl⟩
theorem lend_err {p : PhoneD} {ss : List StockD} {k n : Int} (h : (p.lend ss k n).2.2 ≠ 0) : (p.lend ss k n).2.1 = ss := by
  unfold PhoneD.lend at h ⊢
  split
  · rename_i h1
    rw [if_pos h1] at h
    split
    · rfl
    · rename_i h2
      rw [if_neg h2] at h
      split
      · rfl
      · rename_i h3
        rw [if_neg h3] at h
        split
        · rfl
        · rename_i s hs
          rw [hs] at h
          simp only at h
          split
          · rename_i h4; rw [if_pos h4] at h; exact absurd rfl h
          · rfl
  · rfl
/-- What a loan to a new phone comes to. -/
structure LentP (id u : Int) (ss : List StockD) (j : Nat) (x : StockD) (A B : List Loan) : Prop where
  id0 : 0 ≤ id
  id1 : id ≤ 11
  u1 : 1 ≤ u
  u2 : u ≤ 1000000000000000
  at_ : ss[j]? = some x
  no : ∀ s ∈ ss, s.right = true ∧ ∀ y ∈ s.L, y.p ≠ id
  free : u ≤ x.free
  L : x.L = A ++ B
  lo : ∀ a ∈ A, a.p < id
  hi : ∀ b ∈ B, id < b.p
theorem lend_ok {id k u : Int} {ss : List StockD} (h : ((pN id).lend ss k u).2.2 = 0) :
    ∃ (j : Nat) (x : StockD) (A B : List Loan), k = j ∧ LentP id u ss j x A B ∧ (pN id).lend ss k u = (cP id false k u 0 [], ss.set j ⟨x.T, x.U, A ++ ⟨id, u, 0⟩ :: B⟩, 0) := by
  unfold PhoneD.lend at h
  split at h
  rotate_left
  · cases h
  rename_i h1
  have h1' := h1
  simp only [okLend, Bool.and_eq_true] at h1'
  obtain ⟨hR, hF, hk⟩ := h1'
  have hk' := rngB_iff.1 hk
  obtain ⟨j, rfl⟩ := Int.eq_ofNat_of_zero_le hk'.1
  have hids := PhoneD.right_iff hR
  have hno := fit_empty (p := pN id) rfl hF
  rw [if_neg (by simp [pN])] at h
  rw [if_neg (by simp [pN])] at h
  rw [Int.toNat_natCast] at h
  split at h
  · cases h
  rename_i x hx
  split at h
  rotate_left
  · rename_i h4; exact absurd h h4
  rename_i h4
  have hxm := hno x (List.mem_of_getElem? hx)
  have hxs := StockD.sorted hxm.1
  have hsp := sorted_split x.L id hxs hxm.2
  have hle : x.lend (pN id).id u = (⟨x.T, x.U, lendL x.L id u⟩, 0) ∧ x.fits id u = true ∧ u ≤ x.free := by
    unfold StockD.lend at h4 ⊢
    split at h4
    rotate_left
    · cases h4
    rename_i hf
    split at h4
    · cases h4
    rename_i hfr
    exact ⟨by rw [if_pos hf, if_neg hfr]; rfl, hf, Int.not_lt.1 hfr⟩
  obtain ⟨hl, hf, hfr⟩ := hle
  have hf' := StockD.fits_iff hf
  have hhas : has x.L id = false := by
    unfold has
    rw [List.any_eq_false]
    intro y hy
    have := hxm.2 y hy
    simpa [pN] using this
  have hL : lendL x.L id u = x.L.take (idx x.L id) ++ ⟨id, u, 0⟩ :: x.L.drop (idx x.L id) := by
    unfold lendL; rw [hhas]; rfl
  refine ⟨j, x, x.L.take (idx x.L id), x.L.drop (idx x.L id), rfl, ⟨hids.id0, hids.id1, hf'.2.2.2.1, hf'.2.2.2.2, hx, fun s hs => hno s hs, hfr, (List.take_append_drop _ _).symm, hsp.1, hsp.2⟩, ?_⟩
  unfold PhoneD.lend
  rw [if_pos h1, if_neg (by simp [pN]), if_neg (by simp [pN]), Int.toNat_natCast, hx]
  simp only
  rw [if_pos h4, hl, hL]
  rfl
section
variable {id u : Int} {ss : List StockD} {j : Nat} {x : StockD} {A B : List Loan}
theorem LentP.right (h : LentP id u ss j x A B) {s : Int} (hs : 0 ≤ s) (hs2 : s ≤ u) : StockD.right ⟨x.T, x.U, A ++ ⟨id, u, s⟩ :: B⟩ = true := by
  have hx := (h.no x (List.mem_of_getElem? h.at_)).1
  obtain ⟨h0, h1⟩ := StockD.right_iff hx
  have hf := h.free
  unfold StockD.free at hf
  rw [hx, if_pos rfl, h.L] at hf
  rw [h.L] at h1
  have h0' : StockD.ok0 ⟨x.T, x.U, A ++ ⟨id, u, s⟩ :: B⟩ := h0
  unfold StockD.right
  rw [if_pos h0']
  exact rightGo_ins A B ⟨id, u, s⟩ _ _ h1 (by simp only; omega) h.u1 hs hs2 (by have := h.id0; simp only; omega) (by have := h.id1; simp only; omega) h.lo h.hi
theorem LentP.join (h : LentP id u ss j x A B) {s : Int} {N : List NoteD} (hs : 0 ≤ s) (hs2 : s ≤ u) (hN : N = [] ∨ N = [nP id]) :
    ∃ p', (cP id true j u s N).join (ss.set j ⟨x.T, x.U, A ++ ⟨id, u, 0⟩ :: B⟩) zz = (p', ss.set j ⟨x.T, x.U + s, x.L⟩, N, 0) := by
  have hjl : j < ss.length := (List.getElem?_eq_some_iff.1 h.at_).1
  have hpr := cP_right (cut := true) (k := (j : Int)) (N := N) h.id0 h.id1 (by omega) h.u1 h.u2 hs hs2 hN
  have hr0 := h.right (s := 0) (by omega) (by have := h.u1; omega)
  have hsplit : ss.set j ⟨x.T, x.U, A ++ ⟨id, u, 0⟩ :: B⟩ = ss.take j ++ ⟨x.T, x.U, A ++ ⟨id, u, 0⟩ :: B⟩ :: ss.drop (j + 1) := List.set_eq_take_append_cons_drop.trans (if_pos hjl)
  have hfit : (cP id true j u s N).fit (ss.set j ⟨x.T, x.U, A ++ ⟨id, u, 0⟩ :: B⟩) = true := by
    have hg : fitGo (cP id true j u s N) 0 0 (ss.set j ⟨x.T, x.U, A ++ ⟨id, u, 0⟩ :: B⟩) = some 1 := by
      rw [hsplit, fitGo_far _ _ _ _ (fun s' hs' => h.no s' (List.mem_of_mem_take hs'))]
      have hin : fitIn (cP id true j u s N) (0 + ((ss.take j).length : Int)) 0 (A ++ ⟨id, u, 0⟩ :: B) = some 1 := by
        rw [fitIn_far' A _ _ _ (fun y hy => by have := h.lo y hy; simp only [cP]; omega)]
        rw [fitIn_go rfl ?_]
        · exact fitIn_none _ _ _ _ (fun y hy => by have := h.hi y hy; simp only [cP]; omega)
        · have e : (0 : Int) + ((ss.take j).length : Int) = j := by simp; omega
          rw [e]
          simp [fitOne, cP, hidx, hhas]
      rw [fitGo_go hr0 hin]
      have := fitGo_far (p := cP id true j u s N) (ss.drop (j + 1)) [] (0 + ((ss.take j).length : Int) + 1) 1 (fun s' hs' => h.no s' (List.mem_of_mem_drop hs'))
      rw [List.append_nil] at this
      rw [this]
      rfl
    rw [fit_some hg]
    simp [cP]
  have hok : okJoin (cP id true j u s N) (ss.set j ⟨x.T, x.U, A ++ ⟨id, u, 0⟩ :: B⟩) zz = true := by
    simp only [okJoin, hpr, hfit, Bool.true_and]; decide
  refine ⟨{ cP id true j u s N with cut := false, H := [], S := seenJ id 0 zz zz }, ?_⟩
  unfold PhoneD.join
  rw [if_pos hok, if_pos (by rfl)]
  refine Prod.ext rfl (Prod.ext ?_ rfl)
  simp only [cP, joinGo, Int.toNat_natCast, List.getElem?_set_self hjl, List.set_set]
  congr 1
  have hjs : joinS id ⟨j, u, s⟩ ⟨x.T, x.U, A ++ ⟨id, u, 0⟩ :: B⟩ = ⟨x.T, x.U + s, A ++ B⟩ := by
    unfold joinS
    simp only
    have i0 := h.id0
    have i1 := h.id1
    rcases Int.lt_or_le 0 s with hs0 | hs0
    · rw [if_pos hs0]
      have hu := use_ins (z := ⟨id, u, 0⟩) (n := s) hr0 (by simp only; omega) (by simp only; omega) h.lo h.hi (by omega) (by have := h.u2; omega) (by simp only; omega)
      simp only [Int.zero_add] at hu
      rw [hu]
      exact give_ins (z := ⟨id, u, s⟩) (h.right hs hs2) (by simp only; omega) (by simp only; omega) h.lo h.hi
    · have : s = 0 := by omega
      subst this
      rw [if_neg (by omega)]
      exact give_ins (z := ⟨id, u, 0⟩) hr0 (by simp only; omega) (by simp only; omega) h.lo h.hi
  rw [hjs, h.L]
theorem LentP.promise (h : LentP id u ss j x A B) (n : Int) :
    (((cP id true j u 0 []).promise j n 5 nB).2 ≠ 0 ∧ (n < 1 ∨ u < n)) ∨ (1 ≤ n ∧ n ≤ u ∧ (cP id true j u 0 []).promise j n 5 nB = (cP id true j u n [nP id], 0)) := by
  have hpr := cP_right (cut := true) (k := (j : Int)) (s := 0) (N := []) h.id0 h.id1 (by omega) h.u1 h.u2 (by omega) (by have := h.u1; omega) (.inl rfl)
  have u2 := h.u2
  rcases hr : rngB n 1 1000000000000000
  · refine .inl ⟨?_, ?_⟩
    · unfold PhoneD.promise
      rw [if_neg (by simp [okPro, hr])]
      simp
    · have := rngB_not.1 hr; omega
  · have hn := rngB_iff.1 hr
    have hok : okPro (cP id true j u 0 []) n 5 nB = true := by
      simp only [okPro, hpr, hr, Bool.true_and]; decide
    have hp : (cP id true j u 0 []).promise j n 5 nB = if u - 0 < n then (cP id true j u 0 [], 21) else (cP id true j u n [nP id], 0) := by
      unfold PhoneD.promise
      rw [if_pos hok]
      simp [cP, hidx, hhas, lateN, nP]
    rw [hp]
    by_cases hlt : u - 0 < n
    · refine .inl ⟨by rw [if_pos hlt]; simp, by omega⟩
    · exact .inr ⟨by omega, by omega, if_neg hlt⟩
theorem LentP.take (h : LentP id u ss j x A B) {n : Int} (h1 : 1 ≤ n) (h2 : n ≤ u) : x.take n = (⟨x.T, x.U + n, x.L⟩, 0) := by
  have hx := (h.no x (List.mem_of_getElem? h.at_)).1
  have u2 := h.u2
  have hf := h.free
  unfold StockD.take
  rw [if_pos (by simp [StockD.fits, hx]; omega), if_neg (by omega)]
theorem LentP.set0 (h : LentP id u ss j x A B) : ss.set j ⟨x.T, x.U + 0, x.L⟩ = ss := by
  apply List.ext_getElem?
  intro i
  rw [List.getElem?_set]
  split
  · rename_i hi
    subst hi
    rw [h.at_]
    have := (List.getElem?_eq_some_iff.1 h.at_).1
    rw [if_pos this]
    simp
  · rfl
end
end Go.Proofs.Ythnblhbdfpmolaa
/- The plain law of PhoneHolds: what a promise asks, and leaves. -/
namespace Go.Proofs.Ythnblhbdfpmolaa
open Go.RowKit
theorem holdsGo_mk : ∀ (l : List Hold) (la : Int), l.Pairwise (fun a b => a.st < b.st) → (∀ x ∈ l, la < x.st ∧ 1 ≤ x.u ∧ x.u ≤ 1000000000000000 ∧ 0 ≤ x.s ∧ x.s ≤ x.u) → holdsGo la l = true
  | [], _, _, _ => rfl
  | x :: l, la, hs, h => by
    obtain ⟨h1, h2⟩ := List.pairwise_cons.1 hs
    obtain ⟨a1, a2, a3, a4, a5⟩ := h x (by simp)
    rw [holdsGo_go a1 (rngB_iff.2 ⟨a2, a3⟩) (rngB_iff.2 ⟨a4, a5⟩)]
    exact holdsGo_mk l _ h2 (fun y hy => ⟨h1 y hy, (h y (by simp [hy])).2⟩)
theorem afOk_mk : ∀ (l : List Int) (d k : Int), (∀ x ∈ l, 0 ≤ x ∧ x ≤ 10000) → (∀ (i : Nat) x, l[i]? = some x → k + i = d → x = 0) → afOk d k l = true
  | [], _, _, _, _ => rfl
  | x :: l, d, k, h, h0 => by
    rw [afOk_go2 (rngB_iff.2 (h x (by simp))) (fun hc => hc.2 (h0 0 x (by simp) (by simpa using hc.1)))]
    exact afOk_mk l d (k + 1) (fun y hy => h y (by simp [hy])) (fun i y hy he => h0 (i + 1) y (by simpa using hy) (by push_cast; omega))
theorem notesGo_app : ∀ (l : List NoteD) (id k la : Int) (n : NoteD), notesGo id k la l = true → n.dev = id → n.seq = k + l.length → (∀ x, l.getLast? = some x → x.tm ≤ n.tm) → (l = [] → la ≤ n.tm) → notesGo id k la (l ++ [n]) = true
  | [], id, k, la, n, _, h1, h2, _, h4 => by
    rw [List.nil_append, notesGo_go h1 (by simpa using h2) (h4 rfl)]; rfl
  | x :: l, id, k, la, n, h, h1, h2, h3, _ => by
    by_cases hx : x.dev ≠ id ∨ x.seq ≠ k ∨ x.tm < la
    · rw [notesGo_no hx] at h; cases h
    · have e1 : x.dev = id := Decidable.byContradiction fun h => hx (.inl h)
      have e2 : x.seq = k := Decidable.byContradiction fun h => hx (.inr (.inl h))
      have e3 : la ≤ x.tm := by omega
      rw [notesGo_go e1 e2 e3] at h
      rw [List.cons_append, notesGo_go e1 e2 e3]
      refine notesGo_app l id (k + 1) x.tm n h h1 (by simp at h2; omega) (fun y hy => h3 y ?_) (fun hl => h3 x (by rw [hl]; rfl))
      rcases l with _ | ⟨z, r⟩
      · simp at hy
      · simpa [List.getLast?_cons_cons] using hy
theorem lateN_iff {l : List NoteD} {t : Int} : lateN l t = false ↔ ∀ x, l.getLast? = some x → x.tm ≤ t := by
  unfold lateN
  split
  · rename_i x hx
    rw [hx]
    simp
  · rename_i hx
    simp [hx]
/-- What a promise answers: the ways back leave the phone. -/
theorem promise_cases {p : PhoneD} (hp : p.right = true) (hN : p.N.length ≤ 100) {k n t : Int} (hn1 : 1 ≤ n) (hn2 : n ≤ 1000000000000000) (ht1 : 0 ≤ t) (ht2 : t ≤ 1048576) :
    ((p.promise k n t nB).2 ≠ 0 ∧ (p.promise k n t nB).1 = p ∧ (hhas p.H k = false ∨ ∃ x, p.H[hidx p.H k]? = some x ∧ x.st = k ∧ (x.u - x.s < n ∨ lateN p.N t = true))) ∨
    (∃ x, hhas p.H k = true ∧ p.H[hidx p.H k]? = some x ∧ x.st = k ∧ n ≤ x.u - x.s ∧ lateN p.N t = false ∧
      p.promise k n t nB = ({ p with H := p.H.set (hidx p.H k) { x with s := x.s + n }, N := p.N ++ [⟨p.id, p.N.length, p.S, t, nB⟩] }, 0)) := by
  have hok : okPro p n t nB = true := by
    simp only [okPro, hp, Bool.true_and, Bool.and_eq_true]
    exact ⟨rngB_iff.2 ⟨hn1, hn2⟩, rngB_iff.2 ⟨ht1, ht2⟩, rfl⟩
  obtain ⟨_, hso, _⟩ := holdsR_iff (PhoneD.right_iff hp).H
  have hN' : ¬ p.N.length = 10000 := by omega
  rcases hh : hhas p.H k
  · refine .inl ?_
    have e : p.promise k n t nB = (p, 4) := by
      unfold PhoneD.promise
      rw [if_pos hok]
      split <;> simp [hh]
    rw [e]
    exact ⟨by simp, rfl, .inl rfl⟩
  · obtain ⟨x, hx, hxk⟩ := hidx_at hso hh
    have e : p.promise k n t nB = if x.u - x.s < n then (p, 21) else if lateN p.N t then (p, 19) else ({ p with H := p.H.set (hidx p.H k) { x with s := x.s + n }, N := p.N ++ [⟨p.id, p.N.length, p.S, t, nB⟩] }, 0) := by
      unfold PhoneD.promise
      rw [if_pos hok, hx]
      simp only [hh, if_true, if_neg hN']
    rcases Int.lt_or_le (x.u - x.s) n with h1 | h1
    · refine .inl ?_
      rw [e, if_pos h1]
      exact ⟨by simp, rfl, .inr ⟨x, hx, hxk, .inl h1⟩⟩
    · rcases hl : lateN p.N t
      · refine .inr ⟨x, rfl, hx, hxk, h1, rfl, ?_⟩
        rw [e, if_neg (Int.not_lt.2 h1), hl]
        rfl
      · refine .inl ?_
        rw [e, if_neg (Int.not_lt.2 h1), hl]
        exact ⟨by simp, rfl, .inr ⟨x, hx, hxk, .inr rfl⟩⟩
theorem promise_right {p : PhoneD} (hp : p.right = true) (hN : p.N.length ≤ 100) {n t : Int} {i : Nat} {x : Hold} (hx : p.H[i]? = some x) (hn1 : 1 ≤ n) (hle : n ≤ x.u - x.s) (ht1 : 0 ≤ t) (ht2 : t ≤ 1048576) (hl : lateN p.N t = false) :
    PhoneD.right { p with H := p.H.set i { x with s := x.s + n }, N := p.N ++ [⟨p.id, p.N.length, p.S, t, nB⟩] } = true := by
  have hR := PhoneD.right_iff hp
  obtain ⟨hlen, hso, hall⟩ := holdsR_iff hR.H
  have hxa := hall x (List.mem_of_getElem? hx)
  simp only [PhoneD.right, Bool.and_eq_true]
  refine ⟨rngB_iff.2 ⟨hR.id0, hR.id1⟩, ?_, ?_, ?_, by simpa using hR.S0, ?_⟩
  · simp only [holdsR, Bool.and_eq_true]
    refine ⟨holdsGo_mk _ _ ?_ (fun y hy => ?_), by simpa using hlen⟩
    · have hm : (p.H.set i { x with s := x.s + n }).map Hold.st = p.H.map Hold.st := map_set_same hx rfl
      have h1 : (p.H.map Hold.st).Pairwise (· < ·) := List.pairwise_map.2 hso
      rw [← hm] at h1
      exact List.pairwise_map.1 h1
    · rcases List.mem_or_eq_of_mem_set hy with hy | rfl
      · exact hall y hy
      · simp only; omega
  · simp only [notesR, Bool.and_eq_true, List.all_append]
    refine ⟨by simp; omega, List.all_eq_true.2 hR.NR, ?_⟩
    simp only [List.all_cons, List.all_nil, Bool.and_true]
    unfold NoteD.right
    have h0 : NoteD.ok0 ⟨p.id, p.N.length, p.S, t, nB⟩ = true := by
      simp only [NoteD.ok0, Bool.and_eq_true]
      exact ⟨rngB_iff.2 ⟨hR.id0, hR.id1⟩, rngB_iff.2 ⟨by omega, by omega⟩, rngB_iff.2 ⟨ht1, ht2⟩, by simp [hR.S], rfl⟩
    rw [if_pos h0]
    refine afOk_mk _ _ _ hR.SR (fun j y hy hj => ?_)
    have h1 := hR.S0
    have h2 : p.id.toNat = j := by have := hR.id0; simp only at hj; omega
    rw [h2, hy] at h1
    injection h1
  · simp only [seenR, Bool.and_eq_true]
    exact ⟨by simp [hR.S], List.all_eq_true.2 (fun y hy => rngB_iff.2 (hR.SR y hy))⟩
  · exact notesGo_app _ _ _ _ _ hR.G rfl (by simp) (fun y hy => lateN_iff.1 hl y hy) (fun _ => ht1)
end Go.Proofs.Ythnblhbdfpmolaa
/- The plain law of PhoneHolds: two promises, or one of both together. -/
namespace Go.Proofs.Ythnblhbdfpmolaa
open Go.RowKit
theorem countP_map_eq {l m : List Hold} (h : l.map Hold.st = m.map Hold.st) (k : Int) : hidx l k = hidx m k ∧ hhas l k = hhas m k := by
  have e1 : ∀ r : List Hold, hidx r k = (r.map Hold.st).countP (fun z => decide (z < k)) := fun r => by unfold hidx; rw [List.countP_map]; rfl
  have e2 : ∀ r : List Hold, hhas r k = (r.map Hold.st).any (fun z => decide (z = k)) := fun r => by unfold hhas; rw [List.any_map]; rfl
  exact ⟨by rw [e1, e1, h], by rw [e2, e2, h]⟩
def after1 (p : PhoneD) (i : Nat) (x : Hold) (n t : Int) : PhoneD := { p with H := p.H.set i { x with s := x.s + n }, N := p.N ++ [⟨p.id, p.N.length, p.S, t, nB⟩] }
theorem promise_two {p : PhoneD} (hp : p.right = true) (hN : p.N.length ≤ 50) {k n m t : Int} {x : Hold} (hh : hhas p.H k = true) (hx : p.H[hidx p.H k]? = some x) (hn1 : 1 ≤ n) (hn2 : n ≤ 1099511627776) (hm1 : 1 ≤ m) (hm2 : m ≤ 1099511627776)
    (hle : n ≤ x.u - x.s) (hl : lateN p.N t = false) (ht1 : 0 ≤ t) (ht2 : t ≤ 1048576) :
    ((after1 p (hidx p.H k) x n t).promise k m t nB).2 = 0 ↔ (p.promise k (n + m) t nB).2 = 0 := by
  have hr1 : (after1 p (hidx p.H k) x n t).right = true := promise_right hp (by omega) hx hn1 hle ht1 ht2 hl
  have hH : (after1 p (hidx p.H k) x n t).H = p.H.set (hidx p.H k) { x with s := x.s + n } := rfl
  have hNN : (after1 p (hidx p.H k) x n t).N = p.N ++ [⟨p.id, p.N.length, p.S, t, nB⟩] := rfl
  have hce := countP_map_eq (map_set_same (f := Hold.st) (y := { x with s := x.s + n }) hx rfl) k
  have hl1 : lateN (after1 p (hidx p.H k) x n t).N t = false := by rw [hNN]; unfold lateN; simp
  have hx1 : (after1 p (hidx p.H k) x n t).H[hidx (after1 p (hidx p.H k) x n t).H k]? = some { x with s := x.s + n } := by
    rw [hH, hce.1]
    have hlt := (List.getElem?_eq_some_iff.1 hx).1
    rw [List.getElem?_set_self hlt]
  have hh1 : hhas (after1 p (hidx p.H k) x n t).H k = true := by rw [hH, hce.2]; exact hh
  have c1 := promise_cases hr1 (by rw [hNN]; simp; omega) (k := k) hm1 (by omega) ht1 ht2
  have c2 := promise_cases hp (by omega) (k := k) (n := n + m) (by omega) (by omega) ht1 ht2
  rcases c1 with ⟨a1, _, a3⟩ | ⟨y, _, a2, _, a4, _, a6⟩
  · have h1 : x.u - (x.s + n) < m := by
      rcases a3 with a3 | ⟨y, b1, _, b3⟩
      · rw [hh1] at a3; cases a3
      · rw [hx1] at b1
        injection b1 with b1
        subst b1
        rcases b3 with b3 | b3
        · exact b3
        · rw [hl1] at b3; cases b3
    refine ⟨fun h => absurd h a1, fun h => ?_⟩
    rcases c2 with ⟨d1, _, _⟩ | ⟨y, _, d2, _, d4, _, _⟩
    · exact absurd h d1
    · rw [hx] at d2
      injection d2 with d2
      subst d2
      omega
  · rw [hx1] at a2
    injection a2 with a2
    subst a2
    simp only at a4
    refine ⟨fun _ => ?_, fun _ => by rw [a6]⟩
    rcases c2 with ⟨d1, _, d3⟩ | ⟨y, _, _, _, _, _, d6⟩
    · exfalso
      rcases d3 with d3 | ⟨y, b1, _, b3⟩
      · rw [hh] at d3; cases d3
      · rw [hx] at b1
        injection b1 with b1
        subst b1
        rcases b3 with b3 | b3
        · omega
        · rw [hl] at b3; cases b3
    · rw [d6]
end Go.Proofs.Ythnblhbdfpmolaa
