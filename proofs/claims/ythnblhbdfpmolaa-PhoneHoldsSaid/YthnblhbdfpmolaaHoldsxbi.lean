/- Walks of package phone: Join, whole. -/
import Derived.Test.YthnblhbdfpmolaaHoldsxbh
import Derived.Test.YthnblhbdfpmolaaHoldsxay
namespace Go.Proofs.Ythnblhbdfpmolaa
open Go.RowKit
/-- Join: on an error the arguments come back; otherwise all three parts are new. -/
theorem phone_join (p : Phone) (ss : Sl Stock) (now : Sl Int) (w : World) (hr : RdPhone (· < w.heap.size) w p) (hs : RdStocks (· < w.heap.size) w ss) (hw : Rd (· < w.heap.size) 1 ienc w now) (hb : ss.l.length * 40 ≤ 140737488355328) :
    Calls Try.prog 28 #[p.v, .slice ss.A ss.l.length ss.c, .slice now.A now.l.length now.c] w fun e w' => ∃ (p' : Phone) (s' : Sl Stock) (n' : Sl Note), e = .returned (.tuple #[p'.v, .slice s'.A s'.l.length s'.c, .slice n'.A n'.l.length n'.c, .int .i64 (p.d.join (ss.l.map Stock.d) now.l).2.2.2]) ∧ p'.d = (p.d.join (ss.l.map Stock.d) now.l).1 ∧ s'.l.map Stock.d = (p.d.join (ss.l.map Stock.d) now.l).2.1 ∧ n'.l.map Note.d = (p.d.join (ss.l.map Stock.d) now.l).2.2.1 ∧
      Hid (((p.d.join (ss.l.map Stock.d) now.l).2.2.2 ≠ 0 ∧ p' = p ∧ s' = ss ∧ n' = ⟨none, 0, []⟩) ∨ ((p.d.join (ss.l.map Stock.d) now.l).2.2.2 = 0 ∧ RdPhone (fun b => w.heap.size ≤ b ∧ b < w'.heap.size) w' p' ∧ RdStocks (fun b => w.heap.size ≤ b ∧ b < w'.heap.size) w' s' ∧ RdNotes (fun b => w.heap.size ≤ b ∧ b < w'.heap.size) w' n')) ∧ Below w.heap.size w w' := by
  rcases hf : okJoin p.d (ss.l.map Stock.d) now.l
  · refine (phone_join_no p ss now w hr hs hw hb hf).mono ?_
    rintro e w' ⟨rfl, hbw⟩
    have hj : p.d.join (ss.l.map Stock.d) now.l = (p.d, ss.l.map Stock.d, [], 1) := by unfold PhoneD.join; rw [hf]; rfl
    rw [hj]
    exact ⟨p, ss, ⟨none, 0, []⟩, rfl, rfl, rfl, rfl, .inl ⟨by simp, rfl, rfl, rfl⟩, hbw⟩
  · have hf' := hf
    simp only [okJoin, Bool.and_eq_true] at hf'
    obtain ⟨hF, hG, hK⟩ := hf'
    rcases hc : p.cut
    · refine (phone_join_on p ss now w hr hs hw hb hF hG hK hc).mono ?_
      rintro e w' ⟨rfl, hbw⟩
      have hc' : p.d.cut = false := hc
      have hj : p.d.join (ss.l.map Stock.d) now.l = (p.d, ss.l.map Stock.d, [], 7) := by unfold PhoneD.join; rw [hf, if_pos rfl, if_neg (by rw [hc']; simp)]
      rw [hj]
      exact ⟨p, ss, ⟨none, 0, []⟩, rfl, rfl, rfl, rfl, .inl ⟨by simp, rfl, rfl, rfl⟩, hbw⟩
    · have hc' : p.d.cut = true := hc
      have hj : p.d.join (ss.l.map Stock.d) now.l = ({ p.d with cut := false, H := [], S := seenJ p.id 0 p.S.l now.l }, joinGo p.id p.H.l (ss.l.map Stock.d), p.N.l.map Note.d, 0) := by unfold PhoneD.join; rw [hf, if_pos rfl, if_pos hc']; rfl
      rw [hj]
      refine (phone_join_ok p ss now w hr hs hw hb hF hG hK hc).mono ?_
      rintro e w' ⟨p', s', n', rfl, h1, h2, h3, h4, h5, h6, hbw⟩
      exact ⟨p', s', n', rfl, h1, h2, h3, .inr ⟨rfl, h4, h5, h6⟩, hbw⟩
end Go.Proofs.Ythnblhbdfpmolaa
/- Walks of the helpers of the laws of layer 43: the small examples. -/
namespace Go.Proofs.Ythnblhbdfpmolaa
open Go.RowKit
theorem cutT {G : Prop} (T : Prop) (main : T → G) (fin : T) : G := main fin
section
variable {P : Program} {ops : Array Oper} {Q : Exit → Act → World → Prop} {md : Region.Mode} {S : World → Prop} {T : Nat → Bool}
theorem wpAnyT_three {i j l : Nat} {o o' o'' : Oper} {fuel : Nat} {listed : Array Bool} {a : Act} {w : World} (hr : Region.ready md ops listed = [i, j, l]) (ho : ops[i]? = some o) (ho' : ops[j]? = some o') (ho'' : ops[l]? = some o'')
    (h : wpList P ops (QT Q fun a' w' => (T i = false → S w') ∧ wpAnyT P md ops Q S T fuel (listed.setIfInBounds i true) a' w') [o] a w)
    (h' : wpList P ops (QT Q fun a' w' => (T j = false → S w') ∧ wpAnyT P md ops Q S T fuel (listed.setIfInBounds j true) a' w') [o'] a w)
    (h'' : wpList P ops (QT Q fun a' w' => (T l = false → S w') ∧ wpAnyT P md ops Q S T fuel (listed.setIfInBounds l true) a' w') [o''] a w) : wpAnyT P md ops Q S T (fuel + 1) listed a w := by
  refine ⟨fun h0 => ?_, fun k hk => ?_⟩
  · rw [hr] at h0; cases h0
  · rw [hr] at hk
    rcases List.mem_cons.1 hk with rfl | hk
    · exact wpOp_of_list ho h
    · rcases List.mem_cons.1 hk with rfl | hk
      · exact wpOp_of_list ho' h'
      · rcases List.mem_singleton.1 hk with rfl
        exact wpOp_of_list ho'' h''
end
def nB : ByteArray := ⟨#[110]⟩
def P0 : PhoneD := ⟨3, false, [], [], List.replicate 12 0⟩
def P1 : PhoneD := ⟨3, false, [⟨0, 6, 0⟩], [], List.replicate 12 0⟩
def P2 : PhoneD := ⟨3, true, [⟨0, 6, 0⟩], [], List.replicate 12 0⟩
def P3 : PhoneD := ⟨3, true, [⟨0, 6, 4⟩], [⟨3, 0, List.replicate 12 0, 100, nB⟩], List.replicate 12 0⟩
def P4 : PhoneD := ⟨3, false, [], [⟨3, 0, List.replicate 12 0, 100, nB⟩], List.replicate 12 0⟩
theorem sm_new : newP 3 = (P0, 0) := rfl
theorem sm_lend : P0.lend [⟨10, 0, []⟩] 0 6 = (P1, [⟨10, 0, [⟨3, 6, 0⟩]⟩], 0) := by rfl
theorem sm_cut : P1.cutS = (P2, 0) := by rfl
theorem sm_pro1 : P2.promise 0 4 100 nB = (P3, 0) := by rfl
theorem sm_pro2 : (P3.promise 0 3 101 nB).2 = 21 := by rfl
theorem sm_pro3 : (P3.promise 0 2 99 nB).2 = 19 := by rfl
theorem sm_take1 : (StockD.take ⟨10, 0, [⟨3, 6, 0⟩]⟩ 5).2 = 21 := by rfl
theorem sm_take2 : StockD.take ⟨10, 0, [⟨3, 6, 0⟩]⟩ 4 = (⟨10, 4, [⟨3, 6, 0⟩]⟩, 0) := by rfl
theorem sm_join : P3.join [⟨10, 4, [⟨3, 6, 0⟩]⟩] (List.replicate 12 0) = (P4, [⟨10, 8, []⟩], P3.N, 0) := by rfl
theorem sm_right : P4.right = true := by rfl
theorem sm_free : StockD.free ⟨10, 8, []⟩ = 2 := by rfl
end Go.Proofs.Ythnblhbdfpmolaa
/- The plain law of PhoneBack: what is lent and given back, with no program in sight. -/
namespace Go.Proofs.Ythnblhbdfpmolaa
open Go.RowKit
theorem fitIn_empty {p : PhoneD} (hH : p.H = []) : ∀ (L : List Loan) (k c c' : Int), fitIn p k c L = some c' → c' = c ∧ ∀ y ∈ L, y.p ≠ p.id
  | [], _, _, _, h => by simp [fitIn] at h; exact ⟨h.symm, by simp⟩
  | y :: L, k, c, c', h => by
    by_cases hy : y.p = p.id
    · rw [fitIn_no hy (by simp [fitOne, hH])] at h; cases h
    · rw [fitIn_far hy] at h
      obtain ⟨h1, h2⟩ := fitIn_empty hH L k c c' h
      exact ⟨h1, fun z hz => by
        rcases List.mem_cons.1 hz with rfl | hz
        · exact hy
        · exact h2 z hz⟩
theorem fitGo_empty {p : PhoneD} (hH : p.H = []) : ∀ (l : List StockD) (k c c' : Int), fitGo p k c l = some c' → ∀ s ∈ l, s.right = true ∧ ∀ y ∈ s.L, y.p ≠ p.id
  | [], _, _, _, _ => by simp
  | s :: r, k, c, c', h => by
    intro x hx
    rcases hs : s.right
    · rw [fitGo_no hs] at h; cases h
    · rcases hi : fitIn p k c s.L with _ | c1
      · rw [fitGo_in hs hi] at h; cases h
      · rw [fitGo_go hs hi] at h
        rcases List.mem_cons.1 hx with rfl | hx
        · exact ⟨hs, (fitIn_empty hH _ _ _ _ hi).2⟩
        · exact fitGo_empty hH r _ _ _ h x hx
theorem fit_empty {p : PhoneD} {l : List StockD} (hH : p.H = []) (h : p.fit l = true) : ∀ s ∈ l, s.right = true ∧ ∀ y ∈ s.L, y.p ≠ p.id := by
  unfold PhoneD.fit at h
  split at h
  · rename_i c hc; exact fitGo_empty hH l _ _ _ hc
  · cases h
theorem fitGo_far {p : PhoneD} : ∀ (l m : List StockD) (k c : Int), (∀ s ∈ l, s.right = true ∧ ∀ y ∈ s.L, y.p ≠ p.id) → fitGo p k c (l ++ m) = fitGo p (k + l.length) c m
  | [], m, k, c, _ => by simp
  | s :: l, m, k, c, h => by
    obtain ⟨h1, h2⟩ := h s (by simp)
    rw [List.cons_append, fitGo_go h1 (fitIn_none p k c s.L h2), fitGo_far l m (k + 1) c (fun x hx => h x (by simp [hx]))]
    congr 1
    simp; omega
theorem fitIn_far' {p : PhoneD} : ∀ (A R : List Loan) (k c : Int), (∀ y ∈ A, y.p ≠ p.id) → fitIn p k c (A ++ R) = fitIn p k c R
  | [], R, k, c, _ => rfl
  | y :: A, R, k, c, h => by
    rw [List.cons_append, fitIn_far (h y (by simp))]
    exact fitIn_far' A R k c (fun z hz => h z (by simp [hz]))
theorem rightGo_mono : ∀ (B : List Loan) (f f' la la' : Int), rightGo f la B = true → sumU B ≤ f' → (∀ b ∈ B, la' < b.p) → rightGo f' la' B = true
  | [], _, _, _, _, _, _, _ => rfl
  | b :: r, f, f', la, la', h, hs, hp => by
    have hb := rightGo_mem _ _ _ h b (by simp)
    have h' := h
    rw [rightGo_go (by omega)] at h'
    have hsr := rightGo_sum r _ _ h' (by omega)
    rw [sumU_cons] at hs
    rw [rightGo_go (by have := hp b (by simp); omega)]
    exact rightGo_mono r _ _ _ _ h' (by omega) (fun c hc => (rightGo_mem _ _ _ h' c hc).2.2.2.2.1)
theorem rightGo_ins : ∀ (A B : List Loan) (z : Loan) (f la : Int), rightGo f la (A ++ B) = true → sumU (A ++ B) + z.u ≤ f → 1 ≤ z.u → 0 ≤ z.s → z.s ≤ z.u → la < z.p → z.p < 12 → (∀ a ∈ A, a.p < z.p) → (∀ b ∈ B, z.p < b.p) → rightGo f la (A ++ z :: B) = true
  | [], B, z, f, la, h, hs, h1, h2, h3, h4, h5, _, hB => by
    simp only [List.nil_append] at h hs ⊢
    have h0 : 0 ≤ sumU B := by
      have := rightGo_mem _ _ _ h
      clear h hs hB
      induction B with
      | nil => simp [sumU]
      | cons y r ih => rw [sumU_cons]; have h1 := this y (by simp); have := ih (fun x hx => this x (by simp [hx])); omega
    rw [rightGo_go (by omega)]
    exact rightGo_mono B _ _ _ _ h (by omega) hB
  | a :: A, B, z, f, la, h, hs, h1, h2, h3, h4, h5, hA, hB => by
    simp only [List.cons_append] at h hs ⊢
    have ha := rightGo_mem _ _ _ h a (by simp)
    rw [rightGo_go (by omega)] at h ⊢
    rw [sumU_cons] at hs
    exact rightGo_ins A B z _ _ h (by omega) h1 h2 h3 (hA a (by simp)) h5 (fun x hx => hA x (by simp [hx])) hB
theorem sorted_split : ∀ (L : List Loan) (p : Int), L.Pairwise (fun a b => a.p < b.p) → (∀ y ∈ L, y.p ≠ p) → (∀ a ∈ L.take (idx L p), a.p < p) ∧ (∀ b ∈ L.drop (idx L p), p < b.p)
  | [], _, _, _ => by simp [idx]
  | y :: L, p, hs, hn => by
    obtain ⟨h1, h2⟩ := List.pairwise_cons.1 hs
    have ih := sorted_split L p h2 (fun z hz => hn z (by simp [hz]))
    have hy := hn y (by simp)
    by_cases hlt : y.p < p
    · have e : idx (y :: L) p = idx L p + 1 := by simp [idx, List.countP_cons, hlt]
      rw [e]
      simp only [List.take_succ_cons, List.drop_succ_cons]
      exact ⟨fun a ha => by
        rcases List.mem_cons.1 ha with rfl | ha
        · exact hlt
        · exact ih.1 a ha, ih.2⟩
    · have e : idx (y :: L) p = 0 := by
        unfold idx
        rw [List.countP_eq_zero]
        intro z hz
        rcases List.mem_cons.1 hz with rfl | hz
        · simp; omega
        · have := h1 z hz; simp; omega
      rw [e]
      simp only [List.take_zero, List.drop_zero]
      exact ⟨by simp, fun b hb => by
        rcases List.mem_cons.1 hb with rfl | hb
        · omega
        · have := h1 b hb; omega⟩
section
variable {A B : List Loan} {z : Loan}
theorem idx_ins (hA : ∀ a ∈ A, a.p < z.p) (hB : ∀ b ∈ B, z.p < b.p) : idx (A ++ z :: B) z.p = A.length := by
  unfold idx
  rw [List.countP_append, List.countP_cons]
  have h1 : A.countP (fun x => decide (x.p < z.p)) = A.length := List.countP_eq_length.2 (fun a ha => by simpa using hA a ha)
  have h2 : B.countP (fun x => decide (x.p < z.p)) = 0 := List.countP_eq_zero.2 (fun b hb => by have := hB b hb; simp; omega)
  rw [h1, h2]; simp
theorem has_ins : has (A ++ z :: B) z.p = true := by simp [has]
end
/-- A stock with a loan of z put in, and what Use and Give make of it. -/
theorem give_ins {T U : Int} {A B : List Loan} {z : Loan} (h : StockD.right ⟨T, U, A ++ z :: B⟩ = true) (hz0 : 0 ≤ z.p) (hz1 : z.p < 12) (hA : ∀ a ∈ A, a.p < z.p) (hB : ∀ b ∈ B, z.p < b.p) :
    (StockD.give ⟨T, U, A ++ z :: B⟩ z.p).1 = ⟨T, U + z.s, A ++ B⟩ := by
  unfold StockD.give
  rw [if_pos (by simp [StockD.fits, h]; omega)]
  simp only [idx_ins hA hB, has_ins, if_true]
  have e : (A ++ z :: B)[A.length]? = some z := by simp
  rw [e]
  simp only
  have e1 : (A ++ z :: B).take A.length = A := by simp
  have e2 : (A ++ z :: B).drop (A.length + 1) = B := by
    rw [List.drop_append]; simp
  rw [e1, e2]
theorem use_ins {T U : Int} {A B : List Loan} {z : Loan} {n : Int} (h : StockD.right ⟨T, U, A ++ z :: B⟩ = true) (hz0 : 0 ≤ z.p) (hz1 : z.p < 12) (hA : ∀ a ∈ A, a.p < z.p) (hB : ∀ b ∈ B, z.p < b.p)
    (hn : 1 ≤ n) (hn2 : n ≤ 1000000000000000) (hle : n ≤ z.u - z.s) : (StockD.use ⟨T, U, A ++ z :: B⟩ z.p n).1 = ⟨T, U, A ++ { z with s := z.s + n } :: B⟩ := by
  unfold StockD.use
  rw [if_pos (by simp [StockD.fits, h]; omega)]
  simp only [idx_ins hA hB, has_ins, if_true]
  have e : (A ++ z :: B)[A.length]? = some z := by simp
  rw [e]
  simp only
  rw [if_neg (by omega)]
  simp
end Go.Proofs.Ythnblhbdfpmolaa
