/- A play begins: its rows grow. -/
import Derived.Test.YthnblhbdfpmolaaPNotemxbg
namespace Go.Proofs.Ythnblhbdfpmolaa
open Go.RowKit
theorem make_intsP (n : Nat) (hn : n ≤ 10000) (w : World) : (Instr.makeSlice 24 (.int .i64 (n : Int)) (.int .i64 (n : Int))).run Try.prog w = .ok (.slice (some ⟨w.heap.size, 0, none⟩) n n) (w.alloc (.cells (dnC (List.replicate n 0)) 3)) := by
  obtain ⟨i, hi, hz, hsize, hby, hzs⟩ := infoInt
  have h := run_makeSlice w 24 3 i _ Try.underlying24 hi hz .i64 .i64 (n : Int) (n : Int) (by omega) (Int.le_refl _) (by rw [hsize]; omega) (by rw [hby]; omega) (by omega)
  have hc : madeCells (Value.int .i64 0).cells n = dnC (List.replicate n 0) := by
    unfold dnC madeCells
    apply Array.ext_getElem?
    intro j
    rcases Nat.lt_or_ge j n with hj | hj
    · rw [Array.getElem?_map, Array.getElem?_range, if_pos hj, List.getElem?_toArray, List.getElem?_map, List.getElem?_replicate, if_pos hj]
      simp [Value.cells, Nat.mod_one]
    · rw [Array.getElem?_eq_none (by simpa using hj), Array.getElem?_eq_none (by simpa using hj)]
  rw [h, hsize]
  simp only [Int.toNat_natCast, Nat.mul_one, hc]
def pZ (id : Int) : PhoneD := ⟨id, false, [], [], List.replicate 12 0⟩
set_option maxHeartbeats 1000000 in
theorem phone_new_s (n : Int) (w : World) (hq : rngB n 0 11 = true) :
    Calls Try.prog 16 #[.int .i64 n] w fun e w' => ∃ p : Phone, e = .returned (.tuple #[p.v, .int .i64 0]) ∧ p.d = pZ n ∧ RdPhone (fun b => w.heap.size ≤ b ∧ b < w'.heap.size) w' p ∧ Below w.heap.size w w' := by
  have hmk : ∀ w, (Instr.makeSlice 24 (.int .i64 12) (.int .i64 12)).run Try.prog w = .ok (.slice (some ⟨w.heap.size, 0, none⟩) 12 12) (w.alloc (.cells (Array.replicate 12 (.int .i64 0)) 3)) := fun _ => by kernel_rfl
  go_enter Try.func16, Try.ntmps16
  go_wp2_with (go_at_call 53; refine (phone_device _ _).mono ?_; rintro e w' ⟨rfl, rfl⟩)
  try simp only [Exit.inBlock, Exit.then]
  have HN := fun (W : World) (h : w.heap.size ≤ W.heap.size) => Lib.hid (Own.lit (base := w.heap.size) (e := 3) (k := 1) (enc := ienc) W (Array.replicate 12 (.int .i64 0)) (List.replicate 12 (0 : Int)) h (by simp [maxLen]) rfl ienc_k)
  refine bodyPost_ret (v := .tuple #[.agg #[.int .i64 n, .bool false, .slice none 0 0, .slice none 0 0, .slice (some ⟨w.heap.size + 1, 0, none⟩) 12 12], .int .i64 0]) ?_ rfl ⟨⟨n, false, ⟨none, 0, []⟩, ⟨none, 0, []⟩, ⟨some ⟨w.heap.size + 1, 0, none⟩, 12, List.replicate 12 (0:Int)⟩⟩, rfl, rfl, ⟨Rd.nil _ _ _ _, ⟨Rd.nil _ _ _ _, by simp⟩, ?_⟩, qbl⟩
  · simp [results, Try.results16, go_sem]
  · have := (HN (w.alloc (.cells #[.int .i64 n, .bool false, .slice none 0 0, .slice none 0 0, .slice (some ⟨w.heap.size + 1, 0, none⟩) 12 12] 33)) (by simp)).out
    rw [show (w.alloc (.cells #[.int .i64 n, .bool false, .slice none 0 0, .slice none 0 0, .slice (some ⟨w.heap.size + 1, 0, none⟩) 12 12] 33)).heap.size = w.heap.size + 1 from by simp] at this
    exact this.rd ienc_k
section
variable {B : Nat} {w w1 : World} {m : PlM}
theorem ap_core {m' : PlM} {r : Nat} (h : PlayAt B w m) (hrow : ∀ i, i ≠ r → m'.row i = m.row i) (hA : ∀ x, m'.row r = some x → m.row r = some x ∨ w.heap.size ≤ x.block) : ∀ i j, i ≠ j → Apt (m'.row i) (m'.row j) := by
  intro i j hij
  by_cases hi : i = r
  · subst hi
    rw [hrow j (Ne.symm hij)]
    intro x y hx hy
    rcases hA x hx with h1 | h1
    · exact h.ap i j hij x y h1 hy
    · have := (h.rb hy).1; omega
  · rw [hrow i hi]
    by_cases hj : j = r
    · subst hj
      intro x y hx hy
      rcases hA y hy with h1 | h1
      · exact h.ap i j hij x y hx h1
      · have := (h.rb hx).1; omega
    · rw [hrow j hj]; exact h.ap i j hij
theorem aq_core {m' : PlM} {r : Nat} (h : PlayAt B w m) (hrow : ∀ i, i ≠ r → m'.row i = m.row i) (hA : ∀ x, m'.row r = some x → m.row r = some x ∨ w.heap.size ≤ x.block) : ∀ i x, x ∈ m.Q.l → Apt (m'.row i) x.A := by
  intro i x hx
  by_cases hi : i = r
  · subst hi
    intro a b ha hb
    rcases hA a ha with h1 | h1
    · exact h.aq i x hx a b h1 hb
    · have := (h.qb hx hb).1; omega
  · rw [hrow i hi]; exact h.aq i x hx
theorem g_core {m' : PlM} {r : Nat} (h : PlayAt B w m) (hrow : ∀ i, i ≠ r → m'.row i = m.row i) (hA : ∀ x, m'.row r = some x → m.row r = some x ∨ w.heap.size ≤ x.block) {b : Nat} (hb : m.G b) : ∀ i x, m'.row i = some x → b ≠ x.block := by
  intro i x hx
  by_cases hi : i = r
  · subst hi
    rcases hA x hx with h1 | h1
    · exact (h.G b hb).2.1 i x h1
    · have := (h.G b hb).1; omega
  · rw [hrow i hi] at hx; exact (h.G b hb).2.1 i x hx
/-- The row of phones has grown. -/
theorem PlayAt.grP (h : PlayAt B w m) (hsz : w.heap.size ≤ w1.heap.size) (hk : ∀ b, b < w.heap.size → (∀ x, m.P.A = some x → b ≠ x.block) → w1.heap[b]? = w.heap[b]?) {P' : Sl Phone} (hP : Own B 33 5 Phone.enc w1 P') (hA : ∀ x, P'.A = some x → m.P.A = some x ∨ w.heap.size ≤ x.block) (hr : ∀ p, p ∈ P'.l → RdPhone m.G w p) :
    PlayAt B (w1.setCell ⟨m.g, 0, none⟩ (.slice P'.A P'.l.length P'.c)) { m with P := P' } := by
  have hgl : m.g < w.heap.size := h.box.lt
  have hgP : ∀ x, m.P.A = some x → m.g ≠ x.block := fun x hx => h.ap 0 1 (by decide) _ _ rfl hx
  have hkk : ∀ b, b < w.heap.size → b ≠ m.g → (∀ x, m.P.A = some x → b ≠ x.block) → (w1.setCell ⟨m.g, 0, none⟩ (.slice P'.A P'.l.length P'.c)).heap[b]? = w.heap[b]? := fun b h1 h2 h3 => (Below.heap_setCell _ _ _ _ h2).trans (hk b h1 h3)
  have hG : ∀ c, m.G c → (w1.setCell ⟨m.g, 0, none⟩ (.slice P'.A P'.l.length P'.c)).heap[c]? = w.heap[c]? := fun c hc => hkk c (h.G c hc).1 ((h.G c hc).2.1 0 ⟨m.g, 0, none⟩ rfl) ((h.G c hc).2.1 1)
  have hrow : ∀ i, i ≠ 1 → PlM.row { m with P := P' } i = m.row i := by
    intro i hi
    match i, hi with
    | 0, _ => rfl
    | 2, _ => rfl
    | 3, _ => rfl
    | 4, _ => rfl
    | 5, _ => rfl
    | k + 6, _ => rfl
  have hO : ∀ r, r ≠ 0 → r ≠ 1 → ∀ g, m.row r = some ⟨g, 0, none⟩ → (w1.setCell ⟨m.g, 0, none⟩ (.slice P'.A P'.l.length P'.c)).heap[g]? = w.heap[g]? := fun r h0 h1 g hg => hkk g (h.rb hg).1 (h.ap r 0 h0 _ _ hg rfl) (fun x hx => h.ap r 1 h1 _ _ hg hx)
  exact {
    box := Blk.set_ (w := w1) ((hk m.g hgl hgP).trans h.box) 0 (.slice P'.A P'.l.length P'.c)
    lo := h.lo
    P := hP.keepr fun g hg => Below.heap_setCell _ _ _ _ (by
      rcases hA _ hg with h1 | h1
      · exact Ne.symm (hgP _ h1)
      · simp only at h1 ⊢; omega)
    S := h.S.keepr fun g hg => hO 2 (by decide) (by decide) g hg
    T := h.T.keepr fun g hg => hO 3 (by decide) (by decide) g hg
    H := h.H.keepr fun g hg => hO 4 (by decide) (by decide) g hg
    Q := h.Q.keepr fun g hg => hO 5 (by decide) (by decide) g hg
    q := fun x hx => (h.q x hx).keepr fun g hg => hkk g (h.qb hx hg).1 ((h.aq 0 x hx).symm _ _ hg rfl) (fun y hy => (h.aq 1 x hx).symm _ _ hg hy)
    ap := ap_core (r := 1) h hrow hA
    aq := aq_core (m := m) (r := 1) h hrow hA
    qq := h.qq
    G := fun b hb => ⟨by have := (h.G b hb).1; simp; omega, g_core (r := 1) h hrow hA hb, (h.G b hb).2.2⟩
    rN := h.rN.keep hG
    rZ := h.rZ.keep hG
    rP := fun p hp => (hr p hp).keep hG
    rS := fun s hs => (h.rS s hs).keep hG }
/-- What was taken has grown. -/
theorem PlayAt.grT (h : PlayAt B w m) (hsz : w.heap.size ≤ w1.heap.size) (hk : ∀ b, b < w.heap.size → (∀ x, m.T.A = some x → b ≠ x.block) → w1.heap[b]? = w.heap[b]?) {T' : Sl Int} (hT : Own B 3 1 ienc w1 T') (hA : ∀ x, T'.A = some x → m.T.A = some x ∨ w.heap.size ≤ x.block) :
    PlayAt B (w1.setCell ⟨m.g, 2, none⟩ (.slice T'.A T'.l.length T'.c)) { m with T := T' } := by
  have hgl : m.g < w.heap.size := h.box.lt
  have hgT : ∀ x, m.T.A = some x → m.g ≠ x.block := fun x hx => h.ap 0 3 (by decide) _ _ rfl hx
  have hkk : ∀ b, b < w.heap.size → b ≠ m.g → (∀ x, m.T.A = some x → b ≠ x.block) → (w1.setCell ⟨m.g, 2, none⟩ (.slice T'.A T'.l.length T'.c)).heap[b]? = w.heap[b]? := fun b h1 h2 h3 => (Below.heap_setCell _ _ _ _ h2).trans (hk b h1 h3)
  have hG : ∀ c, m.G c → (w1.setCell ⟨m.g, 2, none⟩ (.slice T'.A T'.l.length T'.c)).heap[c]? = w.heap[c]? := fun c hc => hkk c (h.G c hc).1 ((h.G c hc).2.1 0 ⟨m.g, 0, none⟩ rfl) ((h.G c hc).2.1 3)
  have hrow : ∀ i, i ≠ 3 → PlM.row { m with T := T' } i = m.row i := by
    intro i hi
    match i, hi with
    | 0, _ => rfl
    | 1, _ => rfl
    | 2, _ => rfl
    | 4, _ => rfl
    | 5, _ => rfl
    | k + 6, _ => rfl
  have hO : ∀ r, r ≠ 0 → r ≠ 3 → ∀ g, m.row r = some ⟨g, 0, none⟩ → (w1.setCell ⟨m.g, 2, none⟩ (.slice T'.A T'.l.length T'.c)).heap[g]? = w.heap[g]? := fun r h0 h1 g hg => hkk g (h.rb hg).1 (h.ap r 0 h0 _ _ hg rfl) (fun x hx => h.ap r 3 h1 _ _ hg hx)
  exact {
    box := Blk.set_ (w := w1) ((hk m.g hgl hgT).trans h.box) 2 (.slice T'.A T'.l.length T'.c)
    lo := h.lo
    P := h.P.keepr fun g hg => hO 1 (by decide) (by decide) g hg
    S := h.S.keepr fun g hg => hO 2 (by decide) (by decide) g hg
    T := hT.keepr fun g hg => Below.heap_setCell _ _ _ _ (by
      rcases hA _ hg with h1 | h1
      · exact Ne.symm (hgT _ h1)
      · simp only at h1 ⊢; omega)
    H := h.H.keepr fun g hg => hO 4 (by decide) (by decide) g hg
    Q := h.Q.keepr fun g hg => hO 5 (by decide) (by decide) g hg
    q := fun x hx => (h.q x hx).keepr fun g hg => hkk g (h.qb hx hg).1 ((h.aq 0 x hx).symm _ _ hg rfl) (fun y hy => (h.aq 3 x hx).symm _ _ hg hy)
    ap := ap_core (r := 3) h hrow hA
    aq := aq_core (m := m) (r := 3) h hrow hA
    qq := h.qq
    G := fun b hb => ⟨by have := (h.G b hb).1; simp; omega, g_core (r := 3) h hrow hA hb, (h.G b hb).2.2⟩
    rN := h.rN.keep hG
    rZ := h.rZ.keep hG
    rP := fun p hp => (h.rP p hp).keep hG
    rS := fun s hs => (h.rS s hs).keep hG }
/-- Another row of what was handed over. -/
theorem PlayAt.grH (h : PlayAt B w m) (hsz : w.heap.size ≤ w1.heap.size) (hk : ∀ b, b < w.heap.size → (∀ x, m.H.A = some x → b ≠ x.block) → w1.heap[b]? = w.heap[b]?) {H' : Sl Int} (hH : Own B 3 1 ienc w1 H') (hA : ∀ x, H'.A = some x → m.H.A = some x ∨ w.heap.size ≤ x.block) :
    PlayAt B (w1.setCell ⟨m.g, 3, none⟩ (.slice H'.A H'.l.length H'.c)) { m with H := H' } := by
  have hgl : m.g < w.heap.size := h.box.lt
  have hgH : ∀ x, m.H.A = some x → m.g ≠ x.block := fun x hx => h.ap 0 4 (by decide) _ _ rfl hx
  have hkk : ∀ b, b < w.heap.size → b ≠ m.g → (∀ x, m.H.A = some x → b ≠ x.block) → (w1.setCell ⟨m.g, 3, none⟩ (.slice H'.A H'.l.length H'.c)).heap[b]? = w.heap[b]? := fun b h1 h2 h3 => (Below.heap_setCell _ _ _ _ h2).trans (hk b h1 h3)
  have hG : ∀ c, m.G c → (w1.setCell ⟨m.g, 3, none⟩ (.slice H'.A H'.l.length H'.c)).heap[c]? = w.heap[c]? := fun c hc => hkk c (h.G c hc).1 ((h.G c hc).2.1 0 ⟨m.g, 0, none⟩ rfl) ((h.G c hc).2.1 4)
  have hrow : ∀ i, i ≠ 4 → PlM.row { m with H := H' } i = m.row i := by
    intro i hi
    match i, hi with
    | 0, _ => rfl
    | 1, _ => rfl
    | 2, _ => rfl
    | 3, _ => rfl
    | 5, _ => rfl
    | k + 6, _ => rfl
  have hO : ∀ r, r ≠ 0 → r ≠ 4 → ∀ g, m.row r = some ⟨g, 0, none⟩ → (w1.setCell ⟨m.g, 3, none⟩ (.slice H'.A H'.l.length H'.c)).heap[g]? = w.heap[g]? := fun r h0 h1 g hg => hkk g (h.rb hg).1 (h.ap r 0 h0 _ _ hg rfl) (fun x hx => h.ap r 4 h1 _ _ hg hx)
  exact {
    box := Blk.set_ (w := w1) ((hk m.g hgl hgH).trans h.box) 3 (.slice H'.A H'.l.length H'.c)
    lo := h.lo
    P := h.P.keepr fun g hg => hO 1 (by decide) (by decide) g hg
    S := h.S.keepr fun g hg => hO 2 (by decide) (by decide) g hg
    T := h.T.keepr fun g hg => hO 3 (by decide) (by decide) g hg
    H := hH.keepr fun g hg => Below.heap_setCell _ _ _ _ (by
      rcases hA _ hg with h1 | h1
      · exact Ne.symm (hgH _ h1)
      · simp only at h1 ⊢; omega)
    Q := h.Q.keepr fun g hg => hO 5 (by decide) (by decide) g hg
    q := fun x hx => (h.q x hx).keepr fun g hg => hkk g (h.qb hx hg).1 ((h.aq 0 x hx).symm _ _ hg rfl) (fun y hy => (h.aq 4 x hx).symm _ _ hg hy)
    ap := ap_core (r := 4) h hrow hA
    aq := aq_core (m := m) (r := 4) h hrow hA
    qq := h.qq
    G := fun b hb => ⟨by have := (h.G b hb).1; simp; omega, g_core (r := 4) h hrow hA hb, (h.G b hb).2.2⟩
    rN := h.rN.keep hG
    rZ := h.rZ.keep hG
    rP := fun p hp => (h.rP p hp).keep hG
    rS := fun s hs => (h.rS s hs).keep hG }
/-- One more row of what is pending. -/
theorem PlayAt.grQ (h : PlayAt B w m) (hsz : w.heap.size ≤ w1.heap.size) (hk : ∀ b, b < w.heap.size → (∀ x, m.Q.A = some x → b ≠ x.block) → w1.heap[b]? = w.heap[b]?) {A' : Option Addr} {c' : Nat} {y : Sl Int} {gy : Nat} (hyA : y.A = some ⟨gy, 0, none⟩) (hyl : w.heap.size ≤ gy)
    (hQ : Own B 24 1 qenc w1 ⟨A', c', m.Q.l ++ [y]⟩) (hy : Own B 3 1 ienc w1 y) (hA : ∀ x, A' = some x → m.Q.A = some x ∨ w.heap.size ≤ x.block) (hAy : ∀ x, A' = some x → x.block ≠ gy) :
    PlayAt B (w1.setCell ⟨m.g, 4, none⟩ (.slice A' (m.Q.l ++ [y]).length c')) { m with Q := ⟨A', c', m.Q.l ++ [y]⟩ } := by
  have hgl : m.g < w.heap.size := h.box.lt
  have hgQ : ∀ x, m.Q.A = some x → m.g ≠ x.block := fun x hx => h.ap 0 5 (by decide) _ _ rfl hx
  have hkk : ∀ b, b < w.heap.size → b ≠ m.g → (∀ x, m.Q.A = some x → b ≠ x.block) → (w1.setCell ⟨m.g, 4, none⟩ (.slice A' (m.Q.l ++ [y]).length c')).heap[b]? = w.heap[b]? := fun b h1 h2 h3 => (Below.heap_setCell _ _ _ _ h2).trans (hk b h1 h3)
  have hG : ∀ c, m.G c → (w1.setCell ⟨m.g, 4, none⟩ (.slice A' (m.Q.l ++ [y]).length c')).heap[c]? = w.heap[c]? := fun c hc => hkk c (h.G c hc).1 ((h.G c hc).2.1 0 ⟨m.g, 0, none⟩ rfl) ((h.G c hc).2.1 5)
  have hrow : ∀ i, i ≠ 5 → PlM.row { m with Q := ⟨A', c', m.Q.l ++ [y]⟩ } i = m.row i := by
    intro i hi
    match i, hi with
    | 0, _ => rfl
    | 1, _ => rfl
    | 2, _ => rfl
    | 3, _ => rfl
    | 4, _ => rfl
    | k + 6, _ => rfl
  have hO : ∀ r, r ≠ 0 → r ≠ 5 → ∀ g, m.row r = some ⟨g, 0, none⟩ → (w1.setCell ⟨m.g, 4, none⟩ (.slice A' (m.Q.l ++ [y]).length c')).heap[g]? = w.heap[g]? := fun r h0 h1 g hg => hkk g (h.rb hg).1 (h.ap r 0 h0 _ _ hg rfl) (fun x hx => h.ap r 5 h1 _ _ hg hx)
  have hqk : ∀ x, x ∈ m.Q.l → Own B 3 1 ienc (w1.setCell ⟨m.g, 4, none⟩ (.slice A' (m.Q.l ++ [y]).length c')) x := fun x hx => (h.q x hx).keepr fun g hg => hkk g (h.qb hx hg).1 ((h.aq 0 x hx).symm _ _ hg rfl) (fun z hz => (h.aq 5 x hx).symm _ _ hg hz)
  have hrl : ∀ i x, PlM.row { m with Q := ⟨A', c', m.Q.l ++ [y]⟩ } i = some x → x.block ≠ gy := by
    intro i x hx
    by_cases hi : i = 5
    · subst hi; exact hAy x hx
    · rw [hrow i hi] at hx
      have := (h.rb hx).1; omega
  exact {
    box := Blk.set_ (w := w1) ((hk m.g hgl hgQ).trans h.box) 4 (.slice A' (m.Q.l ++ [y]).length c')
    lo := h.lo
    P := h.P.keepr fun g hg => hO 1 (by decide) (by decide) g hg
    S := h.S.keepr fun g hg => hO 2 (by decide) (by decide) g hg
    T := h.T.keepr fun g hg => hO 3 (by decide) (by decide) g hg
    H := h.H.keepr fun g hg => hO 4 (by decide) (by decide) g hg
    Q := hQ.keepr fun g hg => Below.heap_setCell _ _ _ _ (by
      rcases hA _ hg with h1 | h1
      · exact Ne.symm (hgQ _ h1)
      · simp only at h1 ⊢; omega)
    q := by
      intro x hx
      rcases List.mem_append.1 hx with hx | hx
      · exact hqk x hx
      · rw [List.mem_singleton.1 hx]
        refine hy.keepr fun g hg => Below.heap_setCell _ _ _ _ ?_
        rw [hyA] at hg
        injection hg with hg
        injection hg with hg
        simp only; omega
    ap := ap_core (r := 5) h hrow hA
    aq := by
      intro i x hx
      rcases List.mem_append.1 hx with hx | hx
      · exact aq_core (m := m) (r := 5) h hrow hA i x hx
      · rw [List.mem_singleton.1 hx]
        intro a b ha hb
        rw [hyA] at hb
        injection hb with hb
        subst hb
        exact hrl i a ha
    qq := by
      have hold : ∀ x, x ∈ m.Q.l → ∀ b, x.A = some b → b.block ≠ gy := fun x hx b hb => by have := (h.qb hx hb).1; omega
      intro i j hi hj hij
      have hl : (m.Q.l ++ [y]).length = m.Q.l.length + 1 := by simp
      have hgi : ∀ k, (hk : k < (m.Q.l ++ [y]).length) → ((k < m.Q.l.length ∧ ∃ hk', (m.Q.l ++ [y])[k] = m.Q.l[k]'hk') ∨ (k = m.Q.l.length ∧ (m.Q.l ++ [y])[k] = y)) := by
        intro k hk
        rcases Nat.lt_or_ge k m.Q.l.length with h1 | h1
        · exact .inl ⟨h1, h1, List.getElem_append_left h1⟩
        · refine .inr ⟨by omega, ?_⟩
          rw [List.getElem_append_right h1]; simp
      show Apt ((m.Q.l ++ [y])[i]'hi).A ((m.Q.l ++ [y])[j]'hj).A
      rcases hgi i hi with ⟨h1, h1', e1⟩ | ⟨h1, e1⟩ <;> rcases hgi j hj with ⟨h2, h2', e2⟩ | ⟨h2, e2⟩
      · rw [e1, e2]; exact h.qq i j h1' h2' hij
      · rw [e1, e2]
        intro a b ha hb
        rw [hyA] at hb
        injection hb with hb
        subst hb
        exact hold _ (List.getElem_mem h1') a ha
      · rw [e1, e2]
        intro a b ha hb
        rw [hyA] at ha
        injection ha with ha
        subst ha
        exact Ne.symm (hold _ (List.getElem_mem h2') b hb)
      · omega
    G := by
      intro b hb
      refine ⟨by have := (h.G b hb).1; simp; omega, g_core (r := 5) h hrow hA hb, fun z x hz hx => ?_⟩
      rcases List.mem_append.1 hz with hz | hz
      · exact (h.G b hb).2.2 z x hz hx
      · rw [List.mem_singleton.1 hz, hyA] at hx
        injection hx with hx
        subst hx
        have := (h.G b hb).1
        simp only; omega
    rN := h.rN.keep hG
    rZ := h.rZ.keep hG
    rP := fun p hp => (h.rP p hp).keep hG
    rS := fun s hs => (h.rS s hs).keep hG }
end
end Go.Proofs.Ythnblhbdfpmolaa
