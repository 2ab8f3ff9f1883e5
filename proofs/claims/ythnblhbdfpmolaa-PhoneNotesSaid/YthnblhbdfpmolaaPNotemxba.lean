/- The play of the law of phones in memory: what it owns, and stores into it. -/
import Derived.Test.YthnblhbdfpmolaaPNotemxau
import Derived.Test.YthnblhbdfpmolaaPNotemxaz
import Derived.Test.YthnblhbdfpmolaaPNotemxax
import Derived.Test.YthnblhbdfpmolaaPNotemxav
namespace Go.Proofs.Ythnblhbdfpmolaa
open Go.RowKit
def Phone.enc (x : Phone) : List Value := [.int .i64 x.id, .bool x.cut, .slice x.H.A x.H.l.length x.H.c, .slice x.N.A x.N.l.length x.N.c, .slice x.S.A x.S.l.length x.S.c]
theorem Phone.k (x : Phone) : x.enc.length = 5 := rfl
theorem Phone.one (x : Phone) : ∀ u ∈ x.enc, u.oneCell' = true := by intro u hu; simp [Phone.enc] at hu; rcases hu with rfl | rfl | rfl | rfl | rfl <;> rfl
def qenc (x : Sl Int) : List Value := [.slice x.A x.l.length x.c]
theorem qenc_k (x : Sl Int) : (qenc x).length = 1 := rfl
theorem qenc_one (x : Sl Int) : ∀ u ∈ qenc x, u.oneCell' = true := by intro u hu; simp [qenc] at hu; rcases hu with rfl; rfl
theorem infoPhone : Info Try.prog 33 (.agg #[.int .i64 0, .bool false, .slice none 0 0, .slice none 0 0, .slice none 0 0]) 5 88 := info_mk (by kernel_rfl) rfl
theorem infoRow : Info Try.prog 24 (.slice none 0 0) 1 24 := info_mk (by kernel_rfl) rfl
theorem Own.keepr {α : Type} {base : Nat} {e : TypeId} {k : Nat} {enc : α → List Value} {w w' : World} {s : Sl α} (h : Own base e k enc w s) (hk : ∀ g, s.A = some ⟨g, 0, none⟩ → w'.heap[g]? = w.heap[g]?) : Own base e k enc w' s := by
  refine ⟨h.1, ?_⟩
  rcases h.2 with h2 | ⟨g', cap, cur, hv, hb, hh, r⟩
  · exact .inl h2
  · have h1 : s.A = some ⟨g', 0, none⟩ := by injection hv
    exact .inr ⟨g', cap, cur, hv, hb, (hk g' h1).trans hh, r⟩
theorem Own.at0 {α : Type} {base : Nat} {e : TypeId} {k : Nat} {enc : α → List Value} {w : World} {s : Sl α} (h : Own base e k enc w s) {x : Addr} (hx : s.A = some x) : ∃ g, x = ⟨g, 0, none⟩ ∧ base ≤ g ∧ g < w.heap.size := by
  rcases h.form with ⟨h0, _⟩ | ⟨g, h1, h2, h3, _⟩
  · rw [h0] at hx; cases hx
  · rw [h1] at hx; injection hx with hx; exact ⟨g, hx.symm, h2, h3⟩
/-- Where a play lies: its box, its rows, and what they lead to (G). -/
structure PlM where
  g : Nat
  P : Sl Phone
  S : Sl Stock
  T : Sl Int
  H : Sl Int
  Q : Sl (Sl Int)
  N : Sl Note
  G : Nat → Prop
  Z : Sl Note
def PlM.row (m : PlM) : Nat → Option Addr
  | 0 => some ⟨m.g, 0, none⟩
  | 1 => m.P.A
  | 2 => m.S.A
  | 3 => m.T.A
  | 4 => m.H.A
  | 5 => m.Q.A
  | _ => none
def Apt (a b : Option Addr) : Prop := ∀ x y, a = some x → b = some y → x.block ≠ y.block
theorem Apt.symm {a b : Option Addr} (h : Apt a b) : Apt b a := fun x y hx hy => Ne.symm (h y x hy hx)
structure PlayAt (B : Nat) (w : World) (m : PlM) : Prop where
  box : Blk w m.g 93 #[.slice m.P.A m.P.l.length m.P.c, .slice m.S.A m.S.l.length m.S.c, .slice m.T.A m.T.l.length m.T.c, .slice m.H.A m.H.l.length m.H.c, .slice m.Q.A m.Q.l.length m.Q.c, .slice m.N.A m.N.l.length m.N.c]
  lo : B ≤ m.g
  P : Own B 33 5 Phone.enc w m.P
  S : Own B 66 3 Stock.enc w m.S
  T : Own B 3 1 ienc w m.T
  H : Own B 3 1 ienc w m.H
  Q : Own B 24 1 qenc w m.Q
  q : ∀ x, x ∈ m.Q.l → Own B 3 1 ienc w x
  ap : ∀ i j, i ≠ j → Apt (m.row i) (m.row j)
  aq : ∀ i x, x ∈ m.Q.l → Apt (m.row i) x.A
  qq : ∀ i j, (hi : i < m.Q.l.length) → (hj : j < m.Q.l.length) → i ≠ j → Apt m.Q.l[i].A m.Q.l[j].A
  G : ∀ b, m.G b → b < w.heap.size ∧ (∀ i x, m.row i = some x → b ≠ x.block) ∧ ∀ y x, y ∈ m.Q.l → y.A = some x → b ≠ x.block
  rN : RdNotes m.G w m.N
  rZ : RdNotes m.G w m.Z
  rP : ∀ p, p ∈ m.P.l → RdPhone m.G w p
  rS : ∀ s, s ∈ m.S.l → Rd m.G 3 Loan.enc w s.L
theorem PlayAt.rb {B : Nat} {w : World} {m : PlM} (h : PlayAt B w m) {i : Nat} {x : Addr} (hx : m.row i = some x) : x.block < w.heap.size ∧ B ≤ x.block := by
  have key : ∀ {α : Type} {e : TypeId} {k : Nat} {enc : α → List Value} {s : Sl α}, Own B e k enc w s → s.A = some x → x.block < w.heap.size ∧ B ≤ x.block := by
    intro α e k enc s ho hA
    obtain ⟨g, rfl, h1, h2⟩ := ho.at0 hA
    exact ⟨h2, h1⟩
  match i, hx with
  | 0, hx => injection hx with hx; subst hx; exact ⟨h.box.lt, h.lo⟩
  | 1, hx => exact key h.P hx
  | 2, hx => exact key h.S hx
  | 3, hx => exact key h.T hx
  | 4, hx => exact key h.H hx
  | 5, hx => exact key h.Q hx
theorem PlayAt.qb {B : Nat} {w : World} {m : PlM} (h : PlayAt B w m) {y : Sl Int} {x : Addr} (hy : y ∈ m.Q.l) (hx : y.A = some x) : x.block < w.heap.size ∧ B ≤ x.block := by
  obtain ⟨g, rfl, h1, h2⟩ := (h.q y hy).at0 hx
  exact ⟨h2, h1⟩
theorem PlayAt.below {B : Nat} {w w' : World} {m : PlM} (h : PlayAt B w m) (hb : Below w.heap.size w w') : PlayAt B w' m where
  box := h.box.later hb
  lo := h.lo
  P := h.P.below hb
  S := h.S.below hb
  T := h.T.below hb
  H := h.H.below hb
  Q := h.Q.below hb
  q x hx := (h.q x hx).below hb
  ap := h.ap
  aq := h.aq
  qq := h.qq
  G b hG := ⟨Nat.lt_of_lt_of_le (h.G b hG).1 hb.size, (h.G b hG).2⟩
  rN := h.rN.keep fun b hG => hb.block b (h.G b hG).1
  rZ := h.rZ.keep fun b hG => hb.block b (h.G b hG).1
  rP p hp := (h.rP p hp).keep fun b hG => hb.block b (h.G b hG).1
  rS s hs := (h.rS s hs).keep fun b hG => hb.block b (h.G b hG).1
theorem PlayAt.drew {B : Nat} {w : World} {m : PlM} (h : PlayAt B w m) : PlayAt B w.drew m := h.below (Below.drew (Below.refl _ _))
theorem PlayAt.alloc {B : Nat} {w : World} {m : PlM} (h : PlayAt B w m) (o : Obj) : PlayAt B (w.alloc o) m := h.below ((Below.refl _ _).alloc (Nat.le_refl _) o)
/-- More may be led to: what is new. -/
theorem PlayAt.more {B : Nat} {w w' : World} {m : PlM} (h : PlayAt B w m) (hb : Below w.heap.size w w') (X : Nat → Prop) : PlayAt B w' { m with G := fun b => m.G b ∨ (w.heap.size ≤ b ∧ b < w'.heap.size ∧ X b) } :=
  have h' := h.below hb
  { box := h'.box, lo := h'.lo, P := h'.P, S := h'.S, T := h'.T, H := h'.H, Q := h'.Q, q := h'.q, ap := h'.ap, aq := h'.aq, qq := h'.qq
    G := by
      intro b hG
      rcases hG with hG | ⟨h1, h2, _⟩
      · exact h'.G b hG
      · exact ⟨h2, fun i x hx => by have := (h.rb (i := i) hx).1; omega, fun y x hy hx => by have := (h.qb hy hx).1; omega⟩
    rN := h'.rN.mono fun b hb => .inl hb
    rZ := h'.rZ.mono fun b hb => .inl hb
    rP := fun p hp => (h'.rP p hp).mono fun b hb => .inl hb
    rS := fun s hs => (h'.rS s hs).mono fun b hb => .inl hb }
section
variable {B : Nat} {w w' : World} {m : PlM} {b : Nat}
theorem PlayAt.keepO (hk : ∀ c, c ≠ b → w'.heap[c]? = w.heap[c]?) {α : Type} {e : TypeId} {k : Nat} {enc : α → List Value} {s : Sl α} (ho : Own B e k enc w s) {a : Option Addr} (ha : a = some ⟨b, 0, none⟩) (hap : Apt a s.A) : Own B e k enc w' s :=
  ho.keepr fun g hg => hk g (Ne.symm (hap _ _ ha hg))
/-- A store into the row of phones. -/
theorem PlayAt.stP (h : PlayAt B w m) (hb : m.P.A = some ⟨b, 0, none⟩) (hsz : w'.heap.size = w.heap.size) (hk : ∀ c, c ≠ b → w'.heap[c]? = w.heap[c]?) {l : List Phone} (hl : l.length = m.P.l.length)
    (hP : Own B 33 5 Phone.enc w' ⟨m.P.A, m.P.c, l⟩) (hr : ∀ p, p ∈ l → RdPhone m.G w p) : PlayAt B w' { m with P := ⟨m.P.A, m.P.c, l⟩ } where
  box := by
    have := (hk m.g (Ne.symm (h.ap 1 0 (by decide) _ _ hb rfl))).trans h.box
    simp only [hl]
    exact this
  lo := h.lo
  P := hP
  S := PlayAt.keepO hk h.S hb (h.ap 1 2 (by decide))
  T := PlayAt.keepO hk h.T hb (h.ap 1 3 (by decide))
  H := PlayAt.keepO hk h.H hb (h.ap 1 4 (by decide))
  Q := PlayAt.keepO hk h.Q hb (h.ap 1 5 (by decide))
  q x hx := PlayAt.keepO hk (h.q x hx) hb (h.aq 1 x hx)
  ap := h.ap
  aq := h.aq
  qq := h.qq
  G c hc := ⟨by rw [hsz]; exact (h.G c hc).1, (h.G c hc).2⟩
  rN := h.rN.keep fun c hc => hk c ((h.G c hc).2.1 1 _ hb)
  rZ := h.rZ.keep fun c hc => hk c ((h.G c hc).2.1 1 _ hb)
  rP p hp := (hr p hp).keep fun c hc => hk c ((h.G c hc).2.1 1 _ hb)
  rS s hs := (h.rS s hs).keep fun c hc => hk c ((h.G c hc).2.1 1 _ hb)
/-- A store into the row of stocks. -/
theorem PlayAt.stS (h : PlayAt B w m) (hb : m.S.A = some ⟨b, 0, none⟩) (hsz : w'.heap.size = w.heap.size) (hk : ∀ c, c ≠ b → w'.heap[c]? = w.heap[c]?) {l : List Stock} (hl : l.length = m.S.l.length)
    (hS : Own B 66 3 Stock.enc w' ⟨m.S.A, m.S.c, l⟩) (hr : ∀ s, s ∈ l → Rd m.G 3 Loan.enc w s.L) : PlayAt B w' { m with S := ⟨m.S.A, m.S.c, l⟩ } where
  box := by
    have := (hk m.g (Ne.symm (h.ap 2 0 (by decide) _ _ hb rfl))).trans h.box
    simp only [hl]
    exact this
  lo := h.lo
  P := PlayAt.keepO hk h.P hb (h.ap 2 1 (by decide))
  S := hS
  T := PlayAt.keepO hk h.T hb (h.ap 2 3 (by decide))
  H := PlayAt.keepO hk h.H hb (h.ap 2 4 (by decide))
  Q := PlayAt.keepO hk h.Q hb (h.ap 2 5 (by decide))
  q x hx := PlayAt.keepO hk (h.q x hx) hb (h.aq 2 x hx)
  ap := h.ap
  aq := h.aq
  qq := h.qq
  G c hc := ⟨by rw [hsz]; exact (h.G c hc).1, (h.G c hc).2⟩
  rN := h.rN.keep fun c hc => hk c ((h.G c hc).2.1 2 _ hb)
  rZ := h.rZ.keep fun c hc => hk c ((h.G c hc).2.1 2 _ hb)
  rP p hp := (h.rP p hp).keep fun c hc => hk c ((h.G c hc).2.1 2 _ hb)
  rS s hs := (hr s hs).keep fun c hc => hk c ((h.G c hc).2.1 2 _ hb)
/-- A store into what was taken. -/
theorem PlayAt.stT (h : PlayAt B w m) (hb : m.T.A = some ⟨b, 0, none⟩) (hsz : w'.heap.size = w.heap.size) (hk : ∀ c, c ≠ b → w'.heap[c]? = w.heap[c]?) {l : List Int} (hl : l.length = m.T.l.length)
    (hT : Own B 3 1 ienc w' ⟨m.T.A, m.T.c, l⟩) : PlayAt B w' { m with T := ⟨m.T.A, m.T.c, l⟩ } where
  box := by
    have := (hk m.g (Ne.symm (h.ap 3 0 (by decide) _ _ hb rfl))).trans h.box
    simp only [hl]
    exact this
  lo := h.lo
  P := PlayAt.keepO hk h.P hb (h.ap 3 1 (by decide))
  S := PlayAt.keepO hk h.S hb (h.ap 3 2 (by decide))
  T := hT
  H := PlayAt.keepO hk h.H hb (h.ap 3 4 (by decide))
  Q := PlayAt.keepO hk h.Q hb (h.ap 3 5 (by decide))
  q x hx := PlayAt.keepO hk (h.q x hx) hb (h.aq 3 x hx)
  ap := h.ap
  aq := h.aq
  qq := h.qq
  G c hc := ⟨by rw [hsz]; exact (h.G c hc).1, (h.G c hc).2⟩
  rN := h.rN.keep fun c hc => hk c ((h.G c hc).2.1 3 _ hb)
  rZ := h.rZ.keep fun c hc => hk c ((h.G c hc).2.1 3 _ hb)
  rP p hp := (h.rP p hp).keep fun c hc => hk c ((h.G c hc).2.1 3 _ hb)
  rS s hs := (h.rS s hs).keep fun c hc => hk c ((h.G c hc).2.1 3 _ hb)
/-- A store into what was handed over. -/
theorem PlayAt.stH (h : PlayAt B w m) (hb : m.H.A = some ⟨b, 0, none⟩) (hsz : w'.heap.size = w.heap.size) (hk : ∀ c, c ≠ b → w'.heap[c]? = w.heap[c]?) {l : List Int} (hl : l.length = m.H.l.length)
    (hH : Own B 3 1 ienc w' ⟨m.H.A, m.H.c, l⟩) : PlayAt B w' { m with H := ⟨m.H.A, m.H.c, l⟩ } where
  box := by
    have := (hk m.g (Ne.symm (h.ap 4 0 (by decide) _ _ hb rfl))).trans h.box
    simp only [hl]
    exact this
  lo := h.lo
  P := PlayAt.keepO hk h.P hb (h.ap 4 1 (by decide))
  S := PlayAt.keepO hk h.S hb (h.ap 4 2 (by decide))
  T := PlayAt.keepO hk h.T hb (h.ap 4 3 (by decide))
  H := hH
  Q := PlayAt.keepO hk h.Q hb (h.ap 4 5 (by decide))
  q x hx := PlayAt.keepO hk (h.q x hx) hb (h.aq 4 x hx)
  ap := h.ap
  aq := h.aq
  qq := h.qq
  G c hc := ⟨by rw [hsz]; exact (h.G c hc).1, (h.G c hc).2⟩
  rN := h.rN.keep fun c hc => hk c ((h.G c hc).2.1 4 _ hb)
  rZ := h.rZ.keep fun c hc => hk c ((h.G c hc).2.1 4 _ hb)
  rP p hp := (h.rP p hp).keep fun c hc => hk c ((h.G c hc).2.1 4 _ hb)
  rS s hs := (h.rS s hs).keep fun c hc => hk c ((h.G c hc).2.1 4 _ hb)
/-- A store into what a phone has pending. -/
theorem PlayAt.stq (h : PlayAt B w m) {i : Nat} (hi : i < m.Q.l.length) (hb : m.Q.l[i].A = some ⟨b, 0, none⟩) (hsz : w'.heap.size = w.heap.size) (hk : ∀ c, c ≠ b → w'.heap[c]? = w.heap[c]?) {l : List Int} (hl : l.length = m.Q.l[i].l.length)
    (hq : Own B 3 1 ienc w' ⟨m.Q.l[i].A, m.Q.l[i].c, l⟩) : PlayAt B w' { m with Q := ⟨m.Q.A, m.Q.c, m.Q.l.set i ⟨m.Q.l[i].A, m.Q.l[i].c, l⟩⟩ } := by
  have hmi := List.getElem_mem hi
  have hap : ∀ r, Apt m.Q.l[i].A (m.row r) := fun r => (h.aq r _ hmi).symm
  have hne : ∀ r x, m.row r = some x → x.block ≠ b := fun r x hx => Ne.symm (hap r _ _ hb hx)
  have hA : ∀ j, (hj : j < m.Q.l.length) → ∀ (hj2 : j < (m.Q.l.set i ⟨m.Q.l[i].A, m.Q.l[i].c, l⟩).length), ((m.Q.l.set i ⟨m.Q.l[i].A, m.Q.l[i].c, l⟩)[j]'hj2).A = m.Q.l[j].A := by
    intro j hj hj2
    rw [List.getElem_set]
    split
    · rename_i hij; subst hij; rfl
    · rfl
  have hmem : ∀ x, x ∈ m.Q.l.set i ⟨m.Q.l[i].A, m.Q.l[i].c, l⟩ → ∃ y, y ∈ m.Q.l ∧ x.A = y.A := by
    intro x hx
    obtain ⟨j, hj, rfl⟩ := List.mem_iff_getElem.1 hx
    have hj' : j < m.Q.l.length := by simpa using hj
    exact ⟨_, List.getElem_mem hj', hA j hj' hj⟩
  have hGb : ∀ c, m.G c → c ≠ b := fun c hc => (h.G c hc).2.2 _ _ hmi hb
  exact {
    box := by
      have := (hk m.g (Ne.symm (hap 0 _ _ hb rfl))).trans h.box
      simp only [List.length_set]
      exact this
    lo := h.lo
    P := PlayAt.keepO hk h.P hb (hap 1)
    S := PlayAt.keepO hk h.S hb (hap 2)
    T := PlayAt.keepO hk h.T hb (hap 3)
    H := PlayAt.keepO hk h.H hb (hap 4)
    Q := by
      have ho : Own B 24 1 qenc w' m.Q := PlayAt.keepO hk h.Q hb (hap 5)
      unfold Own at ho ⊢
      have he : (m.Q.l.set i ⟨m.Q.l[i].A, m.Q.l[i].c, l⟩).flatMap qenc = m.Q.l.flatMap qenc := by
        simp only [List.flatMap_def]
        congr 1
        rw [List.map_set]
        apply List.ext_getElem (by simp)
        intro j h1 h2
        rw [List.getElem_set]
        split
        · rename_i hij; subst hij; simp [qenc, hl]
        · rfl
      rw [he]
      simp only [List.length_set]
      exact ho
    q := by
      intro x hx
      obtain ⟨j, hj, rfl⟩ := List.mem_iff_getElem.1 hx
      have hj' : j < m.Q.l.length := by simpa using hj
      rw [List.getElem_set]
      split
      · exact hq
      · rename_i hij
        exact PlayAt.keepO hk (h.q _ (List.getElem_mem hj')) hb (h.qq i j hi hj' hij)
    ap := h.ap
    aq := by
      intro r x hx
      obtain ⟨y, hy, he⟩ := hmem x hx
      rw [he]; exact h.aq r y hy
    qq := by
      intro j k hj hk' hne'
      have hj' : j < m.Q.l.length := by simpa using hj
      have hk'' : k < m.Q.l.length := by simpa using hk'
      show Apt ((m.Q.l.set i ⟨m.Q.l[i].A, m.Q.l[i].c, l⟩)[j]'hj).A ((m.Q.l.set i ⟨m.Q.l[i].A, m.Q.l[i].c, l⟩)[k]'hk').A
      rw [hA j hj' hj, hA k hk'' hk']
      exact h.qq j k hj' hk'' hne'
    G := by
      intro c hc
      refine ⟨by rw [hsz]; exact (h.G c hc).1, (h.G c hc).2.1, fun y x hy hx => ?_⟩
      obtain ⟨z, hz, he⟩ := hmem y hy
      exact (h.G c hc).2.2 z x hz (he ▸ hx)
    rN := h.rN.keep fun c hc => hk c (hGb c hc)
    rZ := h.rZ.keep fun c hc => hk c (hGb c hc)
    rP := fun p hp => (h.rP p hp).keep fun c hc => hk c (hGb c hc)
    rS := fun s hs => (h.rS s hs).keep fun c hc => hk c (hGb c hc) }
theorem setCell_off (w : World) (p : Addr) (u : Value) : ∀ c, c ≠ p.block → (w.setCell p u).heap[c]? = w.heap[c]? := fun c hc => Below.heap_setCell w p u c hc
/-- Another row of stocks. -/
theorem PlayAt.stBS (h : PlayAt B w m) {S' : Sl Stock} (hS : Own B 66 3 Stock.enc w S') {n : Nat} (hn : ∀ g, S'.A = some ⟨g, 0, none⟩ → n ≤ g ∧ ∀ c, m.G c → c ≠ g) (hlt : ∀ i x, m.row i = some x → x.block < n) (hlq : ∀ y x, y ∈ m.Q.l → y.A = some x → x.block < n) (hr : ∀ s, s ∈ S'.l → Rd m.G 3 Loan.enc w s.L) :
    PlayAt B (w.setCell ⟨m.g, 1, none⟩ (.slice S'.A S'.l.length S'.c)) { m with S := S' } := by
  have hk := setCell_off w ⟨m.g, 1, none⟩ (.slice S'.A S'.l.length S'.c)
  have h0 : ∀ r, r ≠ 0 → Apt (m.row 0) (m.row r) := fun r hr => h.ap 0 r (Ne.symm hr)
  have hb : m.row 0 = some ⟨m.g, 0, none⟩ := rfl
  have hnew : ∀ x, S'.A = some x → ∃ g, x = ⟨g, 0, none⟩ ∧ n ≤ g ∧ ∀ c, m.G c → c ≠ g := by
    intro x hx
    obtain ⟨g, rfl, _, _⟩ := hS.at0 hx
    exact ⟨g, rfl, hn g hx⟩
  have hS0 : ∀ r, r ≠ 2 → Apt (m.row r) S'.A := by
    intro r hr x y hx hy
    obtain ⟨g, rfl, hg, _⟩ := hnew y hy
    have := hlt r x hx
    simp only; omega
  have hgb : ∀ c, m.G c → c ≠ m.g := fun c hc => (h.G c hc).2.1 0 _ rfl
  have hrow : ∀ r, r ≠ 2 → PlM.row { m with S := S' } r = m.row r := by
    intro r hr
    match r, hr with
    | 0, _ => rfl
    | 1, _ => rfl
    | 3, _ => rfl
    | 4, _ => rfl
    | 5, _ => rfl
    | k + 6, _ => rfl
  exact {
    box := by
      have := h.box.set_ 1 (.slice S'.A S'.l.length S'.c)
      exact this
    lo := h.lo
    P := PlayAt.keepO hk h.P hb (h.ap 0 1 (by decide))
    S := PlayAt.keepO hk hS hb (hS0 0 (by decide))
    T := PlayAt.keepO hk h.T hb (h.ap 0 3 (by decide))
    H := PlayAt.keepO hk h.H hb (h.ap 0 4 (by decide))
    Q := PlayAt.keepO hk h.Q hb (h.ap 0 5 (by decide))
    q := fun x hx => PlayAt.keepO hk (h.q x hx) hb (h.aq 0 x hx)
    ap := by
      intro i j hij
      by_cases hi : i = 2
      · subst hi
        rw [hrow j (Ne.symm hij)]
        exact (hS0 j (Ne.symm hij)).symm
      · rw [hrow i hi]
        by_cases hj : j = 2
        · subst hj; exact hS0 i hi
        · rw [hrow j hj]; exact h.ap i j hij
    aq := by
      intro i x hx
      by_cases hi : i = 2
      · subst hi
        intro a y ha hy
        obtain ⟨g, rfl, hg, _⟩ := hnew a ha
        have := hlq x y hx hy
        simp only; omega
      · rw [hrow i hi]; exact h.aq i x hx
    qq := h.qq
    G := by
      intro c hc
      refine ⟨by simpa using (h.G c hc).1, fun i x hx => ?_, (h.G c hc).2.2⟩
      by_cases hi : i = 2
      · subst hi
        obtain ⟨g, rfl, _, hg⟩ := hnew x hx
        exact hg c hc
      · rw [hrow i hi] at hx; exact (h.G c hc).2.1 i x hx
    rN := h.rN.keep fun c hc => hk c (hgb c hc)
    rZ := h.rZ.keep fun c hc => hk c (hgb c hc)
    rP := fun p hp => (h.rP p hp).keep fun c hc => hk c (hgb c hc)
    rS := fun s hs => (hr s hs).keep fun c hc => hk c (hgb c hc) }
/-- Other notes. -/
theorem PlayAt.stBN (h : PlayAt B w m) {N' : Sl Note} (hN : RdNotes m.G w N') : PlayAt B (w.setCell ⟨m.g, 5, none⟩ (.slice N'.A N'.l.length N'.c)) { m with N := N' } := by
  have hk := setCell_off w ⟨m.g, 5, none⟩ (.slice N'.A N'.l.length N'.c)
  have hb : m.row 0 = some ⟨m.g, 0, none⟩ := rfl
  have hgb : ∀ c, m.G c → c ≠ m.g := fun c hc => (h.G c hc).2.1 0 _ rfl
  exact {
    box := by
      have := h.box.set_ 5 (.slice N'.A N'.l.length N'.c)
      exact this
    lo := h.lo
    P := PlayAt.keepO hk h.P hb (h.ap 0 1 (by decide))
    S := PlayAt.keepO hk h.S hb (h.ap 0 2 (by decide))
    T := PlayAt.keepO hk h.T hb (h.ap 0 3 (by decide))
    H := PlayAt.keepO hk h.H hb (h.ap 0 4 (by decide))
    Q := PlayAt.keepO hk h.Q hb (h.ap 0 5 (by decide))
    q := fun x hx => PlayAt.keepO hk (h.q x hx) hb (h.aq 0 x hx)
    ap := h.ap
    aq := h.aq
    qq := h.qq
    G := fun c hc => ⟨by simpa using (h.G c hc).1, (h.G c hc).2⟩
    rN := hN.keep fun c hc => hk c (hgb c hc)
    rZ := h.rZ.keep fun c hc => hk c (hgb c hc)
    rP := fun p hp => (h.rP p hp).keep fun c hc => hk c (hgb c hc)
    rS := fun s hs => (h.rS s hs).keep fun c hc => hk c (hgb c hc) }
end
end Go.Proofs.Ythnblhbdfpmolaa
/- The plain law of where notes are, and of what is missing. It holds without condition. -/
namespace Go.Proofs.Ythnblhbdfpmolaa
/-- The number of the note of a device that a note needs, or -1. -/
def sqN (n : NoteD) (d : Nat) : Int := if (d : Int) = n.dev then n.seq - 1 else seenN n.af d - 1
theorem afOk_at : ∀ {l : List Int} {d k : Int} {i : Nat} (hi : i < l.length), afOk d k l = true → k + i = d → l[i] = 0
  | x :: l, d, k, 0, _, h, hk => by
    by_cases hc : rngB x 0 10000 = false ∨ (k = d ∧ x ≠ 0)
    · rw [afOk_no hc] at h; cases h
    · simp only [List.getElem_cons_zero]
      rcases Classical.em (x = 0) with h0 | h0
      · exact h0
      · exact absurd (.inr ⟨by simpa using hk, h0⟩) hc
  | x :: l, d, k, i + 1, hi, h, hk => by
    by_cases hc : rngB x 0 10000 = false ∨ (k = d ∧ x ≠ 0)
    · rw [afOk_no hc] at h; cases h
    · rw [afOk_go hc] at h
      simp only [List.getElem_cons_succ]
      exact afOk_at (by simpa using hi) h (by omega)
theorem afOk_rng : ∀ {l : List Int} {d k : Int} {i : Nat} (hi : i < l.length), afOk d k l = true → 0 ≤ l[i] ∧ l[i] ≤ 10000
  | x :: l, d, k, 0, _, h => by
    by_cases hc : rngB x 0 10000 = false ∨ (k = d ∧ x ≠ 0)
    · rw [afOk_no hc] at h; cases h
    · simp only [List.getElem_cons_zero]
      rcases hb : rngB x 0 10000
      · exact absurd (.inl hb) hc
      · exact rngB_iff.1 hb
  | x :: l, d, k, i + 1, hi, h => by
    by_cases hc : rngB x 0 10000 = false ∨ (k = d ∧ x ≠ 0)
    · rw [afOk_no hc] at h; cases h
    · rw [afOk_go hc] at h
      simp only [List.getElem_cons_succ]
      exact afOk_rng (by simpa using hi) h
theorem right_af {n : NoteD} (h : n.right = true) : afOk n.dev 0 n.af = true := by
  unfold NoteD.right at h
  rw [if_pos (right_ok0 (by unfold NoteD.right; exact h))] at h
  exact h
theorem seenN_at {l : List Int} {i : Nat} (h : i < l.length) : seenN l i = l[i] := by
  unfold seenN; rw [if_pos (by omega)]; simp [List.getD, h]
theorem right_self {n : NoteD} (h : n.right = true) : seenN n.af n.dev = 0 := by
  have hr := right_rng h
  obtain ⟨d, hd⟩ := Int.eq_ofNat_of_zero_le hr.1.1
  rw [hd]
  rcases Nat.lt_or_ge d n.af.length with hl | hl
  · rw [seenN_at hl]
    exact afOk_at hl (right_af h) (by rw [hd]; omega)
  · unfold seenN; rw [if_neg (by omega)]
theorem seen_rng {n : NoteD} (h : n.right = true) (d : Nat) : 0 ≤ seenN n.af d ∧ seenN n.af d ≤ 10000 := by
  rcases Nat.lt_or_ge d n.af.length with hl | hl
  · rw [seenN_at hl]; exact afOk_rng hl (right_af h)
  · unfold seenN; rw [if_neg (by omega)]; omega
theorem sq_rng {n : NoteD} (h : n.right = true) (d : Nat) : -1 ≤ sqN n d ∧ sqN n d ≤ 9999 := by
  have h1 := seen_rng h d
  have h2 := right_rng h
  unfold sqN
  split <;> omega
theorem missOne_iff {l : List NoteD} {n : NoteD} (h : n.right = true) : missOne l n = true ↔ ∃ d : Nat, d < 12 ∧ 0 ≤ sqN n d ∧ l.any (isK d (sqN n d)) = false := by
  have hr := right_rng h
  unfold missOne
  simp only [Bool.or_eq_true, Bool.and_eq_true, decide_eq_true_eq, Bool.not_eq_true', List.any_eq_true (l := List.range n.af.length), List.mem_range]
  constructor
  · rintro (⟨h1, h2⟩ | ⟨d, hd, h1, h2⟩)
    · have hdev : ((n.dev.toNat : Nat) : Int) = n.dev := by omega
      refine ⟨n.dev.toNat, by omega, ?_, ?_⟩
      · unfold sqN; rw [if_pos hdev]; omega
      · unfold sqN; rw [if_pos hdev, hdev]; exact h2
    · by_cases hdd : (d : Int) = n.dev
      · rw [hdd, right_self h] at h1; omega
      · refine ⟨d, by omega, ?_, ?_⟩
        · unfold sqN; rw [if_neg hdd]; omega
        · unfold sqN; rw [if_neg hdd]; exact h2
  · rintro ⟨d, hd, h1, h2⟩
    unfold sqN at h1 h2
    by_cases hdd : (d : Int) = n.dev
    · rw [if_pos hdd] at h1 h2
      left
      rw [hdd] at h2
      exact ⟨by omega, h2⟩
    · rw [if_neg hdd] at h1 h2
      right
      refine ⟨d, ?_, by omega, h2⟩
      have := (seenN_pos (l := n.af) (d := (d : Int)) (by omega)).2
      omega
theorem apart_dupN : ∀ {l : List NoteD}, l.Pairwise ApartN → dupN l = false
  | [], _ => rfl
  | n :: l, h => by
    obtain ⟨h1, h2⟩ := List.pairwise_cons.1 h
    simp only [dupN, Bool.or_eq_false_iff]
    refine ⟨?_, apart_dupN h2⟩
    rw [List.any_eq_false]
    intro m hm
    have := apart_isK.1 (h1 m hm).symm
    simp [this]
/-- The first k places as a map's entries say it: different places. -/
def ApartK (l : List NoteD) (k : Nat) : Prop := ∀ i j, i < j → j < k → ApartN (at! l i) (at! l j)
theorem apartK_all {l : List NoteD} (h : ApartK l l.length) : l.Pairwise ApartN := by
  rw [List.pairwise_iff_getElem]
  intro i j hi hj hij
  have := h i j hij hj
  rwa [at!_eq hi, at!_eq hj] at this
theorem apartK_of {l : List NoteD} (h : l.Pairwise ApartN) {k : Nat} (hk : k ≤ l.length) : ApartK l k := by
  intro i j hij hj
  rw [List.pairwise_iff_getElem] at h
  rw [at!_eq (show i < l.length by omega), at!_eq (show j < l.length by omega)]
  exact h i j (by omega) (by omega) hij
theorem placesE_dup {l : List NoteD} {i j : Nat} (hij : i < j) (hj : j < l.length) (hd : (at! l i).dev = (at! l j).dev) (hs : (at! l i).seq = (at! l j).seq) : placesE l = 5 := by
  unfold placesE
  rcases h : dupN l
  · exact absurd ⟨hd, hs⟩ (apartK_of (dupN_apart h) (Nat.le_refl _) i j hij hj)
  · rfl
theorem placesE_miss {l : List NoteD} (ha : l.Pairwise ApartN) {n : NoteD} (hn : n ∈ l) (hm : missOne l n = true) : placesE l = 18 := by
  unfold placesE
  rw [apart_dupN ha, if_neg (by simp), if_pos (show missN l = true from List.any_eq_true.2 ⟨n, hn, hm⟩)]
theorem placesE_ok {l : List NoteD} (ha : l.Pairwise ApartN) (h : ∀ n, n ∈ l → missOne l n = false) : placesE l = 0 := by
  unfold placesE
  rw [apart_dupN ha, if_neg (by simp), if_neg]
  unfold missN
  rw [List.any_eq_true]
  rintro ⟨n, hn, hm⟩
  rw [h n hn] at hm; cases hm
theorem any_isK {l : List NoteD} {d s : Int} : l.any (isK d s) = true ↔ ∃ j, j < l.length ∧ (at! l j).dev = d ∧ (at! l j).seq = s := by
  rw [List.any_eq_true]
  constructor
  · rintro ⟨n, hn, hk⟩
    obtain ⟨j, hj, rfl⟩ := List.mem_iff_getElem.1 hn
    exact ⟨j, hj, by rw [at!_eq hj]; exact isK_iff.1 hk⟩
  · rintro ⟨j, hj, hk⟩
    rw [at!_eq hj] at hk
    exact ⟨l[j], List.getElem_mem hj, isK_iff.2 hk⟩
end Go.Proofs.Ythnblhbdfpmolaa
