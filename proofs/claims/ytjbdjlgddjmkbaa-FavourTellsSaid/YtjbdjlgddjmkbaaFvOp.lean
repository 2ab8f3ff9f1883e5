/- Arguments of the laws: ledgers, lists of numbers, as they lie in cells. -/
import Derived.Test.YtjbdjlgddjmkbaaFvD
import Derived.ProofKit
import Derived.Deep.Slices
import Derived.Deep.Fields
import Derived.ChangeSame
import Derived.Carry
import Derived.OpenShut
namespace Go.Proofs.Ytjbdjlgddjmkbaa
open Go.ChangeShapes Go.WideShapes Go.ChangeAt Go.RowKit Go.Deep
section
variable {H : Type} {enc : TypeId × Value → H} {P : Program} {w : World} {base : Nat} {spare : Nat → Bool} {held : Bool}
/-- A slice of structs of fields of one cell each. -/
theorem rowsF {t e : TypeId} {fs : Array Field} {fuel : Nat} {cs : List Value} {x : DataW H × List MemPlace} (ht : P.underlying t = some (.slice e)) (he : P.underlying e = some (.struct fs))
    (hone : oneCellFields P fs = true) (hC : P.cellsOf e = fs.size) (h : DataW.trod enc P w base spare held fuel t cs = some x) :
    cs = [.slice none 0 0] ∨ ∃ (a : Addr) (len cap : Nat), cs = [.slice (some a) len cap] ∧ len ≤ cap ∧ cap ≤ maxLen ∧
      ∀ i, i < len → ∃ n : Nat, ∀ (j : Nat) (f : Field), fs[j]? = some f → ∃ (v : Value) (y : DataW H × List MemPlace), w.cell? (a.add (i * fs.size + j)) = some v ∧ DataW.trod enc P w base spare held n f.type [v] = some y := by
  rcases open_slice ht h with ⟨h0, _⟩ | ⟨a, len, cap, m, n, D, Pl, hcs, _, hl, hm, hmm, _, hi⟩
  · exact .inl h0
  · refine .inr ⟨a, len, cap, hcs, hl, hm, fun i hil => ?_⟩
    have him : i < m := by rw [hmm]; split <;> omega
    obtain ⟨cs', hc, ht'⟩ := hi i him
    rw [hC] at hc
    obtain ⟨ys, n', _, _, _, hyl, hf⟩ := DataW.trod_struct he ht'
    obtain ⟨_, hcl, hat⟩ := World.cells?_some hc
    refine ⟨n', fun j f hj => ?_⟩
    obtain ⟨ho, hk⟩ := hone_of hone j f hj
    have hjl : j < fs.size := (Array.getElem?_eq_some_iff.1 hj).1
    have hjc : j < cs'.length := by omega
    have h1 := hf j f hj
    rw [ho, hk, List.drop_eq_getElem_cons hjc] at h1
    have hys : ys[j]? = some (ys[j]'(by omega)) := List.getElem?_eq_getElem (by omega)
    refine ⟨cs'[j], ys[j]'(by omega), ?_, ?_⟩
    · have h2 := hat j hjl
      rw [List.getElem?_eq_getElem hjc] at h2
      rw [← h2, add_add]
    · rw [← hys, ← h1]; rfl
end
theorem list_of {α : Type} {n : Nat} {Q : Nat → α → Prop} (h : ∀ i, i < n → ∃ x, Q i x) : ∃ l : List α, l.length = n ∧ ∀ i x, l[i]? = some x → Q i x := by
  induction n with
  | zero => exact ⟨[], rfl, fun i x hx => by simp at hx⟩
  | succ n ih =>
    obtain ⟨l, hl, hq⟩ := ih (fun i hi => h i (by omega))
    obtain ⟨y, hy⟩ := h n (by omega)
    refine ⟨l ++ [y], by simp [hl], fun i x hx => ?_⟩
    rcases Nat.lt_or_ge i l.length with hi | hi
    · rw [List.getElem?_append_left hi] at hx; exact hq i x hx
    · rw [List.getElem?_append_right hi] at hx
      have : i - l.length = 0 := by
        rcases Nat.eq_zero_or_pos (i - l.length) with h0 | h0
        · exact h0
        · rw [List.getElem?_eq_none (by simp; omega)] at hx; cases hx
      rw [this] at hx
      simp at hx
      subst hx
      have : i = n := by omega
      subst this
      exact hy
theorem spot_none {w : World} {a : Addr} {v : Value} (h : w.cell? (a.add 0) = some v) : a.spot = none := by
  obtain ⟨b, off, spot⟩ := a
  simpa [Addr.add] using World.cell?_spot h
section
variable {H : Type} {enc : TypeId × Value → H} {w : World} {base : Nat} {spare : Nat → Bool} {held : Bool}
theorem Try.clBal : Try.prog.cellsOf 39 = 2 := by kernel_rfl
theorem Try.clInt : Try.prog.cellsOf 3 = 1 := by kernel_rfl
theorem Try.clU16 : Try.prog.cellsOf 35 = 1 := by kernel_rfl
def uenc (n : Int) : List Value := [.int .u16 n]
theorem u16_bounds {x : Int} (h : (Lit.int .u16 x).wf = true) : 0 ≤ x ∧ x < 65536 := by
  have h1 : IntKind.u16.min = 0 := rfl
  have h2 : IntKind.u16.max = 65535 := rfl
  simp only [Lit.wf, Bool.and_eq_true, decide_eq_true_eq] at h
  omega
theorem open_intl {fuel : Nat} {v : Value} {x : DataW H × List MemPlace} (h : DataW.trod enc Try.prog w base spare held fuel 23 [v] = some x) :
    ∃ L : Sl Int, v = .slice L.A L.l.length L.c ∧ Rd (· < w.heap.size) 1 ienc w L := by
  rcases open_slice Try.underlying23 h with ⟨h0, _⟩ | ⟨a, len, cap, m, n, D, Pl, hcs, _, hl, hm, hmm, _, hi⟩
  · injection h0 with h0
    exact ⟨⟨none, 0, []⟩, h0, Rd.nil _ _ _ _⟩
  · injection hcs with hcs
    have hc1 : ∀ i, i < len → ∃ z, w.cell? (a.add (i * 1)) = some (.int .i64 z) := fun i hil => by
      have him : i < m := by rw [hmm]; split <;> omega
      obtain ⟨cs', hc, ht'⟩ := hi i him
      obtain ⟨z, rfl, _, _⟩ := DataW.trod_int Try.underlying3 ht'
      rw [Try.clInt] at hc
      obtain ⟨_, _, hat⟩ := World.cells?_some hc
      have := hat 0 (by omega)
      exact ⟨z, by simpa [add_add] using this⟩
    have hq : ∀ i, i < len → ∃ z : Int, ∃ b o, a = ⟨b, o, none⟩ ∧ b < w.heap.size ∧ Cells w b (o + i * 1) (ienc z) := fun i hil => by
      obtain ⟨z, hz⟩ := hc1 i hil
      obtain ⟨z0, hz0⟩ := hc1 0 (by omega)
      have hs := spot_none (a := a) (by simpa using hz0)
      obtain ⟨b, o, sp⟩ := a
      simp only at hs
      subst hs
      rw [Go.WideShapes.add_plain] at hz
      refine ⟨z, b, o, rfl, World.block_lt_of_cell? w _ hz, fun j u hu => ?_⟩
      match j, hu with
      | 0, hu => simp [ienc] at hu; subst hu; exact hz
    obtain ⟨l, hll, hlq⟩ := list_of hq
    refine ⟨⟨some a, cap, l⟩, by rw [hcs, hll], by simp only; omega, hm, fun h => (by cases h), fun i x hx => ?_⟩
    obtain ⟨b, o, ha, hb, hc⟩ := hlq i x hx
    exact ⟨b, o, by rw [ha], hb, hc⟩
theorem open_u16s {fuel : Nat} {v : Value} {x : DataW H × List MemPlace} (h : DataW.trod enc Try.prog w base spare held fuel 33 [v] = some x) :
    ∃ L : Sl Int, v = .slice L.A L.l.length L.c ∧ Rd (· < w.heap.size) 1 uenc w L ∧ ∀ z ∈ L.l, 0 ≤ z ∧ z < 65536 := by
  rcases open_slice Try.underlying33 h with ⟨h0, _⟩ | ⟨a, len, cap, m, n, D, Pl, hcs, _, hl, hm, hmm, _, hi⟩
  · injection h0 with h0
    exact ⟨⟨none, 0, []⟩, h0, Rd.nil _ _ _ _, by simp⟩
  · injection hcs with hcs
    have hc1 : ∀ i, i < len → ∃ z, w.cell? (a.add (i * 1)) = some (.int .u16 z) ∧ 0 ≤ z ∧ z < 65536 := fun i hil => by
      have him : i < m := by rw [hmm]; split <;> omega
      obtain ⟨cs', hc, ht'⟩ := hi i him
      obtain ⟨z, rfl, hwf, _⟩ := DataW.trod_int Try.underlying35 ht'
      rw [Try.clU16] at hc
      obtain ⟨_, _, hat⟩ := World.cells?_some hc
      have := hat 0 (by omega)
      exact ⟨z, by simpa [add_add] using this, u16_bounds (by first | exact hwf | assumption)⟩
    have hq : ∀ i, i < len → ∃ z : Int, (∃ b o, a = ⟨b, o, none⟩ ∧ b < w.heap.size ∧ Cells w b (o + i * 1) (uenc z)) ∧ 0 ≤ z ∧ z < 65536 := fun i hil => by
      obtain ⟨z, hz, hzb⟩ := hc1 i hil
      obtain ⟨z0, hz0, _⟩ := hc1 0 (by omega)
      have hs := spot_none (a := a) (by simpa using hz0)
      obtain ⟨b, o, sp⟩ := a
      simp only at hs
      subst hs
      rw [Go.WideShapes.add_plain] at hz
      refine ⟨z, ⟨b, o, rfl, World.block_lt_of_cell? w _ hz, fun j u hu => ?_⟩, hzb⟩
      match j, hu with
      | 0, hu => simp [uenc] at hu; subst hu; exact hz
    obtain ⟨l, hll, hlq⟩ := list_of hq
    refine ⟨⟨some a, cap, l⟩, by rw [hcs, hll], ⟨by simp only; omega, hm, fun h => (by cases h), fun i x hx => ?_⟩, fun x hx => ?_⟩
    · obtain ⟨⟨b, o, ha, hb, hc⟩, _⟩ := hlq i x hx
      exact ⟨b, o, by rw [ha], hb, hc⟩
    · obtain ⟨i, hi'⟩ := List.getElem?_of_mem hx
      exact (hlq i x hi').2
theorem open_bals {fuel : Nat} {v : Value} {x : DataW H × List MemPlace} (h : DataW.trod enc Try.prog w base spare held fuel 22 [v] = some x) :
    ∃ L : Sl Bal, v = .slice L.A L.l.length L.c ∧ Rd (· < w.heap.size) 2 Bal.enc w L := by
  rcases rowsF Try.underlying22 Try.underlying39 (by kernel_rfl) Try.clBal h with h0 | ⟨a, len, cap, h0, hl, hm, hi⟩
  · injection h0 with h0
    exact ⟨⟨none, 0, []⟩, h0, Rd.nil _ _ _ _⟩
  · injection h0 with h0
    have hq : ∀ i, i < len → ∃ z : Bal, ∃ b o, a = ⟨b, o, none⟩ ∧ b < w.heap.size ∧ Cells w b (o + i * 2) (Bal.enc z) := fun i hil => by
      obtain ⟨n, hn⟩ := hi i hil
      obtain ⟨v0, y0, c0, t0⟩ := hn 0 _ rfl
      obtain ⟨v1, y1, c1, t1⟩ := hn 1 _ rfl
      obtain ⟨z0, e0, _, _⟩ := DataW.trod_int Try.underlying3 t0
      obtain ⟨z1, e1, _, _⟩ := DataW.trod_int Try.underlying3 t1
      injection e0 with e0
      injection e1 with e1
      subst e0 e1
      obtain ⟨n', hn'⟩ := hi 0 (by omega)
      obtain ⟨u0, _, d0, _⟩ := hn' 0 _ rfl
      have hs := spot_none (a := a) (by simpa using d0)
      obtain ⟨b, o, sp⟩ := a
      simp only at hs
      subst hs
      rw [Go.WideShapes.add_plain] at c0 c1
      refine ⟨⟨z0, z1⟩, b, o, rfl, World.block_lt_of_cell? w _ c0, fun j u hu => ?_⟩
      match j, hu with
      | 0, hu => simp [Bal.enc] at hu; subst hu; exact c0
      | 1, hu => simp [Bal.enc] at hu; subst hu; rw [Nat.add_assoc]; exact c1
    obtain ⟨l, hll, hlq⟩ := list_of hq
    refine ⟨⟨some a, cap, l⟩, by rw [h0, hll], by simp only; omega, hm, fun h => (by cases h), fun i x hx => ?_⟩
    obtain ⟨b, o, ha, hb, hc⟩ := hlq i x hx
    exact ⟨b, o, by rw [ha], hb, hc⟩
end
theorem Try.own : ownKnob Try.prog.godebug = none := by kernel_rfl
theorem Try.laidOut : laidOutB Try.prog = true := by kernel_rfl
end Go.Proofs.Ytjbdjlgddjmkbaa
