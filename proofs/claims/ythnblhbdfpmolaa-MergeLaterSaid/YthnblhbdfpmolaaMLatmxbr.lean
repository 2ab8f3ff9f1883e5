/- Arguments of the laws: lists of stocks and of loans, as they lie in cells. -/
import Derived.Test.YthnblhbdfpmolaaMLatmxac
import Derived.ProofKit
import Derived.Deep.Slices
import Derived.Deep.Fields
import Derived.ChangeSame
import Derived.Carry
namespace Go.Proofs.Ythnblhbdfpmolaa
open Go.ChangeShapes Go.WideShapes Go.ChangeAt Go.RowKit Go.Deep
section
variable {H : Type} {enc : TypeId × Value → H} {P : Program} {w : World} {base : Nat} {spare : Nat → Bool} {held : Bool}
/-- A slice of structs of three fields of one cell each. -/
theorem rows3 {t e : TypeId} {f0 f1 f2 : Field} {fuel : Nat} {cs : List Value} {x : DataW H × List MemPlace} (ht : P.underlying t = some (.slice e)) (he : P.underlying e = some (.struct #[f0, f1, f2]))
    (hone : oneCellFields P #[f0, f1, f2] = true) (hC : P.cellsOf e = 3) (h : DataW.trod enc P w base spare held fuel t cs = some x) :
    cs = [.slice none 0 0] ∨ ∃ (a : Addr) (len cap : Nat), cs = [.slice (some a) len cap] ∧ len ≤ cap ∧ cap ≤ maxLen ∧
      ∀ i, i < len → ∃ (v0 v1 v2 : Value) (y0 y1 y2 : DataW H × List MemPlace) (n : Nat), w.cell? (a.add (i * 3)) = some v0 ∧ w.cell? (a.add (i * 3 + 1)) = some v1 ∧ w.cell? (a.add (i * 3 + 2)) = some v2 ∧
        DataW.trod enc P w base spare held n f0.type [v0] = some y0 ∧ DataW.trod enc P w base spare held n f1.type [v1] = some y1 ∧ DataW.trod enc P w base spare held n f2.type [v2] = some y2 := by
  rcases open_slice ht h with ⟨h0, _⟩ | ⟨a, len, cap, m, n, D, Pl, hcs, _, hl, hm, hmm, _, hi⟩
  · exact .inl h0
  · refine .inr ⟨a, len, cap, hcs, hl, hm, fun i hil => ?_⟩
    have him : i < m := by rw [hmm]; split <;> omega
    obtain ⟨cs', hc, ht'⟩ := hi i him
    rw [hC] at hc
    obtain ⟨ys, n', _, _, _, hyl, hf⟩ := DataW.trod_struct he ht'
    obtain ⟨_, hcl, hat⟩ := World.cells?_some hc
    obtain ⟨o0, k0⟩ := hone_of hone 0 f0 rfl
    obtain ⟨o1, k1⟩ := hone_of hone 1 f1 rfl
    obtain ⟨o2, k2⟩ := hone_of hone 2 f2 rfl
    have hyl' : ys.length = 3 := hyl
    match cs', hcl, ys, hyl' with
    | [c0, c1, c2], _, [y0, y1, y2], _ =>
      have g0 := hf 0 f0 rfl
      have g1 := hf 1 f1 rfl
      have g2 := hf 2 f2 rfl
      rw [o0, k0] at g0
      rw [o1, k1] at g1
      rw [o2, k2] at g2
      refine ⟨c0, c1, c2, y0, y1, y2, n', ?_, ?_, ?_, by simpa using g0, by simpa using g1, by simpa using g2⟩
      · have := hat 0 (by omega); simpa [add_add] using this
      · have := hat 1 (by omega); simpa [add_add] using this
      · have := hat 2 (by omega); simpa [add_add] using this
end
theorem list_of {α : Type} {n : Nat} {Q : Nat → α → Prop} (h : ∀ i, i < n → ∃ x, Q i x) : ∃ l : List α, l.length = n ∧ ∀ i x, l[i]? = some x → Q i x := by
  induction n with
  | zero => exact ⟨[], rfl, fun i x hx => by simp at hx⟩
  | succ n ih =>
    obtain ⟨l, hl, hq⟩ := ih (fun i hi => h i (by omega))
    obtain ⟨y, hy⟩ := h n (by omega)
    refine ⟨l ++ [y], by simp [hl], fun i x hx => ?_⟩
    rcases Nat.lt_or_ge i l.length with hi | hi
    · rw [List.getElem?_append_left hi] at hx; exact hq i x hx
    · rw [List.getElem?_append_right hi] at hx
      have : i - l.length = 0 := by
        rcases Nat.eq_zero_or_pos (i - l.length) with h0 | h0
        · exact h0
        · rw [List.getElem?_eq_none (by simp; omega)] at hx; cases hx
      rw [this] at hx
      simp at hx
      subst hx
      have : i = n := by omega
      subst this
      exact hy
section
variable {H : Type} {enc : TypeId × Value → H} {w : World} {base : Nat} {spare : Nat → Bool} {held : Bool}
theorem Try.cl136 : Try.prog.cellsOf 136 = 3 := by kernel_rfl
theorem Try.cl66 : Try.prog.cellsOf 66 = 3 := by kernel_rfl
theorem Try.one136 : oneCellFields Try.prog (Try.prog.fieldsOf 136) = true := by kernel_rfl
theorem cells3_of {b o i : Nat} {v0 v1 v2 : Value} (h0 : w.cell? ⟨b, o + i * 3, none⟩ = some v0) (h1 : w.cell? ⟨b, o + (i * 3 + 1), none⟩ = some v1) (h2 : w.cell? ⟨b, o + (i * 3 + 2), none⟩ = some v2) : Cells w b (o + i * 3) [v0, v1, v2] := by
  intro j u hu
  match j, hu with
  | 0, hu => simp at hu; subst hu; exact h0
  | 1, hu => simp at hu; subst hu; rw [Nat.add_assoc]; exact h1
  | 2, hu => simp at hu; subst hu; rw [Nat.add_assoc]; exact h2
theorem spot_none {a : Addr} {v : Value} (h : w.cell? (a.add (0 * 3)) = some v) : a.spot = none := by
  obtain ⟨b, off, spot⟩ := a
  simpa [Addr.add] using World.cell?_spot h
theorem open_loans {fuel : Nat} {v : Value} {x : DataW H × List MemPlace} (h : DataW.trod enc Try.prog w base spare held fuel 64 [v] = some x) :
    ∃ L : Sl Loan, v = .slice L.A L.l.length L.c ∧ Rd (· < w.heap.size) 3 Loan.enc w L := by
  rcases rows3 Try.underlying64 Try.underlying136 (by kernel_rfl) Try.cl136 h with h0 | ⟨a, len, cap, h0, hl, hm, hi⟩
  · injection h0 with h0
    exact ⟨⟨none, 0, []⟩, h0, Rd.nil _ _ _ _⟩
  · injection h0 with h0
    have hq : ∀ i, i < len → ∃ z : Loan, ∃ b o, a = ⟨b, o, none⟩ ∧ b < w.heap.size ∧ Cells w b (o + i * 3) (Loan.enc z) := fun i hil => by
      obtain ⟨v0, v1, v2, y0, y1, y2, n, c0, c1, c2, t0, t1, t2⟩ := hi i hil
      obtain ⟨z0, e0, _, _⟩ := DataW.trod_int Try.underlying3 t0
      obtain ⟨z1, e1, _, _⟩ := DataW.trod_int Try.underlying3 t1
      obtain ⟨z2, e2, _, _⟩ := DataW.trod_int Try.underlying3 t2
      injection e0 with e0
      injection e1 with e1
      injection e2 with e2
      subst e0 e1 e2
      obtain ⟨u0, _, _, _, _, _, _, d0, _⟩ := hi 0 (by omega)
      have hs := spot_none d0
      obtain ⟨b, o, sp⟩ := a
      simp only at hs
      subst hs
      rw [Go.WideShapes.add_plain] at c0 c1 c2
      exact ⟨⟨z0, z1, z2⟩, b, o, rfl, World.block_lt_of_cell? w _ c0, cells3_of c0 c1 c2⟩
    obtain ⟨l, hll, hlq⟩ := list_of hq
    refine ⟨⟨some a, cap, l⟩, by rw [h0, hll], by simp only; omega, hm, fun h => (by cases h), fun i x hx => ?_⟩
    obtain ⟨b, o, ha, hb, hc⟩ := hlq i x hx
    exact ⟨b, o, by rw [ha], hb, hc⟩
theorem open_stocks {fuel : Nat} {v : Value} {x : DataW H × List MemPlace} (h : DataW.trod enc Try.prog w base spare held fuel 27 [v] = some x) :
    ∃ s : Sl Stock, v = .slice s.A s.l.length s.c ∧ RdStocks (· < w.heap.size) w s := by
  rcases rows3 Try.underlying27 Try.underlying66 (by kernel_rfl) Try.cl66 h with h0 | ⟨a, len, cap, h0, hl, hm, hi⟩
  · injection h0 with h0
    exact ⟨⟨none, 0, []⟩, h0, Rd.nil _ _ _ _, by simp⟩
  · injection h0 with h0
    have hq : ∀ i, i < len → ∃ z : Stock, (∃ b o, a = ⟨b, o, none⟩ ∧ b < w.heap.size ∧ Cells w b (o + i * 3) (Stock.enc z)) ∧ Rd (· < w.heap.size) 3 Loan.enc w z.L := fun i hil => by
      obtain ⟨v0, v1, v2, y0, y1, y2, n, c0, c1, c2, t0, t1, t2⟩ := hi i hil
      obtain ⟨z0, e0, _, _⟩ := DataW.trod_int Try.underlying3 t0
      obtain ⟨z1, e1, _, _⟩ := DataW.trod_int Try.underlying3 t1
      obtain ⟨L, rfl, hL⟩ := open_loans t2
      injection e0 with e0
      injection e1 with e1
      subst e0 e1
      obtain ⟨u0, _, _, _, _, _, _, d0, _⟩ := hi 0 (by omega)
      have hs := spot_none d0
      obtain ⟨b, o, sp⟩ := a
      simp only at hs
      subst hs
      rw [Go.WideShapes.add_plain] at c0 c1 c2
      exact ⟨⟨z0, z1, L⟩, ⟨b, o, rfl, World.block_lt_of_cell? w _ c0, cells3_of c0 c1 c2⟩, hL⟩
    obtain ⟨l, hll, hlq⟩ := list_of hq
    refine ⟨⟨some a, cap, l⟩, by rw [h0, hll], ⟨by simp only; omega, hm, fun h => (by cases h), fun i x hx => ?_⟩, fun x hx => ?_⟩
    · obtain ⟨⟨b, o, ha, hb, hc⟩, _⟩ := hlq i x hx
      exact ⟨b, o, by rw [ha], hb, hc⟩
    · obtain ⟨i, hi'⟩ := List.getElem?_of_mem hx
      exact (hlq i x hi').2
end
end Go.Proofs.Ythnblhbdfpmolaa
