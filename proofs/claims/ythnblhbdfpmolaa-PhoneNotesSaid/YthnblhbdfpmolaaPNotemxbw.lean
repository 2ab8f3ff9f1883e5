/- Arguments of the laws: lists of stocks and of loans, as they lie in cells. -/
import Derived.Test.YthnblhbdfpmolaaPNotemxab
import Derived.ProofKit
import Derived.Deep.Slices
import Derived.Deep.Fields
import Derived.ChangeSame
import Derived.Carry
import Derived.Test.YthnblhbdfpmolaaPNotemxad
import Derived.SizedLaws
import Derived.Lib.SmallJoins
import Derived.Test.YthnblhbdfpmolaaPNotemxbr
import Derived.Test.YthnblhbdfpmolaaRows
namespace Go.Proofs.Ythnblhbdfpmolaa
open Go.ChangeShapes Go.WideShapes Go.ChangeAt Go.RowKit Go.Deep
section
variable {H : Type} {enc : TypeId × Value → H} {P : Program} {w : World} {base : Nat} {spare : Nat → Bool} {held : Bool}
/-- A slice of structs of three fields of one cell each. -/
theorem rows3 {t e : TypeId} {f0 f1 f2 : Field} {fuel : Nat} {cs : List Value} {x : DataW H × List MemPlace} (ht : P.underlying t = some (.slice e)) (he : P.underlying e = some (.struct #[f0, f1, f2]))
    (hone : oneCellFields P #[f0, f1, f2] = true) (hC : P.cellsOf e = 3) (h : DataW.trod enc P w base spare held fuel t cs = some x) :
    cs = [.slice none 0 0] ∨ ∃ (a : Addr) (len cap : Nat), cs = [.slice (some a) len cap] ∧ len ≤ cap ∧ cap ≤ maxLen ∧
      ∀ i, i < len → ∃ (v0 v1 v2 : Value) (y0 y1 y2 : DataW H × List MemPlace) (n : Nat), w.cell? (a.add (i * 3)) = some v0 ∧ w.cell? (a.add (i * 3 + 1)) = some v1 ∧ w.cell? (a.add (i * 3 + 2)) = some v2 ∧
        DataW.trod enc P w base spare held n f0.type [v0] = some y0 ∧ DataW.trod enc P w base spare held n f1.type [v1] = some y1 ∧ DataW.trod enc P w base spare held n f2.type [v2] = some y2 := by
  rcases open_slice ht h with ⟨h0, _⟩ | ⟨a, len, cap, m, n, D, Pl, hcs, _, hl, hm, hmm, _, hi⟩
  · exact .inl h0
  · refine .inr ⟨a, len, cap, hcs, hl, hm, fun i hil => ?_⟩
    have him : i < m := by rw [hmm]; split <;> omega
    obtain ⟨cs', hc, ht'⟩ := hi i him
    rw [hC] at hc
    obtain ⟨ys, n', _, _, _, hyl, hf⟩ := DataW.trod_struct he ht'
    obtain ⟨_, hcl, hat⟩ := World.cells?_some hc
    obtain ⟨o0, k0⟩ := hone_of hone 0 f0 rfl
    obtain ⟨o1, k1⟩ := hone_of hone 1 f1 rfl
    obtain ⟨o2, k2⟩ := hone_of hone 2 f2 rfl
    have hyl' : ys.length = 3 := hyl
    match cs', hcl, ys, hyl' with
    | [c0, c1, c2], _, [y0, y1, y2], _ =>
      have g0 := hf 0 f0 rfl
      have g1 := hf 1 f1 rfl
      have g2 := hf 2 f2 rfl
      rw [o0, k0] at g0
      rw [o1, k1] at g1
      rw [o2, k2] at g2
      refine ⟨c0, c1, c2, y0, y1, y2, n', ?_, ?_, ?_, by simpa using g0, by simpa using g1, by simpa using g2⟩
      · have := hat 0 (by omega); simpa [add_add] using this
      · have := hat 1 (by omega); simpa [add_add] using this
      · have := hat 2 (by omega); simpa [add_add] using this
end
theorem list_of {α : Type} {n : Nat} {Q : Nat → α → Prop} (h : ∀ i, i < n → ∃ x, Q i x) : ∃ l : List α, l.length = n ∧ ∀ i x, l[i]? = some x → Q i x := by
  induction n with
  | zero => exact ⟨[], rfl, fun i x hx => by simp at hx⟩
  | succ n ih =>
    obtain ⟨l, hl, hq⟩ := ih (fun i hi => h i (by omega))
    obtain ⟨y, hy⟩ := h n (by omega)
    refine ⟨l ++ [y], by simp [hl], fun i x hx => ?_⟩
    rcases Nat.lt_or_ge i l.length with hi | hi
    · rw [List.getElem?_append_left hi] at hx; exact hq i x hx
    · rw [List.getElem?_append_right hi] at hx
      have : i - l.length = 0 := by
        rcases Nat.eq_zero_or_pos (i - l.length) with h0 | h0
        · exact h0
        · rw [List.getElem?_eq_none (by simp; omega)] at hx; cases hx
      rw [this] at hx
      simp at hx
      subst hx
      have : i = n := by omega
      subst this
      exact hy
section
variable {H : Type} {enc : TypeId × Value → H} {w : World} {base : Nat} {spare : Nat → Bool} {held : Bool}
theorem Try.cl136 : Try.prog.cellsOf 136 = 3 := by kernel_rfl
theorem Try.cl66 : Try.prog.cellsOf 66 = 3 := by kernel_rfl
theorem Try.one136 : oneCellFields Try.prog (Try.prog.fieldsOf 136) = true := by kernel_rfl
theorem cells3_of {b o i : Nat} {v0 v1 v2 : Value} (h0 : w.cell? ⟨b, o + i * 3, none⟩ = some v0) (h1 : w.cell? ⟨b, o + (i * 3 + 1), none⟩ = some v1) (h2 : w.cell? ⟨b, o + (i * 3 + 2), none⟩ = some v2) : Cells w b (o + i * 3) [v0, v1, v2] := by
  intro j u hu
  match j, hu with
  | 0, hu => simp at hu; subst hu; exact h0
  | 1, hu => simp at hu; subst hu; rw [Nat.add_assoc]; exact h1
  | 2, hu => simp at hu; subst hu; rw [Nat.add_assoc]; exact h2
theorem spot_none {a : Addr} {v : Value} (h : w.cell? (a.add (0 * 3)) = some v) : a.spot = none := by
  obtain ⟨b, off, spot⟩ := a
  simpa [Addr.add] using World.cell?_spot h
theorem open_loans {fuel : Nat} {v : Value} {x : DataW H × List MemPlace} (h : DataW.trod enc Try.prog w base spare held fuel 64 [v] = some x) :
    ∃ L : Sl Loan, v = .slice L.A L.l.length L.c ∧ Rd (· < w.heap.size) 3 Loan.enc w L := by
  rcases rows3 Try.underlying64 Try.underlying136 (by kernel_rfl) Try.cl136 h with h0 | ⟨a, len, cap, h0, hl, hm, hi⟩
  · injection h0 with h0
    exact ⟨⟨none, 0, []⟩, h0, Rd.nil _ _ _ _⟩
  · injection h0 with h0
    have hq : ∀ i, i < len → ∃ z : Loan, ∃ b o, a = ⟨b, o, none⟩ ∧ b < w.heap.size ∧ Cells w b (o + i * 3) (Loan.enc z) := fun i hil => by
      obtain ⟨v0, v1, v2, y0, y1, y2, n, c0, c1, c2, t0, t1, t2⟩ := hi i hil
      obtain ⟨z0, e0, _, _⟩ := DataW.trod_int Try.underlying3 t0
      obtain ⟨z1, e1, _, _⟩ := DataW.trod_int Try.underlying3 t1
      obtain ⟨z2, e2, _, _⟩ := DataW.trod_int Try.underlying3 t2
      injection e0 with e0
      injection e1 with e1
      injection e2 with e2
      subst e0 e1 e2
      obtain ⟨u0, _, _, _, _, _, _, d0, _⟩ := hi 0 (by omega)
      have hs := spot_none d0
      obtain ⟨b, o, sp⟩ := a
      simp only at hs
      subst hs
      rw [Go.WideShapes.add_plain] at c0 c1 c2
      exact ⟨⟨z0, z1, z2⟩, b, o, rfl, World.block_lt_of_cell? w _ c0, cells3_of c0 c1 c2⟩
    obtain ⟨l, hll, hlq⟩ := list_of hq
    refine ⟨⟨some a, cap, l⟩, by rw [h0, hll], by simp only; omega, hm, fun h => (by cases h), fun i x hx => ?_⟩
    obtain ⟨b, o, ha, hb, hc⟩ := hlq i x hx
    exact ⟨b, o, by rw [ha], hb, hc⟩
theorem open_stocks {fuel : Nat} {v : Value} {x : DataW H × List MemPlace} (h : DataW.trod enc Try.prog w base spare held fuel 27 [v] = some x) :
    ∃ s : Sl Stock, v = .slice s.A s.l.length s.c ∧ RdStocks (· < w.heap.size) w s := by
  rcases rows3 Try.underlying27 Try.underlying66 (by kernel_rfl) Try.cl66 h with h0 | ⟨a, len, cap, h0, hl, hm, hi⟩
  · injection h0 with h0
    exact ⟨⟨none, 0, []⟩, h0, Rd.nil _ _ _ _, by simp⟩
  · injection h0 with h0
    have hq : ∀ i, i < len → ∃ z : Stock, (∃ b o, a = ⟨b, o, none⟩ ∧ b < w.heap.size ∧ Cells w b (o + i * 3) (Stock.enc z)) ∧ Rd (· < w.heap.size) 3 Loan.enc w z.L := fun i hil => by
      obtain ⟨v0, v1, v2, y0, y1, y2, n, c0, c1, c2, t0, t1, t2⟩ := hi i hil
      obtain ⟨z0, e0, _, _⟩ := DataW.trod_int Try.underlying3 t0
      obtain ⟨z1, e1, _, _⟩ := DataW.trod_int Try.underlying3 t1
      obtain ⟨L, rfl, hL⟩ := open_loans t2
      injection e0 with e0
      injection e1 with e1
      subst e0 e1
      obtain ⟨u0, _, _, _, _, _, _, d0, _⟩ := hi 0 (by omega)
      have hs := spot_none d0
      obtain ⟨b, o, sp⟩ := a
      simp only at hs
      subst hs
      rw [Go.WideShapes.add_plain] at c0 c1 c2
      exact ⟨⟨z0, z1, L⟩, ⟨b, o, rfl, World.block_lt_of_cell? w _ c0, cells3_of c0 c1 c2⟩, hL⟩
    obtain ⟨l, hll, hlq⟩ := list_of hq
    refine ⟨⟨some a, cap, l⟩, by rw [h0, hll], ⟨by simp only; omega, hm, fun h => (by cases h), fun i x hx => ?_⟩, fun x hx => ?_⟩
    · obtain ⟨⟨b, o, ha, hb, hc⟩, _⟩ := hlq i x hx
      exact ⟨b, o, by rw [ha], hb, hc⟩
    · obtain ⟨i, hi'⟩ := List.getElem?_of_mem hx
      exact (hlq i x hi').2
end
end Go.Proofs.Ythnblhbdfpmolaa
/- Arguments of the laws: notes and phones, as they lie in cells. -/
namespace Go.Proofs.Ythnblhbdfpmolaa
open Go.ChangeShapes Go.WideShapes Go.ChangeAt Go.RowKit Go.Deep
section
variable {H : Type} {enc : TypeId × Value → H} {P : Program} {w : World} {base : Nat} {spare : Nat → Bool} {held : Bool}
/-- A slice of structs of fields of one cell each. -/
theorem rowsF {t e : TypeId} {fs : Array Field} {fuel : Nat} {cs : List Value} {x : DataW H × List MemPlace} (ht : P.underlying t = some (.slice e)) (he : P.underlying e = some (.struct fs))
    (hone : oneCellFields P fs = true) (hC : P.cellsOf e = fs.size) (h : DataW.trod enc P w base spare held fuel t cs = some x) :
    cs = [.slice none 0 0] ∨ ∃ (a : Addr) (len cap : Nat), cs = [.slice (some a) len cap] ∧ len ≤ cap ∧ cap ≤ maxLen ∧
      ∀ i, i < len → ∃ n : Nat, ∀ (j : Nat) (f : Field), fs[j]? = some f → ∃ (v : Value) (y : DataW H × List MemPlace), w.cell? (a.add (i * fs.size + j)) = some v ∧ DataW.trod enc P w base spare held n f.type [v] = some y := by
  rcases open_slice ht h with ⟨h0, _⟩ | ⟨a, len, cap, m, n, D, Pl, hcs, _, hl, hm, hmm, _, hi⟩
  · exact .inl h0
  · refine .inr ⟨a, len, cap, hcs, hl, hm, fun i hil => ?_⟩
    have him : i < m := by rw [hmm]; split <;> omega
    obtain ⟨cs', hc, ht'⟩ := hi i him
    rw [hC] at hc
    obtain ⟨ys, n', _, _, _, hyl, hf⟩ := DataW.trod_struct he ht'
    obtain ⟨_, hcl, hat⟩ := World.cells?_some hc
    refine ⟨n', fun j f hj => ?_⟩
    obtain ⟨ho, hk⟩ := hone_of hone j f hj
    have hjl : j < fs.size := (Array.getElem?_eq_some_iff.1 hj).1
    have hjc : j < cs'.length := by omega
    have h1 := hf j f hj
    rw [ho, hk, List.drop_eq_getElem_cons hjc] at h1
    have hys : ys[j]? = some (ys[j]'(by omega)) := List.getElem?_eq_getElem (by omega)
    refine ⟨cs'[j], ys[j]'(by omega), ?_, ?_⟩
    · have h2 := hat j hjl
      rw [List.getElem?_eq_getElem hjc] at h2
      rw [← h2, add_add]
    · rw [← hys, ← h1]; rfl
end
section
variable {H : Type} {enc : TypeId × Value → H} {w : World} {base : Nat} {spare : Nat → Bool} {held : Bool}
theorem Try.cl61 : Try.prog.cellsOf 61 = 5 := by kernel_rfl
theorem Try.cl59 : Try.prog.cellsOf 59 = 3 := by kernel_rfl
theorem Try.cl3 : Try.prog.cellsOf 3 = 1 := by kernel_rfl
theorem Try.cl26 : Try.prog.cellsOf 26 = 5 := by kernel_rfl
theorem open_intl {fuel : Nat} {v : Value} {x : DataW H × List MemPlace} (h : DataW.trod enc Try.prog w base spare held fuel 24 [v] = some x) :
    ∃ L : Sl Int, v = .slice L.A L.l.length L.c ∧ Rd (· < w.heap.size) 1 ienc w L := by
  rcases open_slice Try.underlying24 h with ⟨h0, _⟩ | ⟨a, len, cap, m, n, D, Pl, hcs, _, hl, hm, hmm, _, hi⟩
  · injection h0 with h0
    exact ⟨⟨none, 0, []⟩, h0, Rd.nil _ _ _ _⟩
  · injection hcs with hcs
    have hc1 : ∀ i, i < len → ∃ z, w.cell? (a.add (i * 1)) = some (.int .i64 z) := fun i hil => by
      have him : i < m := by rw [hmm]; split <;> omega
      obtain ⟨cs', hc, ht'⟩ := hi i him
      obtain ⟨z, rfl, _, _⟩ := DataW.trod_int Try.underlying3 ht'
      rw [Try.cl3] at hc
      obtain ⟨_, _, hat⟩ := World.cells?_some hc
      have := hat 0 (by omega)
      exact ⟨z, by simpa [add_add] using this⟩
    have hq : ∀ i, i < len → ∃ z : Int, ∃ b o, a = ⟨b, o, none⟩ ∧ b < w.heap.size ∧ Cells w b (o + i * 1) (ienc z) := fun i hil => by
      obtain ⟨z, hz⟩ := hc1 i hil
      obtain ⟨z0, hz0⟩ := hc1 0 (by omega)
      have hs := spot_none (a := a) (by simpa using hz0)
      obtain ⟨b, o, sp⟩ := a
      simp only at hs
      subst hs
      rw [Go.WideShapes.add_plain] at hz
      refine ⟨z, b, o, rfl, World.block_lt_of_cell? w _ hz, fun j u hu => ?_⟩
      match j, hu with
      | 0, hu => simp [ienc] at hu; subst hu; exact hz
    obtain ⟨l, hll, hlq⟩ := list_of hq
    refine ⟨⟨some a, cap, l⟩, by rw [hcs, hll], by simp only; omega, hm, fun h => (by cases h), fun i x hx => ?_⟩
    obtain ⟨b, o, ha, hb, hc⟩ := hlq i x hx
    exact ⟨b, o, by rw [ha], hb, hc⟩
theorem open_holds {fuel : Nat} {v : Value} {x : DataW H × List MemPlace} (h : DataW.trod enc Try.prog w base spare held fuel 22 [v] = some x) :
    ∃ L : Sl Hold, v = .slice L.A L.l.length L.c ∧ Rd (· < w.heap.size) 3 Hold.enc w L := by
  rcases rows3 Try.underlying22 Try.underlying59 (by kernel_rfl) Try.cl59 h with h0 | ⟨a, len, cap, h0, hl, hm, hi⟩
  · injection h0 with h0
    exact ⟨⟨none, 0, []⟩, h0, Rd.nil _ _ _ _⟩
  · injection h0 with h0
    have hq : ∀ i, i < len → ∃ z : Hold, ∃ b o, a = ⟨b, o, none⟩ ∧ b < w.heap.size ∧ Cells w b (o + i * 3) (Hold.enc z) := fun i hil => by
      obtain ⟨v0, v1, v2, y0, y1, y2, n, c0, c1, c2, t0, t1, t2⟩ := hi i hil
      obtain ⟨z0, e0, _, _⟩ := DataW.trod_int Try.underlying3 t0
      obtain ⟨z1, e1, _, _⟩ := DataW.trod_int Try.underlying3 t1
      obtain ⟨z2, e2, _, _⟩ := DataW.trod_int Try.underlying3 t2
      injection e0 with e0
      injection e1 with e1
      injection e2 with e2
      subst e0 e1 e2
      obtain ⟨u0, _, _, _, _, _, _, d0, _⟩ := hi 0 (by omega)
      have hs := spot_none d0
      obtain ⟨b, o, sp⟩ := a
      simp only at hs
      subst hs
      rw [Go.WideShapes.add_plain] at c0 c1 c2
      exact ⟨⟨z0, z1, z2⟩, b, o, rfl, World.block_lt_of_cell? w _ c0, cells3_of c0 c1 c2⟩
    obtain ⟨l, hll, hlq⟩ := list_of hq
    refine ⟨⟨some a, cap, l⟩, by rw [h0, hll], by simp only; omega, hm, fun h => (by cases h), fun i x hx => ?_⟩
    obtain ⟨b, o, ha, hb, hc⟩ := hlq i x hx
    exact ⟨b, o, by rw [ha], hb, hc⟩
theorem cells5_of {b o i : Nat} {v0 v1 v2 v3 v4 : Value} (h0 : w.cell? ⟨b, o + (i * 5 + 0), none⟩ = some v0) (h1 : w.cell? ⟨b, o + (i * 5 + 1), none⟩ = some v1) (h2 : w.cell? ⟨b, o + (i * 5 + 2), none⟩ = some v2) (h3 : w.cell? ⟨b, o + (i * 5 + 3), none⟩ = some v3) (h4 : w.cell? ⟨b, o + (i * 5 + 4), none⟩ = some v4) : Cells w b (o + i * 5) [v0, v1, v2, v3, v4] := by
  intro j u hu
  match j, hu with
  | 0, hu => simp at hu; subst hu; rw [Nat.add_assoc]; exact h0
  | 1, hu => simp at hu; subst hu; rw [Nat.add_assoc]; exact h1
  | 2, hu => simp at hu; subst hu; rw [Nat.add_assoc]; exact h2
  | 3, hu => simp at hu; subst hu; rw [Nat.add_assoc]; exact h3
  | 4, hu => simp at hu; subst hu; rw [Nat.add_assoc]; exact h4
theorem open_notes {fuel : Nat} {v : Value} {x : DataW H × List MemPlace} (h : DataW.trod enc Try.prog w base spare held fuel 23 [v] = some x) :
    ∃ s : Sl Note, v = .slice s.A s.l.length s.c ∧ RdNotes (· < w.heap.size) w s := by
  rcases rowsF Try.underlying23 Try.underlying61 (by kernel_rfl) Try.cl61 h with h0 | ⟨a, len, cap, h0, hl, hm, hi⟩
  · injection h0 with h0
    exact ⟨⟨none, 0, []⟩, h0, Rd.nil _ _ _ _, by simp⟩
  · injection h0 with h0
    have hq : ∀ i, i < len → ∃ z : Note, (∃ b o, a = ⟨b, o, none⟩ ∧ b < w.heap.size ∧ Cells w b (o + i * 5) (Note.enc z)) ∧ Rd (· < w.heap.size) 1 ienc w z.af := fun i hil => by
      obtain ⟨n, hn⟩ := hi i hil
      obtain ⟨v0, y0, c0, t0⟩ := hn 0 _ rfl
      obtain ⟨v1, y1, c1, t1⟩ := hn 1 _ rfl
      obtain ⟨v2, y2, c2, t2⟩ := hn 2 _ rfl
      obtain ⟨v3, y3, c3, t3⟩ := hn 3 _ rfl
      obtain ⟨v4, y4, c4, t4⟩ := hn 4 _ rfl
      obtain ⟨z0, e0, _, _⟩ := DataW.trod_int Try.underlying3 t0
      obtain ⟨z1, e1, _, _⟩ := DataW.trod_int Try.underlying3 t1
      obtain ⟨L, rfl, hL⟩ := open_intl t2
      obtain ⟨z3, e3, _, _⟩ := DataW.trod_int Try.underlying3 t3
      obtain ⟨z4, e4, _, _⟩ := DataW.trod_string Try.underlying9 t4
      injection e0 with e0
      injection e1 with e1
      injection e3 with e3
      injection e4 with e4
      subst e0 e1 e3 e4
      obtain ⟨n', hn'⟩ := hi 0 (by omega)
      obtain ⟨u0, _, d0, _⟩ := hn' 0 _ rfl
      have hs := spot_none (a := a) (by simpa using d0)
      obtain ⟨b, o, sp⟩ := a
      simp only at hs
      subst hs
      rw [Go.WideShapes.add_plain] at c0 c1 c2 c3 c4
      exact ⟨⟨z0, z1, L, z3, z4⟩, ⟨b, o, rfl, World.block_lt_of_cell? w _ c0, cells5_of c0 c1 c2 c3 c4⟩, hL⟩
    obtain ⟨l, hll, hlq⟩ := list_of hq
    refine ⟨⟨some a, cap, l⟩, by rw [h0, hll], ⟨by simp only; omega, hm, fun h => (by cases h), fun i x hx => ?_⟩, fun x hx => ?_⟩
    · obtain ⟨⟨b, o, ha, hb, hc⟩, _⟩ := hlq i x hx
      exact ⟨b, o, by rw [ha], hb, hc⟩
    · obtain ⟨i, hi'⟩ := List.getElem?_of_mem hx
      exact (hlq i x hi').2
end
end Go.Proofs.Ythnblhbdfpmolaa
/- Arguments of the laws: a phone by value, and how long its lists may be. -/
namespace Go.Proofs.Ythnblhbdfpmolaa
open Go.ChangeShapes Go.WideShapes Go.ChangeAt Go.RowKit Go.Deep
section
variable {H : Type} {enc : TypeId × Value → H} {P : Program} {w : World} {base : Nat} {spare : Nat → Bool} {held : Bool}
theorem okagg5 {r : Reach} {b0 : Nat} {t : TypeId} {f0 f1 f2 f3 f4 : Field} {v : Value} {d : DataW H} {p : List MemPlace} (hs : P.underlying t = some (.struct #[f0, f1, f2, f3, f4])) (hone : oneCellFields P #[f0, f1, f2, f3, f4] = true) (hC : P.cellsOf t = 5)
    (hv : Value.okWide P w r b0 t v) (h : DataW.Trod enc P w base spare held t v d p) :
    ∃ (v0 v1 v2 v3 v4 : Value) (y0 y1 y2 y3 y4 : DataW H × List MemPlace) (n : Nat), v = .agg #[v0, v1, v2, v3, v4] ∧ d = .agg [y0.1, y1.1, y2.1, y3.1, y4.1] ∧
      DataW.trod enc P w base spare held n f0.type [v0] = some y0 ∧ DataW.trod enc P w base spare held n f1.type [v1] = some y1 ∧ DataW.trod enc P w base spare held n f2.type [v2] = some y2 ∧ DataW.trod enc P w base spare held n f3.type [v3] = some y3 ∧ DataW.trod enc P w base spare held n f4.type [v4] = some y4 := by
  obtain ⟨cs, rfl, hsz⟩ := okWide_struct hs hv
  obtain ⟨l⟩ := cs
  match l, hsz.trans hC with
  | [c0, c1, c2, c3, c4], _ =>
    obtain ⟨fuel, hf⟩ := h
    obtain ⟨xs, n, _, hx, _, hlen, hg⟩ := DataW.trod_struct hs hf
    obtain ⟨o0, k0⟩ := hone_of hone 0 f0 rfl
    obtain ⟨o1, k1⟩ := hone_of hone 1 f1 rfl
    obtain ⟨o2, k2⟩ := hone_of hone 2 f2 rfl
    obtain ⟨o3, k3⟩ := hone_of hone 3 f3 rfl
    obtain ⟨o4, k4⟩ := hone_of hone 4 f4 rfl
    match xs, hlen with
    | [y0, y1, y2, y3, y4], _ =>
      simp only [Prod.mk.injEq] at hx
      exact ⟨c0, c1, c2, c3, c4, y0, y1, y2, y3, y4, n, rfl, by simpa using hx.1, by simpa [Value.cells, o0, k0] using hg 0 f0 rfl, by simpa [Value.cells, o1, k1] using hg 1 f1 rfl, by simpa [Value.cells, o2, k2] using hg 2 f2 rfl, by simpa [Value.cells, o3, k3] using hg 3 f3 rfl, by simpa [Value.cells, o4, k4] using hg 4 f4 rfl⟩

set_option maxRecDepth 100000 in
theorem sl_weight {t e : TypeId} {fuel : Nat} {A : Option Addr} {len c : Nat} {x : DataW H × List MemPlace} (ht : P.underlying t = some (.slice e)) (h : DataW.trod enc P w base spare held fuel t [.slice A len c] = some x)
    (hw : ∀ n ∈ x.1.weights P t, n ≤ reachBytes) : len * P.bytesOf e ≤ reachBytes := by
  rcases open_slice ht h with ⟨h0, _⟩ | ⟨a, l1, c1, m, n, D, Pl, hcs, _, hl, hm, hmm, hx, hi⟩
  · injection h0 with h0
    injection h0 with _ h1 _
    subst h1
    omega
  · injection hcs with hcs
    injection hcs with _ h1 _
    subst h1
    have := hw ((len + (m - len)) * P.bytesOf e) (by rw [hx]; simp [DataW.weights, ht])
    have h2 : len * P.bytesOf e ≤ (len + (m - len)) * P.bytesOf e := Nat.mul_le_mul_right _ (by omega)
    omega
end
section
variable {H : Type} {enc : TypeId × Value → H} {w : World} {base : Nat} {spare : Nat → Bool} {held : Bool}
theorem Try.bytes59 : Try.prog.bytesOf 59 = 24 := by kernel_rfl
set_option maxRecDepth 100000 in
theorem open_phone {r : Reach} {b0 : Nat} {v : Value} {d : DataW H} {p : List MemPlace} (hv : Value.okWide Try.prog w r b0 26 v) (h : DataW.Trod enc Try.prog w base spare held 26 v d p) :
    ∃ q : Phone, v = q.v ∧ RdPhone (· < w.heap.size) w q ∧ ((∀ n ∈ d.weights Try.prog 26, n ≤ reachBytes) → q.H.l.length * 24 ≤ reachBytes) := by
  obtain ⟨v0, v1, v2, v3, v4, y0, y1, y2, y3, y4, n, rfl, rfl, t0, t1, t2, t3, t4⟩ := okagg5 Try.underlying26 (by kernel_rfl) Try.cl26 hv h
  obtain ⟨z0, e0, _, _⟩ := DataW.trod_int Try.underlying3 t0
  obtain ⟨z1, e1, _⟩ := DataW.trod_bool Try.underlying4 t1
  obtain ⟨L2, rfl, hL2⟩ := open_holds t2
  obtain ⟨L3, rfl, hL3⟩ := open_notes t3
  obtain ⟨L4, rfl, hL4⟩ := open_intl t4
  injection e0 with e0
  injection e1 with e1
  subst e0 e1
  refine ⟨⟨z0, z1, L2, L3, L4⟩, rfl, ⟨hL2, hL3, hL4⟩, fun hw => ?_⟩
  have h1 := sl_weight Try.underlying22 t2 (fun n hn => hw n (by
    simp only [DataW.weights, Try.underlying26, DataW.weightsEach, List.map_cons, List.mem_append]
    exact .inr (.inr (.inl hn))))
  rw [Try.bytes59] at h1
  exact h1
end
end Go.Proofs.Ythnblhbdfpmolaa
/- Arguments of the laws: the doings of a play, as they lie in cells. -/
namespace Go.Proofs.Ythnblhbdfpmolaa
open Go.ChangeShapes Go.WideShapes Go.ChangeAt Go.RowKit Go.Deep
section
variable {H : Type} {enc : TypeId × Value → H} {w : World} {base : Nat} {spare : Nat → Bool} {held : Bool}
theorem Try.cl89 : Try.prog.cellsOf 89 = 5 := by kernel_rfl
theorem open_ops {fuel : Nat} {v : Value} {x : DataW H × List MemPlace} (h : DataW.trod enc Try.prog w base spare held fuel 83 [v] = some x) :
    ∃ s : Sl OpE, v = .slice s.A s.l.length s.c ∧ Rd (· < w.heap.size) 5 OpE.enc w s := by
  rcases rowsF Try.underlying83 Try.underlying89 (by kernel_rfl) Try.cl89 h with h0 | ⟨a, len, cap, h0, hl, hm, hi⟩
  · injection h0 with h0
    exact ⟨⟨none, 0, []⟩, h0, Rd.nil _ _ _ _⟩
  · injection h0 with h0
    have hq : ∀ i, i < len → ∃ z : OpE, ∃ b o, a = ⟨b, o, none⟩ ∧ b < w.heap.size ∧ Cells w b (o + i * 5) (OpE.enc z) := fun i hil => by
      obtain ⟨n, hn⟩ := hi i hil
      obtain ⟨v0, y0, c0, t0⟩ := hn 0 _ rfl
      obtain ⟨v1, y1, c1, t1⟩ := hn 1 _ rfl
      obtain ⟨v2, y2, c2, t2⟩ := hn 2 _ rfl
      obtain ⟨v3, y3, c3, t3⟩ := hn 3 _ rfl
      obtain ⟨v4, y4, c4, t4⟩ := hn 4 _ rfl
      obtain ⟨z0, e0, _, _⟩ := DataW.trod_int Try.underlying3 t0
      obtain ⟨z1, e1, _, _⟩ := DataW.trod_int Try.underlying3 t1
      obtain ⟨z2, e2, _, _⟩ := DataW.trod_int Try.underlying3 t2
      obtain ⟨z3, e3, _, _⟩ := DataW.trod_int Try.underlying3 t3
      obtain ⟨z4, e4, _, _⟩ := DataW.trod_int Try.underlying3 t4
      injection e0 with e0
      injection e1 with e1
      injection e2 with e2
      injection e3 with e3
      injection e4 with e4
      subst e0 e1 e2 e3 e4
      obtain ⟨n', hn'⟩ := hi 0 (by omega)
      obtain ⟨u0, _, d0, _⟩ := hn' 0 _ rfl
      have hs := spot_none (a := a) (by simpa using d0)
      obtain ⟨b, o, sp⟩ := a
      simp only at hs
      subst hs
      rw [Go.WideShapes.add_plain] at c0 c1 c2 c3 c4
      exact ⟨⟨z0, z1, z2, z3, z4⟩, b, o, rfl, World.block_lt_of_cell? w _ c0, cells5_of c0 c1 c2 c3 c4⟩
    obtain ⟨l, hll, hlq⟩ := list_of hq
    refine ⟨⟨some a, cap, l⟩, by rw [h0, hll], by simp only; omega, hm, fun h => (by cases h), fun i x hx => ?_⟩
    obtain ⟨b, o, ha, hb, hc⟩ := hlq i x hx
    exact ⟨b, o, by rw [ha], hb, hc⟩
end
end Go.Proofs.Ythnblhbdfpmolaa
/- What each law's last text asks of the program. -/
namespace Go.Proofs.Ythnblhbdfpmolaa
open Go.RowKit
theorem Try.ownK : ownKnob Try.prog.godebug = none := by kernel_rfl
theorem Try.laidK : laidOutB Try.prog = true := by kernel_rfl
theorem u8_inb {x : Int} (h : (Lit.int .u8 x).wf = true) : 0 ≤ x ∧ x < 256 := by
  have h1 : IntKind.u8.min = 0 := rfl
  have h2 : IntKind.u8.max = 255 := rfl
  simp only [Lit.wf, Bool.and_eq_true, decide_eq_true_eq] at h
  omega
theorem u16_inb {x : Int} (h : (Lit.int .u16 x).wf = true) : 0 ≤ x ∧ x < 65536 := by
  have h1 : IntKind.u16.min = 0 := rfl
  have h2 : IntKind.u16.max = 65535 := rfl
  simp only [Lit.wf, Bool.and_eq_true, decide_eq_true_eq] at h
  omega
end Go.Proofs.Ythnblhbdfpmolaa
