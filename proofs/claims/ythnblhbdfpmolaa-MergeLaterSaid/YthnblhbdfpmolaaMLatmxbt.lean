/- Arguments of the laws: a phone by value, and how long its lists may be. -/
import Derived.Test.YthnblhbdfpmolaaMLatmxbs
import Derived.SizedLaws
import Derived.Lib.SmallJoins
namespace Go.Proofs.Ythnblhbdfpmolaa
open Go.ChangeShapes Go.WideShapes Go.ChangeAt Go.RowKit Go.Deep
section
variable {H : Type} {enc : TypeId × Value → H} {P : Program} {w : World} {base : Nat} {spare : Nat → Bool} {held : Bool}
theorem okagg5 {r : Reach} {b0 : Nat} {t : TypeId} {f0 f1 f2 f3 f4 : Field} {v : Value} {d : DataW H} {p : List MemPlace} (hs : P.underlying t = some (.struct #[f0, f1, f2, f3, f4])) (hone : oneCellFields P #[f0, f1, f2, f3, f4] = true) (hC : P.cellsOf t = 5)
    (hv : Value.okWide P w r b0 t v) (h : DataW.Trod enc P w base spare held t v d p) :
    ∃ (v0 v1 v2 v3 v4 : Value) (y0 y1 y2 y3 y4 : DataW H × List MemPlace) (n : Nat), v = .agg #[v0, v1, v2, v3, v4] ∧ d = .agg [y0.1, y1.1, y2.1, y3.1, y4.1] ∧
      DataW.trod enc P w base spare held n f0.type [v0] = some y0 ∧ DataW.trod enc P w base spare held n f1.type [v1] = some y1 ∧ DataW.trod enc P w base spare held n f2.type [v2] = some y2 ∧ DataW.trod enc P w base spare held n f3.type [v3] = some y3 ∧ DataW.trod enc P w base spare held n f4.type [v4] = some y4 := by
  obtain ⟨cs, rfl, hsz⟩ := okWide_struct hs hv
  obtain ⟨l⟩ := cs
  match l, hsz.trans hC with
  | [c0, c1, c2, c3, c4], _ =>
    obtain ⟨fuel, hf⟩ := h
    obtain ⟨xs, n, _, hx, _, hlen, hg⟩ := DataW.trod_struct hs hf
    obtain ⟨o0, k0⟩ := hone_of hone 0 f0 rfl
    obtain ⟨o1, k1⟩ := hone_of hone 1 f1 rfl
    obtain ⟨o2, k2⟩ := hone_of hone 2 f2 rfl
    obtain ⟨o3, k3⟩ := hone_of hone 3 f3 rfl
    obtain ⟨o4, k4⟩ := hone_of hone 4 f4 rfl
    match xs, hlen with
    | [y0, y1, y2, y3, y4], _ =>
      simp only [Prod.mk.injEq] at hx
      exact ⟨c0, c1, c2, c3, c4, y0, y1, y2, y3, y4, n, rfl, by simpa using hx.1, by simpa [Value.cells, o0, k0] using hg 0 f0 rfl, by simpa [Value.cells, o1, k1] using hg 1 f1 rfl, by simpa [Value.cells, o2, k2] using hg 2 f2 rfl, by simpa [Value.cells, o3, k3] using hg 3 f3 rfl, by simpa [Value.cells, o4, k4] using hg 4 f4 rfl⟩

set_option maxRecDepth 100000 in
theorem sl_weight {t e : TypeId} {fuel : Nat} {A : Option Addr} {len c : Nat} {x : DataW H × List MemPlace} (ht : P.underlying t = some (.slice e)) (h : DataW.trod enc P w base spare held fuel t [.slice A len c] = some x)
    (hw : ∀ n ∈ x.1.weights P t, n ≤ reachBytes) : len * P.bytesOf e ≤ reachBytes := by
  rcases open_slice ht h with ⟨h0, _⟩ | ⟨a, l1, c1, m, n, D, Pl, hcs, _, hl, hm, hmm, hx, hi⟩
  · injection h0 with h0
    injection h0 with _ h1 _
    subst h1
    omega
  · injection hcs with hcs
    injection hcs with _ h1 _
    subst h1
    have := hw ((len + (m - len)) * P.bytesOf e) (by rw [hx]; simp [DataW.weights, ht])
    have h2 : len * P.bytesOf e ≤ (len + (m - len)) * P.bytesOf e := Nat.mul_le_mul_right _ (by omega)
    omega
end
section
variable {H : Type} {enc : TypeId × Value → H} {w : World} {base : Nat} {spare : Nat → Bool} {held : Bool}
theorem Try.bytes59 : Try.prog.bytesOf 59 = 24 := by kernel_rfl
set_option maxRecDepth 100000 in
theorem open_phone {r : Reach} {b0 : Nat} {v : Value} {d : DataW H} {p : List MemPlace} (hv : Value.okWide Try.prog w r b0 26 v) (h : DataW.Trod enc Try.prog w base spare held 26 v d p) :
    ∃ q : Phone, v = q.v ∧ RdPhone (· < w.heap.size) w q ∧ ((∀ n ∈ d.weights Try.prog 26, n ≤ reachBytes) → q.H.l.length * 24 ≤ reachBytes) := by
  obtain ⟨v0, v1, v2, v3, v4, y0, y1, y2, y3, y4, n, rfl, rfl, t0, t1, t2, t3, t4⟩ := okagg5 Try.underlying26 (by kernel_rfl) Try.cl26 hv h
  obtain ⟨z0, e0, _, _⟩ := DataW.trod_int Try.underlying3 t0
  obtain ⟨z1, e1, _⟩ := DataW.trod_bool Try.underlying4 t1
  obtain ⟨L2, rfl, hL2⟩ := open_holds t2
  obtain ⟨L3, rfl, hL3⟩ := open_notes t3
  obtain ⟨L4, rfl, hL4⟩ := open_intl t4
  injection e0 with e0
  injection e1 with e1
  subst e0 e1
  refine ⟨⟨z0, z1, L2, L3, L4⟩, rfl, ⟨hL2, hL3, hL4⟩, fun hw => ?_⟩
  have h1 := sl_weight Try.underlying22 t2 (fun n hn => hw n (by
    simp only [DataW.weights, Try.underlying26, DataW.weightsEach, List.map_cons, List.mem_append]
    exact .inr (.inr (.inl hn))))
  rw [Try.bytes59] at h1
  exact h1
end
end Go.Proofs.Ythnblhbdfpmolaa
