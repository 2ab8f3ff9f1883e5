/- Arguments of the laws: a note by value. -/
import Derived.Test.YthnblhbdfpmolaaMLatmxbt
namespace Go.Proofs.Ythnblhbdfpmolaa
open Go.ChangeShapes Go.WideShapes Go.ChangeAt Go.RowKit Go.Deep
section
variable {H : Type} {enc : TypeId × Value → H} {w : World} {base : Nat} {spare : Nat → Bool} {held : Bool}
set_option maxRecDepth 100000 in
theorem open_note {r : Reach} {b0 : Nat} {v : Value} {d : DataW H} {p : List MemPlace} (hv : Value.okWide Try.prog w r b0 61 v) (h : DataW.Trod enc Try.prog w base spare held 61 v d p) :
    ∃ n : Note, v = n.v ∧ Rd (· < w.heap.size) 1 ienc w n.af := by
  obtain ⟨v0, v1, v2, v3, v4, y0, y1, y2, y3, y4, n, rfl, rfl, t0, t1, t2, t3, t4⟩ := okagg5 Try.underlying61 (by kernel_rfl) Try.cl61 hv h
  obtain ⟨z0, e0, _, _⟩ := DataW.trod_int Try.underlying3 t0
  obtain ⟨z1, e1, _⟩ := DataW.trod_int Try.underlying3 t1
  obtain ⟨L2, rfl, hL2⟩ := open_intl t2
  obtain ⟨z3, e3, _⟩ := DataW.trod_int Try.underlying3 t3
  obtain ⟨z4, e4, _⟩ := DataW.trod_string Try.underlying9 t4
  injection e0 with e0
  injection e1 with e1
  injection e3 with e3
  injection e4 with e4
  subst e0 e1 e3 e4
  exact ⟨⟨z0, z1, L2, z3, z4⟩, rfl, hL2⟩
end
end Go.Proofs.Ythnblhbdfpmolaa
