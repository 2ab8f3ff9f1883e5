/- A region that draws its order, whose operations read, and whose calls read and may lay blocks of their own: one walk, in the order of the text. -/
import Derived.Test.YtjbdjlgddjmkbaaPre
namespace Go.Proofs.Ytjbdjlgddjmkbaa
open Go.RowKit
/-- w after some draws, with some blocks behind it. -/
def far (w : World) (d : Nat) (os : Array Obj) : World := { w with heap := w.heap ++ os, drawn := d }
structure FarBy where
  d : Nat
  os : Array Obj
theorem far_below (w : World) (d : Nat) (os : Array Obj) : Below w.heap.size w (far w d os) :=
  ⟨rfl, rfl, rfl, by simp [far], fun k hk => by simp [far, Array.getElem?_append, hk]⟩
theorem heap_pre {a b : Array Obj} (h4 : a.size ≤ b.size) (h5 : ∀ k, k < a.size → b[k]? = a[k]?) : b = a ++ b.extract a.size b.size := by
  apply Array.ext_getElem?
  intro k
  rw [Array.getElem?_append]
  split
  · rename_i hk; exact h5 k hk
  · rename_i hk
    rw [Array.getElem?_extract]
    split
    · rename_i h; congr 1; omega
    · rename_i h; rw [Array.getElem?_eq_none]; omega
theorem far_of {w w' : World} (h : Below w.heap.size w w') : ∃ p : FarBy, w' = far w p.d p.os := by
  refine ⟨⟨w'.drawn, w'.heap.extract w.heap.size w'.heap.size⟩, ?_⟩
  obtain ⟨h1, h2, h3, h4, h5⟩ := h
  have := heap_pre h4 h5
  cases w; cases w'
  simp only at h1 h2 h3 this
  subst h1 h2 h3
  simp only [far, World.mk.injEq, and_true]
  exact this
theorem far_cell {w : World} {a : Addr} {v : Value} (hb : a.block < w.heap.size) (h : w.cell? a = some v) : ∀ d os, (far w d os).cell? a = some v :=
  fun d os => ((far_below w d os).cell (p := a) hb).trans h
theorem wp_region_far {P : Program} {id : Nat} {Q : Exit → Act → World → Prop} {a : Act} {w : World} {l : List Oper} (S : World → Prop) (hm : P.follows .mixedOrders = true) (hB : Region.lexB .any l.toArray = true) (hS : S w.drew)
    (h : ∀ W, S W → wpQuiet P l.toArray (fun w' => ∃ p : FarBy, w' = far W p.d p.os) (fun a' => ∀ w', (∃ p : FarBy, w' = far W p.d p.os) → Q .normal a' w') l a) : (Code.region id l.toArray true).wp P Q a w :=
  wp_region_quiet (C := fun w' => ∃ p : FarBy, w' = far w.drew p.d p.os) hm hB (far_of (Below.refl _ _)) (by simpa using h w.drew hS)
theorem calls_far {P : Program} {f : FuncId} {args : Array Value} {w : World} {d : Nat} {os : Array Obj} {v : Value}
    (h : Calls P f args (far w d os) fun e w' => e = .returned v ∧ Below (far w d os).heap.size (far w d os) w') : Calls P f args (far w d os) fun e w'' => e = .returned v ∧ ∃ p : FarBy, w'' = far w p.d p.os :=
  h.mono fun _ _ ⟨he, hb⟩ => ⟨he, Go.Proofs.Ytjbdjlgddjmkbaa.far_of ((far_below w d os).trans (hb.mono (by simp [far])))⟩
end Go.Proofs.Ytjbdjlgddjmkbaa
