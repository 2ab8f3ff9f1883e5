/- The data of ledgers, as they lie in cells. -/
import Derived.Test.YtjbdjlgddjmkbaaFar
import Derived.Test.YtjbdjlgddjmkbaaFvR
namespace Go.Proofs.Ytjbdjlgddjmkbaa
open Go.RowKit
def ienc (n : Int) : List Value := [.int .i64 n]
theorem ienc_k (n : Int) : (ienc n).length = 1 := rfl
theorem ienc_one (n : Int) : ∀ u ∈ ienc n, u.oneCell' = true := by intro u hu; simp [ienc] at hu; subst hu; rfl
def Bal.enc (x : Bal) : List Value := [.int .i64 x.m, .int .i64 x.n]
theorem Bal.k (x : Bal) : x.enc.length = 2 := rfl
theorem Bal.one (x : Bal) : ∀ u ∈ x.enc, u.oneCell' = true := by intro u hu; simp [Bal.enc] at hu; rcases hu with rfl | rfl <;> rfl
theorem infoInt : Info Try.prog 3 (.int .i64 0) 1 8 := info_mk (by kernel_rfl) rfl
theorem infoBal : Info Try.prog 39 (.agg #[.int .i64 0, .int .i64 0]) 2 16 := info_mk (by kernel_rfl) rfl
theorem Rd.later {α : Type} {k : Nat} {enc : α → List Value} {B : Nat} {w w' : World} {s : Sl α} (h : Rd (· < B) k enc w s) (hb : Below B w w') (hB : B ≤ w.heap.size) : Rd (· < w'.heap.size) k enc w' s := h.below' hb hB
theorem below_via {a w w' : World} (hb : Below a.heap.size a w') (h1 : Below w.heap.size w a) : Below w.heap.size w w' := Below.trans h1 (hb.mono h1.size)
theorem own_via {α : Type} {base : Nat} {e : TypeId} {k : Nat} {enc : α → List Value} {a w' : World} {s : Sl α} (hb : Below a.heap.size a w') (h : Own base e k enc a s) : Own base e k enc w' s := h.below hb
theorem keep_cell {a w' : World} {p : Addr} {v : Value} (hb : Below a.heap.size a w') (h : a.cell? p = some v) : w'.cell? p = some v := (hb.cell (World.block_lt_of_cell? a p h)).trans h
theorem kalloc {w : World} {p : Addr} {v : Value} (o : Obj) (h : w.cell? p = some v) : (w.alloc o).cell? p = some v := by rw [World.cell?_alloc_some w p o (by rw [h]; rfl), h]
theorem kset {w : World} {p q : Addr} {v : Value} (u : Value) (hne : p.block ≠ q.block) (h : w.cell? p = some v) : (w.setCell q u).cell? p = some v := by rw [World.cell?_setCell_far w q p u (Ne.symm hne), h]
theorem blk_grown {w w' : World} {g : Nat} {t : TypeId} {cs : Array Value} {row : Option Nat} (hb : w.grownBy w' row) (h : hp w g = some (.cells cs t (0, 0))) (hne : row ≠ some g) : Blk w' g t cs := (hb.block g (lt_of_block h) (fun e => hne e.symm)).trans h
theorem Blk.c2c {w : World} {g : Nat} {t : TypeId} {x y : Value} (h : Blk w g t #[x, y]) : Cells w g 0 [x, y] := fun j u hu => by rw [h.cell, Nat.zero_add]; simpa using hu
theorem own_ne {α : Type} {base : Nat} {e : TypeId} {k : Nat} {enc : α → List Value} {w : World} {s : Sl α} {g : Nat} (h : Own base e k enc w s) (hg : g < base ∨ w.heap.size ≤ g) : (Value.slice s.A s.l.length s.c).ownBlock ≠ some g := by
  rcases h.form with ⟨h0, _⟩ | ⟨g', h0, h1, h2, _⟩
  · rw [h0]; simp [Value.ownBlock]
  · rw [h0]; simp [Value.ownBlock]; omega
end Go.Proofs.Ytjbdjlgddjmkbaa
