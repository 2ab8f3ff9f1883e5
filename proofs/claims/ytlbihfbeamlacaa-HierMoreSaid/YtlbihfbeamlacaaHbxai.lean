/- Edges, and lists of numbers, as they lie in cells; families of rows that share nothing. -/
import Derived.Test.YtlbihfbeamlacaaHbxah
set_option linter.unusedSimpArgs false
set_option linter.unusedVariables false
set_option maxRecDepth 100000
set_option maxHeartbeats 6400000
namespace Go.Proofs.Ytlbihfbeamlacaa
open Go.RowKit
def ienc (n : Int) : List Value:=[.int .i64 n]
theorem ienc_k (n : Int) : (ienc n).length=1:=rfl
theorem ienc_one (n : Int) : ∀ u ∈ ienc n,u.oneCell'=true:=by intro u hu; simp [ienc] at hu; subst hu; rfl
def ED.enc (x : ED) : List Value:=[.int .i64 x.f,.int .i64 x.t,.int .i64 x.n,.int .i64 x.v]
def ED.v' (x : ED) : Value:=.agg #[.int .i64 x.f,.int .i64 x.t,.int .i64 x.n,.int .i64 x.v]
theorem ED.k (x : ED) : x.enc.length=4:=rfl
theorem ED.one (x : ED) : ∀ u ∈ x.enc,u.oneCell'=true:=by intro u hu; simp [ED.enc] at hu; rcases hu with rfl | rfl | rfl | rfl <;> rfl
theorem infoInt : Info Try.prog 3 (.int .i64 0) 1 8:=info_mk (by kernel_rfl) rfl
theorem infoEdge : Info Try.prog 44 (.agg #[.int .i64 0,.int .i64 0,.int .i64 0,.int .i64 0]) 4 32:=info_mk (by kernel_rfl) rfl
def Sl.v {α : Type} (s : Sl α) : Value:=.slice s.A s.l.length s.c
def senc {α : Type} (s : Sl α) : List Value:=[.slice s.A s.l.length s.c]
theorem senc_k {α : Type} (s : Sl α) : (senc s).length=1:=rfl
theorem senc_one {α : Type} (s : Sl α) : ∀ u ∈ senc s,u.oneCell'=true:=by intro u hu; simp [senc] at hu; subst hu; rfl
theorem Rd.later {α : Type} {k : Nat} {enc : α→List Value} {B : Nat} {w w' : World} {s : Sl α} (h : Rd (· < B) k enc w s) (hb : Below B w w') (hB : B≤w.heap.size) : Rd (· < w'.heap.size) k enc w' s:=h.below' hb hB
theorem below_via {a w w' : World} (hb : Below a.heap.size a w') (h1 : Below w.heap.size w a) : Below w.heap.size w w':=Below.trans h1 (hb.mono h1.size)
theorem own_via {α : Type} {base : Nat} {e : TypeId} {k : Nat} {enc : α→List Value} {a w' : World} {s : Sl α} (hb : Below a.heap.size a w') (h : Own base e k enc a s) : Own base e k enc w' s:=h.below hb
theorem keep_cell {a w' : World} {p : Addr} {v : Value} (hb : Below a.heap.size a w') (h : a.cell? p=some v) : w'.cell? p=some v:=(hb.cell (World.block_lt_of_cell? a p h)).trans h
theorem kalloc {w : World} {p : Addr} {v : Value} (o : Obj) (h : w.cell? p=some v) : (w.alloc o).cell? p=some v:=by rw [World.cell?_alloc_some w p o (by rw [h]; rfl),h]
theorem kset {w : World} {p q : Addr} {v : Value} (u : Value) (hne : p.block≠q.block) (h : w.cell? p=some v) : (w.setCell q u).cell? p=some v:=by rw [World.cell?_setCell_far w q p u (Ne.symm hne),h]
theorem blk_grown {w w' : World} {g : Nat} {t : TypeId} {cs : Array Value} {row : Option Nat} (hb : w.grownBy w' row) (h : hp w g=some (.cells cs t (0,0))) (hne : row≠some g) : Blk w' g t cs:=(hb.block g (lt_of_block h) (fun e=>hne e.symm)).trans h
theorem own_ne {α : Type} {base : Nat} {e : TypeId} {k : Nat} {enc : α→List Value} {w : World} {s : Sl α} {g : Nat} (h : Own base e k enc w s) (hg : g<base∨w.heap.size≤g) : (Value.slice s.A s.l.length s.c).ownBlock≠some g:=by
  rcases h.form with ⟨h0,_⟩ | ⟨g',h0,h1,h2,_⟩
  · rw [h0]; simp [Value.ownBlock]
  · rw [h0]; simp [Value.ownBlock]; omega
theorem Cells.c4 {w : World} {b o : Nat} {x y z s : Value} (h : Cells w b o [x,y,z,s]) : w.cell? ⟨b,o,none⟩=some x∧w.cell? ⟨b,o+1,none⟩=some y∧w.cell? ⟨b,o+2,none⟩=some z∧w.cell? ⟨b,o+3,none⟩=some s:=⟨h 0 _ rfl,h 1 _ rfl,h 2 _ rfl,h 3 _ rfl⟩
/-- Rows of the call's own, no two of which share a block. -/
structure Fam {α : Type} (base : Nat) (e : TypeId) (k : Nat) (enc : α→List Value) (w : World) (ls : List (Sl α)) : Prop where
  own : ∀ (i : Nat) (s : Sl α),ls[i]? = some s→Own base e k enc w s
  dis : ∀ (i j : Nat) (s t : Sl α) (a : Addr),i≠j→ls[i]? = some s→ls[j]? = some t→s.A=some a→t.A≠some a
section
variable {α : Type} {base : Nat} {e : TypeId} {k : Nat} {enc : α→List Value} {w w' : World} {ls : List (Sl α)}
theorem Fam.start (n : Nat) : Fam base e k enc w (List.replicate n (⟨none,0,[]⟩ : Sl α)) :=
  ⟨fun i s h=>by rw [rep_get h]; exact Own.nil _ _ _ _ _,fun i j s t a _ h _ hs=>by rw [rep_get h] at hs; cases hs⟩
theorem Fam.app {i : Nat} {s : Sl α} {A : Option Addr} {c : Nat} {l' : List α} (h : Fam base e k enc w ls) (hs : ls[i]? = some s) (hown : Own base e k enc w' ⟨A,c,l'⟩) (hg : w.grownBy w' (Value.slice s.A s.l.length s.c).ownBlock)
    (hA : A=s.A∨A=some ⟨w.heap.size,0,none⟩) : Fam base e k enc w' (ls.set i ⟨A,c,l'⟩):=by
  have hne : ∀ j t,i≠j→ls[j]? = some t→(Value.slice t.A t.l.length t.c).ownBlock=none∨(Value.slice t.A t.l.length t.c).ownBlock≠(Value.slice s.A s.l.length s.c).ownBlock:=fun j t hij ht=>by
    rcases (h.own i s hs).form with ⟨h0,_⟩ | ⟨g,h0,h1,h2,_⟩
    · rcases (h.own j t ht).form with ⟨h3,_⟩ | ⟨g',h3,h4,h5,_⟩
      · left; rw [h3]; simp [Value.ownBlock]
      · right; rw [h0,h3]; simp [Value.ownBlock]
    · rcases (h.own j t ht).form with ⟨h3,_⟩ | ⟨g',h3,h4,h5,_⟩
      · left; rw [h3]; simp [Value.ownBlock]
      · right
        rw [h0,h3]
        simp only [Value.ownBlock]
        intro hc
        injection hc with hc
        subst hc
        exact h.dis i j s t _ hij hs ht h0 h3
  have hil : i<ls.length:=(List.getElem?_eq_some_iff.1 hs).1
  have hnew : ∀ j t a,ls[j]? = some t→A=some a→i≠j→t.A≠some a:=fun j t a ht ha hij hc=>by
    rcases hA with hA | hA
    · exact h.dis i j s t a hij hs ht (hA.symm.trans ha) hc
    · rw [ha] at hA
      injection hA with hA
      have:=(h.own j t ht).bound w.heap.size (by rw [hc,hA])
      omega
  refine ⟨fun j t ht=>?_,fun j m t t' a hjm ht ht' hta=>?_⟩
  · rw [List.getElem?_set] at ht
    by_cases hij : i=j
    · rw [if_pos hij,if_pos (by omega)] at ht
      injection ht with ht
      subst ht
      exact hown
    · rw [if_neg hij] at ht
      exact (h.own j t ht).kept hg (hne j t hij ht)
  · rw [List.getElem?_set] at ht ht'
    by_cases hij : i=j
    · rw [if_pos hij,if_pos (by omega)] at ht
      injection ht with ht
      subst ht
      rw [if_neg (by omega)] at ht'
      exact hnew m t' a ht' hta (by omega)
    · rw [if_neg hij] at ht
      by_cases him : i=m
      · rw [if_pos him,if_pos (by omega)] at ht'
        injection ht' with ht'
        subst ht'
        intro hc
        exact hnew j t a ht hc hij hta
      · rw [if_neg him] at ht'
        exact h.dis j m t t' a hjm ht ht' hta
theorem Fam.map_ (h : Fam base e k enc w ls) (hk : ∀ s,s ∈ ls→Own base e k enc w s→Own base e k enc w' s) : Fam base e k enc w' ls:=⟨fun i s hs=>hk s (List.mem_of_getElem? hs) (h.own i s hs),h.dis⟩
theorem Fam.far (h : Fam base e k enc w ls) {a : Addr} (ha : a.block<base) (u : Value) : Fam base e k enc (w.setCell a u) ls:=h.map_ fun _ _ hs=>hs.far ha u
theorem Fam.below (h : Fam base e k enc w ls) (hb : Below w.heap.size w w') : Fam base e k enc w' ls:=h.map_ fun _ _ hs=>hs.below hb
theorem Fam.alloc (h : Fam base e k enc w ls) (o : Obj) : Fam base e k enc (w.alloc o) ls:=h.map_ fun _ _ hs=>hs.alloc o
theorem Fam.drew (h : Fam base e k enc w ls) : Fam base e k enc w.drew ls:=h.map_ fun _ _ hs=>hs.drew
theorem Fam.grown {b : Nat} (h : Fam base e k enc w ls) (hg : w.grownBy w' (some b)) (hb : b<base) : Fam base e k enc w' ls:=h.map_ fun _ _ hs=>hs.kept hg (.inr (own_ne hs (.inl hb)))
theorem Fam.mono {base' : Nat} (h : Fam base e k enc w ls) (hb : base'≤base) : Fam base' e k enc w ls:=⟨fun i s hs=>(h.own i s hs).mono hb,h.dis⟩
end
end Go.Proofs.Ytlbihfbeamlacaa
