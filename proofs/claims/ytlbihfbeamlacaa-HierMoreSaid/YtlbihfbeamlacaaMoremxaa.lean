/- Plain: what the law of one edge more asks. -/
import Derived.Test.YtlbihfbeamlacaaHbxbt
set_option linter.unusedSimpArgs false
set_option linter.unusedVariables false
set_option maxRecDepth 100000
set_option maxHeartbeats 6400000
namespace Go.Proofs.Ytlbihfbeamlacaa
open Go.RowKit
theorem few_nine2 {n : Int} {es : List ED} {R : List Int} (h : fewB n es R=true) (es2 : List ED) : graphB n es2=true→n≤9:=by
  unfold fewB at h
  simp only [Bool.and_eq_true,Bool.or_eq_true,decide_eq_true_eq] at h
  exact fun hg=>by have:=(graphB_ok hg).2.1; omega
theorem addr_gt {a g : Nat} (h : g<a) : (some (⟨a,0,none⟩ : Addr))≠some ⟨g,0,none⟩:=fun e=>by
  injection e with e
  injection e with e
  omega
theorem addr_or {A B : Option Addr} {a g : Nat} (h : A=B∨A=some ⟨a,0,none⟩) (hB : B≠some ⟨g,0,none⟩) (hg : g<a) : A≠some ⟨g,0,none⟩:=by
  rcases h with h | h
  · rw [h]; exact hB
  · rw [h]; exact addr_gt hg
theorem own_ne_of {α : Type} {base : Nat} {e : TypeId} {k : Nat} {enc : α→List Value} {w : World} {s : Sl α} {g : Nat} (h : Own base e k enc w s) (hA : s.A≠some ⟨g,0,none⟩) : some g≠(Value.slice s.A s.l.length s.c).ownBlock:=by
  rcases h.form with ⟨h0,_⟩ | ⟨q,h0,_⟩
  · rw [h0]; simp [Value.ownBlock]
  · rw [h0]
    intro hc
    have hc : some g=some q:=hc
    injection hc with hc
    subst hc
    exact hA h0
theorem own_ge_ne {α : Type} {base : Nat} {e : TypeId} {k : Nat} {enc : α→List Value} {w : World} {s : Sl α} {g : Nat} (h : Own base e k enc w s) (hg : g<base) : s.A≠some ⟨g,0,none⟩:=fun hA=>by
  rcases h.form with ⟨h0,_⟩ | ⟨q,h0,h1,_⟩
  · rw [h0] at hA; cases hA
  · rw [h0] at hA
    injection hA with hA
    injection hA with hA
    omega
/-- With one edge more. -/
theorem more_tab {n : Nat} {es : List ED} {e : ED} (hg : GrD n es) (hg2 : GrD n (es ++ [e])) {u w : Int} (hu : Ir n u) (hw : Ir n w) : tabK (es ++ [e]) n u w=moreD (tabK es n) e u w:=by
  have he : e ∈ es ++ [e]:=List.mem_append_right _ (List.mem_singleton.2 rfl)
  exact (table_D hg2.gr).uniq ((table_D hg.gr).more hg.gr (hg2.gr.rf _ he) (hg2.gr.rt _ he) (hg2.gr.n0 _ he)) hg2.gr hu hw
theorem more_rng {n : Nat} {es : List ED} {e : ED} (hg2 : GrD n (es ++ [e])) : Ir n e.f∧Ir n e.t∧0≤e.n∧e.n≤1000000:=by
  have he : e ∈ es ++ [e]:=List.mem_append_right _ (List.mem_singleton.2 rfl)
  exact ⟨hg2.gr.rf _ he,hg2.gr.rt _ he,hg2.gr.n0 _ he,hg2.top _ he⟩
theorem tab_bd {n : Nat} {es : List ED} (hg : GrD n es) (h9 : n≤9) (u w : Int) : -1≤tabK es n u w∧tabK es n u w≤512000000:=by
  have htop : (1000000 : Int) * 2 ^ n≤512000000:=by
    have h4 : ∀ j : Fin 10,(1000000 : Int) * 2 ^ (j : Nat)≤512000000:=by decide
    have h6:=h4 ⟨n,by omega⟩
    simpa using h6
  have h2:=(tabK_T (n:=n) hg.gr.n0 n (Nat.le_refl _)).low u w
  have h3:=tabK_top hg.top n u w
  omega
end Go.Proofs.Ytlbihfbeamlacaa
