/- Plain: what the law of paths asks. -/
import Derived.Test.YtlbihfbeamlacaaHbxbt
set_option linter.unusedSimpArgs false
set_option linter.unusedVariables false
set_option maxRecDepth 100000
set_option maxHeartbeats 6400000
namespace Go.Proofs.Ytlbihfbeamlacaa
open Go.RowKit
/-- A path with the lengths of its beginnings. -/
structure PthF (es : List ED) (D : Int→Int→Int) (s t : Int) (l : List Int) (P : Nat→Int) : Prop where
  nod : ∀ (j k : Nat) (x y : Int),j<k→l[j]? = some x→l[k]? = some y→¬ x=y
  st : ∀ (j : Nat) (x y : Int),l[j]? = some x→l[j+1]? = some y→leastE es x y=P (j+1) - P j∧0≤leastE es x y
  bd : ∀ j,j<l.length→-1≤P j∧P j≤512000000
  sg : ∀ (i k : Nat) (x y : Int),i≤k→l[i]? = some x→l[k]? = some y→D x y=P k - P i
  p0 : P 0=0
  pe : P (l.length - 1)=D s t
theorem PathP.f {n : Nat} {es : List ED} {s t : Int} {l : List Int} (h9 : n≤9) (hg : GrD n es) (h : PathP n es (tabK es n) s t l) : PthF es (tabK es n) s t l (preS (leastE es) l):=by
  have hsg : ∀ (i k : Nat) (x y : Int),i≤k→l[i]? = some x→l[k]? = some y→tabK es n x y=preS (leastE es) l k - preS (leastE es) l i:=fun i k x y hik hx hy=>by
    obtain ⟨d,rfl⟩:=Nat.exists_eq_add_of_le hik
    obtain ⟨h1,h2⟩:=List.getElem?_eq_some_iff.1 hx
    obtain ⟨h3,h4⟩:=List.getElem?_eq_some_iff.1 hy
    have:=h.seg i d h3
    rw [h2,h4] at this
    exact this
  have htop : (1000000 : Int) * 2 ^ n≤512000000:=by
    have h4 : ∀ j : Fin 10,(1000000 : Int) * 2 ^ (j : Nat)≤512000000:=by decide
    have h6:=h4 ⟨n,by omega⟩
    simpa using h6
  refine ⟨fun j k x y hjk hx hy=>?_,fun j x y hx hy=>?_,fun j hj=>?_,hsg,preS_zero,h.sum⟩
  · obtain ⟨h1,h2⟩:=List.getElem?_eq_some_iff.1 hx
    obtain ⟨h3,h4⟩:=List.getElem?_eq_some_iff.1 hy
    rw [← h2,← h4]
    exact List.pairwise_iff_getElem.1 h.nod j k h1 h3 hjk
  · obtain ⟨h1,h2⟩:=List.getElem?_eq_some_iff.1 hx
    obtain ⟨h3,h4⟩:=List.getElem?_eq_some_iff.1 hy
    have h5:=h.adj j h3
    have h6:=preS_succ (W:=leastE es) h3
    rw [h2,h4] at h5 h6
    omega
  · have h1:=hsg 0 j _ _ (Nat.zero_le _) (List.getElem?_eq_getElem h.pos) (List.getElem?_eq_getElem hj)
    rw [preS_zero] at h1
    have h2:=(tabK_T (n:=n) hg.gr.n0 n (Nat.le_refl _)).low (l[0]'h.pos) l[j]
    have h3:=tabK_top hg.top n (l[0]'h.pos) l[j]
    omega
end Go.Proofs.Ytlbihfbeamlacaa
