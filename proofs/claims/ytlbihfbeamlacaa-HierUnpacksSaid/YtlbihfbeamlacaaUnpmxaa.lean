/- Plain: what the law of unpacking asks. -/
import Derived.Test.YtlbihfbeamlacaaHbxbt
set_option linter.unusedSimpArgs false
set_option linter.unusedVariables false
set_option maxRecDepth 100000
set_option maxHeartbeats 6400000
namespace Go.Proofs.Ytlbihfbeamlacaa
open Go.RowKit
theorem unp_at {n : Nat} {es : List ED} {D : Int→Int→Int} {R : List Int} {E : List ED} (hh : HRt n es D R E) {x : ED} (hx : x ∈ E) : Ir n x.f∧Ir n x.t∧x.f≠x.t∧0≤D x.f x.t∧D x.f x.t≤x.n∧0≤x.n∧x.n≤1000000000000 ∧
    ((x.v = -1∧leastE es x.f x.t=x.n)∨(Ir n x.v∧rkF R x.v<rkF R x.f∧rkF R x.v<rkF R x.t∧∃ a b,lkE E x.f x.v=some a∧lkE E x.v x.t=some b∧x.n=a.n+b.n)):=by
  have hl:=hh.key.lk hx
  obtain ⟨_,_,h1,h2,h3⟩:=hh.h.inv.key _ _ _ hl
  obtain ⟨h4,h5⟩:=hh.h.inv.ge _ _ _ hl
  obtain ⟨_,_,h6,h7⟩:=hh.ok x hx
  exact ⟨h1,h2,h3,h4,h5,h6,h7,hh.h.inv.via _ _ _ hl⟩
theorem rk_get {n : Nat} {R : List Int} (h : RkOK n R) {v : Nat} (hv : v<n) : R[v]? = some (rkF R (v : Int)):=by
  have hl : v<R.length:=by have:=h.len; omega
  unfold rkF
  rw [Int.toNat_natCast,List.getElem?_eq_getElem hl]
  rfl
/-- Where the cells of a list of numbers lie. -/
theorem rd_cells {F : Nat→Prop} {w : World} {A : Option Addr} {c : Nat} {l : List Int} (h : Rd F 1 ienc w ⟨A,c,l⟩) (hl : 0<l.length) : ∃ b o,A=some ⟨b,o,none⟩∧∀ (j : Nat) (x : Int),l[j]? = some x→w.cell? ⟨b,o+j,none⟩=some (.int .i64 x):=by
  obtain ⟨b,o,hA,_,_⟩:=h.2.2.2 0 _ (List.getElem?_eq_getElem hl)
  simp only at hA
  refine ⟨b,o,hA,fun j x hx=>?_⟩
  obtain ⟨b',o',hA',_,hc⟩:=h.2.2.2 j x hx
  simp only at hA'
  rw [hA] at hA'
  injection hA' with hA'
  injection hA' with h1 h2
  subst h1 h2
  have:=hc.c1
  rw [Nat.mul_one] at this
  exact this
/-- An edge that the reference's At finds. -/
theorem at_some {l : List ED} {f t : Int} {a : ED} (h : lkE l f t=some a) : ∃ k : Nat,idxP (fun x : ED=>decide (x.f=f) && decide (x.t=t)) 0 l=(k : Int)∧l[k]? = some a:=by
  rcases at_lk l f t with ⟨_,h2⟩ | ⟨k,x,h1,h2,h3,_,_⟩
  · rw [h] at h2; cases h2
  · rw [h] at h3
    injection h3 with h3
    exact ⟨k,h1,by rw [h2,h3]⟩
end Go.Proofs.Ytlbihfbeamlacaa
