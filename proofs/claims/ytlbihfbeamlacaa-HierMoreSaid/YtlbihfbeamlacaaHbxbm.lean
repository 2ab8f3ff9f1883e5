/- Plain: the lists of the two climbs as the loops make them; slices.Reverse at a row of the call's own. -/
import Derived.Test.YtlbihfbeamlacaaHbxbd
set_option linter.unusedSimpArgs false
set_option linter.unusedVariables false
set_option maxRecDepth 100000
set_option maxHeartbeats 6400000
namespace Go.Proofs.Ytlbihfbeamlacaa
open Go.RowKit
theorem blk_ne {w : World} {g g' : Nat} {t t' : TypeId} {cs cs' : Array Value} (h : Blk w g t cs) (h' : Blk w g' t' cs') (ht : t≠t') : g≠g':=fun e=>by
  subst e
  have hq : some (Obj.cells cs t (0,0))=some (Obj.cells cs' t' (0,0)):=h.symm.trans h'
  injection hq with hq
  injection hq with _ hq _
  exact ht hq
theorem chB_len (b : Int→Int) : ∀ (k : Nat) (v : Int),(chB b k v).length≤k
  | 0,_=>by simp [chB]
  | k+1,v=>by
    unfold chB
    split
    · have:=chB_len b k (b v)
      simp only [List.length_cons]; omega
    · simp
theorem chB_neg {b : Int→Int} {k : Nat} {v : Int} (h : ¬ 0≤b v) : chB b k v=[]:=by
  cases k with
  | zero=>rfl
  | succ k=>unfold chB; rw [if_neg h]
/-- What the loops over the nodes before keep. -/
structure ChI (n : Nat) (rk : Int→Int) (d b : Int→Int) (am : Int) (pre : List Int) (v : Int) (l : List Int) : Prop where
  ir : Ir n v
  d0 : 0≤d v
  j : ∃ j : Nat,l ++ chB b j v=pre ++ chB b n am∧rk v<j
section
variable {n : Nat} {es : List ED} {rk : Int→Int} {D : Int→Int→Int} {F G : Int→Int→Option ED} {s am v : Int} {d b : Int→Int} {pre l : List Int}
theorem ChI.start (hlt : ∀ v,Ir n v→0≤rk v∧rk v<n) (hv : Ir n am) (h0 : 0≤d am) (pre : List Int) : ChI n rk d b am pre am pre:=⟨hv,h0,n,rfl,(hlt am hv).2⟩
theorem ChI.step (h : ChI n rk d b am pre v l) (hlt : ∀ v,Ir n v→0≤rk v∧rk v<n) (hc : Climb n G rk s d b) (hb : 0≤b v) : ChI n rk d b am pre (b v) (l ++ [b v])∧rk (b v)<rk v∧0≤rk (b v):=by
  obtain ⟨j,hj,hr⟩:=h.j
  rcases hc.bef v h.ir h.d0 with h1 | ⟨x,hI,hx,hl,h1,h2⟩
  · subst h1
    have:=hc.b0
    omega
  · cases j with
    | zero=>have:=(hlt v h.ir).1; omega
    | succ j =>
      refine ⟨⟨hI,h1,j, ?_,by omega⟩,hl,(hlt _ hI).1⟩
      rw [← hj]
      conv=>rhs; unfold chB
      rw [if_pos hb,List.append_assoc]
      rfl
theorem ChI.len (h : ChI n rk d b am pre v l) : l.length≤pre.length+n:=by
  obtain ⟨j,hj,_⟩:=h.j
  have h1:=congrArg List.length hj
  have h2:=chB_len b n am
  simp only [List.length_append] at h1
  omega
theorem ChI.done (h : ChI n rk d b am pre v l) (hb : ¬ 0≤b v) : l=pre ++ chB b n am:=by
  obtain ⟨j,hj,_⟩:=h.j
  rw [← hj,chB_neg hb,List.append_nil]
/-- What the loop of unpacking keeps. -/
structure UnI (F : Int→Int→Option ED) (n : Nat) (s : Int) (C : List Int) (k : Nat) (out : List Int) : Prop where
  eq : out ++ unpL F n (C.drop k)=s :: unpL F n C
  len : out.length≤1+k * 512
  k : k<C.length
theorem UnI.start {C : List Int} (hC : 0<C.length) : UnI F n s C 0 [s]:=⟨by simp,by simp,hC⟩
theorem UnI.step {C out : List Int} {k : Nat} (h : UnI F n s C k out) (hn : n≤9) (hk : k+1<C.length) : UnI F n s C (k+1) (out ++ unpF F n (C[k]'(by omega)) C[k+1]):=by
  refine ⟨?_, ?_,hk⟩
  · rw [← h.eq,List.drop_eq_getElem_cons (show k<C.length by omega),List.drop_eq_getElem_cons hk,List.append_assoc]
    rfl
  · have h1:=h.len
    have h2:=unpF_len F n (C[k]'(by omega)) C[k+1]
    have h3 : 2 ^ n≤2 ^ 9:=Nat.pow_le_pow_right (by omega) hn
    rw [List.length_append]
    omega
theorem UnI.done {C out : List Int} {k : Nat} (h : UnI F n s C k out) (hk : ¬ k+1<C.length) : out=s :: unpL F n C:=by
  have hk':=h.k
  have h1 : C.drop k=[C[k]]:=by
    rw [List.drop_eq_getElem_cons hk',List.drop_eq_nil_of_le (by omega)]
  have h2:=h.eq
  rw [h1] at h2
  simp only [unpL,List.append_nil] at h2
  exact h2
end
theorem rev_own (base : Nat) (s : Sl Int) (w : World) (hown : Own base 3 1 ienc w s) (hm : s.l.length≤100000) :
    Calls Try.prog 40 #[.slice s.A s.l.length s.c] w fun e w'=>e = .returned (.tuple #[])∧Own base 3 1 ienc w' ⟨s.A,s.c,s.l.reverse⟩∧w.grownBy w' (Value.slice s.A s.l.length s.c).ownBlock:=by
  obtain ⟨A,c,l⟩:=s
  simp only at hm
  rcases hown.form with ⟨h1,h2,h3⟩ | ⟨g,h1,_⟩
  · simp only at h1 h2 h3
    subst h1 h2 h3
    refine (Go.Proofs.Try.slices_Reverse_int_empty none 0 w).mono ?_
    rintro e w' ⟨rfl,rfl⟩
    exact ⟨rfl,hown,grown_refl⟩
  · simp only at h1
    subst h1
    obtain ⟨cur,hB,hcs,htk,hlc,hcm,hbg⟩:=hown.blk rfl
    simp only [Nat.mul_one] at hcs htk hlc hcm
    rw [ienc_map] at htk
    have hH:=Go.holds_of_blockI (w:=w) (g:=g) (e:=3) (ss:=l) hB htk
    refine (Go.Proofs.Try.slices_Reverse_int g 0 c l w hH (by omega)).mono ?_
    rintro e w' ⟨rfl,n,rfl⟩
    have e1:=(Go.Sort.grow_empty (Go.Sort.putRow (Value.int .i64) (Go.Sort.ahead w n) g 0 l.reverse.toArray)).symm
    refine ⟨rfl, ?_, ?_⟩
    · unfold Own
      simp only [ienc_map]
      rw [e1]
      have:=Go.ownsRow_sortedI (n:=n) (os:=#[]) (ts:=l.reverse) (by simp) hbg hB hlc hcm (by omega)
      simpa using this
    · rw [e1]
      exact Go.grownBy_sortedI _
end Go.Proofs.Ytlbihfbeamlacaa
