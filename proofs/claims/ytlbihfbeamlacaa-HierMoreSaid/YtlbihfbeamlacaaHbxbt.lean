/- Plain: what the laws ask of Build's answer. -/
import Derived.Test.YtlbihfbeamlacaaHbxbs
import Derived.Test.YtlbihfbeamlacaaHbxai
import Derived.ProofKit
import Derived.Deep.Slices
import Derived.Deep.Fields
import Derived.ChangeSame
import Derived.Carry
import Derived.OpenShut
set_option linter.unusedSimpArgs false
set_option linter.unusedVariables false
set_option maxRecDepth 100000
set_option maxHeartbeats 6400000
namespace Go.Proofs.Ytlbihfbeamlacaa
open Go.RowKit
theorem few_nine {n : Int} {es : List ED} {R : List Int} (h : fewB n es R=true) : (graphB n es=true→n≤9)∧es.length≤24∧R.length≤10:=by
  unfold fewB at h
  simp only [Bool.and_eq_true,Bool.or_eq_true,decide_eq_true_eq] at h
  obtain ⟨h1,h2,h3⟩:=h
  exact ⟨fun hg=>by have:=(graphB_ok hg).2.1; omega,h2,h3⟩
theorem bldV_len {n : Int} {es : List ED} {R : List Int} : (bldV n es R).1.length≤R.length:=by
  unfold bldV
  split
  · exact Nat.le_refl _
  · exact Nat.zero_le _
theorem bldV_cases (n : Int) (es : List ED) (R : List Int) : (graphB n es=true∧RkP R n∧bldV n es R=(R,bldL n.toNat es R,0))∨bldV n es R=([],[],1):=by
  by_cases h : graphB n es=true∧RkP R n
  · exact .inl ⟨h.1,h.2,by unfold bldV; rw [if_pos h]⟩
  · exact .inr (by unfold bldV; rw [if_neg h])
section
open Go.ChangeShapes Go.WideShapes Go.ChangeAt Go.RowKit Go.Deep
section
variable {H : Type} {enc : TypeId × Value→H} {P : Program} {w : World} {base : Nat} {spare : Nat→Bool} {held : Bool}
/-- A slice of structs of fields of one cell each. -/
theorem rowsF {t e : TypeId} {fs : Array Field} {fuel : Nat} {cs : List Value} {x : DataW H × List MemPlace} (ht : P.underlying t=some (.slice e)) (he : P.underlying e=some (.struct fs))
    (hone : oneCellFields P fs=true) (hC : P.cellsOf e=fs.size) (h : DataW.trod enc P w base spare held fuel t cs=some x) :
    cs=[.slice none 0 0]∨∃ (a : Addr) (len cap : Nat),cs=[.slice (some a) len cap]∧len≤cap∧cap≤maxLen ∧
      ∀ i,i<len→∃ n : Nat,∀ (j : Nat) (f : Field),fs[j]? = some f→∃ (v : Value) (y : DataW H × List MemPlace),w.cell? (a.add (i * fs.size+j))=some v∧DataW.trod enc P w base spare held n f.type [v]=some y:=by
  rcases open_slice ht h with ⟨h0,_⟩ | ⟨a,len,cap,m,n,D,Pl,hcs,_,hl,hm,hmm,_,hi⟩
  · exact .inl h0
  · refine .inr ⟨a,len,cap,hcs,hl,hm,fun i hil=>?_⟩
    have him : i<m:=by rw [hmm]; split <;> omega
    obtain ⟨cs',hc,ht'⟩:=hi i him
    rw [hC] at hc
    obtain ⟨ys,n',_,_,_,hyl,hf⟩:=DataW.trod_struct he ht'
    obtain ⟨_,hcl,hat⟩:=World.cells?_some hc
    refine ⟨n',fun j f hj=>?_⟩
    obtain ⟨ho,hk⟩:=hone_of hone j f hj
    have hjl : j<fs.size:=(Array.getElem?_eq_some_iff.1 hj).1
    have hjc : j<cs'.length:=by omega
    have h1:=hf j f hj
    rw [ho,hk,List.drop_eq_getElem_cons hjc] at h1
    have hys : ys[j]? = some (ys[j]'(by omega)):=List.getElem?_eq_getElem (by omega)
    refine ⟨cs'[j],ys[j]'(by omega), ?_, ?_⟩
    · have h2:=hat j hjl
      rw [List.getElem?_eq_getElem hjc] at h2
      rw [← h2,add_add]
    · rw [← hys,← h1]; rfl
end
theorem list_of {α : Type} {n : Nat} {Q : Nat→α→Prop} (h : ∀ i,i<n→∃ x,Q i x) : ∃ l : List α,l.length=n∧∀ i x,l[i]? = some x→Q i x:=by
  induction n with
  | zero=>exact ⟨[],rfl,fun i x hx=>by simp at hx⟩
  | succ n ih =>
    obtain ⟨l,hl,hq⟩:=ih (fun i hi=>h i (by omega))
    obtain ⟨y,hy⟩:=h n (by omega)
    refine ⟨l ++ [y],by simp [hl],fun i x hx=>?_⟩
    rcases Nat.lt_or_ge i l.length with hi | hi
    · rw [List.getElem?_append_left hi] at hx; exact hq i x hx
    · rw [List.getElem?_append_right hi] at hx
      have : i - l.length=0:=by
        rcases Nat.eq_zero_or_pos (i - l.length) with h0 | h0
        · exact h0
        · rw [List.getElem?_eq_none (by simp; omega)] at hx; cases hx
      rw [this] at hx
      simp at hx
      subst hx
      have : i=n:=by omega
      subst this
      exact hy
theorem spot_none {w : World} {a : Addr} {v : Value} (h : w.cell? (a.add 0)=some v) : a.spot=none:=by
  obtain ⟨b,off,spot⟩:=a
  simpa [Addr.add] using World.cell?_spot h
section
variable {H : Type} {enc : TypeId × Value→H} {w : World} {base : Nat} {spare : Nat→Bool} {held : Bool}
theorem Try.clInt : Try.prog.cellsOf 3=1:=by kernel_rfl
theorem Try.clEdge : Try.prog.cellsOf 44=4:=by kernel_rfl
theorem Try.clHier : Try.prog.cellsOf 25=2:=by kernel_rfl
theorem i64_in {x : Int} (h : (Lit.int .i64 x).wf=true) : I64 x:=by
  have h1 : IntKind.i64.min = -9223372036854775808:=rfl
  have h2 : IntKind.i64.max=9223372036854775807:=rfl
  simp only [Lit.wf,Bool.and_eq_true,decide_eq_true_eq] at h
  unfold I64
  omega
theorem one_int {fuel : Nat} {c : Value} {x : DataW H × List MemPlace} (h : DataW.trod enc Try.prog w base spare held fuel 3 [c]=some x) : ∃ z : Int,c = .int .i64 z∧I64 z:=by
  obtain ⟨z0,e0,_,hw⟩:=DataW.trod_int Try.underlying3 h
  injection e0 with e0
  exact ⟨z0,e0,i64_in hw⟩
theorem open_intl {fuel : Nat} {v : Value} {x : DataW H × List MemPlace} (h : DataW.trod enc Try.prog w base spare held fuel 23 [v]=some x) :
    ∃ L : Sl Int,v = .slice L.A L.l.length L.c∧Rd (· < w.heap.size) 1 ienc w L:=by
  rcases open_slice Try.underlying23 h with ⟨h0,_⟩ | ⟨a,len,cap,m,n,D,Pl,hcs,_,hl,hm,hmm,_,hi⟩
  · injection h0 with h0
    exact ⟨⟨none,0,[]⟩,h0,Rd.nil _ _ _ _⟩
  · injection hcs with hcs
    have hc1 : ∀ i,i<len→∃ z,w.cell? (a.add (i * 1))=some (.int .i64 z):=fun i hil=>by
      have him : i<m:=by rw [hmm]; split <;> omega
      obtain ⟨cs',hc,ht'⟩:=hi i him
      obtain ⟨z,rfl,_,_⟩:=DataW.trod_int Try.underlying3 ht'
      rw [Try.clInt] at hc
      obtain ⟨_,_,hat⟩:=World.cells?_some hc
      have:=hat 0 (by omega)
      exact ⟨z,by simpa [add_add] using this⟩
    have hq : ∀ i,i<len→∃ z : Int,∃ b o,a=⟨b,o,none⟩∧b<w.heap.size∧Cells w b (o+i * 1) (ienc z):=fun i hil=>by
      obtain ⟨z,hz⟩:=hc1 i hil
      obtain ⟨z0,hz0⟩:=hc1 0 (by omega)
      have hs:=spot_none (a:=a) (by simpa using hz0)
      obtain ⟨b,o,sp⟩:=a
      simp only at hs
      subst hs
      rw [Go.WideShapes.add_plain] at hz
      refine ⟨z,b,o,rfl,World.block_lt_of_cell? w _ hz,fun j u hu=>?_⟩
      match j,hu with
      | 0,hu=>simp [ienc] at hu; subst hu; exact hz
    obtain ⟨l,hll,hlq⟩:=list_of hq
    refine ⟨⟨some a,cap,l⟩,by rw [hcs,hll],by simp only; omega,hm,fun h=>(by cases h),fun i x hx=>?_⟩
    obtain ⟨b,o,ha,hb,hc⟩:=hlq i x hx
    exact ⟨b,o,by rw [ha],hb,hc⟩
theorem open_edges {fuel : Nat} {v : Value} {x : DataW H × List MemPlace} (h : DataW.trod enc Try.prog w base spare held fuel 22 [v]=some x) :
    ∃ L : Sl ED,v = .slice L.A L.l.length L.c∧Rd (· < w.heap.size) 4 ED.enc w L:=by
  rcases rowsF Try.underlying22 Try.underlying44 (by kernel_rfl) Try.clEdge h with h0 | ⟨a,len,cap,h0,hl,hm,hi⟩
  · injection h0 with h0
    exact ⟨⟨none,0,[]⟩,h0,Rd.nil _ _ _ _⟩
  · injection h0 with h0
    have hq : ∀ i,i<len→∃ z : ED,∃ b o,a=⟨b,o,none⟩∧b<w.heap.size∧Cells w b (o+i * 4) (ED.enc z):=fun i hil=>by
      obtain ⟨n,hn⟩:=hi i hil
      obtain ⟨v0,y0,c0,t0⟩:=hn 0 _ rfl
      obtain ⟨v1,y1,c1,t1⟩:=hn 1 _ rfl
      obtain ⟨v2,y2,c2,t2⟩:=hn 2 _ rfl
      obtain ⟨v3,y3,c3,t3⟩:=hn 3 _ rfl
      obtain ⟨z0,rfl,_⟩:=one_int t0
      obtain ⟨z1,rfl,_⟩:=one_int t1
      obtain ⟨z2,rfl,_⟩:=one_int t2
      obtain ⟨z3,rfl,_⟩:=one_int t3
      obtain ⟨n',hn'⟩:=hi 0 (by omega)
      obtain ⟨u0,_,d0,_⟩:=hn' 0 _ rfl
      have hs:=spot_none (a:=a) (by simpa using d0)
      obtain ⟨b,o,sp⟩:=a
      simp only at hs
      subst hs
      rw [Go.WideShapes.add_plain] at c0 c1 c2 c3
      refine ⟨⟨z0,z1,z2,z3⟩,b,o,rfl,World.block_lt_of_cell? w _ c0,fun j u hu=>?_⟩
      match j,hu with
      | 0,hu=>simp [ED.enc] at hu; subst hu; exact c0
      | 1,hu=>simp [ED.enc] at hu; subst hu; rw [Nat.add_assoc]; exact c1
      | 2,hu=>simp [ED.enc] at hu; subst hu; rw [Nat.add_assoc]; exact c2
      | 3,hu=>simp [ED.enc] at hu; subst hu; rw [Nat.add_assoc]; exact c3
    obtain ⟨l,hll,hlq⟩:=list_of hq
    refine ⟨⟨some a,cap,l⟩,by rw [h0,hll],by simp only; omega,hm,fun h=>(by cases h),fun i x hx=>?_⟩
    obtain ⟨b,o,ha,hb,hc⟩:=hlq i x hx
    exact ⟨b,o,by rw [ha],hb,hc⟩
structure EDok (e : ED) : Prop where
  f : I64 e.f
  t : I64 e.t
  n : I64 e.n
  v : I64 e.v
theorem open_edge {r : Reach} {b0 : Nat} {v : Value} {d : DataW H} {p : List MemPlace} (hv : Value.okWide Try.prog w r b0 44 v) (h : DataW.Trod enc Try.prog w base spare held 44 v d p) :
    ∃ e : ED,v=e.v'∧EDok e:=by
  obtain ⟨cs,rfl,hsz⟩:=okWide_struct Try.underlying44 hv
  obtain ⟨l⟩:=cs
  match l,hsz.trans Try.clEdge with
  | [c0,c1,c2,c3],_ =>
    obtain ⟨fuel,hf⟩:=h
    obtain ⟨xs,n,_,hx,_,hlen,hg⟩:=DataW.trod_struct Try.underlying44 hf
    have hlen' : xs.length=4:=hlen
    match xs,hlen' with
    | [y0,y1,y2,y3],_ =>
      have g0:=hg 0 _ rfl
      have g1:=hg 1 _ rfl
      have g2:=hg 2 _ rfl
      have g3:=hg 3 _ rfl
      simp only [Value.cells,Try.clInt,List.drop_zero,List.drop_succ_cons,List.take_succ_cons,List.take_zero,List.getElem?_cons_zero,List.getElem?_cons_succ] at g0 g1 g2 g3
      obtain ⟨z0,rfl,w0⟩:=one_int g0
      obtain ⟨z1,rfl,w1⟩:=one_int g1
      obtain ⟨z2,rfl,w2⟩:=one_int g2
      obtain ⟨z3,rfl,w3⟩:=one_int g3
      exact ⟨⟨z0,z1,z2,z3⟩,rfl,⟨w0,w1,w2,w3⟩⟩
structure HrV where
  R : Sl Int
  E : Sl ED
def HrV.v (h : HrV) : Value:=.agg #[.slice h.R.A h.R.l.length h.R.c,.slice h.E.A h.E.l.length h.E.c]
theorem clInts : Try.prog.cellsOf 23=1:=by kernel_rfl
theorem clEdges : Try.prog.cellsOf 22=1:=by kernel_rfl
theorem open_hier {r : Reach} {b0 : Nat} {v : Value} {d : DataW H} {p : List MemPlace} (hv : Value.okWide Try.prog w r b0 25 v) (h : DataW.Trod enc Try.prog w base spare held 25 v d p) :
    ∃ q : HrV,v=q.v∧Rd (· < w.heap.size) 1 ienc w q.R∧Rd (· < w.heap.size) 4 ED.enc w q.E:=by
  obtain ⟨cs,rfl,hsz⟩:=okWide_struct Try.underlying25 hv
  obtain ⟨l⟩:=cs
  match l,hsz.trans Try.clHier with
  | [c0,c1],_ =>
    obtain ⟨fuel,hf⟩:=h
    obtain ⟨xs,n,_,hx,_,hlen,hg⟩:=DataW.trod_struct Try.underlying25 hf
    have hlen' : xs.length=2:=hlen
    match xs,hlen' with
    | [y0,y1],_ =>
      have g0:=hg 0 _ rfl
      have g1:=hg 1 _ rfl
      simp only [Value.cells,clInts,clEdges,List.drop_zero,List.drop_succ_cons,List.take_succ_cons,List.take_zero,List.getElem?_cons_zero,List.getElem?_cons_succ] at g0 g1
      obtain ⟨L0,rfl,hL0⟩:=open_intl g0
      obtain ⟨L1,rfl,hL1⟩:=open_edges g1
      exact ⟨⟨L0,L1⟩,rfl,hL0,hL1⟩
end
theorem Try.ownK : ownKnob Try.prog.godebug=none:=by kernel_rfl
theorem Try.laidK : laidOutB Try.prog=true:=by kernel_rfl
end
end Go.Proofs.Ytlbihfbeamlacaa
