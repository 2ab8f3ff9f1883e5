/- Plain: the example of the documentation. -/
import Derived.Test.YtlbihfbeamlacaaHbxbi
import Derived.Test.YtlbihfbeamlacaaHbxbp
set_option linter.unusedSimpArgs false
set_option linter.unusedVariables false
set_option maxRecDepth 100000
set_option maxHeartbeats 6400000
namespace Go.Proofs.Ytlbihfbeamlacaa
open Go.RowKit
def es4 : List ED:=[⟨0,1,2, -1⟩,⟨1,2,2, -1⟩,⟨2,3,1, -1⟩,⟨0,2,9, -1⟩]
def R4 : List Int:=[3,0,1,2]
def E4 : List ED:=[⟨0,1,2, -1⟩,⟨0,2,4,1⟩,⟨0,3,5,2⟩,⟨1,2,2, -1⟩,⟨2,3,1, -1⟩]
theorem bld4 : bldL 4 es4 R4=E4:=by kernel_rfl
theorem graph4 : graphB 4 es4=true:=by kernel_rfl
theorem rkp4 : RkP R4 4:=of_decide_eq_true (by kernel_rfl)
theorem bldV4 : bldV 4 es4 R4=(R4,E4,0):=by
  unfold bldV
  rw [if_pos ⟨graph4,rkp4⟩,show (4 : Int).toNat=4 from rfl,bld4]
theorem chk4 : chkV 4 es4 R4 E4=0:=by
  unfold chkV
  rw [if_pos graph4,bldV4]
  simp
theorem grd4 : GrD 4 es4:=(graphB_ok graph4).2.2.2
theorem hrt4 : HRt 4 es4 (tabK es4 4) R4 E4:=by
  have:=bld_right grd4 (n:=4) (R:=R4) (RkP.ok (n:=4) rkp4) (by omega)
  rw [bld4] at this
  exact this
theorem tab4a : tabK es4 4 0 3=5:=by kernel_rfl
theorem tab4b : tabK es4 4 3 0 = -1:=by kernel_rfl
theorem tab4c : tabK es4 4 2 2=0:=by kernel_rfl
def okS (u w : Nat) : Bool:=!(decide (0≤leastE es4 (u : Int) (w : Int)) && decide (tabK es4 4 (u : Int) (w : Int)=leastE es4 (u : Int) (w : Int))) || (decide (u=0) && decide (w=1)) || (decide (u=1) && decide (w=2)) || (decide (u=2) && decide (w=3))
theorem okS_all : ((List.range 4).all fun u=>(List.range 4).all fun w=>okS u w)=true:=by kernel_rfl
theorem step4 {u w : Int} (hu : Ir 4 u) (hw : Ir 4 w) (h0 : 0≤leastE es4 u w) (h1 : tabK es4 4 u w=leastE es4 u w) : (u=0∧w=1)∨(u=1∧w=2)∨(u=2∧w=3):=by
  unfold Ir at hu hw
  obtain ⟨um,rfl⟩:=Int.eq_ofNat_of_zero_le hu.1
  obtain ⟨wm,rfl⟩:=Int.eq_ofNat_of_zero_le hw.1
  have h2:=List.all_eq_true.1 okS_all um (List.mem_range.2 (by omega))
  have h3:=List.all_eq_true.1 h2 wm (List.mem_range.2 (by omega))
  unfold okS at h3
  rw [decide_eq_true h0,decide_eq_true h1] at h3
  simp only [Bool.and_self,Bool.not_true,Bool.false_or,Bool.or_eq_true,Bool.and_eq_true,decide_eq_true_eq] at h3
  omega
theorem PathP.step {l : List Int} {s t : Int} (h : PathP 4 es4 (tabK es4 4) s t l) (j : Nat) (hj : j+1<l.length) : ((l[j]'(by omega))=0∧l[j+1]=1)∨((l[j]'(by omega))=1∧l[j+1]=2)∨((l[j]'(by omega))=2∧l[j+1]=3):=by
  have h1:=h.adj j hj
  have h2:=h.seg j 1 hj
  rw [preS_succ hj] at h2
  exact step4 (h.rng _ (List.getElem_mem _)) (h.rng _ (List.getElem_mem _)) h1 (by omega)
theorem path4a {l : List Int} (h : PathP 4 es4 (tabK es4 4) 0 3 l) : l=[0,1,2,3]:=by
  have hf:=h.fst
  have hl:=h.lst
  have hn:=h.len
  have hs:=h.step
  match l,hf,hl,hn,hs with
  | [],hf,_,_,_=>simp at hf
  | [a],hf,hl,_,_=>simp at hf hl; omega
  | [a,b],hf,hl,_,hs =>
    have h0:=hs 0 (by simp)
    simp at hf hl h0
    omega
  | [a,b,c],hf,hl,_,hs =>
    have h0:=hs 0 (by simp)
    have h1:=hs 1 (by simp)
    simp at hf hl h0 h1
    omega
  | [a,b,c,d],hf,hl,_,hs =>
    have h0:=hs 0 (by simp)
    have h1:=hs 1 (by simp)
    simp at hf hl h0 h1
    have e1 : a=0:=by omega
    have e2 : b=1:=by omega
    have e3 : c=2:=by omega
    have e4 : d=3:=by omega
    rw [e1,e2,e3,e4]
  | a :: b :: c :: d :: e :: r,_,_,hn,_=>simp at hn
theorem path4b {l : List Int} (h : PathP 4 es4 (tabK es4 4) 2 2 l) : l=[2]:=by
  have hf:=h.fst
  have hl:=h.lst
  have hd:=h.nod
  match l,hf,hl,hd with
  | [],hf,_,_=>simp at hf
  | [a],hf,_,_=>simp at hf; rw [hf]
  | a :: b :: r,hf,hl,hd =>
    exfalso
    have h1 : (a :: b :: r)[(a :: b :: r).length - 1]? = some (((b :: r).getLast (by simp))):=by
      rw [← List.getLast?_eq_getElem?]
      simp [List.getLast?_eq_some_getLast]
    rw [h1] at hl
    have h2 : a=2:=by simpa using hf
    have h3 : (b :: r).getLast (by simp)=2:=by simpa using hl
    have h4:=List.getLast_mem (l:=b :: r) (by simp)
    rw [h3,← h2] at h4
    exact (List.nodup_cons.1 hd).1 h4
end Go.Proofs.Ytlbihfbeamlacaa
