/- Plain: things, of which some have no other values any more. -/
import Derived.Test.YtmomlipmpgcheaaGreatDoorWbxbn
import Derived.Test.YtmomlipmpgcheaaGreatDoorWbxbe
import Derived.ProofKit
import Derived.Deep.Slices
import Derived.Deep.Fields
import Derived.ChangeSame
import Derived.Carry
import Derived.Test.YtmomlipmpgcheaaGreatDoorWbxaw
import Derived.Test.YtmomlipmpgcheaaGreatDoorRows
import Derived.Test.YtmomlipmpgcheaaGreatDoorWbxaf
import Derived.LaidMore
import Derived.OpenShut
import Derived.MakeChecks
set_option linter.unusedSimpArgs false
set_option linter.unusedVariables false
set_option maxRecDepth 100000
set_option maxHeartbeats 6400000
namespace Go.Proofs.YtmomlipmpgcheaaGreatDoor
open Go.RowKit
def fixT (P : Nat→Bool) (l : List TH) : List TH:=l.mapIdx fun i x=>if P i=true then bareT x else x
theorem fixT_len (P : Nat→Bool) (l : List TH) : (fixT P l).length=l.length:=by simp [fixT]
theorem fixT_at (P : Nat→Bool) (l : List TH) (i : Nat) : (fixT P l)[i]? = (l[i]?).map fun x=>if P i=true then bareT x else x:=by simp [fixT]
theorem fixT_cons (P : Nat→Bool) (x : TH) (l : List TH) : fixT P (x :: l)=(if P 0=true then bareT x else x) :: fixT (fun i=>P (i+1)) l:=by simp [fixT,List.mapIdx_cons]
theorem ns_fix (P : Nat→Bool) (l : List TH) : nsT (fixT P l)=zrW P (nsT l):=by
  refine List.ext_getElem? fun i=>?_
  unfold nsT
  rw [zrW_at,List.getElem?_map,List.getElem?_map,fixT_at]
  rcases l[i]? with _ | x
  · rfl
  · simp only [Option.map_some,Option.some.injEq]
    split <;> rfl
inductive FixR : List TH→List TH→Prop
  | nil : FixR [] []
  | cons {x y : TH} {l m : List TH} (h : y=x∨y=bareT x) (t : FixR l m) : FixR (x :: l) (y :: m)
theorem FixR.of (P : Nat→Bool) (l : List TH) : FixR l (fixT P l):=by
  induction l generalizing P with
  | nil=>exact .nil
  | cons x r ih =>
    rw [fixT_cons]
    refine .cons ?_ (ih _)
    split
    · exact .inr rfl
    · exact .inl rfl
theorem FixR.any {x y : TH} (h : y=x∨y=bareT x) {l m : List TH} (hr : FixR l m) : m.any (sameT y)=l.any (sameT x):=by
  induction hr with
  | nil=>rfl
  | cons h2 t ih =>
    rw [List.any_cons,List.any_cons,ih]
    congr 1
    rcases h with rfl | rfl <;> rcases h2 with rfl | rfl <;> rfl
theorem FixR.snoc {x y : TH} (h : y=x∨y=bareT x) {l m : List TH} (hr : FixR l m) : FixR (l ++ [x]) (m ++ [y]):=by
  induction hr with
  | nil=>exact .cons h .nil
  | cons h2 t ih=>exact .cons h2 ih
theorem okT_bare {x : TH} (h : okT x=true) : okT (bareT x)=true:=by
  unfold okT at h ⊢
  rw [Bool.and_eq_true,Bool.and_eq_true] at h
  obtain ⟨h1,h2,_⟩:=h
  have h3 : wideB ((bareT x).v :: (bareT x).o.l)=false:=by
    rcases hw : wideB ((bareT x).v :: (bareT x).o.l) with _ | _
    · rfl
    · exfalso
      unfold wideB at h2 hw
      rw [List.any_cons] at h2 hw
      simp only [bareT,List.any_nil,Bool.or_false] at hw
      rw [Bool.not_eq_true',Bool.or_eq_false_iff] at h2
      have hc:=h2.1.symm.trans hw
      cases hc
  rw [Bool.and_eq_true,Bool.and_eq_true]
  refine ⟨h1,by rw [h3]; rfl, ?_⟩
  simp [bareT]
theorem rightT_fix {l m : List TH} (hr : FixR l m) : ∀ {pre prm : List TH},FixR pre prm→rightT pre l=true→rightT prm m=true:=by
  induction hr with
  | nil=>intro _ _ _ _; unfold rightT; rfl
  | cons h t ih =>
    intro pre prm hp hx
    rw [rightT,Bool.and_eq_true,Bool.and_eq_true] at hx
    rw [rightT,Bool.and_eq_true,Bool.and_eq_true,hp.any h]
    refine ⟨⟨?_,hx.1.2⟩,ih (hp.snoc h) hx.2⟩
    rcases h with rfl | rfl
    · exact hx.1.1
    · exact okT_bare hx.1.1
theorem facT_fix (m : Bool) : ∀ (l : List TH) (P : Nat→Bool) (w : List Nat),(∀ i,P i=true→w.getD i 0=0)→facT m (fixT P l) w=facT m l w
  | [],_,_,_=>rfl
  | x :: r,P,w,h=>by
    have ht : ∀ i,P (i+1)=true→w.tail.getD i 0=0:=fun i hi=>by
      have:=h (i+1) hi
      rcases w with _ | ⟨a,t⟩
      · simp
      · simpa using this
    rw [fixT_cons,facT,facT,facT_fix m r _ _ ht]
    by_cases h0 : P 0=true
    · have hw : w.headD 0=0:=by
        have:=h 0 h0
        rcases w with _ | ⟨a,t⟩
        · rfl
        · simpa using this
      rw [if_pos h0,hw]
      rfl
    · rw [if_neg h0]
theorem ans_fix (L : List LT) (e : PT) (l : List TH) (P : Nat→Bool) {w : List Nat} (h : ValW (zrW P (nsT l)) w) : ansW L e (fixT P l) w=ansW L e l w:=by
  have hz : ∀ i,P i=true→w.getD i 0=0:=fun i hi=>by
    have hs:=zrW_self h
    rw [← hs,zrW_getD,if_pos hi]
  unfold ansW
  rw [facT_fix false l P w hz,facT_fix true l P w hz]
section
variable {ns : List Nat} {F G : List Nat→Bool × Int}
theorem tnL_congr (h : ∀ w,ValW ns w→F w=G w) : tnL ns F=tnL ns G:=by
  unfold tnL
  congr 1
  refine List.filter_congr fun w hw=>?_
  unfold tnB
  rw [h w ((mem_enumW _ _).1 hw),h _ val_zW]
theorem whyL_congr (h : ∀ w,ValW ns w→F w=G w) : whyL ns F=whyL ns G:=by
  unfold whyL whyM
  have : okB ns F=okB ns G:=by funext m; unfold okB; rw [tnL_congr h]
  rw [this]
theorem othW_congr (h : ∀ w,ValW ns w→F w=G w) : othW ns F=othW ns G:=by
  have : othL ns F=othL ns G:=by
    unfold othL
    refine List.filter_congr fun w hw=>?_
    unfold toB
    rw [h w ((mem_enumW _ _).1 hw),h _ val_zW]
  unfold othW
  rw [this]
end
theorem hol_right {L : List LT} {e : PT} {l : List TH} (h : (HolV L e l).2=0) : rightT [] l=true∧HolV L e l=ansW L e l (zW (nsT l)):=by
  unfold HolV at h ⊢
  by_cases hr : rightT [] l=true
  · rw [if_pos hr]; exact ⟨hr,rfl⟩
  · rw [if_neg hr] at h; cases h
theorem hol_fix {L : List LT} {e : PT} {l : List TH} (P : Nat→Bool) (h : (HolV L e l).2=0) : HolV L e (fixT P l)=HolV L e l:=by
  obtain ⟨hr,he⟩:=hol_right h
  rw [he]
  unfold HolV
  rw [if_pos (rightT_fix (FixR.of P l) .nil hr),ns_fix,ans_fix L e l P (val_zW),zW_zr]
theorem why_fix {L : List LT} {e : PT} {l : List TH} (P : Nat→Bool) (h : (HolV L e l).2=0) : WhyV L e (fixT P l)=(whyL (zrW P (nsT l)) (ansW L e l),0):=by
  unfold WhyV
  rw [hol_fix P h,if_neg (fun h'=>h' h),ns_fix,whyL_congr (fun w hw=>ans_fix L e l P hw)]
theorem oth_fix {L : List LT} {e : PT} {l : List TH} (P : Nat→Bool) (h : (HolV L e l).2=0) : OthV L e (fixT P l)=othR (fixT P l) (othW (zrW P (nsT l)) (ansW L e l)):=by
  unfold OthV
  rw [hol_fix P h,if_neg (fun h'=>h' h),ns_fix,othW_congr (fun w hw=>ans_fix L e l P hw)]
theorem meets_fix {L : List LT} {e : PT} {l : List TH} (h : (HolV L e l).2=0) {P : Nat→Bool} (hP : ∀ i,i ∈ whyL (nsT l) (ansW L e l)→P i=true) : WhyV L e (fixT P l)=([],0)∧OthV L e (fixT P l)=([],[],4):=by
  have h0 : (ansW L e l (zW (nsT l))).2=0:=by rw [← (hol_right h).2]; exact h
  obtain ⟨h1,h2⟩:=okB_fixed (P:=P) h0 hP
  rw [why_fix P h,oth_fix P h,h1,h2]
  exact ⟨rfl,rfl⟩
theorem meets_ok {L : List LT} {e : PT} {l : List TH} (h : (HolV L e l).2=0) : ((OthV L e l).2.2=0→∃ i,i ∈ (OthV L e l).1∧i ∈ (WhyV L e l).1)∧((WhyV L e l).1=[]→(OthV L e l).2.2=4)∧((OthV L e l).2.2=0∨(OthV L e l).2.2=4):=by
  have h0 : (ansW L e l (zW (nsT l))).2=0:=by rw [← (hol_right h).2]; exact h
  have hnl : (nsT l).length=l.length:=by simp [nsT]
  have hw : WhyV L e l=(whyL (nsT l) (ansW L e l),0):=by unfold WhyV; rw [if_neg (fun h'=>h' h)]
  have ho : OthV L e l=othR l (othW (nsT l) (ansW L e l)):=by unfold OthV; rw [if_neg (fun h'=>h' h)]
  rw [hw,ho]
  rcases hx : othW (nsT l) (ansW L e l) with _ | x
  · exact ⟨(fun h=>by cases h),(fun _=>rfl),.inr rfl⟩
  · refine ⟨fun _=>?_,fun hn=>?_,.inl rfl⟩
    · obtain ⟨i,h1,h2⟩:=oth_meets h0 hx
      rw [hnl] at h1
      exact ⟨i,h1,h2⟩
    · rw [why_nil h0 hn] at hx
      cases hx
section
open Go.ChangeShapes Go.WideShapes Go.ChangeAt Go.RowKit Go.Deep
section
variable {H : Type} {enc : TypeId × Value→H} {P : Program} {w : World} {base : Nat} {spare : Nat→Bool} {held : Bool}
theorem slice_elems {t e : TypeId} {fuel : Nat} {cs : List Value} {x : DataW H × List MemPlace} (ht : P.underlying t=some (.slice e)) (h : DataW.trod enc P w base spare held fuel t cs=some x) : cs=[.slice none 0 0]∨∃ (a : Addr) (len cap n : Nat),fuel=n+1∧cs=[.slice (some a) len cap]∧len≤cap∧cap≤maxLen∧∀ i,i<len→∃ (cs' : List Value) (y : DataW H × List MemPlace),cs'.length=P.cellsOf e∧(∀ j,j<P.cellsOf e→w.cell? (a.add (i * P.cellsOf e+j))=cs'[j]?)∧DataW.trod enc P w base spare held n e cs'=some y:=by
 rcases DataW.trod_slice ht h with h0 | ⟨a,len,cap,elems,rest,n,hf,rfl,_,_,hl,hm,hlen,hel,_,_⟩
 ·exact .inl h0.1
 ·refine .inr ⟨a,len,cap,n,hf,rfl,hl,hm,fun i hi=>?_⟩;have key:=hel i hi;rw [List.getElem?_eq_getElem Zo] at key;obtain ⟨cs',h1,h2⟩:=Option.bind_eq_some_iff.1 key;obtain ⟨_,hcl,hat⟩:=World.cells?_some h1;exact ⟨cs',_,hcl,fun j hj=>by rw [← hat j hj,add_add],h2⟩
end
theorem list_of {α : Type} {n : Nat} {Q : Nat→α→Prop} (h : ∀ i,i<n→∃ x,Q i x) : ∃ l : List α,l.length=n∧∀ i x,l[i]? = some x→Q i x:=by
 induction n with
 | zero=>exact ⟨[],rfl,fun i x hx=>by simp at hx⟩
 | succ n ih =>
  obtain ⟨l,hl,hq⟩:=ih (fun i hi=>h i Zo);obtain ⟨y,hy⟩:=h n Zo;refine ⟨l ++ [y],by simp [hl],fun i x hx=>?_⟩;rcases Nat.lt_or_ge i l.length with hi | hi
  ·rw [List.getElem?_append_left hi] at hx; exact hq i x hx
  ·rw [List.getElem?_append_right hi] at hx
   have : i - l.length=0:=by
    rcases Nat.eq_zero_or_pos (i - l.length) with h0 | h0
    ·exact h0
    ·rw [List.getElem?_eq_none (by simp; omega)] at hx; cases hx
   rw [this] at hx;simp at hx;subst hx;(have : i=n:=by omega);subst this;exact hy
theorem rd_of {α : Type} {enc : α→List Value} {w : World} {a : Addr} {len cap k : Nat} (hk : ∀ x,(enc x).length=k) (hk0 : 0<k) (hl : len≤cap) (hm : cap≤maxLen) {Q : α→Prop} (h : ∀ i,i<len→∃ x : α,(∀ j,j<k→w.cell? (a.add (i * k+j))=(enc x)[j]?)∧Q x) : ∃ s : Sl α,(.slice (some a) len cap : Value) = .slice s.A s.l.length s.c∧Rd (· < w.heap.size) k enc w s∧∀ x,x ∈ s.l→Q x:=by
 have hq : ∀ i,i<len→∃ z : α,(∃ b o,a=⟨b,o,none⟩∧b<w.heap.size∧Cells w b (o+i * k) (enc z))∧Q z:=fun i hil=>by
  obtain ⟨z,hz,hQ⟩:=h i hil;have h0:=hz 0 hk0;rw [List.getElem?_eq_getElem (by rw [hk]; exact hk0)] at h0;obtain ⟨z0,hz0,_⟩:=h 0 Zo;have h00:=hz0 0 hk0;rw [List.getElem?_eq_getElem (by rw [hk]; exact hk0),Nat.zero_mul,Nat.add_zero] at h00
  have hs : a.spot=none:=by
   obtain ⟨b,off,spot⟩:=a;simpa [Addr.add] using World.cell?_spot h00
  obtain ⟨b,o,sp⟩:=a;simp only at hs;subst hs;rw [Go.WideShapes.add_plain] at h0;refine ⟨z,⟨b,o,rfl,World.block_lt_of_cell? w _ h0,fun j u hu=>?_⟩,hQ⟩;(have hj : j<k:=by rw [← hk z]; exact (List.getElem?_eq_some_iff.1 hu).1);have h1:=hz j hj;rw [Go.WideShapes.add_plain] at h1;rw [Nat.add_assoc,h1,hu]
 obtain ⟨l,hll,hlq⟩:=list_of hq;refine ⟨⟨some a,cap,l⟩,by rw [hll],⟨by simp only; omega,hm,fun h=>(by cases h),fun i x hx=>?_⟩,fun x hx=>?_⟩
 ·obtain ⟨⟨b,o,ha,hb,hc⟩,_⟩:=hlq i x hx;exact ⟨b,o,by rw [ha],hb,hc⟩
 ·obtain ⟨i,hi'⟩:=List.getElem?_of_mem hx;exact (hlq i x hi').2
section
variable {H : Type} {enc : TypeId × Value→H} {w : World} {base : Nat} {spare : Nat→Bool} {held : Bool}
theorem clExp : Tryz.prog.cellsOf 25=5:=by kernel_rfl
theorem clLet : Tryz.prog.cellsOf 56=6:=by kernel_rfl
theorem clFact : Tryz.prog.cellsOf 87=2:=by kernel_rfl
theorem clByl : Tryz.prog.cellsOf 29=25:=by kernel_rfl
theorem clInt : Tryz.prog.cellsOf 3=1:=by kernel_rfl
theorem clStr : Tryz.prog.cellsOf 9=1:=by kernel_rfl
theorem clExps : Tryz.prog.cellsOf 23=1:=by kernel_rfl
theorem clLets : Tryz.prog.cellsOf 22=1:=by kernel_rfl
theorem open_exp5 {fuel : Nat} {cs : List Value} {x : DataW H × List MemPlace} (h : DataW.trod enc Tryz.prog w base spare held fuel 25 cs=some x) : ∃ (o n u : Int) (s : ByteArray) (v : Value) (m : Nat) (y : DataW H × List MemPlace),cs=[.int .i64 o,.int .i64 n,.int .i64 u,.string s,v]∧s.size≤maxLen∧fuel=m+1∧DataW.trod enc Tryz.prog w base spare held m 23 [v]=some y:=by
 obtain ⟨xs,m,hf,_,hlen,hxs,hg⟩:=DataW.trod_struct Tryz.underlying25 h;rw [clExp] at hlen;have hxs' : xs.length=5:=hxs
 match cs,hlen,xs,hxs' with
 | [c0,c1,c2,c3,c4],_,[y0,y1,y2,y3,y4],_ =>
  have g0:=hg 0 _ rfl;have g1:=hg 1 _ rfl;have g2:=hg 2 _ rfl;have g3:=hg 3 _ rfl;have g4:=hg 4 _ rfl;simp only [clInt,clStr,clExps,List.drop_zero,List.drop_succ_cons,List.take_succ_cons,List.take_zero,List.getElem?_cons_zero,List.getElem?_cons_succ] at g0 g1 g2 g3 g4;obtain ⟨z0,e0,_,_⟩:=DataW.trod_int Tryz.underlying3 g0;obtain ⟨z1,e1,_,_⟩:=DataW.trod_int Tryz.underlying3 g1;obtain ⟨z2,e2,_,_⟩:=DataW.trod_int Tryz.underlying3 g2;obtain ⟨z3,e3,_,hz⟩:=DataW.trod_string Tryz.underlying9 g3;injection e0 with e0;injection e1 with e1;injection e2 with e2;injection e3 with e3;subst e0 e1 e2 e3;exact ⟨z0,z1,z2,z3,c4,m,y4,rfl,hz,hf,g4⟩
theorem open_exps : ∀ (fuel : Nat) (v : Value) (x : DataW H × List MemPlace),DataW.trod enc Tryz.prog w base spare held fuel 23 [v]=some x→∃ s : Sl PT,v = .slice s.A s.l.length s.c∧Rd (· < w.heap.size) 5 PT.enc w s∧∀ x,x ∈ s.l→PT.At (· < w.heap.size) w x:=by
 intro fuel
 induction fuel using Nat.strongRecOn with
 | ind fuel ih =>
  intro v x h;rcases slice_elems Tryz.underlying23 h with h0 | ⟨a,len,cap,n,hf,h0,hl,hm,hi⟩
  ·injection h0 with h0;exact ⟨⟨none,0,[]⟩,h0,Rd.nil _ _ _ _,fun x hx=>by cases hx⟩
  ·injection h0 with h0;subst h0;refine rd_of PT.enc_k (by decide) hl hm fun i hil=>?_;obtain ⟨cs',y,hcl,hat,ht⟩:=hi i hil;rw [clExp] at hcl hat;obtain ⟨o,m,u,s,v4,k,y4,rfl,hs,hk,ht4⟩:=open_exp5 ht;obtain ⟨⟨A,c,l⟩,rfl,hr,hall⟩:=ih k Zo v4 y4 ht4;exact ⟨⟨o,m,u,s,A,c,l⟩,hat,.mk (by unfold maxLen at hs; omega) hr hall⟩
theorem open_exp {fuel : Nat} {cs : List Value} {x : DataW H × List MemPlace} (h : DataW.trod enc Tryz.prog w base spare held fuel 25 cs=some x) : ∃ e : PT,cs=e.enc∧PT.At (· < w.heap.size) w e:=by
 obtain ⟨o,n,u,s,v,m,y,rfl,hs,_,ht⟩:=open_exp5 h;obtain ⟨⟨A,c,l⟩,rfl,hr,hall⟩:=open_exps m v y ht;exact ⟨⟨o,n,u,s,A,c,l⟩,rfl,.mk (by unfold maxLen at hs; omega) hr hall⟩
theorem lt_kk : ∀ x : LT,x.enc.length=6 | ⟨_,⟨_,_,_,_,_,_,_⟩⟩=>rfl
theorem open_lets {fuel : Nat} {v : Value} {x : DataW H × List MemPlace} (h : DataW.trod enc Tryz.prog w base spare held fuel 22 [v]=some x) : ∃ s : Sl LT,v = .slice s.A s.l.length s.c∧LetsAt (· < w.heap.size) w s:=by
 rcases slice_elems Tryz.underlying22 h with h0 | ⟨a,len,cap,n,hf,h0,hl,hm,hi⟩
 ·injection h0 with h0;exact ⟨⟨none,0,[]⟩,h0,Rd.nil _ _ _ _,fun x hx=>by cases hx⟩
 ·injection h0 with h0;subst h0
  obtain ⟨s,h1,h2,h3⟩:=rd_of (Q:=LT.At (· < w.heap.size) w) lt_kk (by decide) hl hm fun i hil=>by
   obtain ⟨cs',y,hcl,hat,ht⟩:=hi i hil;rw [clLet] at hcl hat;obtain ⟨xs,m,_,_,_,hxs,hg⟩:=DataW.trod_struct Tryz.underlying56 ht;have hxs' : xs.length=2:=hxs
   match cs',hcl,xs,hxs' with
   | [c0,c1,c2,c3,c4,c5],_,[y0,y1],_ =>
    have g0 : DataW.trod enc Tryz.prog w base spare held m 9 ((([c0,c1,c2,c3,c4,c5] : List Value).drop 0).take (Tryz.prog.cellsOf 9))=([y0,y1] : List (DataW H × List MemPlace))[0]?:=hg 0 _ rfl;have g1 : DataW.trod enc Tryz.prog w base spare held m 25 ((([c0,c1,c2,c3,c4,c5] : List Value).drop 1).take (Tryz.prog.cellsOf 25))=([y0,y1] : List (DataW H × List MemPlace))[1]?:=hg 1 _ rfl;simp only [clStr,clExp,List.drop_zero,List.drop_succ_cons,List.take_succ_cons,List.take_zero,List.getElem?_cons_zero,List.getElem?_cons_succ] at g0 g1;obtain ⟨z0,e0,_,hz⟩:=DataW.trod_string Tryz.underlying9 g0;injection e0 with e0;subst e0;obtain ⟨e,he,hea⟩:=open_exp g1;exact ⟨⟨z0,e⟩,fun j hj=>by rw [hat j hj,LT.enc,← he],⟨by unfold maxLen at hz; simp only; omega,hea⟩⟩
  exact ⟨s,h1,h2,h3⟩
theorem open_facts {fuel : Nat} {v : Value} {x : DataW H × List MemPlace} (h : DataW.trod enc Tryz.prog w base spare held fuel 85 [v]=some x) : ∃ s : Sl FT,v = .slice s.A s.l.length s.c∧FactsAt (· < w.heap.size) w s:=by
 rcases slice_elems Tryz.underlying85 h with h0 | ⟨a,len,cap,n,hf,h0,hl,hm,hi⟩
 ·injection h0 with h0;exact ⟨⟨none,0,[]⟩,h0,Rd.nil _ _ _ _,fun x hx=>by cases hx⟩
 ·injection h0 with h0;subst h0
  obtain ⟨s,h1,h2,h3⟩:=rd_of (Q:=fun x : FT=>x.nm.size≤9223372036854775807) FT.enc_k (by decide) hl hm fun i hil=>by
   obtain ⟨cs',y,hcl,hat,ht⟩:=hi i hil;rw [clFact] at hcl hat;obtain ⟨xs,m,_,_,_,hxs,hg⟩:=DataW.trod_struct Tryz.underlying87 ht;have hxs' : xs.length=2:=hxs
   match cs',hcl,xs,hxs' with
   | [c0,c1],_,[y0,y1],_ =>
    have g0:=hg 0 _ rfl;have g1:=hg 1 _ rfl;simp only [clStr,clInt,List.drop_zero,List.drop_succ_cons,List.take_succ_cons,List.take_zero,List.getElem?_cons_zero,List.getElem?_cons_succ] at g0 g1;obtain ⟨z0,e0,_,hz⟩:=DataW.trod_string Tryz.underlying9 g0;obtain ⟨z1,e1,_,_⟩:=DataW.trod_int Tryz.underlying3 g1;injection e0 with e0;injection e1 with e1;subst e0 e1;exact ⟨⟨z0,z1⟩,hat,by unfold maxLen at hz; simp only; omega⟩
  exact ⟨s,h1,h2,h3⟩
theorem i64_in {x : Int} (h : (Lit.int .i64 x).wf=true) : I64 x:=by
 have h1 : IntKind.i64.min = -9223372036854775808:=rfl;have h2 : IntKind.i64.max=9223372036854775807:=rfl;simp only [Lit.wf,Bool.and_eq_true,decide_eq_true_eq] at h;unfold I64;omega
theorem open_expv {r : Reach} {b0 : Nat} {v : Value} {d : DataW H} {p : List MemPlace} (hv : Value.okWide Tryz.prog w r b0 25 v) (h : DataW.Trod enc Tryz.prog w base spare held 25 v d p) : ∃ e : PT,v=e.v∧PT.At (· < w.heap.size) w e:=by
 obtain ⟨cs,rfl,hsz⟩:=okWide_struct Tryz.underlying25 hv;obtain ⟨fuel,hf⟩:=h;simp only [Value.cells] at hf;obtain ⟨e,he,hat⟩:=open_exp hf;refine ⟨e, ?_,hat⟩;obtain ⟨o,n,u,s,A,c,l⟩:=e;obtain ⟨cl⟩:=cs;simp only [PT.enc] at he;rw [he];rfl
theorem open_byl {r : Reach} {b0 : Nat} {v : Value} {d : DataW H} {p : List MemPlace} (hv : Value.okWide Tryz.prog w r b0 29 v) (h : DataW.Trod enc Tryz.prog w base spare held 29 v d p) : ∃ b : Byl,v=b.v∧Byl.At (· < w.heap.size) w b∧I64 b.q∧I64 b.sh∧I64 b.ch:=by
 obtain ⟨cs,rfl,hsz⟩:=okWide_struct Tryz.underlying29 hv;obtain ⟨l⟩:=cs
 match l,hsz.trans clByl with
 | [c0,c1,c2,c3,c4,c5,c6,c7,c8,c9,c10,c11,c12,c13,c14,c15,c16,c17,c18,c19,c20,c21,c22,c23,c24],_ =>
  obtain ⟨fuel,hf⟩:=h;obtain ⟨xs,n,_,hx,_,hlen,hg⟩:=DataW.trod_struct Tryz.underlying29 hf;have hlen' : xs.length=9:=hlen
  match xs,hlen' with
  | [y0,y1,y2,y3,y4,y5,y6,y7,y8],_ =>
   have g0 : DataW.trod enc Tryz.prog w base spare held n 9 ((([c0,c1,c2,c3,c4,c5,c6,c7,c8,c9,c10,c11,c12,c13,c14,c15,c16,c17,c18,c19,c20,c21,c22,c23,c24] : List Value).drop 0).take (Tryz.prog.cellsOf 9))=([y0,y1,y2,y3,y4,y5,y6,y7,y8] : List (DataW H × List MemPlace))[0]?:=hg 0 _ rfl;have g1 : DataW.trod enc Tryz.prog w base spare held n 22 ((([c0,c1,c2,c3,c4,c5,c6,c7,c8,c9,c10,c11,c12,c13,c14,c15,c16,c17,c18,c19,c20,c21,c22,c23,c24] : List Value).drop 1).take (Tryz.prog.cellsOf 22))=([y0,y1,y2,y3,y4,y5,y6,y7,y8] : List (DataW H × List MemPlace))[1]?:=hg 1 _ rfl;have g2 : DataW.trod enc Tryz.prog w base spare held n 25 ((([c0,c1,c2,c3,c4,c5,c6,c7,c8,c9,c10,c11,c12,c13,c14,c15,c16,c17,c18,c19,c20,c21,c22,c23,c24] : List Value).drop 2).take (Tryz.prog.cellsOf 25))=([y0,y1,y2,y3,y4,y5,y6,y7,y8] : List (DataW H × List MemPlace))[2]?:=hg 2 _ rfl;have g3 : DataW.trod enc Tryz.prog w base spare held n 25 ((([c0,c1,c2,c3,c4,c5,c6,c7,c8,c9,c10,c11,c12,c13,c14,c15,c16,c17,c18,c19,c20,c21,c22,c23,c24] : List Value).drop 7).take (Tryz.prog.cellsOf 25))=([y0,y1,y2,y3,y4,y5,y6,y7,y8] : List (DataW H × List MemPlace))[3]?:=hg 3 _ rfl;have g4 : DataW.trod enc Tryz.prog w base spare held n 25 ((([c0,c1,c2,c3,c4,c5,c6,c7,c8,c9,c10,c11,c12,c13,c14,c15,c16,c17,c18,c19,c20,c21,c22,c23,c24] : List Value).drop 12).take (Tryz.prog.cellsOf 25))=([y0,y1,y2,y3,y4,y5,y6,y7,y8] : List (DataW H × List MemPlace))[4]?:=hg 4 _ rfl;have g5 : DataW.trod enc Tryz.prog w base spare held n 25 ((([c0,c1,c2,c3,c4,c5,c6,c7,c8,c9,c10,c11,c12,c13,c14,c15,c16,c17,c18,c19,c20,c21,c22,c23,c24] : List Value).drop 17).take (Tryz.prog.cellsOf 25))=([y0,y1,y2,y3,y4,y5,y6,y7,y8] : List (DataW H × List MemPlace))[5]?:=hg 5 _ rfl;have g6 : DataW.trod enc Tryz.prog w base spare held n 3 ((([c0,c1,c2,c3,c4,c5,c6,c7,c8,c9,c10,c11,c12,c13,c14,c15,c16,c17,c18,c19,c20,c21,c22,c23,c24] : List Value).drop 22).take (Tryz.prog.cellsOf 3))=([y0,y1,y2,y3,y4,y5,y6,y7,y8] : List (DataW H × List MemPlace))[6]?:=hg 6 _ rfl;have g7 : DataW.trod enc Tryz.prog w base spare held n 3 ((([c0,c1,c2,c3,c4,c5,c6,c7,c8,c9,c10,c11,c12,c13,c14,c15,c16,c17,c18,c19,c20,c21,c22,c23,c24] : List Value).drop 23).take (Tryz.prog.cellsOf 3))=([y0,y1,y2,y3,y4,y5,y6,y7,y8] : List (DataW H × List MemPlace))[7]?:=hg 7 _ rfl;have g8 : DataW.trod enc Tryz.prog w base spare held n 3 ((([c0,c1,c2,c3,c4,c5,c6,c7,c8,c9,c10,c11,c12,c13,c14,c15,c16,c17,c18,c19,c20,c21,c22,c23,c24] : List Value).drop 24).take (Tryz.prog.cellsOf 3))=([y0,y1,y2,y3,y4,y5,y6,y7,y8] : List (DataW H × List MemPlace))[8]?:=hg 8 _ rfl;simp only [Value.cells,clInt,clStr,clExp,clLets,List.drop_zero,List.drop_succ_cons,List.take_succ_cons,List.take_zero,List.getElem?_cons_zero,List.getElem?_cons_succ] at g0 g1 g2 g3 g4 g5 g6 g7 g8;obtain ⟨z0,e0,_,hz⟩:=DataW.trod_string Tryz.underlying9 g0;obtain ⟨L,rfl,hL⟩:=open_lets g1;obtain ⟨⟨o2,n2,u2,s2,A2,k2,l2⟩,e2,h2⟩:=open_exp g2;obtain ⟨⟨o3,n3,u3,s3,A3,k3,l3⟩,e3,h3⟩:=open_exp g3;obtain ⟨⟨o4,n4,u4,s4,A4,k4,l4⟩,e4,h4⟩:=open_exp g4;obtain ⟨⟨o5,n5,u5,s5,A5,k5,l5⟩,e5,h5⟩:=open_exp g5;obtain ⟨z6,e6,_,w6⟩:=DataW.trod_int Tryz.underlying3 g6;obtain ⟨z7,e7,_,w7⟩:=DataW.trod_int Tryz.underlying3 g7;obtain ⟨z8,e8,_,w8⟩:=DataW.trod_int Tryz.underlying3 g8;simp only [PT.enc,List.cons.injEq,and_true] at e2 e3 e4 e5;obtain ⟨rfl,rfl,rfl,rfl,rfl⟩:=e2;obtain ⟨rfl,rfl,rfl,rfl,rfl⟩:=e3;obtain ⟨rfl,rfl,rfl,rfl,rfl⟩:=e4;obtain ⟨rfl,rfl,rfl,rfl,rfl⟩:=e5;injection e0 with e0;injection e6 with e6;injection e7 with e7;injection e8 with e8;subst e0 e6 e7 e8;refine ⟨⟨z0,L,⟨o2,n2,u2,s2,A2,k2,l2⟩,⟨o3,n3,u3,s3,A3,k3,l3⟩,⟨o4,n4,u4,s4,A4,k4,l4⟩,⟨o5,n5,u5,s5,A5,k5,l5⟩,z6,z7,z8⟩,rfl,⟨by unfold maxLen at hz; simp only; omega,hL,h2,h3,h4,h5⟩, ?_, ?_, ?_⟩
   ·exact i64_in w6
   ·exact i64_in w7
   ·exact i64_in w8
end
end
section
open Go.ChangeShapes Go.WideShapes Go.ChangeAt Go.RowKit Go.Deep
section
variable {H : Type} {enc : TypeId × Value→H} {w : World} {base : Nat} {spare : Nat→Bool} {held : Bool}
theorem open_ints {fuel : Nat} {v : Value} {x : DataW H × List MemPlace} (h : DataW.trod enc Tryz.prog w base spare held fuel 37 [v]=some x) : ∃ s : Sl Int,v = .slice s.A s.l.length s.c∧Rd (· < w.heap.size) 1 ienc w s:=by
 rcases slice_elems Tryz.underlying37 h with h0 | ⟨a,len,cap,n,hf,h0,hl,hm,hi⟩
 ·injection h0 with h0;exact ⟨⟨none,0,[]⟩,h0,Rd.nil _ _ _ _⟩
 ·injection h0 with h0;subst h0
  obtain ⟨s,h1,h2,h3⟩:=rd_of (Q:=fun _ : Int=>True) ienc_k (by decide) hl hm fun i hil=>by
   obtain ⟨cs',y,hcl,hat,ht⟩:=hi i hil;rw [clInt] at hcl hat;obtain ⟨z,e,_,_⟩:=DataW.trod_int Tryz.underlying3 ht;subst e;exact ⟨z,hat,trivial⟩
  exact ⟨s,h1,h2⟩
end
end
section
open Go.ChangeShapes Go.WideShapes Go.ChangeAt Go.RowKit Go.Deep
section
variable {H : Type} {enc : TypeId × Value→H} {w : World} {base : Nat} {spare : Nat→Bool} {held : Bool}
theorem clTh46 : Tryz.prog.cellsOf 53=4:=by kernel_rfl
theorem clBoolW : Tryz.prog.cellsOf 4=1:=by kernel_rfl
theorem clIntsW : Tryz.prog.cellsOf 37=1:=by kernel_rfl
theorem open_things {fuel : Nat} {v : Value} {x : DataW H × List MemPlace} (h : DataW.trod enc Tryz.prog w base spare held fuel 26 [v]=some x) :
    ∃ s : Sl TH,v = .slice s.A s.l.length s.c∧ThsAt (· < w.heap.size) w s:=by
  rcases slice_elems Tryz.underlying26 h with h0 | ⟨a,len,cap,n,hf,h0,hl,hm,hi⟩
  · injection h0 with h0
    exact ⟨⟨none,0,[]⟩,h0,Rd.nil _ _ _ _,fun x hx=>by cases hx⟩
  · injection h0 with h0
    subst h0
    obtain ⟨s,h1,h2,h3⟩:=rd_of (Q:=fun x : TH=>TH.At (· < w.heap.size) w x) TH.enc_k (by decide) hl hm fun i hil=>by
      obtain ⟨cs',y,hcl,hat,ht⟩:=hi i hil
      rw [clTh46] at hcl hat
      obtain ⟨xs,m,_,_,_,hxs,hg⟩:=DataW.trod_struct Tryz.underlying53 ht
      have hxs' : xs.length=4:=hxs
      match cs',hcl,xs,hxs' with
      | [c0,c1,c2,c3],_,[y0,y1,y2,y3],_ =>
        have g0:=hg 0 _ rfl
        have g1:=hg 1 _ rfl
        have g2:=hg 2 _ rfl
        have g3:=hg 3 _ rfl
        simp only [clBoolW,clStr,clInt,clIntsW,List.drop_zero,List.drop_succ_cons,List.take_succ_cons,List.take_zero,List.getElem?_cons_zero,List.getElem?_cons_succ] at g0 g1 g2 g3
        obtain ⟨z0,e0,_⟩:=DataW.trod_bool Tryz.underlying4 g0
        obtain ⟨z1,e1,_,hz⟩:=DataW.trod_string Tryz.underlying9 g1
        obtain ⟨z2,e2,_,_⟩:=DataW.trod_int Tryz.underlying3 g2
        obtain ⟨s3,rfl,hs3⟩:=open_ints g3
        injection e0 with e0
        injection e1 with e1
        injection e2 with e2
        subst e0 e1 e2
        exact ⟨⟨z0,z1,z2,s3⟩,hat,⟨by unfold maxLen at hz; simp only; omega,hs3⟩⟩
    exact ⟨s,h1,h2,h3⟩
end
end
section
open Go.ChangeShapes Go.WideShapes Go.ChangeAt Go.RowKit
theorem Tryz.ownK : ownKnob Tryz.prog.godebug=none:=by kernel_rfl
theorem Tryz.laidK : laidOutB Tryz.prog=true:=by kernel_rfl
def laidS : List (String × DataW Unit):=[("math/bits.deBruijn32tab", Rows.laid_math_bits_deBruijn32tab),("math/bits.deBruijn64tab", Rows.laid_math_bits_deBruijn64tab)]
theorem gTab : Tryz.prog.globalNamed "math/bits.deBruijn64tab" = some 1:=by kernel_rfl
theorem tTab : (Tryz.prog.globals[1]?).map (·.type)=some 147:=by kernel_rfl
theorem cTab : Tryz.prog.cellsOf 5=1:=by kernel_rfl
theorem door_met (os : Os) (args : Array Value) : laidMetH Tryz.prog laidS ((World.doorLaid Tryz.prog 400 os).forCall (fun _ _=>0) ⟨#[],args,[]⟩).memory :=
  laidMetH_of_parts3 (fuel:=8) (laidMet_of_run' 8 (by kernel_rfl) (by kernel_rfl)) (by kernel_rfl) (by kernel_rfl)
theorem sig_of_laid {W : World} (h : laidMetH Tryz.prog laidS W) : TabW W:=by
  rw [MakeChecks.laidMetH_plain _ _ _ (by kernel_rfl)] at h
  obtain ⟨ps,⟨g9,t9,cs9,f9,p9,q9,_,_,_,_,⟨g0,t0,cs0,f0,p0,q0,hg0,ht0,hv0,hd0,_,_⟩,_⟩,_,_⟩:=h
  obtain rfl:=Option.some.inj (gTab.symm.trans hg0)
  obtain rfl:=Option.some.inj (tTab.symm.trans ht0)
  obtain ⟨xs,m1,rfl,hx1,hlen,hn,hel⟩:=DataW.trod_array Tryz.underlying147 hd0
  simp only [cTab] at hel
  simp only [Prod.mk.injEq] at hx1
  have hx:=hx1.1
  unfold Rows.laid_math_bits_deBruijn64tab at hx
  simp only [DataW.agg.injEq] at hx
  have hcell : ∀ i,W.cell? ⟨1,i,none⟩=cs0[i]?:=fun i=>World.var?_cell hg0 hv0 i
  have key : ∀ i,i<64→∃ z : Int,cs0[i]? = some (.int .u8 z)∧(xs.map (·.1))[i]? = some (.lit (.int .u8 z)):=fun i hi=>by
    have h1:=hel i hi
    rw [Nat.mul_one] at h1
    cases hxi : xs[i]? with
    | none=>rw [List.getElem?_eq_none_iff] at hxi; omega
    | some x =>
      rw [hxi] at h1
      obtain ⟨s,e1,e2,_⟩:=DataW.trod_int Tryz.underlying5 h1
      refine ⟨s, ?_,by rw [List.getElem?_map,hxi,e2]; rfl⟩
      have h2 : (cs0.toList.drop i)[0]? = some (.int .u8 s):=by
        have:=congrArg (·[0]?) e1
        simpa [List.getElem?_take] using this
      rw [List.getElem?_drop,Nat.add_zero] at h2
      simpa using h2
  rw [← hx] at key
  clear hel hx hx1 hd0 hv0
  refine ⟨?_, ?_, ?_, ?_⟩
  · rw [hcell]
    obtain ⟨s,h1,h2⟩:=key 0 (by decide)
    simp only [List.getElem?_cons_zero,List.getElem?_cons_succ,Option.some.injEq,DataW.lit.injEq,Lit.int.injEq,true_and] at h2
    rw [h1,← h2]
  · rw [hcell]
    obtain ⟨s,h1,h2⟩:=key 1 (by decide)
    simp only [List.getElem?_cons_zero,List.getElem?_cons_succ,Option.some.injEq,DataW.lit.injEq,Lit.int.injEq,true_and] at h2
    rw [h1,← h2]
  · rw [hcell]
    obtain ⟨s,h1,h2⟩:=key 3 (by decide)
    simp only [List.getElem?_cons_zero,List.getElem?_cons_succ,Option.some.injEq,DataW.lit.injEq,Lit.int.injEq,true_and] at h2
    rw [h1,← h2]
  · rw [hcell]
    obtain ⟨s,h1,h2⟩:=key 7 (by decide)
    simp only [List.getElem?_cons_zero,List.getElem?_cons_succ,Option.some.injEq,DataW.lit.injEq,Lit.int.injEq,true_and] at h2
    rw [h1,← h2]
end
end Go.Proofs.YtmomlipmpgcheaaGreatDoor
