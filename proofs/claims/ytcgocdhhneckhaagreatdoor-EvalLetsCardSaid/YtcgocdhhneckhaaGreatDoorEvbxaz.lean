/- The plain law of EvalLets: a further let that nothing names; a further fact. -/
import Derived.Test.YtcgocdhhneckhaaGreatDoorEvbxay
import Derived.Test.YtcgocdhhneckhaaGreatDoorEvbxaw
set_option linter.unusedSimpArgs false
set_option linter.unusedVariables false
set_option maxRecDepth 100000
set_option maxHeartbeats 6400000
namespace Go.Proofs.YtcgocdhhneckhaaGreatDoor
open Go.RowKit
inductive NotS (s : ByteArray) : PT→Prop
  | mk {o n u : Int} {x : ByteArray} {A : Option Addr} {c : Nat} {l : List PT} : sameB x s=false→(∀ y,y ∈ l→NotS s y)→NotS s ⟨o,n,u,x,A,c,l⟩
theorem NotS.kid {s x : ByteArray} {o n u : Int} {A : Option Addr} {c : Nat} {l : List PT} (h : NotS s ⟨o,n,u,x,A,c,l⟩) : ∀ y,y ∈ l→NotS s y:=by cases h with | mk _ h=>exact h
theorem NotS.own {s x : ByteArray} {o n u : Int} {A : Option Addr} {c : Nat} {l : List PT} (h : NotS s ⟨o,n,u,x,A,c,l⟩) : sameB x s=false:=by cases h with | mk h _=>exact h
theorem evE_not {s0 : ByteArray} {T T' M : List FT} {lk lk' : ByteArray→FrR} (hk : ∀ s,sameB s s0=false→lk s=lk' s) (hT : ∀ s,sameB s s0=false→factF s T=factF s T') : ∀ k e,NotS s0 e→evE lk T M k e=evE lk' T' M k e
 | 0,_,_=>rfl
 | k+1,⟨p,n,u,x,A,c,l⟩,hn=>by
  have hl : l.map (evE lk T M k)=l.map (evE lk' T' M k):=List.map_congr_left fun y hy=>evE_not hk hT k y (hn.kid y hy);unfold evE;split
  ·rfl
  split
  ·exact hk x hn.own
  split
  ·exact hT x hn.own
  split
  ·rfl
  rw [hl]
theorem get_appL {L A : List LT} {k : Nat} (h : k<L.length) : (L ++ A)[k]? = L[k]?:=List.getElem?_append_left h
theorem take_appL {L A : List LT} {k : Nat} (h : k≤L.length) : (L ++ A).take k=L.take k:=List.take_append_of_le_length h
theorem lvN_appL {T M : List FT} {L A : List LT} : ∀ k,k≤L.length→lvN T M (L ++ A) k=lvN T M L k
 | 0,_=>rfl
 | k+1,h=>by
  unfold lvN;rw [get_appL (A:=A) (by omega : k<L.length),take_appL (A:=A) (by omega : k≤L.length),lvN_appL k Zo]
theorem lvN_end {T M : List FT} {L : List LT} {y : LT} : lvN T M (L ++ [y]) (L ++ [y]).length=lvN T M L L.length ++ [evN T M L L.length 12 y.b]:=by
 rw [List.length_append];simp only [List.length_cons,List.length_nil,Nat.zero_add];rw [lvN_succ T M (x:=y) Zs,lvN_appL _ Zl,take_appL Zl];rfl
theorem lvN_facts {s0 : ByteArray} {T T' M : List FT} (hT : ∀ s,sameB s s0=false→factF s T=factF s T') {L : List LT} (hL : ∀ x,x ∈ L→NotS s0 x.b) : ∀ k,lvN T M L k=lvN T' M L k
 | 0=>rfl
 | k+1=>by
  have ih:=lvN_facts (M:=M) hT hL k;unfold lvN;rw [ih];cases hx : L[k]? with
  | none=>rfl
  | some x=>simp only; rw [evE_not (fun _ _=>rfl) hT 12 x.b (hL x (List.mem_of_getElem? hx))]
theorem lkF_skip {s : ByteArray} {y : LT} {u : FrR} (hy : sameB y.nm s=false) : ∀ {L : List LT} {U : List FrR},L.length=U.length→lkF s (L ++ [y]) (U ++ [u])=lkF s L U
 | [],[],_=>by simp only [List.nil_append]; unfold lkF; rw [if_neg (by rw [hy]; decide)]; unfold lkF; rfl
 | [],u :: U,h=>by simp at h
 | x :: L,[],h=>by simp at h
 | x :: L,u :: U,h=>by
  simp only [List.cons_append];unfold lkF;split
  ·rfl
  ·exact lkF_skip hy (by simpa using h)
theorem lkF_lastN {s : ByteArray} {y : LT} {u : FrR} (hy : sameB y.nm s=true) : ∀ {L : List LT} {U : List FrR},L.length=U.length→(∀ x,x ∈ L→sameB x.nm s=false)→lkF s (L ++ [y]) (U ++ [u])=u
 | [],[],_,_=>by simp only [List.nil_append]; unfold lkF; rw [if_pos hy]
 | [],u :: U,h,_=>by simp at h
 | x :: L,[],h,_=>by simp at h
 | x :: L,u :: U,h,hs=>by
  simp only [List.cons_append];unfold lkF;rw [if_neg (by rw [hs x (List.mem_cons_self ..)]; decide)];exact lkF_lastN hy (by simpa using h) fun z hz=>hs z (List.mem_cons_of_mem _ hz)
def sFRESH : ByteArray:=⟨#[102,114,101,115,104]⟩
theorem fresh_name : nameB sFRESH=true:=by kernel_rfl
def nmP (s : ByteArray) : PT:=⟨1,0,0,s,none,0,[]⟩
theorem fresh_rexp : rexp (nmP sFRESH)=true:=by kernel_rfl
theorem same_comm {a b : ByteArray} : sameB a b=sameB b a:=by unfold sameB; exact Bool.beq_comm
section
variable {L : List LT} {e : PT} {T M : List FT}
theorem all_end (f : PT) : (L ++ [(⟨sFRESH,f⟩ : LT)]).all (fun y=>rexp y.b)=(L.all (fun y=>rexp y.b) && rexp f):=by rw [List.all_append]; simp
theorem lets_name (h5 : L.length≤5) (hno : ∀ x,x ∈ L→sameB x.nm sFRESH=false) : evalF (L ++ [⟨sFRESH,e⟩]) (nmP sFRESH) T M=evalF L e T M:=by
 unfold evalF;rw [all_end e];by_cases h : rexp e=true∧L.all (fun y=>rexp y.b)=true∧factsB T=true∧factsB M=true
 ·obtain ⟨h1,h2,h3,h4⟩:=h;rw [if_pos ⟨fresh_rexp,by rw [List.length_append]; simp; omega,by rw [h1,h2]; rfl,h3,h4⟩,if_pos ⟨h1,by omega,h2,h3,h4⟩];have hn : ∀ n,evN T M (L ++ [(⟨sFRESH,e⟩ : LT)]) n 12 (nmP sFRESH)=lkF sFRESH ((L ++ [(⟨sFRESH,e⟩ : LT)]).take n) (lvN T M (L ++ [(⟨sFRESH,e⟩ : LT)]) n):=fun _=>rfl;rw [hn,lvN_end,List.take_length];exact lkF_lastN Zy (by rw [lvN_len T M L _ Zl]) hno
 ·rw [if_neg (fun h'=>h (by
   obtain ⟨_,_,h2,h3,h4⟩:=h';rw [Bool.and_eq_true] at h2;exact ⟨h2.2,h2.1,h3,h4⟩)),if_neg (fun h'=>h ⟨h'.1,h'.2.2⟩)]
theorem lets_same (h5 : L.length≤5) (hne : NotS sFRESH e) : evalF (L ++ [⟨sFRESH,e⟩]) e T M=evalF L e T M:=by
 unfold evalF;rw [all_end e];by_cases h : rexp e=true∧L.all (fun y=>rexp y.b)=true∧factsB T=true∧factsB M=true
 ·obtain ⟨h1,h2,h3,h4⟩:=h;rw [if_pos ⟨h1,by rw [List.length_append]; simp; omega,by rw [h1,h2]; rfl,h3,h4⟩,if_pos ⟨h1,by omega,h2,h3,h4⟩];unfold evN;refine evE_not (s0:=sFRESH) (fun s hs=>?_) (fun _ _=>rfl) 12 e hne;rw [lvN_end,List.take_length,List.take_length];exact lkF_skip (by rw [same_comm]; exact hs) (by rw [lvN_len T M L _ Zl])
 ·rw [if_neg (fun h'=>h (by
   obtain ⟨h1,_,h2,h3,h4⟩:=h';rw [Bool.and_eq_true] at h2;exact ⟨h1,h2.1,h3,h4⟩)),if_neg (fun h'=>h ⟨h'.1,h'.2.2⟩)]
theorem factF_end {s s0 : ByteArray} {v : Int} (h : sameB s s0=false) : ∀ T : List FT,factF s (T ++ [⟨s0,v⟩])=factF s T
 | []=>by
  simp only [List.nil_append];exact factF_none (fun x hx=>by rw [List.mem_singleton.1 hx]; exact same_comm.trans h)
 | x :: T=>by
  simp only [List.cons_append];unfold factF;rw [factF_end h T]
theorem factsB_end {v : Int} (h : factsB T=true) (hl : T.length≤19) (h0 : -1000000000000000≤v) (h1 : v≤1000000000000000) : factsB (T ++ [⟨sFRESH,v⟩])=true:=by
 unfold factsB at h ⊢;rw [Bool.and_eq_true] at h ⊢;refine ⟨by rw [List.length_append]; simp; omega, ?_⟩;rw [List.all_append,h.2];simp only [List.all_cons,List.all_nil,Bool.and_true,Bool.true_and,fresh_name,Bool.and_eq_true,decide_eq_true_eq];exact ⟨h0,h1⟩
theorem lets_fact {v : Int} (hne : NotS sFRESH e) (hL : ∀ x,x ∈ L→NotS sFRESH x.b) (hl : T.length≤19) (h0 : -1000000000000000≤v) (h1 : v≤1000000000000000) (hok : (evalF L e T M).e≠1) : evalF L e (T ++ [⟨sFRESH,v⟩]) M=evalF L e T M:=by
 by_cases h : rexp e=true∧(L.length : Int)≤20∧L.all (fun x=>rexp x.b)=true∧factsB T=true∧factsB M=true
 ·have hT : ∀ s,sameB s sFRESH=false→factF s (T ++ [⟨sFRESH,v⟩])=factF s T:=fun s hs=>factF_end hs T;rw [evalF_ok h,evalF_ok ⟨h.1,h.2.1,h.2.2.1,factsB_end h.2.2.2.1 hl h0 h1,h.2.2.2.2⟩];unfold evN;rw [lvN_facts hT hL];exact evE_not (fun _ _=>rfl) hT 12 e hne
 ·exact absurd (by rw [evalF_arg h]; rfl) hok
end
def bs (l : List UInt8) : ByteArray:=⟨l.toArray⟩
theorem bs_list (s : ByteArray) : bs s.data.toList=s:=by cases s; simp [bs]
structure TK where
  k : Int
  t : ByteArray
  n : Int
  p : Int
def TK.enc (x : TK) : List Value:=[.int .i64 x.k,.string x.t,.int .i64 x.n,.int .i64 x.p]
theorem TK.enc_k (x : TK) : x.enc.length=4:=rfl
def TK.v (x : TK) : Value:=.agg #[.int .i64 x.k,.string x.t,.int .i64 x.n,.int .i64 x.p]
def TK.zero : TK:=⟨0,⟨#[]⟩,0,0⟩
def blankC (c : Int) : Bool:=decide (c=32) || (decide (c=9) || decide (c=10))
def spanL (f : Int→Bool) : List UInt8→Nat
  | []=>0
  | c :: r=>if f (c.toNat : Int)=true then spanL f r+1 else 0
def digitsN : Int→List UInt8→Int
  | n,[]=>n
  | n,c :: r=>digitsN (10 * n+((c.toNat : Int) - 48)) r
def numL (l : List UInt8) : Int × Bool :=
  if l=[] then (0,false)
  else if spanL digC l≠l.length then (0,false)
  else if l.head? = some 48∧l≠[48] then (0,false)
  else if 16<l.length then (0,false)
  else if 1000000000000000<digitsN 0 l then (0,false)
  else (digitsN 0 l,true)
def signsL : List (List UInt8):=[[61,61],[59],[44],[61],[60],[43],[45],[42],[47],[40],[41]]
def preL : List UInt8→List UInt8→Bool
  | _,[]=>true
  | [],_ :: _=>false
  | x :: a,y :: b=>x == y && preL a b
def nextL (l : List UInt8) : TK × Int :=
  match l with
  | []=>(TK.zero,10)
  | c :: _ =>
    if letC (c.toNat : Int)=true then
      let t:=l.take (spanL ldC l)
      if wordB (bs t)=true then (⟨0,bs t,0,0⟩,0) else (TK.zero,11)
    else if digC (c.toNat : Int)=true then
      let t:=l.take (spanL digC l)
      if (numL t).2=true then (⟨1,bs t,(numL t).1,0⟩,0) else (TK.zero,3)
    else match signsL.find? (fun x=>preL l x) with
      | some x=>(⟨2,bs x,0,0⟩,0)
      | none=>(TK.zero,10)
def lexL : Nat→Nat→List UInt8→List TK × Int × Int
  | 0,_,_=>([],0,1)
  | f+1,at_,l =>
    let b:=spanL blankC l
    let m:=l.drop b
    if m=[] then ([⟨3,⟨#[]⟩,0,((at_+b : Nat) : Int)⟩],0,0)
    else if (nextL m).2≠0 then ([],((at_+b : Nat) : Int),(nextL m).2)
    else
      let t:=(nextL m).1
      let r:=lexL f (at_+b+t.t.size) (m.drop t.t.size)
      if r.2.2≠0 then ([],r.2) else ({ t with p:=((at_+b : Nat) : Int) } :: r.1,0,0)
def lexT (l : List UInt8) : List TK × Int × Int:=if 4000<l.length then ([],0,6) else lexL (l.length+1) 0 l
inductive PS where
  | mk (o n u : Int) (s : ByteArray) (l : List PS) : PS
inductive PX (α : Type) where
  | ok (a : α) (r : List TK) : PX α
  | stop (p e : Int) : PX α
def posT : List TK→Int
  | t :: _=>t.p
  | []=>0
def isT (s : ByteArray) : List TK→Bool
  | t :: _=>!decide (t.k=3) && (t.t.toList == s.toList)
  | []=>false
def wantT (s : ByteArray) (r : List TK) : PX Unit:=if isT s r=true then .ok () r.tail else .stop (posT r) 12
def namedT : List TK→Bool
  | t :: _=>decide (t.k=0) && nameB t.t
  | []=>false
def textT : List TK→ByteArray
  | t :: _=>t.t
  | []=>⟨#[]⟩
def nameT (r : List TK) : PX ByteArray:=if namedT r=true then .ok (textT r) r.tail else .stop (posT r) 12
def unitT (r : List TK) : Int × List TK:=if isT ⟨#[99,101,110,116,115]⟩ r=true then (1,r.tail) else if isT ⟨#[109,105,110,117,116,101,115]⟩ r=true then (2,r.tail) else (0,r)
def opsL : List (ByteArray × Int × Int):=[(⟨#[111,114]⟩,14,1),(⟨#[97,110,100]⟩,13,2),(⟨#[61,61]⟩,11,4),(⟨#[60]⟩,10,4),(⟨#[43]⟩,4,5),(⟨#[45]⟩,5,5),(⟨#[42]⟩,6,6),(⟨#[47]⟩,7,6)]
def opT (r : List TK) : Option (Int × Int):=(opsL.find? (fun o=>isT o.1 r)).map (·.2)
def PX.bind {α β : Type} : PX α→(α→List TK→PX β)→PX β
  | .ok a r,f=>f a r
  | .stop p e,_=>.stop p e
def empS : ByteArray:=⟨#[]⟩
inductive Tg where
  | exp (form : Int) : Tg
  | pre (form : Int) : Tg
  | prim : Tg
  | loop (form own : Int) (e : PS) : Tg
def pR : Nat→Tg→List TK→PX (PS × Int)
  | 0,_,r=>.stop (posT r) 1
  | f+1,.exp form,r=>(pR f (.pre form) r).bind fun x r=>pR f (.loop form x.2 x.1) r
  | f+1,.pre form,r =>
    if form=0∧isT ⟨#[105,102]⟩ r=true then
      (pR f (.exp 0) r.tail).bind fun a r=>(wantT ⟨#[116,104,101,110]⟩ r).bind fun _ r =>
      (pR f (.exp 0) r).bind fun b r=>(wantT ⟨#[101,108,115,101]⟩ r).bind fun _ r =>
      (pR f (.exp 0) r).bind fun c r=>.ok (.mk 15 0 0 empS [a.1,b.1,c.1],0) r
    else if form≤3∧isT ⟨#[110,111,116]⟩ r=true then
      (pR f (.exp 3) r.tail).bind fun a r=>.ok (.mk 12 0 0 empS [a.1],3) r
    else (pR f .prim r).bind fun a r=>.ok (a.1,7) r
  | f+1,.prim,r =>
    match r with
    | []=>.stop 0 12
    | t :: r' =>
      if t.k=1 then .ok (.mk 0 t.n (unitT r').1 empS [],7) (unitT r').2
      else if isT ⟨#[116,114,117,101]⟩ r=true then .ok (.mk 0 1 3 empS [],7) r.tail
      else if isT ⟨#[102,97,108,115,101]⟩ r=true then .ok (.mk 0 0 3 empS [],7) r.tail
      else if isT ⟨#[116,114,105,112]⟩ r=true then (nameT r.tail).bind fun s r=>.ok (.mk 2 0 0 s [],7) r
      else if isT ⟨#[109,101,109,98,101,114]⟩ r=true then (nameT r.tail).bind fun s r=>.ok (.mk 3 0 0 s [],7) r
      else if isT ⟨#[109,105,110]⟩ r=true∨isT ⟨#[109,97,120]⟩ r=true then
        (wantT ⟨#[40]⟩ r.tail).bind fun _ q=>(pR f (.exp 0) q).bind fun a q=>(wantT ⟨#[44]⟩ q).bind fun _ q=>(pR f (.exp 0) q).bind fun b q=>(wantT ⟨#[41]⟩ q).bind fun _ q =>
        .ok (.mk (if isT ⟨#[109,97,120]⟩ r=true then 9 else 8) 0 0 empS [a.1,b.1],7) q
      else if isT ⟨#[40]⟩ r=true then (pR f (.exp 0) r.tail).bind fun a q=>(wantT ⟨#[41]⟩ q).bind fun _ q=>.ok (a.1,7) q
      else (nameT r).bind fun s q=>.ok (.mk 1 0 0 s [],7) q
  | f+1,.loop form own e,r =>
    match opT r with
    | none=>.ok (e,own) r
    | some (op,fm) =>
      if fm<form∨own<fm∨(own=4∧fm=4) then .ok (e,own) r
      else (pR f (.exp (fm+1)) r.tail).bind fun b q=>pR f (.loop form fm (.mk op 0 0 empS [e,b.1])) q
noncomputable def levL : PS→Nat:=PS.rec (motive_1:=fun _=>Nat) (motive_2:=fun _=>Nat) (fun _ _ _ _ _ ih=>ih+1) 0 (fun _ _ a b=>max a b)
def maxL : List Nat→Nat
  | []=>0
  | a :: l=>max a (maxL l)
theorem levL_mk (o n u : Int) (s : ByteArray) (l : List PS) : levL (.mk o n u s l)=maxL (l.map levL)+1:=by
 show PS.rec_1 (motive_1:=fun _=>Nat) (motive_2:=fun _=>Nat) (fun _ _ _ _ _ ih=>ih+1) 0 (fun _ _ a b=>max a b) l+1=maxL (l.map levL)+1;congr 1
 induction l with
 | nil=>rfl
 | cons x l ih=>exact congrArg (max (levL x)) ih
noncomputable def shp : PT→PS:=PT.rec (motive_1:=fun _=>PS) (motive_2:=fun _=>List PS) (fun o n u s _ _ _ ih=>.mk o n u s ih) [] (fun _ _ a b=>a :: b)
theorem shp_mk (o n u : Int) (s : ByteArray) (A : Option Addr) (c : Nat) (l : List PT) : shp ⟨o,n,u,s,A,c,l⟩ = .mk o n u s (l.map shp):=by
 show PS.mk o n u s (PT.rec_1 (motive_1:=fun _=>PS) (motive_2:=fun _=>List PS) (fun o n u s _ _ _ ih=>.mk o n u s ih) [] (fun _ _ a b=>a :: b) l)=_;congr 1
 induction l with
 | nil=>rfl
 | cons x l ih=>exact congrArg (shp x :: ·) ih
inductive PE where
  | ok (e : PS) : PE
  | no (p e : Int) : PE
noncomputable def parseE (l : List UInt8) : PE :=
  if (lexT l).2.2≠0 then .no (lexT l).2.1 (lexT l).2.2
  else match pR (5 * (lexT l).1.length+5) (.exp 0) (lexT l).1 with
    | .stop p e=>.no p e
    | .ok x r=>if (match r with | t :: _=>decide (t.k=3) | []=>false)=true then (if levL x.1≤12 then .ok x.1 else .no (posT r) 6) else .no (posT r) 12
section
def sE1 : List UInt8:=[98,97,115,101,32,43,32,51,32,99,101,110,116,115,32,42,32,116,114,105,112,32,115,101,97,116,115]
example : parseE sE1 = .ok (.mk 4 0 0 empS [.mk 1 0 0 ⟨#[98,97,115,101]⟩ [],.mk 6 0 0 empS [.mk 0 3 1 empS [],.mk 2 0 0 ⟨#[115,101,97,116,115]⟩ []]]):=by kernel_rfl
end
theorem okE_up : ∀ (k : Nat) (e : PT),okE k e=true→okE (k+1) e=true
 | 0,e,h=>by simp [okE] at h
 | k+1,⟨o,n,u,s,A,c,l⟩,h=>by
  (have hl : (l.length : Int)=opsN o:=Classical.byContradiction fun hc=>by rw [← okE_len hc] at h; cases h);by_cases h0 : o=0
  ·subst h0;rw [← okE_num hl] at h ⊢;exact h
  by_cases h1 : o=1∨o=2∨o=3
  ·rw [← okE_name hl h0 h1] at h ⊢;exact h
  ·rw [← okE_rest hl h0 h1] at h ⊢;simp only [Bool.and_eq_true,List.all_eq_true] at h ⊢;exact ⟨h.1,h.2.1,fun x hx=>okE_up k x (h.2.2 x hx)⟩
theorem okE_mono {k m : Nat} {e : PT} (h : okE k e=true) (hm : k≤m) : okE m e=true:=by
 induction hm with
 | refl=>exact h
 | step _ ih=>exact okE_up _ _ ih
theorem evE_up {lk : ByteArray→FrR} {T M : List FT} : ∀ (k : Nat) (e : PT),okE k e=true→evE lk T M (k+1) e=evE lk T M k e
 | 0,e,h=>by simp [okE] at h
 | k+1,⟨o,n,u,s,A,c,l⟩,h=>by
  by_cases h0 : o=0
  ·subst h0; rfl
  by_cases h1 : o=1
  ·subst h1; rfl
  by_cases h2 : o=2
  ·subst h2; rfl
  by_cases h3 : o=3
  ·subst h3; rfl
  have hx:=okE_all h h0 h1 h2 h3;have hm : l.map (evE lk T M (k+1))=l.map (evE lk T M k):=List.map_congr_left fun y hy=>evE_up k y (hx y hy);rw [evE,if_neg h0,if_neg h1,if_neg h2,if_neg h3,hm];conv=>rhs; rw [evE,if_neg h0,if_neg h1,if_neg h2,if_neg h3]
theorem evE_mono {lk : ByteArray→FrR} {T M : List FT} {k m : Nat} {e : PT} (h : okE k e=true) (hm : k≤m) : evE lk T M m e=evE lk T M k e:=by
 induction hm with
 | refl=>rfl
 | step hm ih=>rw [evE_up _ _ (okE_mono h hm),ih]
theorem emp_ok : (bothZ 0 0 && (empB empS && true))=true:=by kernel_rfl
theorem okE_op {k : Nat} {o : Int} {A : Option Addr} {c : Nat} {l : List PT} (hl : (l.length : Int)=opsN o) (h0 : ¬ o=0) (h1 : ¬ (o=1∨o=2∨o=3)) (hx : ∀ x,x ∈ l→okE k x=true) : okE (k+1) ⟨o,0,0,empS,A,c,l⟩=true:=by
 rw [← okE_rest hl h0 h1,List.all_eq_true.2 hx];exact emp_ok
section
variable {L : List LT} {T M : List FT}
theorem evalF_op {o : Int} {A : Option Addr} {c : Nat} {l : List PT} (hl : (l.length : Int)=opsN o) (h0 : ¬ o=0) (h1 : ¬ (o=1∨o=2∨o=3)) (hx : ∀ x,x ∈ l→okE 11 x=true) (hc : (L.length : Int)≤20∧L.all (fun x=>rexp x.b)=true∧factsB T=true∧factsB M=true) : evalF L ⟨o,0,0,empS,A,c,l⟩ T M=opF o (l.map fun x=>evalF L x T M):=by
 rw [evalF_ok ⟨okE_op hl h0 h1 hx,hc⟩,evN,evE,if_neg h0,if_neg (fun h=>h1 (.inl h)),if_neg (fun h=>h1 (.inr (.inl h))),if_neg (fun h=>h1 (.inr (.inr h)))];congr 1;refine List.map_congr_left fun x hxl=>?_;have h11:=hx x hxl;rw [evalF_ok ⟨okE_mono h11 (by decide),hc⟩,evN];exact (evE_mono h11 (by decide)).symm
theorem evalF_bad {e : PT} (hc : ¬ ((L.length : Int)≤20∧L.all (fun x=>rexp x.b)=true∧factsB T=true∧factsB M=true)) : evalF L e T M=FrR.bad 1:=evalF_arg fun h=>hc h.2
end
theorem lex_blank (c : Int) (w : World) : Calls Tryz.prog 172 #[.int .u8 c] w fun e w'=>e = .returned (.bool (blankC c))∧w=w':=by
 by_cases h1 : c=32
 ·subst h1;go_enter Tryz.func172,Tryz.ntmps172;go_wp2_with fail;go_ret;exact ⟨rfl,rfl⟩
 by_cases h2 : c=9
 ·subst h2;go_enter Tryz.func172,Tryz.ntmps172;go_wp2_with fail;go_ret;exact ⟨rfl,rfl⟩
 by_cases h3 : c=10
 ·subst h3;go_enter Tryz.func172,Tryz.ntmps172;go_wp2_with fail;go_ret;exact ⟨rfl,rfl⟩
 go_enter Tryz.func172,Tryz.ntmps172;go_wp2_with fail;go_ret;exact ⟨ret_bool (by unfold blankC; simp [h1,h2,h3]),rfl⟩
theorem lex_ld2 (c : Int) (w : World) : Calls Tryz.prog 178 #[.int .u8 c] w fun e w'=>e = .returned (.bool (ldC c))∧w=w':=by
 unfold ldC;rcases h : letC c
 ·go_enter Tryz.func178,Tryz.ntmps178;go_wp2_with fail;refine (lex_letter c _).mono ?_;rintro e w' ⟨rfl,rfl⟩;rw [h];go_wp2_with fail;refine (lex_digit c _).mono ?_;rintro e w' ⟨rfl,rfl⟩;go_wp2_with fail;go_ret;exact ⟨ret_bool Zs,rfl⟩
 ·go_enter Tryz.func178,Tryz.ntmps178;go_wp2_with fail;refine (lex_letter c _).mono ?_;rintro e w' ⟨rfl,rfl⟩;rw [h];go_wp2_with fail;go_ret;exact ⟨ret_bool Zs,rfl⟩
theorem byte_drop {s : ByteArray} {k : Nat} (h : k<s.size) : s.data.toList.drop k=s[k] :: s.data.toList.drop (k+1):=by
 (have h' : k<s.data.toList.length:=by simpa using h);rw [List.drop_eq_getElem_cons h'];rfl
theorem byte_len (s : ByteArray) : s.data.toList.length=s.size:=Array.length_toList
theorem spanL_hit {f : Int→Bool} {c : UInt8} {r : List UInt8} (h : f (c.toNat : Int)=true) : spanL f (c :: r)=spanL f r+1:=by rw [spanL,if_pos h]
theorem spanL_no {f : Int→Bool} {c : UInt8} {r : List UInt8} (h : f (c.toNat : Int)=false) : spanL f (c :: r)=0:=by rw [spanL,if_neg (by rw [h]; decide)]
theorem spanL_le (f : Int→Bool) : ∀ l : List UInt8,spanL f l≤l.length
 | []=>Nat.le_refl _
 | c :: r=>by
  cases h : f (c.toNat : Int)
  ·rw [spanL_no h]; exact Nat.zero_le _
  ·rw [spanL_hit h]; simpa using spanL_le f r
theorem span_blank (s : ByteArray) (w : World) (hs : s.size≤9223372036854775807) : Calls Tryz.prog 157 #[.string s,.func (.func 172) #[] #[]] w fun e w'=>e = .returned (.int .i64 (spanL blankC s.data.toList))∧w=w':=by
 obtain ⟨V,hV⟩ : ∃ V,spanL blankC s.data.toList=V:=⟨_,rfl⟩;rw [hV];have HV:=Zh hV;clear hV;go_enter Tryz.func157,Tryz.ntmps157;go_wp2_with fail;go_loopw [5] (fun v wr=>∃ (k : Nat),k≤s.size∧v = .int .i64 k∧Hid (V=k+spanL blankC (s.data.toList.drop k))∧w=wr) (fun v _=>s.size - (intOf v).toNat)
 case atStart=>exact ⟨0,by omega,rfl,Zh (by rw [← HV.out]; simp),rfl⟩
 case round =>
  obtain ⟨k,hk,rfl,HP,rfl⟩:=hrel;by_cases hlt : k<s.size
  ·have HD:=Zh (byte_drop hlt);go_wp2_with fail;refine (lex_blank _ _).mono ?_;rintro e w' ⟨rfl,rfl⟩;rcases hb : blankC (s[k].toNat : Int)
   ·have HVK : Hid ((k : Int)=(V : Int)):=Zh (by rw [HP.out,HD.out,spanL_no hb]; rfl);clear hb HP HD;go_wp2_with fail;go_ret;exact ⟨ret_int HVK.out,rfl⟩
   ·have HN : Hid (V=(k+1)+spanL blankC (s.data.toList.drop (k+1))):=Zh (by rw [HP.out,HD.out,spanL_hit hb]; omega);clear hb HP HD;go_wp2_with fail;go_roundw
    case rel=>exact ⟨k+1,by omega,by go_num,HN,trivial⟩
    case measure=>simp [intOf]; omega
  ·have HVK : Hid ((k : Int)=(V : Int)):=Zh (by rw [HP.out,List.drop_eq_nil_of_le (by rw [byte_len]; omega)]; rfl);clear HP;go_wp2_with fail;go_ret;exact ⟨ret_int HVK.out,rfl⟩
theorem span_ld (s : ByteArray) (w : World) (hs : s.size≤9223372036854775807) : Calls Tryz.prog 157 #[.string s,.func (.func 178) #[] #[]] w fun e w'=>e = .returned (.int .i64 (spanL ldC s.data.toList))∧w=w':=by
 obtain ⟨V,hV⟩ : ∃ V,spanL ldC s.data.toList=V:=⟨_,rfl⟩;rw [hV];have HV:=Zh hV;clear hV;go_enter Tryz.func157,Tryz.ntmps157;go_wp2_with fail;go_loopw [5] (fun v wr=>∃ (k : Nat),k≤s.size∧v = .int .i64 k∧Hid (V=k+spanL ldC (s.data.toList.drop k))∧w=wr) (fun v _=>s.size - (intOf v).toNat)
 case atStart=>exact ⟨0,by omega,rfl,Zh (by rw [← HV.out]; simp),rfl⟩
 case round =>
  obtain ⟨k,hk,rfl,HP,rfl⟩:=hrel;by_cases hlt : k<s.size
  ·have HD:=Zh (byte_drop hlt);go_wp2_with fail;refine (lex_ld2 _ _).mono ?_;rintro e w' ⟨rfl,rfl⟩;rcases hb : ldC (s[k].toNat : Int)
   ·have HVK : Hid ((k : Int)=(V : Int)):=Zh (by rw [HP.out,HD.out,spanL_no hb]; rfl);clear hb HP HD;go_wp2_with fail;go_ret;exact ⟨ret_int HVK.out,rfl⟩
   ·have HN : Hid (V=(k+1)+spanL ldC (s.data.toList.drop (k+1))):=Zh (by rw [HP.out,HD.out,spanL_hit hb]; omega);clear hb HP HD;go_wp2_with fail;go_roundw
    case rel=>exact ⟨k+1,by omega,by go_num,HN,trivial⟩
    case measure=>simp [intOf]; omega
  ·have HVK : Hid ((k : Int)=(V : Int)):=Zh (by rw [HP.out,List.drop_eq_nil_of_le (by rw [byte_len]; omega)]; rfl);clear HP;go_wp2_with fail;go_ret;exact ⟨ret_int HVK.out,rfl⟩
theorem span_dig (s : ByteArray) (w : World) (hs : s.size≤9223372036854775807) : Calls Tryz.prog 157 #[.string s,.func (.func 159) #[] #[]] w fun e w'=>e = .returned (.int .i64 (spanL digC s.data.toList))∧w=w':=by
 obtain ⟨V,hV⟩ : ∃ V,spanL digC s.data.toList=V:=⟨_,rfl⟩;rw [hV];have HV:=Zh hV;clear hV;go_enter Tryz.func157,Tryz.ntmps157;go_wp2_with fail;go_loopw [5] (fun v wr=>∃ (k : Nat),k≤s.size∧v = .int .i64 k∧Hid (V=k+spanL digC (s.data.toList.drop k))∧w=wr) (fun v _=>s.size - (intOf v).toNat)
 case atStart=>exact ⟨0,by omega,rfl,Zh (by rw [← HV.out]; simp),rfl⟩
 case round =>
  obtain ⟨k,hk,rfl,HP,rfl⟩:=hrel;by_cases hlt : k<s.size
  ·have HD:=Zh (byte_drop hlt);go_wp2_with fail;refine (lex_digit _ _).mono ?_;rintro e w' ⟨rfl,rfl⟩;rcases hb : digC (s[k].toNat : Int)
   ·have HVK : Hid ((k : Int)=(V : Int)):=Zh (by rw [HP.out,HD.out,spanL_no hb]; rfl);clear hb HP HD;go_wp2_with fail;go_ret;exact ⟨ret_int HVK.out,rfl⟩
   ·have HN : Hid (V=(k+1)+spanL digC (s.data.toList.drop (k+1))):=Zh (by rw [HP.out,HD.out,spanL_hit hb]; omega);clear hb HP HD;go_wp2_with fail;go_roundw
    case rel=>exact ⟨k+1,by omega,by go_num,HN,trivial⟩
    case measure=>simp [intOf]; omega
  ·have HVK : Hid ((k : Int)=(V : Int)):=Zh (by rw [HP.out,List.drop_eq_nil_of_le (by rw [byte_len]; omega)]; rfl);clear HP;go_wp2_with fail;go_ret;exact ⟨ret_int HVK.out,rfl⟩
end Go.Proofs.YtcgocdhhneckhaaGreatDoor
