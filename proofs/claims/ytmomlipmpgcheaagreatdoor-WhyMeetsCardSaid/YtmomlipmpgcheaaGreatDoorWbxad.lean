/- Digits of integers, in plain Lean: little end first, base 2^20. -/
import Derived.Test.YtmomlipmpgcheaaGreatDoorWbxaa
set_option linter.unusedSimpArgs false
set_option linter.unusedVariables false
set_option maxRecDepth 100000
set_option maxHeartbeats 6400000
namespace Go.Proofs.YtmomlipmpgcheaaGreatDoor
open Go.RowKit
def val : List Int→Int
  | []=>0
  | d :: l=>d+1048576 * val l
def DigOK (l : List Int) : Prop:=∀ d,d ∈ l→0≤d∧d<1048576
theorem DigOK.nil : DigOK []:=fun _ h=>by cases h
theorem digOK_cons {d : Int} {l : List Int} : DigOK (d :: l)↔(0≤d∧d<1048576)∧DigOK l:=by
 unfold DigOK;constructor
 ·exact fun h=>⟨h d Zs,fun x hx=>h x (List.mem_cons_of_mem _ hx)⟩
 ·rintro ⟨h1,h2⟩ x hx;rcases List.mem_cons.1 hx with rfl | hx
  ·exact h1
  ·exact h2 x hx
theorem digOK_app {l m : List Int} : DigOK (l ++ m)↔DigOK l∧DigOK m:=by
 unfold DigOK;constructor
 ·exact fun h=>⟨fun x hx=>h x (List.mem_append.2 (.inl hx)),fun x hx=>h x (List.mem_append.2 (.inr hx))⟩
 ·rintro ⟨h1,h2⟩ x hx;rcases List.mem_append.1 hx with hx | hx
  ·exact h1 x hx
  ·exact h2 x hx
theorem val_nn : ∀ {l : List Int},DigOK l→0≤val l
 | [],_=>by simp [val]
 | d :: l,h=>by
  obtain ⟨h1,h2⟩:=digOK_cons.1 h;have:=val_nn h2;simp only [val]; omega
def pw : Nat→Int
  | 0=>1
  | n+1=>1048576 * pw n
theorem pw_pos : ∀ n,0<pw n
 | 0=>by simp [pw]
 | n+1=>by have:=pw_pos n; simp only [pw]; omega
theorem pw_add : ∀ m n,pw (m+n)=pw m * pw n
 | 0,n=>by simp [pw]
 | m+1,n=>by rw [show m+1+n=(m+n)+1 by omega]; simp only [pw]; rw [pw_add m n,Int.mul_assoc]
theorem pw_mono {m n : Nat} (h : m≤n) : pw m≤pw n:=by
 obtain ⟨k,rfl⟩:=Nat.exists_eq_add_of_le h
 induction k with
 | zero=>exact Int.le_refl _
 | succ k ih =>
  have:=ih Zo;have:=pw_pos (m+k);rw [show m+(k+1)=(m+k)+1 by omega];simp only [pw]; omega
theorem val_lt : ∀ {l : List Int},DigOK l→val l<pw l.length
 | [],_=>by simp [val,pw]
 | d :: l,h=>by
  obtain ⟨h1,h2⟩:=digOK_cons.1 h;have:=val_lt h2;simp only [val,pw,List.length_cons]; omega
theorem val_app : ∀ (l m : List Int),val (l ++ m)=val l+pw l.length * val m
 | [],m=>by simp [val,pw]
 | d :: l,m=>by
  simp only [List.cons_append,val,pw,List.length_cons];rw [val_app l m,Int.mul_add,Int.mul_assoc]; omega
theorem val_zeros : ∀ n,val (List.replicate n 0)=0
 | 0=>rfl
 | n+1=>by simp only [List.replicate_succ,val]; rw [val_zeros n]; omega
theorem val_inj : ∀ {l m : List Int},DigOK l→DigOK m→l.length=m.length→val l=val m→l=m
 | [],[],_,_,_,_=>rfl
 | [],_ :: _,_,_,h,_=>by cases h
 | _ :: _,[],_,_,h,_=>by cases h
 | a :: l,b :: m,hl,hm,hn,hv=>by
  obtain ⟨h1,h2⟩:=digOK_cons.1 hl;obtain ⟨h3,h4⟩:=digOK_cons.1 hm;simp only [val] at hv;(obtain rfl : a=b:=by omega);rw [val_inj h2 h4 (by simpa using hn) Zo]
structure Norm (l : List Int) : Prop where
  ok : DigOK l
  top : ∀ x,l.getLast? = some x→x≠0
theorem Norm.nil : Norm []:=⟨DigOK.nil,fun x h=>by cases h⟩
theorem Norm.tail {d : Int} {l : List Int} (h : Norm (d :: l)) : Norm l where
 ok:=(digOK_cons.1 h.ok).2
 top x hx:=h.top x (by
  rcases l with _ | ⟨y,r⟩
  ·cases hx
  ·rw [List.getLast?_cons_cons]; exact hx)
theorem Norm.zero : ∀ {l : List Int},Norm l→val l=0→l=[]
 | [],_,_=>rfl
 | d :: l,h,hv=>by
  obtain ⟨h1,h2⟩:=digOK_cons.1 h.ok;have:=val_nn h2;simp only [val] at hv;have hl:=h.tail.zero Zo;subst hl;exact absurd (by simp [val] at hv; omega) (h.top d rfl)
theorem Norm.one : ∀ {l m : List Int},Norm l→Norm m→val l=val m→l=m
 | [],m,_,hm,hv=>(hm.zero (by rw [← hv]; rfl)).symm
 | l,[],hl,_,hv=>hl.zero (by rw [hv]; rfl)
 | a :: l,b :: m,hl,hm,hv=>by
  obtain ⟨h1,h2⟩:=digOK_cons.1 hl.ok;obtain ⟨h3,h4⟩:=digOK_cons.1 hm.ok;simp only [val] at hv;(obtain rfl : a=b:=by omega);rw [hl.tail.one hm.tail Zo]
theorem Norm.low {l : List Int} (h : Norm l) (hl : l≠[]) : pw (l.length - 1)≤val l:=by
 obtain ⟨r,x,rfl⟩ : ∃ r x,l=r ++ [x]:=⟨l.dropLast,l.getLast hl,(List.dropLast_concat_getLast hl).symm⟩;have hx : x≠0:=h.top x Zs;obtain ⟨h1,h2⟩:=digOK_app.1 h.ok;have h3:=(digOK_cons.1 h2).1;have h4:=val_nn h1;rw [val_app];simp only [val,List.length_append,List.length_singleton,Nat.add_sub_cancel,Int.mul_zero,Int.add_zero];have:=pw_pos r.length;have : pw r.length * 1≤pw r.length * x:=Int.mul_le_mul_of_nonneg_left Zo Zo;omega
def trimL : List Int→List Int
  | []=>[]
  | d :: l=>match trimL l with
    | []=>if d=0 then [] else [d]
    | y :: r=>d :: y :: r
theorem trimL_val : ∀ l : List Int,val (trimL l)=val l
 | []=>rfl
 | d :: l=>by
  have ih:=trimL_val l;unfold trimL;split
  ·rename_i he;rw [he] at ih;simp only [val] at ih ⊢;split
   ·simp only [val]; omega
   ·simp only [val]; omega
  ·rename_i y r he;rw [he] at ih;simp only [val] at ih ⊢;omega
theorem trimL_norm : ∀ {l : List Int},DigOK l→Norm (trimL l)
 | [],_=>Norm.nil
 | d :: l,h=>by
  obtain ⟨h1,h2⟩:=digOK_cons.1 h;have ih:=trimL_norm h2;unfold trimL;split
  ·split
   ·exact Norm.nil
   ·rename_i hd;exact ⟨digOK_cons.2 ⟨h1,DigOK.nil⟩,fun x hx=>by simp at hx; omega⟩
  ·rename_i y r he;rw [he] at ih;exact ⟨digOK_cons.2 ⟨h1,ih.ok⟩,fun x hx=>ih.top x (by rw [List.getLast?_cons_cons] at hx; exact hx)⟩
def digs (n : Nat) : List Int:=if h : n=0 then [] else ((n % 1048576 : Nat) : Int) :: digs (n / 1048576)
termination_by n
decreasing_by omega
theorem digs_zero : digs 0=[]:=by unfold digs; rw [dif_pos rfl]
theorem digs_pos {n : Nat} (h : n≠0) : digs n=((n % 1048576 : Nat) : Int) :: digs (n / 1048576):=by
 (conv=>lhs; unfold digs);rw [dif_neg h]
theorem digs_val (n : Nat) : val (digs n)=n:=by
 induction n using Nat.strongRecOn with
 | _ n ih =>
  by_cases h : n=0
  ·subst h; rw [digs_zero]; rfl
  ·rw [digs_pos h];simp only [val];rw [ih (n / 1048576) Zo];omega
theorem digs_norm (n : Nat) : Norm (digs n):=by
 induction n using Nat.strongRecOn with
 | _ n ih =>
  by_cases h : n=0
  ·subst h; rw [digs_zero]; exact Norm.nil
  ·have h1:=ih (n / 1048576) Zo;rw [digs_pos h];refine ⟨digOK_cons.2 ⟨by omega,h1.ok⟩,fun x hx=>?_⟩;by_cases h0 : n / 1048576=0
   ·rw [h0,digs_zero] at hx;simp only [List.getLast?_singleton,Option.some.injEq] at hx;omega
   ·rw [digs_pos h0,List.getLast?_cons_cons,← digs_pos h0] at hx;exact h1.top x hx
theorem Norm.is {l : List Int} (h : Norm l) : l=digs (val l).toNat:=h.one (digs_norm _) (by rw [digs_val]; have:=val_nn h.ok; omega)
theorem trimL_is {l : List Int} (h : DigOK l) : trimL l=digs (val l).toNat:=by
 have:=(trimL_norm h).is;rw [trimL_val] at this;exact this
theorem digs_len {n : Nat} {k : Nat} : (digs n).length≤k↔(n : Int)<pw k:=by
 have hN:=digs_norm n;have hv:=digs_val n;constructor
 ·intro h;have h1:=val_lt hN.ok;have h2:=pw_mono h;omega
 ·intro h;refine Decidable.byContradiction fun hk=>?_;(have hne : digs n≠[]:=fun he=>by rw [he] at hk; simp at hk);have h1:=hN.low hne;have h2:=pw_mono (show k≤(digs n).length - 1 by omega);omega
def addC : Int→List Int→List Int→List Int
  | c,[],_=>[c]
  | c,x :: a,b=>((c+x+b.headD 0) % 1048576) :: addC ((c+x+b.headD 0) / 1048576) a b.tail
theorem addC_len : ∀ (c : Int) (a b : List Int),(addC c a b).length=a.length+1
 | _,[],_=>rfl
 | c,x :: a,b=>by simp [addC,addC_len _ a b.tail]
theorem headD_tail : ∀ b : List Int,val b=b.headD 0+1048576 * val b.tail
 | []=>by simp [val]
 | y :: b=>by simp [val]
theorem digOK_head {b : List Int} (h : DigOK b) : 0≤b.headD 0∧b.headD 0<1048576:=by
 rcases b with _ | ⟨y,b⟩
 ·simp
 ·exact (digOK_cons.1 h).1
theorem digOK_tail {b : List Int} (h : DigOK b) : DigOK b.tail:=by
 rcases b with _ | ⟨y,b⟩
 ·exact h
 ·exact (digOK_cons.1 h).2
theorem addC_ok : ∀ {a b : List Int} {c : Int},DigOK a→DigOK b→0≤c→c≤1→DigOK (addC c a b)
 | [],_,c,_,_,h1,h2=>digOK_cons.2 ⟨⟨h1,by omega⟩,DigOK.nil⟩
 | x :: a,b,c,ha,hb,h1,h2=>by
  obtain ⟨h3,h4⟩:=digOK_cons.1 ha;have h5:=digOK_head hb;exact digOK_cons.2 ⟨⟨by omega,by omega⟩,addC_ok h4 (digOK_tail hb) Zo Zo⟩
theorem addC_val : ∀ {a b : List Int} {c : Int},b.length≤a.length→val (addC c a b)=c+val a+val b
 | [],b,c,h=>by
  obtain rfl : b=[]:=List.length_eq_zero_iff.1 (by simpa using h);simp [addC,val]
 | x :: a,b,c,h=>by
  have ih:=addC_val (a:=a) (b:=b.tail) (c:=(c+x+b.headD 0) / 1048576) (by rw [List.length_tail]; simp at h; omega);have hb:=headD_tail b;simp only [addC,val];rw [ih];omega
def subC : Int→List Int→List Int→List Int
  | _,[],_=>[]
  | c,x :: a,b=>((x - c - b.headD 0) % 1048576) :: subC (if x - c - b.headD 0<0 then 1 else 0) a b.tail
theorem subC_len : ∀ (c : Int) (a b : List Int),(subC c a b).length=a.length
 | _,[],_=>rfl
 | c,x :: a,b=>by simp [subC,subC_len _ a b.tail]
theorem subC_ok : ∀ (c : Int) (a b : List Int),DigOK (subC c a b)
 | _,[],_=>DigOK.nil
 | c,x :: a,b=>digOK_cons.2 ⟨⟨by omega,by omega⟩,subC_ok _ a b.tail⟩
theorem subC_val : ∀ {a b : List Int} {c : Int},DigOK a→DigOK b→b.length≤a.length→0≤c→c≤1→∃ e : Int,0≤e∧e≤1∧val (subC c a b)=val a - val b - c+e * pw a.length
 | [],b,c,_,_,h,h1,h2=>by
  obtain rfl : b=[]:=List.length_eq_zero_iff.1 (by simpa using h);exact ⟨c,h1,h2,by simp [subC,val,pw]; omega⟩
 | x :: a,b,c,ha,hb,h,h1,h2=>by
  obtain ⟨h3,h4⟩:=digOK_cons.1 ha;have h5:=digOK_head hb;obtain ⟨e,e1,e2,e3⟩:=subC_val (a:=a) (b:=b.tail) (c:=if x - c - b.headD 0<0 then 1 else 0) h4 (digOK_tail hb) (by rw [List.length_tail]; simp at h; omega) (by split <;> omega) (by split <;> omega);have hv:=headD_tail b;refine ⟨e,e1,e2, ?_⟩;simp only [subC,val,List.length_cons,pw];rw [e3,show e * (1048576 * pw a.length)=1048576 * (e * pw a.length) by rw [Int.mul_left_comm]];generalize e * pw a.length=z;split <;> omega
theorem subC_exact {a b : List Int} (ha : DigOK a) (hb : DigOK b) (h : b.length≤a.length) (hv : val b≤val a) : val (subC 0 a b)=val a - val b:=by
 obtain ⟨e,e1,e2,e3⟩:=subC_val (c:=0) ha hb h Zo Zo;have h1:=val_lt (subC_ok 0 a b);rw [subC_len] at h1;have h2:=val_nn hb;rcases (by omega : e=0∨e=1) with rfl | rfl
 ·omega
 ·omega
def mulR (x : Int) : Int→List Int→List Int→List Int
  | c,[],o :: r=>(o+c) :: r
  | _,[],[]=>[]
  | c,y :: b,o :: r=>((o+x * y+c) % 1048576) :: mulR x ((o+x * y+c) / 1048576) b r
  | _,_ :: _,[]=>[]
theorem mulR_len (x : Int) : ∀ (c : Int) (b o : List Int),(mulR x c b o).length=o.length
 | c,[],o :: r=>rfl
 | _,[],[]=>rfl
 | c,y :: b,o :: r=>by simp [mulR,mulR_len x _ b r]
 | _,_ :: _,[]=>rfl
theorem mulR_val (x : Int) : ∀ {b o : List Int} {c : Int},b.length<o.length→val (mulR x c b o)=val o+x * val b+c
 | [],o :: r,c,_=>by simp [mulR,val]; omega
 | [],[],c,h=>absurd h Zs
 | y :: b,o :: r,c,h=>by
  have ih:=mulR_val x (b:=b) (o:=r) (c:=(o+x * y+c) / 1048576) (by simpa using h);simp only [mulR,val];rw [ih,Int.mul_add x,Int.mul_left_comm x 1048576 (val b)];generalize x * y=z;generalize x * val b=t;omega
 | _ :: _,[],c,h=>absurd h Zs
theorem mulR_ok (x : Int) (hx : 0≤x∧x<1048576) : ∀ {b o : List Int} {c : Int},DigOK b→DigOK o→o[b.length]? = some 0→0≤c→c<1048576→DigOK (mulR x c b o)
 | [],o :: r,c,hb,ho,h,h1,h2=>by
  simp only [List.length_nil,List.getElem?_cons_zero,Option.some.injEq] at h;subst h;exact digOK_cons.2 ⟨⟨by omega,by omega⟩,(digOK_cons.1 ho).2⟩
 | [],[],c,_,_,h,_,_=>by cases h
 | y :: b,o :: r,c,hb,ho,h,h1,h2=>by
  obtain ⟨h3,h4⟩:=digOK_cons.1 hb;obtain ⟨h5,h6⟩:=digOK_cons.1 ho;have hxy0 : 0≤x * y:=Int.mul_nonneg hx.1 h3.1;have hxy1 : x * y≤1048575 * 1048575:=Int.mul_le_mul Zo Zo h3.1 Zo;refine digOK_cons.2 ⟨⟨by omega,by omega⟩,mulR_ok x hx h4 h6 (by simpa using h) Zo Zo⟩
 | _ :: _,[],c,_,_,h,_,_=>by cases h
theorem guess_high {U V P t u2 ul vt v2 vl g r : Int} (hU : U=(t * 1048576+u2) * P+ul) (hul : ul<P) (hV : V=(vt * 1048576+v2) * P+vl) (hvl : 0≤vl) (hP : 0<P) (ht : t=g * vt+r) (hg : 0≤g) (hc : r * 1048576+u2<g * v2) : U<g * V:=by
 have h1 : g * V=(g * vt * 1048576+g * v2) * P+g * vl:=by
  rw [hV,Int.mul_add,← Int.mul_assoc,Int.mul_add,← Int.mul_assoc]
 have h2 : 0≤g * vl:=Int.mul_nonneg hg hvl
 have h3 : (t * 1048576+u2+1) * P≤(g * vt * 1048576+g * v2) * P:=Int.mul_le_mul_of_nonneg_right (by
  generalize g * vt=a at *;generalize g * v2=b at *
  omega) Zo
 rw [Int.add_mul (t * 1048576+u2) 1 P,Int.one_mul] at h3;rw [h1,hU];generalize (t * 1048576+u2) * P=x at *;generalize (g * vt * 1048576+g * v2) * P=y at *;omega
theorem guess_low {U V P t u2 ul vt v2 vl g r : Int} (hU : U=(t * 1048576+u2) * P+ul) (hul : 0≤ul) (hV : V=(vt * 1048576+v2) * P+vl) (hvl : 0≤vl) (hvl2 : vl<P) (hP : 0<P) (ht : t=g * vt+r) (hg : 0≤g) (hgB : g<1048576) (hv1 : 1≤vt) (hv2 : 0≤v2) (hv2B : v2<1048576) (hu2 : 0≤u2) (hc : 1048576≤r∨g * v2≤r * 1048576+u2) : (g - 1) * V≤U:=by
 have h1 : g * V=(g * vt * 1048576+g * v2) * P+g * vl:=by
  rw [hV,Int.mul_add,← Int.mul_assoc,Int.mul_add,← Int.mul_assoc]
 have h2 : g * vl≤1048576 * P:=Int.mul_le_mul Zo Zo hvl Zo;have h0 : g * v2≤1048575 * 1048575:=Int.mul_le_mul Zo Zo hv2 Zo
 have h3 : (g * vt * 1048576+g * v2) * P≤(t * 1048576+u2) * P:=Int.mul_le_mul_of_nonneg_right (by
  generalize g * vt=a at *;generalize g * v2=b at *
  omega) Zo
 have h4 : 1048576 * P≤(vt * 1048576+v2) * P:=Int.mul_le_mul_of_nonneg_right Zo Zo;rw [Int.sub_mul,Int.one_mul,h1,hU,hV];generalize (t * 1048576+u2) * P=x at *;generalize (g * vt * 1048576+g * v2) * P=y at *;generalize (vt * 1048576+v2) * P=z at *;generalize g * vl=s at *;omega
def subM (g : Int) : Int→List Int→List Int→List Int
  | _,[],_=>[]
  | c,x :: u,v=>((x - c - g * v.headD 0) % 1048576) :: subM g (-((x - c - g * v.headD 0) / 1048576)) u v.tail
theorem subM_len (g : Int) : ∀ (c : Int) (u v : List Int),(subM g c u v).length=u.length
 | _,[],_=>rfl
 | c,x :: u,v=>by simp [subM,subM_len g _ u v.tail]
theorem subM_ok (g : Int) : ∀ (c : Int) (u v : List Int),DigOK (subM g c u v)
 | _,[],_=>DigOK.nil
 | c,x :: u,v=>digOK_cons.2 ⟨⟨by omega,by omega⟩,subM_ok g _ u v.tail⟩
def subE (g : Int) : Int→List Int→List Int→Int
  | c,[],_=>c
  | c,x :: u,v=>subE g (-((x - c - g * v.headD 0) / 1048576)) u v.tail
theorem subM_val (g : Int) : ∀ {u v : List Int} {c : Int},v.length≤u.length→val (subM g c u v)=val u - c - g * val v+subE g c u v * pw u.length
 | [],v,c,h=>by
  obtain rfl : v=[]:=List.length_eq_zero_iff.1 (by simpa using h);simp [subM,subE,val,pw]; omega
 | x :: u,v,c,h=>by
  have ih:=subM_val g (u:=u) (v:=v.tail) (c:=-((x - c - g * v.headD 0) / 1048576)) (by rw [List.length_tail]; simp at h; omega);simp only [subM,subE,val,List.length_cons,pw];rw [ih,headD_tail v,Int.mul_add g,Int.mul_left_comm g 1048576 (val v.tail),Int.mul_left_comm (subE g _ u v.tail) 1048576];generalize subE g _ u v.tail * pw u.length=e;generalize g * v.headD 0=s;generalize g * val v.tail=t;omega
def addM : Int→List Int→List Int→List Int
  | _,[],_=>[]
  | c,x :: u,v=>((c+x+v.headD 0) % 1048576) :: addM ((c+x+v.headD 0) / 1048576) u v.tail
theorem addM_len : ∀ (c : Int) (u v : List Int),(addM c u v).length=u.length
 | _,[],_=>rfl
 | c,x :: u,v=>by simp [addM,addM_len _ u v.tail]
theorem addM_ok : ∀ (c : Int) (u v : List Int),DigOK (addM c u v)
 | _,[],_=>DigOK.nil
 | c,x :: u,v=>digOK_cons.2 ⟨⟨by omega,by omega⟩,addM_ok _ u v.tail⟩
theorem addM_val : ∀ {u v : List Int} {c : Int},v.length≤u.length→∃ e : Int,val (addM c u v)=c+val u+val v - e * pw u.length
 | [],v,c,h=>by
  obtain rfl : v=[]:=List.length_eq_zero_iff.1 (by simpa using h);exact ⟨c,by simp [addM,val,pw]⟩
 | x :: u,v,c,h=>by
  obtain ⟨e,ih⟩:=addM_val (u:=u) (v:=v.tail) (c:=(c+x+v.headD 0) / 1048576) (by rw [List.length_tail]; simp at h; omega);refine ⟨e, ?_⟩;simp only [addM,val,List.length_cons,pw];rw [ih,Int.mul_left_comm e 1048576];have:=headD_tail v;generalize e * pw u.length=z;omega
theorem pw_mult {x y e : Int} {n : Nat} (hx0 : 0≤x) (hx1 : x<pw n) (hy0 : 0≤y) (hy1 : y<pw n) (h : x=y+e * pw n) : x=y:=by
 have hp:=pw_pos n;rcases Int.lt_trichotomy e 0 with h0 | h0 | h0
 ·have : e * pw n≤-1 * pw n:=Int.mul_le_mul_of_nonneg_right Zo Zo;omega
 ·subst h0; omega
 ·have : 1 * pw n≤e * pw n:=Int.mul_le_mul_of_nonneg_right Zo Zo;omega
theorem settle_yes {g : Int} {u v : List Int} (hu : DigOK u) (h : v.length≤u.length) (he : subE g 0 u v=0) : val (subM g 0 u v)=val u - g * val v∧g * val v≤val u:=by
 have h1:=subM_val g (c:=0) h;have h2:=val_nn (subM_ok g 0 u v);rw [he,Int.zero_mul] at h1;omega
theorem settle_no {g : Int} {u v : List Int} (hu : DigOK u) (hv : DigOK v) (h : v.length≤u.length) (he : subE g 0 u v≠0) (hlow : (g - 1) * val v≤val u) (hg : 0≤(g - 1) * val v∨0≤g) (hs : val u - (g - 1) * val v<pw u.length) (hpos : 0<val v→0≤g) : val (addM 0 (subM g 0 u v) v)=val u - (g - 1) * val v:=by
 obtain ⟨e,h1⟩:=addM_val (u:=subM g 0 u v) (v:=v) (c:=0) (by rw [subM_len]; exact h);have h2:=subM_val g (c:=0) h;have h3:=val_nn (addM_ok 0 (subM g 0 u v) v);have h4:=val_lt (addM_ok 0 (subM g 0 u v) v);rw [addM_len,subM_len] at h4;rw [subM_len] at h1;refine pw_mult (n:=u.length) (e:=subE g 0 u v - e) h3 h4 Zo hs ?_;rw [h1,h2,Int.sub_mul (subE g 0 u v) e,Int.sub_mul g 1,Int.one_mul];generalize subE g 0 u v * pw u.length=a;generalize e * pw u.length=b;generalize g * val v=s;omega
theorem short_step {d r x V : Int} (hd : 0<d) (hr0 : 0≤r) (hr : r<d) (hx0 : 0≤x) (hx : x<1048576) {A : Int} (hA : A=d * V+r) : x+1048576 * A=d * ((r * 1048576+x) / d+1048576 * V)+(r * 1048576+x) % d∧0≤(r * 1048576+x) / d∧(r * 1048576+x) / d<1048576∧0≤(r * 1048576+x) % d∧(r * 1048576+x) % d<d:=by
 have h1:=Int.mul_ediv_add_emod (r * 1048576+x) d;refine ⟨?_,Int.ediv_nonneg Zo Zo,Int.ediv_lt_of_lt_mul hd Zo,Int.emod_nonneg _ Zo,Int.emod_lt_of_pos _ hd⟩;rw [hA,Int.mul_add d,Int.mul_left_comm d 1048576];generalize d * ((r * 1048576+x) / d)=a at *;generalize d * V=b at *;omega
structure BigD where
  s : Int
  l : List Int
def bigD (z : Int) : BigD:=⟨z.sign,digs z.natAbs⟩
def BigD.right (a : BigD) : Bool:=a.l.all (fun d=>decide (0≤d) && decide (d<1048576)) && (match a.l.getLast? with
  | none=>decide (a.s=0)
  | some x=>(decide (a.s=1) || decide (a.s = -1)) && (decide (a.l.length≤60) && decide (x≠0)))
def BigD.val (a : BigD) : Int:=a.s * Go.Proofs.YtmomlipmpgcheaaGreatDoor.val a.l
theorem all_digOK {l : List Int} : l.all (fun d=>decide (0≤d) && decide (d<1048576))=true↔DigOK l:=by
 simp only [List.all_eq_true,Bool.and_eq_true,decide_eq_true_eq]; rfl
theorem bigD_val (z : Int) : (bigD z).val=z:=by
 unfold BigD.val bigD;simp only;rw [digs_val];exact Int.sign_mul_natAbs z
theorem digs_nil {n : Nat} : digs n=[]↔n=0:=by
 constructor
 ·intro h;have:=digs_val n;rw [h] at this;simp only [val] at this;omega
 ·rintro rfl; exact digs_zero
def Fits (z : Int) : Prop:=(z.natAbs : Int)<pw 60
theorem fits_iff {z : Int} : Fits z↔(digs z.natAbs).length≤60:=digs_len.symm
theorem bigD_right {z : Int} : (bigD z).right=true↔Fits z:=by
 rw [fits_iff];unfold BigD.right bigD;simp only;have hN:=digs_norm z.natAbs;rw [Bool.and_eq_true,all_digOK];rcases hl : (digs z.natAbs).getLast? with _ | x
 ·have h0 : digs z.natAbs=[]:=List.getLast?_eq_none_iff.1 hl;(have hz : z=0:=by have:=digs_nil.1 h0; omega);subst hz;simp [digs_zero,DigOK.nil]
 ·have hx:=hN.top x hl
  have hz : z≠0:=by
   rintro rfl;rw [Int.natAbs_zero,digs_zero] at hl;cases hl
  have hs : z.sign=1∨z.sign = -1:=by
   rcases Int.lt_trichotomy z 0 with h | h | h
   ·exact .inr (Int.sign_eq_neg_one_of_neg h)
   ·exact absurd h hz
   ·exact .inl (Int.sign_eq_one_of_pos h)
  simp only [Bool.and_eq_true,Bool.or_eq_true,decide_eq_true_eq];exact ⟨fun h=>h.2.2.1,fun h=>⟨hN.ok,hs,h,hx⟩⟩
theorem right_big {a : BigD} (h : a.right=true) : a=bigD a.val∧Fits a.val:=by
 have key : a=bigD a.val:=by
  unfold BigD.right at h;rw [Bool.and_eq_true,all_digOK] at h;obtain ⟨h1,h2⟩:=h;obtain ⟨s,l⟩:=a;simp only at h1 h2;rcases hl : l.getLast? with _ | x
  ·rw [hl] at h2;simp only [decide_eq_true_eq] at h2;have h0 : l=[]:=List.getLast?_eq_none_iff.1 hl;subst h0 h2;simp [bigD,BigD.val,digs_zero]
  ·rw [hl] at h2;simp only [Bool.and_eq_true,Bool.or_eq_true,decide_eq_true_eq] at h2;obtain ⟨hs,hlen,hx⟩:=h2;have hN : Norm l:=⟨h1,fun y hy=>by rw [hl] at hy; injection hy with hy; subst hy; exact hx⟩;have hne : l≠[]:=by rintro rfl; cases hl
   have hv : 0<val l:=by
    have h3:=val_nn h1;have h4 : val l≠0:=fun h=>hne (hN.zero h);omega
   have hi:=hN.is;unfold bigD BigD.val;simp only;rcases hs with rfl | rfl
   ·rw [Int.one_mul,Int.sign_eq_one_of_pos hv,show (val l).natAbs=(val l).toNat by omega,← hi]
   ·rw [Int.neg_mul,Int.one_mul,Int.sign_eq_neg_one_of_neg Zo,show (-val l).natAbs=(val l).toNat by omega,← hi]
 refine ⟨key, ?_⟩;rw [key] at h;exact bigD_right.1 h
theorem right_iff {a : BigD} : a.right=true↔∃ z : Int,Fits z∧a=bigD z:=by
 constructor
 ·exact fun h=>⟨a.val,(right_big h).2,(right_big h).1⟩
 ·rintro ⟨z,hz,rfl⟩; exact bigD_right.2 hz
theorem bigD_inj {x y : Int} (h : bigD x=bigD y) : x=y:=by rw [← bigD_val x,h,bigD_val]
def signedD (s : Int) (l : List Int) : BigD:=if trimL l=[] then ⟨0,[]⟩ else ⟨s,trimL l⟩
theorem signed_is {s : Int} {l : List Int} {z : Int} (hl : DigOK l) (hv : val l=z.natAbs) (hs : z≠0→s=z.sign) : signedD s l=bigD z:=by
 unfold signedD;rw [trimL_is hl,hv,Int.toNat_natCast];by_cases h : z=0
 ·subst h;rw [if_pos (by rw [Int.natAbs_zero,digs_zero])];simp [bigD,digs_zero]
 ·rw [if_neg (fun h0=>h (by have:=digs_nil.1 h0; omega)),hs h]; rfl
theorem val_split (l : List Int) (k : Nat) (h : k≤l.length) : val l=val (l.take k)+pw k * val (l.drop k):=by
 (conv=>lhs; rw [← List.take_append_drop k l]);rw [val_app,List.length_take,Nat.min_eq_left h]
theorem DigOK.take {l : List Int} (h : DigOK l) (k : Nat) : DigOK (l.take k):=fun d hd=>h d (List.mem_of_mem_take hd)
theorem DigOK.drop {l : List Int} (h : DigOK l) (k : Nat) : DigOK (l.drop k):=fun d hd=>h d (List.mem_of_mem_drop hd)
theorem DigOK.get {l : List Int} (h : DigOK l) {i : Nat} (hi : i<l.length) : 0≤l[i]∧l[i]<1048576:=h _ (List.getElem_mem hi)
theorem drop_two {l : List Int} {k : Nat} (h : l.length=k+2) : l.drop k=[l[k],l[k+1]]:=by
 rw [List.drop_eq_getElem_cons Zo,List.drop_eq_getElem_cons Zo,List.drop_eq_nil_of_le Zo]
theorem drop_three {l : List Int} {k : Nat} (h : l.length=k+3) : l.drop k=[l[k],l[k+1],l[k+2]]:=by
 rw [List.drop_eq_getElem_cons Zo,List.drop_eq_getElem_cons Zo,List.drop_eq_getElem_cons Zo,List.drop_eq_nil_of_le Zo]
structure Parts (U V P t u2 ul vt v2 vl : Int) : Prop where
  hU : U=(t * 1048576+u2) * P+ul
  hV : V=(vt * 1048576+v2) * P+vl
  ul0 : 0≤ul
  ulP : ul<P
  vl0 : 0≤vl
  vlP : vl<P
  P0 : 0<P
  u20 : 0≤u2
  u2B : u2<1048576
  v20 : 0≤v2
  v2B : v2<1048576
  vt1 : 1≤vt
  vtB : vt<1048576
  t0 : 0≤t
  tB : t<1048576 * 1048576
theorem parts {us v : List Int} {k : Nat} (hu : DigOK us) (hv : DigOK v) (hul : us.length=k+3) (hvl : v.length=k+2) (ht : v[k+1]≠0) : Parts (val us) (val v) (pw k) (us[k+2] * 1048576+us[k+1]) us[k] (val (us.take k)) v[k+1] v[k] (val (v.take k)):=by
 have h1:=val_split us k Zo;have h2:=val_split v k Zo;rw [drop_three hul] at h1;rw [drop_two hvl] at h2;simp only [val] at h1 h2;have a0:=hu.get (i:=k) Zo;have a1:=hu.get (i:=k+1) Zo;have a2:=hu.get (i:=k+2) Zo;have b0:=hv.get (i:=k) Zo;have b1:=hv.get (i:=k+1) Zo;have p:=pw_pos k;have c1:=val_lt (hu.take k);have c2:=val_lt (hv.take k);rw [List.length_take,Nat.min_eq_left Zo] at c1 c2;have d1:=val_nn (hu.take k);have d2:=val_nn (hv.take k);generalize us[k]=x0 at *;generalize us[k+1]=x1 at *;generalize us[k+2]=x2 at *;generalize v[k]=y0 at *;generalize v[k+1]=y1 at *;refine ⟨?_, ?_,d1,c1,d2,c2,p,a0.1,a0.2,b0.1,b0.2,by omega,by omega,by omega,by omega⟩
 ·rw [h1,Int.mul_comm (pw k),show x0+1048576 * (x1+1048576 * (x2+1048576 * 0))=(x2 * 1048576+x1) * 1048576+x0 by omega]; omega
 ·rw [h2,Int.mul_comm (pw k),show y0+1048576 * (y1+1048576 * 0)=y1 * 1048576+y0 by omega]; omega
section
variable {U V P t u2 ul vt v2 vl g r : Int}
theorem Parts.first (h : Parts U V P t u2 ul vt v2 vl) : U<(t / vt+1) * V∧t=t / vt * vt+t % vt∧0≤t / vt∧t / vt≤t∧0≤t % vt∧t % vt<vt:=by
 have h1:=Int.mul_ediv_add_emod t vt;have h2:=Int.emod_nonneg t (show vt≠0 by have:=h.vt1; omega);have h3:=Int.emod_lt_of_pos t (show 0<vt by have:=h.vt1; omega);have h4 : 0≤t / vt:=Int.ediv_nonneg h.t0 (by have:=h.vt1; omega);have h5 : t / vt≤t:=Int.ediv_le_self _ h.t0;rw [Int.mul_comm] at h1;refine ⟨?_,h1.symm,h4,h5,h2,h3⟩;generalize t / vt=g at *;generalize t % vt=r at *
 have e1 : U<(t+1) * (1048576 * P):=by
  have:=h.hU;have:=h.ulP;have e2 : (t * 1048576+u2) * P≤(t * 1048576+1048575) * P:=Int.mul_le_mul_of_nonneg_right (by have:=h.u2B; omega) (by have:=h.P0; omega)
  have e3 : (t+1) * (1048576 * P)=(t * 1048576+1048575) * P+P:=by
   rw [← Int.mul_assoc,show (t+1) * 1048576=(t * 1048576+1048575)+1 by omega,Int.add_mul,Int.one_mul]
  omega
 have e2 : (t+1) * (1048576 * P)≤((g+1) * vt) * (1048576 * P):=Int.mul_le_mul_of_nonneg_right (by rw [Int.add_mul,Int.one_mul]; omega) (by have:=h.P0; omega)
 have e3 : (g+1) * (vt * (1048576 * P))≤(g+1) * V:=Int.mul_le_mul_of_nonneg_left (by
  have:=h.hV;have:=h.vl0;have e4 : (vt * 1048576+0) * P≤(vt * 1048576+v2) * P:=Int.mul_le_mul_of_nonneg_right (by have:=h.v20; omega) (by have:=h.P0; omega);have e5 : vt * (1048576 * P)=(vt * 1048576+0) * P:=by rw [Int.add_zero,Int.mul_assoc]
  omega) Zo
 rw [Int.mul_assoc] at e2;omega
theorem Parts.less (h : Parts U V P t u2 ul vt v2 vl) (hU : U<1048576 * V) (hg : U<(g+1) * V) (ht : t=g * vt+r) (hg0 : 0≤g) (hc : 1048576≤g∨(r<1048576∧r * 1048576+u2<g * v2)) : U<g * V∧1≤g:=by
 have hVp : 0≤V:=by
  have:=h.hV;have:=h.vl0;have : 0≤(vt * 1048576+v2) * P:=Int.mul_nonneg (by have:=h.vt1; have:=h.v20; omega) (by have:=h.P0; omega);omega
 have hUp : 0≤U:=by
  have:=h.hU;have:=h.ul0;have : 0≤(t * 1048576+u2) * P:=Int.mul_nonneg (by have:=h.t0; have:=h.u20; omega) (by have:=h.P0; omega);omega
 have key : U<g * V:=by
  rcases hc with hc | ⟨_,hc⟩
  ·have : 1048576 * V≤g * V:=Int.mul_le_mul_of_nonneg_right hc hVp;omega
  ·exact guess_high h.hU h.ulP h.hV h.vl0 h.P0 ht hg0 hc
 refine ⟨key, ?_⟩;rcases (by omega : g=0∨1≤g) with rfl | h1
 ·rw [Int.zero_mul] at key; omega
 ·exact h1
theorem Parts.stand (h : Parts U V P t u2 ul vt v2 vl) (ht : t=g * vt+r) (hg0 : 0≤g) (hgB : g<1048576) (hc : 1048576≤r∨g * v2≤r * 1048576+u2) : (g - 1) * V≤U :=
 guess_low h.hU h.ul0 h.hV h.vl0 h.vlP h.P0 ht hg0 hgB h.vt1 h.v20 h.v2B h.u20 hc
end
theorem quo_is {U V g : Int} (hV : 0<V) (h1 : g * V≤U) (h2 : U<(g+1) * V) : U / V=g:=by
 have:=Int.mul_ediv_add_emod U V;have a:=Int.emod_nonneg U (show V≠0 by omega);have b:=Int.emod_lt_of_pos U hV;generalize U / V=q at *;rw [Int.mul_comm] at this;(have hq : q * V<(g+1) * V:=by omega);(have hg : g * V<(q+1) * V:=by rw [Int.add_mul q,Int.one_mul]; omega);have:=Int.lt_of_mul_lt_mul_right hq Zo;have:=Int.lt_of_mul_lt_mul_right hg Zo;omega
structure DivS (A : Int) (v : List Int) (m j : Nat) (u qs : List Int) : Prop where
  uok : DigOK u
  ulen : u.length=m+v.length
  jm : j≤m
  low : val (u.drop j)<val v
  qok : DigOK qs
  qlen : qs.length=m - j
  sum : A=val u+val v * (pw j * val qs)
def winD (u : List Int) (i n : Nat) : List Int:=(u.drop i).take (n+1)
theorem winD_len {u : List Int} {i n : Nat} (h : i+n+1≤u.length) : (winD u i n).length=n+1:=by unfold winD; rw [List.length_take,List.length_drop]; omega
theorem winD_get {u : List Int} {i n j : Nat} (h : i+n+1≤u.length) (hj : j<n+1) : (winD u i n)[j]'(by rw [winD_len h]; exact hj)=u[i+j]'Zo:=by
 unfold winD;rw [List.getElem_take,List.getElem_drop]
theorem DivS.top {A : Int} {v u qs : List Int} {m i : Nat} (h : DivS A v m (i+1) u qs) (hv : DigOK v) : val (u.drop (i+1+v.length))=0:=by
 have h1:=val_split (u.drop (i+1)) v.length (by rw [List.length_drop,h.ulen]; have:=h.jm; omega);rw [List.drop_drop] at h1;have h2:=val_lt hv;have h3:=h.low;have h4:=val_nn ((h.uok.drop (i+1)).take v.length);have h5:=val_nn (h.uok.drop (i+1+v.length));rcases (by omega : val (u.drop (i+1+v.length))=0∨1≤val (u.drop (i+1+v.length))) with h6 | h6
 ·exact h6
 ·have : pw v.length * 1≤pw v.length * val (u.drop (i+1+v.length)):=Int.mul_le_mul_of_nonneg_left h6 (by have:=pw_pos v.length; omega);omega
theorem DivS.win {A : Int} {v u qs : List Int} {m i : Nat} (h : DivS A v m (i+1) u qs) (hv : DigOK v) : val (winD u i v.length)=val (u.drop i)∧val (winD u i v.length)<1048576 * val v∧0≤val (winD u i v.length)∧DigOK (winD u i v.length):=by
 have hl:=h.ulen;have hj:=h.jm;have h1:=val_split (u.drop i) (v.length+1) (by rw [List.length_drop]; omega);rw [List.drop_drop,show i+(v.length+1)=i+1+v.length by omega,h.top hv,Int.mul_zero,Int.add_zero] at h1;(have h2 : val (u.drop i)=u[i]+1048576 * val (u.drop (i+1)):=by rw [List.drop_eq_getElem_cons Zo]; rfl);have h3:=h.uok.get (i:=i) Zo;have h4:=h.low;have h5:=val_nn (h.uok.drop i);unfold winD;exact ⟨h1.symm,by omega,by omega,(h.uok.drop i).take _⟩
theorem DivS.next {A : Int} {v u qs us' : List Int} {m i : Nat} (h : DivS A v m (i+1) u qs) (hv : DigOK v) (hV : 0<val v) (hok : DigOK us') (hlen : us'.length=v.length+1) (hval : val us'=val (winD u i v.length) % val v) : DivS A v m i (u.take i ++ us' ++ u.drop (i+v.length+1)) (val (winD u i v.length) / val v :: qs):=by
 obtain ⟨w1,w2,w3,w4⟩:=h.win hv;have hl:=h.ulen;have hj:=h.jm;have ht:=h.top hv;have e:=Int.mul_ediv_add_emod (val (winD u i v.length)) (val v);have r0:=Int.emod_nonneg (val (winD u i v.length)) (show val v≠0 by omega);have r1:=Int.emod_lt_of_pos (val (winD u i v.length)) hV;have q0 : 0≤val (winD u i v.length) / val v:=Int.ediv_nonneg w3 Zo;have q1 : val (winD u i v.length) / val v<1048576:=Int.ediv_lt_of_lt_mul hV w2;rw [← hval] at e r0 r1;have hti : (u.take i).length=i:=by rw [List.length_take]; omega
 have hd : (u.take i ++ us' ++ u.drop (i+v.length+1)).drop i=us' ++ u.drop (i+v.length+1):=by
  rw [List.append_assoc,List.drop_append_of_le_length Zo,List.drop_eq_nil_of_le Zo,List.nil_append]
 have hz : val (us' ++ u.drop (i+v.length+1))=val us':=by
  rw [val_app,show i+v.length+1=i+1+v.length by omega,ht]; simp
 refine ⟨digOK_app.2 ⟨digOK_app.2 ⟨h.uok.take i,hok⟩,h.uok.drop _⟩, ?_,by omega, ?_,digOK_cons.2 ⟨⟨q0,q1⟩,h.qok⟩, ?_, ?_⟩
 ·simp only [List.length_append,List.length_drop,hti]; omega
 ·rw [hd,hz]; exact r1
 ·rw [List.length_cons,h.qlen]; omega
 ·rw [h.sum,val_split u i Zo,List.append_assoc,val_app,hti,hz,← w1];simp only [pw,val];generalize val (winD u i v.length) / val v=q at *;generalize val (winD u i v.length)=U at *;generalize val us'=r at *;generalize val v=V at *;generalize pw i=p at *;rw [← e,Int.mul_add p,Int.mul_add p q,Int.mul_add V,show p * (V * q)=V * (p * q) by rw [Int.mul_left_comm],show 1048576 * p * val qs=p * (1048576 * val qs) by rw [Int.mul_comm 1048576 p,Int.mul_assoc]];generalize V * (p * q)=a;generalize V * (p * (1048576 * val qs))=b;omega
theorem DivS.done {A : Int} {v u qs : List Int} {m : Nat} (h : DivS A v m 0 u qs) : A=val u+val v * val qs∧0≤val u∧val u<val v∧0≤val qs:=by
 have h1:=h.sum;have h2:=h.low;simp only [pw,Int.one_mul,List.drop_zero] at h1 h2;exact ⟨h1,val_nn h.uok,h2,val_nn h.qok⟩
theorem DivS.start {u v : List Int} {m : Nat} (hu : DigOK u) (hl : u.length=m+v.length) (hlow : val (u.drop m)<val v) : DivS (val u) v m m u [] :=
 ⟨hu,hl,Nat.le_refl _,hlow,DigOK.nil,by simp,by simp [val]⟩
end Go.Proofs.YtmomlipmpgcheaaGreatDoor
