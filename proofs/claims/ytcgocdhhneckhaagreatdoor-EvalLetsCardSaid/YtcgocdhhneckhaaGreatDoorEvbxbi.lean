/- The value hangs on the shape alone; the value of the texts of the documentation. -/
import Derived.Test.YtcgocdhhneckhaaGreatDoorEvbxaz
import Derived.Test.YtcgocdhhneckhaaGreatDoorEvbxbh
import Derived.Test.YtcgocdhhneckhaaGreatDoorEvbxac
import Derived.Test.YtcgocdhhneckhaaGreatDoorEvbxam
set_option linter.unusedSimpArgs false
set_option linter.unusedVariables false
set_option maxRecDepth 100000
set_option maxHeartbeats 6400000
namespace Go.Proofs.YtcgocdhhneckhaaGreatDoor
open Go.RowKit
theorem map_shp {α : Type} {f : PT→α} (h : ∀ x y,shp x=shp y→f x=f y) : ∀ {l m : List PT},l.map shp=m.map shp→l.map f=m.map f
 | [],[],_=>rfl
 | [],_ :: _,h=>by simp at h
 | _ :: _,[],h=>by simp at h
 | x :: l,y :: m,hl=>by
  simp only [List.map_cons,List.cons.injEq] at hl ⊢;exact ⟨h x y hl.1,map_shp h hl.2⟩
theorem shp_inj {o n u o' n' u' : Int} {s s' : ByteArray} {A A' : Option Addr} {c c' : Nat} {l l' : List PT} (h : shp ⟨o,n,u,s,A,c,l⟩=shp ⟨o',n',u',s',A',c',l'⟩) : o=o'∧n=n'∧u=u'∧s=s'∧l.map shp=l'.map shp:=by
 rw [shp_mk,shp_mk] at h;injection h with h1 h2 h3 h4 h5;exact ⟨h1,h2,h3,h4,h5⟩
theorem evE_shp (lk : ByteArray→FrR) (T M : List FT) : ∀ (k : Nat) (x y : PT),shp x=shp y→evE lk T M k x=evE lk T M k y
 | 0,_,_,_=>rfl
 | k+1,⟨o,n,u,s,A,c,l⟩,⟨o',n',u',s',A',c',l'⟩,h=>by
  obtain ⟨rfl,rfl,rfl,rfl,hl⟩:=shp_inj h;have hm:=map_shp (fun x y=>evE_shp lk T M k x y) hl;unfold evE;rw [hm]
theorem okE_shp : ∀ (k : Nat) (x y : PT),shp x=shp y→okE k x=okE k y
 | 0,_,_,_=>rfl
 | k+1,⟨o,n,u,s,A,c,l⟩,⟨o',n',u',s',A',c',l'⟩,h=>by
  obtain ⟨rfl,rfl,rfl,rfl,hl⟩:=shp_inj h;have hm:=map_shp (fun x y=>okE_shp k x y) hl;have hln : l.length=l'.length:=by have:=congrArg List.length hl; simpa using this
  have ha : l.all (okE k)=l'.all (okE k):=by
   (have h1 : ∀ m : List PT,m.all (okE k)=(m.map (okE k)).all id:=fun m=>by rw [List.all_map]; rfl);rw [h1,h1,hm]
  unfold okE;rw [ha,hln]
theorem evalF_shp {L : List LT} {x y : PT} {T M : List FT} (h : shp x=shp y) : evalF L x T M=evalF L y T M:=by
 unfold evalF evN rexp;rw [okE_shp 12 x y h,evE_shp _ _ _ 12 x y h]
def lfP (o n u : Int) (s : ByteArray) : PT:=⟨o,n,u,s,none,0,[]⟩
def nd1 (o : Int) (a : PT) : PT:=⟨o,0,0,empS,none,0,[a]⟩
def nd2 (o : Int) (a b : PT) : PT:=⟨o,0,0,empS,none,0,[a,b]⟩
def nd3 (o : Int) (a b c : PT) : PT:=⟨o,0,0,empS,none,0,[a,b,c]⟩
def sBASE : ByteArray:=⟨#[98,97,115,101]⟩
def baseL : List LT:=[⟨sBASE,lfP 0 100 1 empS⟩]
def docT : List FT:=[⟨(⟨#[100,105,114,101,99,116]⟩ : ByteArray),30⟩,⟨(⟨#[115,101,97,116,115]⟩ : ByteArray),2⟩]
def docM : List FT:=[⟨(⟨#[102,97,118,111,117,114]⟩ : ByteArray), -5⟩]
def tx1 : PT:=nd2 7 (lfP 0 1 0 empS) (nd2 5 (lfP 2 0 0 (⟨#[115,101,97,116,115]⟩ : ByteArray)) (lfP 0 2 0 empS))
def tx2 : PT:=lfP 2 0 0 (⟨#[100,101,108,97,121]⟩ : ByteArray)
def tx3 : PT:=nd2 4 (lfP 1 0 0 sBASE) (nd2 6 (lfP 0 3 1 empS) (lfP 2 0 0 (⟨#[115,101,97,116,115]⟩ : ByteArray)))
def tx4 : PT:=nd2 7 (lfP 2 0 0 (⟨#[100,105,114,101,99,116]⟩ : ByteArray)) (lfP 0 4 0 empS)
def tx5 : PT:=nd2 13 (nd2 10 (lfP 2 0 0 (⟨#[115,101,97,116,115]⟩ : ByteArray)) (lfP 0 3 0 empS)) (nd1 12 (nd2 10 (lfP 3 0 0 (⟨#[102,97,118,111,117,114]⟩ : ByteArray)) (lfP 0 0 2 empS)))
def tx6 : PT:=nd3 15 (nd2 11 (lfP 2 0 0 (⟨#[115,101,97,116,115]⟩ : ByteArray)) (lfP 0 2 0 empS)) (lfP 1 0 0 sBASE) (nd2 7 (lfP 0 1 1 empS) (lfP 0 0 0 empS))
def st1 : ByteArray:=⟨#[49,32,47,32,40,32,116,114,105,112,32,115,101,97,116,115,32,45,32,50,32,41]⟩
def st2 : ByteArray:=⟨#[116,114,105,112,32,100,101,108,97,121]⟩
def st3 : ByteArray:=⟨#[98,97,115,101,32,43,32,51,32,99,101,110,116,115,32,42,32,116,114,105,112,32,115,101,97,116,115]⟩
def st4 : ByteArray:=⟨#[116,114,105,112,32,100,105,114,101,99,116,32,47,32,52]⟩
def st5 : ByteArray:=⟨#[116,114,105,112,32,115,101,97,116,115,32,60,32,51,32,97,110,100,32,110,111,116,32,40,32,109,101,109,98,101,114,32,102,97,118,111,117,114,32,60,32,48,32,109,105,110,117,116,101,115,32,41]⟩
def st6 : ByteArray:=⟨#[105,102,32,116,114,105,112,32,115,101,97,116,115,32,61,61,32,50,32,116,104,101,110,32,98,97,115,101,32,101,108,115,101,32,49,32,99,101,110,116,115,32,47,32,48]⟩
theorem par_1 : parseE st1.data.toList = .ok (shp tx1):=by kernel_rfl
theorem val_1 : evalF baseL tx1 docT docM=⟨0,0,15⟩:=by kernel_rfl
theorem par_2 : parseE st2.data.toList = .ok (shp tx2):=by kernel_rfl
theorem val_2 : evalF baseL tx2 docT docM=⟨0,0,14⟩:=by kernel_rfl
theorem par_3 : parseE st3.data.toList = .ok (shp tx3):=by kernel_rfl
theorem val_3 : evalF baseL tx3 docT docM=⟨106,1,0⟩:=by kernel_rfl
theorem par_4 : parseE st4.data.toList = .ok (shp tx4):=by kernel_rfl
theorem val_4 : evalF baseL tx4 docT docM=⟨15,2,0⟩:=by kernel_rfl
theorem par_5 : parseE st5.data.toList = .ok (shp tx5):=by kernel_rfl
theorem val_5 : evalF baseL tx5 docT docM=⟨0,1,0⟩:=by kernel_rfl
theorem par_6 : parseE st6.data.toList = .ok (shp tx6):=by kernel_rfl
theorem val_6 : evalF baseL tx6 docT docM=⟨100,1,0⟩:=by kernel_rfl
theorem val_one (d : Int) : val [d]=d:=by simp only [val]; omega
theorem val_snoc (l : List Int) (d : Int) : val (l ++ [d])=val l+pw l.length * d:=by rw [val_app,val_one]
theorem val_nil : val []=0:=rfl
theorem val_headD (b : List Int) (i : Nat) : val (b.drop i)=(b.drop i).headD 0+1048576 * val (b.drop (i+1)):=by
 rw [headD_tail (b.drop i),List.tail_drop]
theorem pw_succ (n : Nat) : pw (n+1)=1048576 * pw n:=rfl
theorem digOK_snoc {l : List Int} {d : Int} (h : DigOK l) (h0 : 0≤d) (h1 : d<1048576) : DigOK (l ++ [d]):=digOK_app.2 ⟨h,digOK_cons.2 ⟨⟨h0,h1⟩,DigOK.nil⟩⟩
theorem digOK_dropR {l : List Int} (h : DigOK l) (i : Nat) : DigOK (l.drop i):=fun d hd=>h d (List.mem_of_mem_drop hd)
theorem digOK_headR {l : List Int} (h : DigOK l) (i : Nat) : 0≤(l.drop i).headD 0∧(l.drop i).headD 0<1048576:=digOK_head (digOK_dropR h i)
structure SumR (a b : List Int) (i : Nat) (c : Int) (o : List Int) : Prop where
  len : o.length=i
  ok : DigOK o
  eq : val o+pw i * (c+val (a.drop i)+val (b.drop i))=val a+val b
  c0 : 0≤c
  c1 : c≤1
theorem SumR.start (a b : List Int) : SumR a b 0 0 []:=⟨rfl,DigOK.nil,by simp [val,pw],by omega,by omega⟩
theorem SumR.next {a b o : List Int} {i : Nat} {c n : Int} (h : SumR a b i c o) (ha : DigOK a) (hb : DigOK b) (hn : n=(a.drop i).headD 0+(b.drop i).headD 0+c) : SumR a b (i+1) (n / 1048576) (o ++ [n % 1048576])∧0≤n∧n<2097152:=by
 have h1:=digOK_headR ha i;have h2:=digOK_headR hb i;have h3:=h.c0;have h4:=h.c1;have he:=h.eq;refine ⟨⟨by rw [List.length_append,h.len]; rfl,digOK_snoc h.ok Zo Zo, ?_,by omega,by omega⟩,by omega,by omega⟩;rw [val_snoc,h.len,pw_succ,← he,val_headD a i,val_headD b i,Int.add_assoc (val o),Int.mul_comm 1048576,Int.mul_assoc,← Int.mul_add];congr 2;omega
theorem SumR.done {a b o : List Int} {i : Nat} (h : SumR a b i 0 o) (ha : a.length≤i) (hb : b.length≤i) : val o=val a+val b:=by
 have he:=h.eq;rw [List.drop_eq_nil_of_le ha,List.drop_eq_nil_of_le hb,val_nil] at he;simpa using he
theorem SumR.trim {a b o : List Int} {i n : Nat} (h : SumR a b i 0 o) (ha : a.length≤i) (hb : b.length≤i) (hn : val a+val b=n) : trimL o=digs n:=by
 rw [trimL_is h.ok,h.done ha hb,hn,Int.toNat_natCast]
structure DifR (a b : List Int) (i : Nat) (c : Int) (o : List Int) : Prop where
  len : o.length=i
  ok : DigOK o
  eq : val o+pw i * (val (a.drop i) - val (b.drop i) - c)=val a - val b
  c0 : 0≤c
  c1 : c≤1
theorem DifR.start (a b : List Int) : DifR a b 0 0 []:=⟨rfl,DigOK.nil,by simp [val,pw],by omega,by omega⟩
theorem DifR.step {a b o : List Int} {i : Nat} {c n d e : Int} (h : DifR a b i c o) (hn : n=(a.drop i).headD 0 - (b.drop i).headD 0 - c) (hd : d=n+1048576 * e) (h0 : 0≤d) (h1 : d<1048576) (he0 : 0≤e) (he1 : e≤1) : DifR a b (i+1) e (o ++ [d]):=by
 have he:=h.eq;refine ⟨by rw [List.length_append,h.len]; rfl,digOK_snoc h.ok h0 h1, ?_,he0,he1⟩;rw [val_snoc,h.len,pw_succ,← he,val_headD a i,val_headD b i,Int.add_assoc (val o),Int.mul_comm 1048576,Int.mul_assoc,← Int.mul_add];congr 2;omega
theorem DifR.bounds {a b o : List Int} {i : Nat} {c n : Int} (h : DifR a b i c o) (ha : DigOK a) (hb : DigOK b) (hn : n=(a.drop i).headD 0 - (b.drop i).headD 0 - c) : -1048576≤n∧n<1048576:=by
 have h1:=digOK_headR ha i;have h2:=digOK_headR hb i;have h3:=h.c0;have h4:=h.c1;omega
theorem DifR.yes {a b o : List Int} {i : Nat} {c n : Int} (h : DifR a b i c o) (ha : DigOK a) (hb : DigOK b) (hn : n=(a.drop i).headD 0 - (b.drop i).headD 0 - c) (hs : 0≤n) : DifR a b (i+1) 0 (o ++ [n]):=by
 have hb:=h.bounds ha hb hn;exact h.step hn Zo hs hb.2 Zo Zo
theorem DifR.no {a b o : List Int} {i : Nat} {c n : Int} (h : DifR a b i c o) (ha : DigOK a) (hb : DigOK b) (hn : n=(a.drop i).headD 0 - (b.drop i).headD 0 - c) (hs : n<0) : DifR a b (i+1) 1 (o ++ [n+1048576]):=by
 have hb:=h.bounds ha hb hn;exact h.step hn Zo Zo Zo Zo Zo
theorem DifR.done {a b o : List Int} {i : Nat} {c : Int} (h : DifR a b i c o) (hb : DigOK b) (ha : a.length≤i) (hle : val b≤val a) : val o=val a - val b:=by
 have he:=h.eq;rw [List.drop_eq_nil_of_le ha,val_nil] at he;have h1:=val_lt h.ok;rw [h.len] at h1;have h2:=val_nn (digOK_dropR hb i);have h3:=h.c0;have h4:=pw_pos i;generalize val (b.drop i)=x at *;by_cases hx : x+c=0
 ·rw [show 0 - x - c=0 by omega,Int.mul_zero] at he;omega
 ·have : pw i * (0 - x - c)≤pw i * (-1):=Int.mul_le_mul_of_nonneg_left Zo Zo;omega
theorem DifR.trim {a b o : List Int} {i n : Nat} {c : Int} (h : DifR a b i c o) (hb : DigOK b) (ha : a.length≤i) (hn : val a - val b=n) : trimL o=digs n:=by
 rw [trimL_is h.ok,h.done hb ha Zo,hn,Int.toNat_natCast]
theorem val_setD : ∀ (l : List Int) (j : Nat) (x y : Int),l[j]? = some x→val (l.set j y)=val l+pw j * (y - x)
 | [],_,_,_,h=>by simp at h
 | d :: l,0,x,y,h=>by
  (obtain rfl : d=x:=by simpa using h);simp only [List.set_cons_zero,val,pw]; omega
 | d :: l,j+1,x,y,h=>by
  have ih:=val_setD l j x y (by simpa using h);simp only [List.set_cons_succ,val,pw];rw [ih,Int.mul_assoc]; omega
theorem digOK_set {l : List Int} (h : DigOK l) (j : Nat) {x : Int} (h0 : 0≤x) (h1 : x<1048576) : DigOK (l.set j x):=fun d hd=>by
 rcases List.mem_or_eq_of_mem_set hd with h2 | rfl
 ·exact h d h2
 ·exact ⟨h0,h1⟩
structure RowR (x : Int) (b o0 : List Int) (k q : Nat) (c : Int) (o : List Int) : Prop where
  ok : DigOK o
  len : o.length=o0.length
  zero : ∀ j,k+b.length≤j→k+q≤j→j<o.length→o[j]? = some 0
  eq : val o+pw (k+q) * (c+x * val (b.drop q))=val o0+pw k * (x * val b)
  c0 : 0≤c
  c1 : c<1048576
  most : q≤b.length+1
  last : q=b.length+1→c=0
theorem RowR.start {a b o : List Int} {k : Nat} (x : Int) (h : MulS a b k o) : RowR x b o k 0 0 o where
 ok:=h.ok
 len:=rfl
 zero j h1 _ h2:=h.zero j h1 h2
 eq:=by simp
 c0:=by omega
 c1:=by omega
 most:=by omega
 last h:=by omega
theorem RowR.next {x c n z : Int} {b o0 o : List Int} {k q : Nat} (h : RowR x b o0 k q c o) (hx : 0≤x∧x<1048576) (hb : DigOK b) (hq : q<b.length∨0<c) (hz : o[k+q]? = some z) (hn : n=z+x * (b.drop q).headD 0+c) : RowR x b o0 k (q+1) (n / 1048576) (o.set (k+q) (n % 1048576))∧0≤n∧n<1099511627776:=by
 obtain ⟨hl,hzg⟩:=List.getElem?_eq_some_iff.1 hz;have hz1 : 0≤z∧z<1048576:=h.ok z (List.mem_of_getElem? hz);have hy:=digOK_headR hb q;have h3:=h.c0;have h4:=h.c1;have he:=h.eq;have hm:=h.most;have hlast:=h.last;have hp0 : 0≤x * (b.drop q).headD 0:=Int.mul_nonneg hx.1 hy.1;have hp1 : x * (b.drop q).headD 0≤1048575 * 1048575:=Int.mul_le_mul Zo Zo hy.1 Zo;have hq2 : q<b.length∨q=b.length:=by omega
 have hnl : q=b.length→n<1048576:=fun hqe=>by
  have h0:=h.zero (k+q) Zo Zo hl;rw [hz] at h0;injection h0 with h0;rw [hqe,List.drop_length] at hn;simp only [List.headD_nil,Int.mul_zero] at hn;omega
 have hzero:=h.zero;have hvb:=val_headD b q;generalize (b.drop q).headD 0=y at *;generalize hvc : val (b.drop (q+1))=V at *;refine ⟨⟨digOK_set h.ok _ Zo Zo,by rw [List.length_set,h.len],fun j h5 h6 h7=>?_, ?_,by omega,by omega,by omega,fun hql=>?_⟩,by omega,by omega⟩
 ·rw [List.length_set] at h7;rw [List.getElem?_set_ne Zo];exact hzero j h5 Zo h7
 ·rw [val_setD _ _ _ _ hz,show k+(q+1)=(k+q)+1 by omega,pw_succ,← he,hvb,hvc];rw [Int.add_assoc (val o),Int.mul_comm 1048576,Int.mul_assoc,← Int.mul_add];congr 2;(have e1 : x * (y+1048576 * V)=x * y+1048576 * (x * V):=by rw [Int.mul_add,Int.mul_left_comm]);rw [e1];omega
 ·have:=hnl Zo;omega
theorem RowR.done {x : Int} {a b o0 o : List Int} {k q : Nat} (h : RowR x b o0 k q 0 o) (hm : MulS a b k o0) (hk : a[k]? = some x) (hq : b.length≤q) : MulS a b (k+1) o where
 ok:=h.ok
 len:=by rw [h.len,hm.len]
 zero j h1 h2:=h.zero j Zo (by have:=h.most; omega) h2
 sum:=by
  have he:=h.eq;rw [List.drop_eq_nil_of_le hq,val_nil] at he;obtain ⟨hl,hx⟩:=List.getElem?_eq_some_iff.1 hk;rw [List.take_succ_eq_append_getElem hl,hx,val_snoc,List.length_take,Nat.min_eq_left Zo,Int.add_mul,← hm.sum,Int.mul_assoc,← he];simp
theorem RowR.fits {x c : Int} {a b o0 o : List Int} {k q : Nat} (h : RowR x b o0 k q c o) (hm : MulS a b k o0) (hk : k<a.length) (hq : q<b.length∨0<c) : k+q<o.length:=by
 rw [h.len,hm.len];have h1:=h.most;have h2:=h.last;omega
theorem MulS.trim {a b o : List Int} {n : Nat} (h : MulS a b a.length o) (hn : val a * val b=n) : trimL o=digs n:=by
 rw [trimL_is h.ok,h.done,hn,Int.toNat_natCast]
structure OverR (a b : List Int) (i : Nat) (q : List Int) (r : Nat) : Prop where
  len : q.length=a.length
  ok : DigOK q
  eq : val (a.drop i)=val (q.drop i) * val b+r
  lt : (r : Int)<val b
theorem OverR.start {a b : List Int} (hb : 0<val b) : OverR a b a.length (List.replicate a.length 0) 0 where
 len:=by simp
 ok d hd:=by rw [List.eq_of_mem_replicate hd]; omega
 eq:=by rw [List.drop_length,List.drop_eq_nil_of_le Zs]; simp [val]
 lt:=by simpa using hb
theorem OverR.next {a b q : List Int} {i r lo : Nat} {x : Int} (h : OverR a b (i+1) q r) (hx : a[i]? = some x) (hlo : lo<1048576) (h1 : (lo : Int) * val b≤x+1048576 * r) (h2 : x+1048576 * r<((lo : Int)+1) * val b) : OverR a b i (q.set i lo) (x+1048576 * r - (lo : Int) * val b).toNat:=by
 obtain ⟨hl,hxg⟩:=List.getElem?_eq_some_iff.1 hx;have he:=h.eq;(have hql : i<(q.set i (lo : Int)).length:=by rw [List.length_set,h.len]; exact hl);refine ⟨by rw [List.length_set,h.len],digOK_set h.ok i Zo Zo, ?_, ?_⟩
 ·rw [List.drop_eq_getElem_cons hl,hxg,List.drop_eq_getElem_cons hql,List.getElem_set_self,List.drop_set_of_lt Zo];simp only [val];rw [he,Int.toNat_of_nonneg Zo,Int.add_mul,Int.mul_add,Int.mul_assoc 1048576];omega
 ·rw [Int.toNat_of_nonneg Zo];rw [Int.add_mul,Int.one_mul] at h2;omega
theorem OverR.done {a b q : List Int} {r : Nat} {x y : Nat} (h : OverR a b 0 q r) (ha : val a=x) (hb : val b=y) (hy : 0<y) : trimL q=digs (x / y)∧r=x % y:=by
 have he:=h.eq;have hl:=h.lt;have hq:=val_nn h.ok;rw [List.drop_zero,List.drop_zero,ha,hb] at he;rw [hb] at hl;rw [trimL_is h.ok];obtain ⟨v,hv⟩ : ∃ v : Nat,val q=v:=⟨(val q).toNat,by omega⟩;rw [hv] at he ⊢;(have he' : x=v * y+r:=by exact_mod_cast he);(have hr : r<y:=by omega);rw [Int.toNat_natCast,he'];constructor
 ·rw [Nat.add_comm,Nat.mul_comm,Nat.add_mul_div_left _ _ hy,Nat.div_eq_of_lt hr,Nat.zero_add]
 ·rw [Nat.add_comm,Nat.mul_comm,Nat.add_mul_mod_self_left,Nat.mod_eq_of_lt hr]
end Go.Proofs.YtcgocdhhneckhaaGreatDoor
