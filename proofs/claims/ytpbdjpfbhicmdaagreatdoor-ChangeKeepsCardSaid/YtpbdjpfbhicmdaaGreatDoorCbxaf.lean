/- Walks: syntax.RightExp, Right$1, unique. -/
import Derived.Test.YtpbdjpfbhicmdaaGreatDoorCbxae
set_option linter.unusedSimpArgs false
set_option linter.unusedVariables false
set_option maxRecDepth 100000
set_option maxHeartbeats 6400000
namespace Go.Proofs.YtpbdjpfbhicmdaaGreatDoor
open Go.RowKit
def rexp (e : PT) : Bool:=okE 12 e
theorem syn_rexp (e : PT) (w : World) (he : PT.At (· < w.heap.size) w e) : Calls Tryz.prog 59 #[e.v] w fun r w'=>r = .returned (.bool (rexp e))∧Below w.heap.size w w':=by
 have HI:=Zh (fun w2 (h : PT.At (· < w2.heap.size) w2 e)=>syn_right 12 Zo e w2 h);have HE:=Zh he;clear he;obtain ⟨o,n,u,s,A,c,l⟩:=e;simp only [PT.v] at HI ⊢;go_enter Tryz.func59,Tryz.ntmps59;go_wp2_with fail;have HB : Hid (Below w.heap.size w (w.alloc (.cells #[.int .i64 o,.int .i64 n,.int .i64 u,.string s,.slice A l.length c] 26))):=Zh qbl;refine (HI.out _ (HE.out.later HB.out)).mono ?_;rintro e w' ⟨rfl,hb⟩;have hB : Below w.heap.size w w':=HB.out.trans (hb.mono HB.out.size);clear hb;obtain ⟨r,hr⟩ : ∃ r,okE 12 ⟨o,n,u,s,A,c,l⟩=r:=⟨_,rfl⟩;rw [hr];have HR : Hid (r=rexp ⟨o,n,u,s,A,c,l⟩):=Zh hr.symm;clear hr;go_wp2_with fail;go_ret;exact ⟨ret_bool HR.out,hB⟩
theorem syn_Right1 (e : PT) (w : World) (he : PT.At (· < w.heap.size) w e) : Calls Tryz.prog 64 #[e.v] w fun r w'=>r = .returned (.bool (!rexp e))∧Below w.heap.size w w':=by
 have HI:=Zh (fun w2 (h : PT.At (· < w2.heap.size) w2 e)=>syn_rexp e w2 h);have HE:=Zh he;clear he;obtain ⟨o,n,u,s,A,c,l⟩:=e;simp only [PT.v] at HI ⊢;go_enter Tryz.func64,Tryz.ntmps64;go_wp2_with fail;have HB : Hid (Below w.heap.size w (w.alloc (.cells #[.int .i64 o,.int .i64 n,.int .i64 u,.string s,.slice A l.length c] 26))):=Zh qbl;refine (HI.out _ (HE.out.later HB.out)).mono ?_;rintro e w' ⟨rfl,hb⟩;have hB : Below w.heap.size w w':=HB.out.trans (hb.mono HB.out.size);clear hb;obtain ⟨r,hr⟩ : ∃ r,rexp ⟨o,n,u,s,A,c,l⟩=r:=⟨_,rfl⟩;rw [hr];have HR : Hid ((!r) = !rexp ⟨o,n,u,s,A,c,l⟩):=Zh (by rw [hr]);clear hr;go_wp2_with fail;go_ret;exact ⟨ret_bool HR.out,hB⟩
def uniqB : List ByteArray→List ByteArray→Bool
  | _,[]=>true
  | p,x :: r=>nameB x && (!inL x p && uniqB (p ++ [x]) r)
theorem uniqB_no {p r : List ByteArray} {x : ByteArray} (h : nameB x=false) : uniqB p (x :: r)=false:=by unfold uniqB; rw [h]; rfl
theorem uniqB_had {p r : List ByteArray} {x : ByteArray} (h : inL x p=true) : uniqB p (x :: r)=false:=by unfold uniqB; rw [h]; simp
theorem uniqB_on {p r : List ByteArray} {x : ByteArray} (h : nameB x=true) (k : inL x p=false) : uniqB p (x :: r)=uniqB (p ++ [x]) r:=by rw [uniqB,h,k]; rfl
theorem syn_unique (s : Sl ByteArray) (m : Int) (w : World) (hr : Rd (· < w.heap.size) 1 senc w s) (hs : ∀ x,x ∈ s.l→x.size≤9223372036854775807) : Calls Tryz.prog 62 #[.slice s.A s.l.length s.c,.int .i64 m] w fun e w'=>e = .returned (.bool (uniqB [] s.l && decide ((s.l.length : Int)≤m)))∧Below w.heap.size w w':=by
 obtain ⟨A,c,l⟩:=s;have hn:=hr.len;have hlc:=hr.lecap;have hc:=hr.cap;simp only at hn hlc hc;have HR:=Zh hr;have HS:=Zh hs;clear hr hs;simp only;go_enter Tryz.func62,Tryz.ntmps62;go_wp2_with fail;go_loopw [9] (fun i wr=>∃ (k : Nat),k≤l.length∧i = .int .i64 k∧Below w.heap.size w wr∧Hid (uniqB [] l=uniqB (l.take k) (l.drop k))) (fun i _=>l.length - (intOf i).toNat)
 case atStart=>exact ⟨0,by omega,rfl,Below.refl _ _,Zh Zs⟩
 case round =>
  obtain ⟨k,hk,rfl,hbel,HG⟩:=hrel;have hhe : w.heap.size≤wr.heap.size:=hbel.size;by_cases hlt : k<l.length
  ·obtain ⟨b,o,hA,hb,c0⟩:=(HR.out.later hbel).gets hlt;simp only at hA c0;subst hA;have hd : l.drop k=l[k] :: l.drop (k+1):=List.drop_eq_getElem_cons hlt;(have ht : l.take (k+1)=l.take k ++ [l[k]]:=by rw [List.take_succ_eq_append_getElem hlt]);have hgo:=HG.out;rw [hd] at hgo;have HGO:=Zh hgo;have HT:=Zh ht;have HN:=Zh (fun w2=>syn_name l[k] w2 (HS.out _ (List.getElem_mem hlt)));clear hd ht hgo HG;generalize l[k]=x at *;rcases hnx : nameB x
   ·have HV:=Zh (HGO.out.trans (uniqB_no hnx));go_wp2_with fail;refine (HN.out _).mono ?_;rintro e w' ⟨rfl,hb1⟩;have hB:=hbel.trans (hb1.mono hhe);clear hb1;rw [hnx];clear hnx;go_wp2_with fail;go_ret;exact ⟨ret_bool (by rw [HV.out]; rfl),hB⟩
   ·(have hlk : (l.take k).length=k:=by rw [List.length_take]; omega);go_wp2_with fail;refine (HN.out _).mono ?_;rintro e w' ⟨rfl,hb1⟩;have hB:=hbel.trans (hb1.mono hhe);clear hb1;rw [hnx];have HNX:=Zh hnx;clear hnx;have HH:=has_str ⟨some ⟨b,o,none⟩,c,l.take k⟩ x w' ((HR.out.later hB).takeN k);simp only at HH;rw [hlk] at HH;clear hlk;rcases hin : inL x (l.take k)
    ·rw [hin] at HH;have HI:=Zh (HGO.out.trans ((uniqB_on HNX.out hin).trans (by rw [← HT.out])));clear hin;go_wp2_with fail;refine HH.mono ?_;clear HH;rintro e w2 ⟨rfl,hb2⟩;have hB2:=hB.trans (hb2.mono hB.size);clear hb2;go_wp2_with fail;go_roundw
     case rel=>exact ⟨k+1,by omega,by go_num,hB2,HI⟩
     case measure=>simp [intOf]; omega
    ·rw [hin] at HH;have HV:=Zh (HGO.out.trans (uniqB_had hin));clear hin;go_wp2_with fail;refine HH.mono ?_;clear HH;rintro e w2 ⟨rfl,hb2⟩;have hB2:=hB.trans (hb2.mono hB.size);clear hb2;go_wp2_with fail;go_ret;exact ⟨ret_bool (by rw [HV.out]; rfl),hB2⟩
  ·have hkl : l.drop k=[]:=List.drop_eq_nil_of_le Zo;have hgo:=HG.out;rw [hkl] at hgo;have HGO:=Zh hgo;clear hkl hgo HG;go_wp2_with fail;go_ret;exact ⟨ret_bool (by rw [HGO.out]; rfl),hbel⟩
structure LT where
  nm : ByteArray
  b : PT
def LT.enc (x : LT) : List Value:=.string x.nm :: x.b.enc
def LT.v : LT→Value | ⟨nm,o,n,u,s,A,c,l⟩=>.agg #[.string nm,.int .i64 o,.int .i64 n,.int .i64 u,.string s,.slice A l.length c]
structure LT.At (F : Nat→Prop) (w : World) (x : LT) : Prop where
  nm : x.nm.size≤9223372036854775807
  b : PT.At F w x.b
structure LetsAt (F : Nat→Prop) (w : World) (s : Sl LT) : Prop where
  rd : Rd F 6 LT.enc w s
  all : ∀ x,x ∈ s.l→LT.At F w x
theorem LT.At.keep {F G : Nat→Prop} {w w' : World} {e : LT} (h : LT.At F w e) (hk : ∀ b,F b→w'.heap[b]? = w.heap[b]?) (hFG : ∀ b,F b→G b) : LT.At G w' e:=⟨h.nm,h.b.keep hk hFG⟩
theorem LetsAt.keep {F G : Nat→Prop} {w w' : World} {s : Sl LT} (h : LetsAt F w s) (hk : ∀ b,F b→w'.heap[b]? = w.heap[b]?) (hFG : ∀ b,F b→G b) : LetsAt G w' s :=
 ⟨(h.rd.keep hk).mono hFG,fun x hx=>(h.all x hx).keep hk hFG⟩
theorem LT.At.later {w w' : World} {e : LT} (h : LT.At (· < w.heap.size) w e) (hb : Below w.heap.size w w') : LT.At (· < w'.heap.size) w' e :=
 h.keep (fun b hb'=>hb.block b hb') (fun b hb'=>Nat.lt_of_lt_of_le hb' hb.size)
theorem LetsAt.later {w w' : World} {s : Sl LT} (h : LetsAt (· < w.heap.size) w s) (hb : Below w.heap.size w w') : LetsAt (· < w'.heap.size) w' s :=
 h.keep (fun b hb'=>hb.block b hb') (fun b hb'=>Nat.lt_of_lt_of_le hb' hb.size)
structure Byl where
  nm : ByteArray
  lets : Sl LT
  ad : PT
  fa : PT
  la : PT
  no : PT
  q : Int
  sh : Int
  ch : Int
def Byl.v : Byl→Value
  | ⟨nm,L,⟨o,n,u,s,A,c,l⟩,⟨o2,n2,u2,s2,A2,c2,l2⟩,⟨o3,n3,u3,s3,A3,c3,l3⟩,⟨o4,n4,u4,s4,A4,c4,l4⟩,q,sh,ch⟩ =>
    .agg #[.string nm,.slice L.A L.l.length L.c,.int .i64 o,.int .i64 n,.int .i64 u,.string s,.slice A l.length c,.int .i64 o2,.int .i64 n2,.int .i64 u2,.string s2,.slice A2 l2.length c2,.int .i64 o3,.int .i64 n3,.int .i64 u3,.string s3,.slice A3 l3.length c3,.int .i64 o4,.int .i64 n4,.int .i64 u4,.string s4,.slice A4 l4.length c4,.int .i64 q,.int .i64 sh,.int .i64 ch]
structure Byl.At (F : Nat→Prop) (w : World) (b : Byl) : Prop where
  nm : b.nm.size≤9223372036854775807
  lets : LetsAt F w b.lets
  ad : PT.At F w b.ad
  fa : PT.At F w b.fa
  la : PT.At F w b.la
  no : PT.At F w b.no
theorem Byl.At.later {w w' : World} {b : Byl} (h : Byl.At (· < w.heap.size) w b) (hb : Below w.heap.size w w') : Byl.At (· < w'.heap.size) w' b :=
 ⟨h.nm,h.lets.later hb,h.ad.later hb,h.fa.later hb,h.la.later hb,h.no.later hb⟩
def namesL (l : List LT) : List ByteArray:=l.map LT.nm
def bylB (b : Byl) : Bool :=
  b.lets.l.all (fun x=>rexp x.b) && (nameB b.nm && (inB 0 1000 b.q && inB 0 1000 b.sh) && inB 1 1000 b.ch && (uniqB [] (namesL b.lets.l) && decide ((b.lets.l.length : Int)≤20)) && [b.ad,b.fa,b.la,b.no].all rexp)
theorem infoStr : Info Tryz.prog 9 (.string ByteArray.empty) 1 16:=info_mk Zy rfl
theorem Blk.b25 {w : World} {g : Nat} {t : TypeId} {x0 x1 x2 x3 x4 x5 x6 x7 x8 x9 x10 x11 x12 x13 x14 x15 x16 x17 x18 x19 x20 x21 x22 x23 x24 : Value} (h : Blk w g t #[x0,x1,x2,x3,x4,x5,x6,x7,x8,x9,x10,x11,x12,x13,x14,x15,x16,x17,x18,x19,x20,x21,x22,x23,x24]) : w.cell? ⟨g,0,none⟩=some x0∧w.cell? ⟨g,1,none⟩=some x1∧w.cell? ⟨g,2,none⟩=some x2∧w.cell? ⟨g,3,none⟩=some x3∧w.cell? ⟨g,4,none⟩=some x4∧w.cell? ⟨g,5,none⟩=some x5∧w.cell? ⟨g,6,none⟩=some x6∧w.cell? ⟨g,7,none⟩=some x7∧w.cell? ⟨g,8,none⟩=some x8∧w.cell? ⟨g,9,none⟩=some x9∧w.cell? ⟨g,10,none⟩=some x10∧w.cell? ⟨g,11,none⟩=some x11∧w.cell? ⟨g,12,none⟩=some x12∧w.cell? ⟨g,13,none⟩=some x13∧w.cell? ⟨g,14,none⟩=some x14∧w.cell? ⟨g,15,none⟩=some x15∧w.cell? ⟨g,16,none⟩=some x16∧w.cell? ⟨g,17,none⟩=some x17∧w.cell? ⟨g,18,none⟩=some x18∧w.cell? ⟨g,19,none⟩=some x19∧w.cell? ⟨g,20,none⟩=some x20∧w.cell? ⟨g,21,none⟩=some x21∧w.cell? ⟨g,22,none⟩=some x22∧w.cell? ⟨g,23,none⟩=some x23∧w.cell? ⟨g,24,none⟩=some x24∧(∀ o,w.frozen? ⟨g,o,none⟩=false)∧g<w.heap.size:=⟨h.cell 0,h.cell 1,h.cell 2,h.cell 3,h.cell 4,h.cell 5,h.cell 6,h.cell 7,h.cell 8,h.cell 9,h.cell 10,h.cell 11,h.cell 12,h.cell 13,h.cell 14,h.cell 15,h.cell 16,h.cell 17,h.cell 18,h.cell 19,h.cell 20,h.cell 21,h.cell 22,h.cell 23,h.cell 24,h.frozen,h.lt⟩
theorem PT.enc_k : ∀ x : PT,x.enc.length=5 | ⟨_,_,_,_,_,_,_⟩=>rfl
theorem rd_ones {W : World} {g : Nat} {t : TypeId} {x : ByteArray} (h : Blk W g t #[.string x]) : Rd (· < W.heap.size) 1 senc W ⟨some ⟨g,0,none⟩,1,[x]⟩ :=
 ⟨Nat.le_refl _,by unfold maxLen; simp,fun h=>by simp at h,fun i y hy=>by
  have hi : i=0:=by
   rcases i with _ | i
   ·rfl
   ·simp at hy
  subst hi;(have hxy : x=y:=by simpa using hy);subst hxy
  exact ⟨g,0,rfl,h.lt,fun j u hu=>by
   rw [Nat.zero_mul,Nat.add_zero,Nat.zero_add,h.cell];simpa [senc] using hu⟩⟩
theorem all_no {L : List LT} {x : LT} (hx : x ∈ L) (h : rexp x.b=false) : L.all (fun x=>rexp x.b)=false:=List.all_eq_false.2 ⟨x,hx,by simp [h]⟩
theorem bylB_no {b : Byl} (h : b.lets.l.all (fun x=>rexp x.b)=false) : bylB b=false:=by unfold bylB; rw [h]; rfl
theorem bylB_is {b : Byl} (h : b.lets.l.all (fun x=>rexp x.b)=true) : bylB b=(nameB b.nm && [b.q,b.sh].all (inB 0 1000) && inB 1 1000 b.ch && (uniqB [] (namesL b.lets.l) && decide (((namesL b.lets.l).length : Int)≤20)) && [b.ad,b.fa,b.la,b.no].all rexp):=by
 unfold bylB; rw [h,Bool.true_and,namesL,List.length_map]; simp only [List.all_cons,List.all_nil,Bool.and_true]
theorem and5a (b c d e : Bool) : false=(false && b && c && d && e):=rfl
theorem and5b (a c d e : Bool) : false=(a && false && c && d && e):=by cases a <;> rfl
theorem and5c (a b d e : Bool) : false=(a && b && false && d && e):=by cases a <;> cases b <;> rfl
theorem and5d (a b c e : Bool) : false=(a && b && c && false && e):=by cases a <;> cases b <;> cases c <;> rfl
theorem and5e (e : Bool) : (true && true && true && true && e)=e:=rfl
theorem names_sz {F : Nat→Prop} {w : World} {s : Sl LT} (h : LetsAt F w s) : ∀ x,x ∈ namesL s.l→x.size≤9223372036854775807:=by
 intro x hx;obtain ⟨y,hy,rfl⟩:=List.mem_map.1 hx;exact (h.all y hy).nm
theorem Cells.c6 {w : World} {b o : Nat} {x y z s t u : Value} (h : Cells w b o [x,y,z,s,t,u]) : w.cell? ⟨b,o,none⟩=some x∧w.cell? ⟨b,o+1,none⟩=some y∧w.cell? ⟨b,o+2,none⟩=some z∧w.cell? ⟨b,o+3,none⟩=some s∧w.cell? ⟨b,o+4,none⟩=some t∧w.cell? ⟨b,o+5,none⟩=some u:=⟨h 0 _ rfl,h 1 _ rfl,h 2 _ rfl,h 3 _ rfl,h 4 _ rfl,h 5 _ rfl⟩
theorem syn_Right (b : Byl) (w : World) (hb : Byl.At (· < w.heap.size) w b) (h40 : b.lets.l.length≤1000000) : Calls Tryz.prog 39 #[b.v] w fun e w'=>e = .returned (.bool (bylB b))∧Below w.heap.size w w':=by
 have HP:=Zh hb;clear hb;obtain ⟨V,hV⟩ : ∃ V,bylB b=V:=⟨_,rfl⟩;have HV:=Zh hV;rw [hV];clear hV;obtain ⟨nm,⟨LA,Lc,L⟩,⟨o,n,u,s,A,c,l⟩,⟨oB,nB,uB,sB,AB,cB,lB⟩,⟨oC,nC,uC,sC,AC,cC,lC⟩,⟨oD,nD,uD,sD,AD,cD,lD⟩,q,sh,ch⟩:=b;simp only at h40;simp only [Byl.v];go_enter Tryz.func39,Tryz.ntmps39;go_wp2_with fail;have HB : Hid (Below w.heap.size w (w.alloc (.cells #[.string nm,.slice LA L.length Lc,.int .i64 o,.int .i64 n,.int .i64 u,.string s,.slice A l.length c,.int .i64 oB,.int .i64 nB,.int .i64 uB,.string sB,.slice AB lB.length cB,.int .i64 oC,.int .i64 nC,.int .i64 uC,.string sC,.slice AC lC.length cC,.int .i64 oD,.int .i64 nD,.int .i64 uD,.string sD,.slice AD lD.length cD,.int .i64 q,.int .i64 sh,.int .i64 ch] 28))):=Zh qbl;have HA:=Zh (Blk.new w 28 #[.string nm,.slice LA L.length Lc,.int .i64 o,.int .i64 n,.int .i64 u,.string s,.slice A l.length c,.int .i64 oB,.int .i64 nB,.int .i64 uB,.string sB,.slice AB lB.length cB,.int .i64 oC,.int .i64 nC,.int .i64 uC,.string sC,.slice AC lC.length cC,.int .i64 oD,.int .i64 nD,.int .i64 uD,.string sD,.slice AD lD.length cD,.int .i64 q,.int .i64 sh,.int .i64 ch]);generalize w.alloc (.cells _ 28)=w1 at *;go_loopw [3,10] (fun t i wr=>∃ (k : Nat) (B : Option Addr) (d : Nat) (nl : List ByteArray),k≤L.length∧nl.length=k∧i = .int .i64 k∧t = .slice B nl.length d∧Hid (Own w1.heap.size 9 1 senc wr ⟨B,d,nl⟩)∧Below w1.heap.size w1 wr∧Hid ((L.take k).all (fun x=>rexp x.b)=true∧nl=namesL (L.take k))) (fun _ i _=>L.length - (intOf i).toNat)
 case atStart=>exact ⟨0,none,0,[],by omega,rfl,rfl,rfl,Zh (Own.nil _ _ _ _ _),Below.refl _ _,Zh (by simp [namesL])⟩
 case round =>
  obtain ⟨k,B,d,nl,hk,hnl,rfl,rfl,HW,hbel,HG⟩:=hrel;have hhe : w1.heap.size≤wr.heap.size:=hbel.size;by_cases hlt : k<L.length
  ·have hLW:=(HP.out.later (HB.out.trans (hbel.mono HB.out.size))).lets;obtain ⟨b,p,hA,hbl,hcl⟩:=hLW.rd.at1 hlt;have HX:=Zh (hLW.all _ (List.getElem_mem hlt));have HM:=Zh (List.getElem_mem hlt);simp only at hA hcl HX;subst hA;(have ht : L.take (k+1)=L.take k ++ [L[k]]:=by rw [List.take_succ_eq_append_getElem hlt]);have HT:=Zh ht;have HN:=Zh hnl;(have hnb : nl.length+1≤1000001:=by omega);clear hLW ht hnl;generalize L[k]=x at *;obtain ⟨xn,xo,xm,xu,xs,xA,xc,xl⟩:=x;obtain ⟨g0,g1,g2,g3,g4,g5⟩:=Cells.c6 hcl;clear hcl;go_wp2_with fail;refine (syn_rexp ⟨xo,xm,xu,xs,xA,xc,xl⟩ _ (HX.out.b.later qbl)).mono ?_;rintro e w3 ⟨rfl,hb3⟩;have f0 : w3.cell? ⟨wr.heap.size,0,none⟩=some (.string xn):=((Blk.new wr _ _).later hb3).cell 0;have hbw : Below wr.heap.size wr w3:=Below.trans qbl (hb3.mono Zp);have hbs:=hbw.size;clear hb3 g0 g1 g2 g3 g4 g5;rcases hrx : rexp ⟨xo,xm,xu,xs,xA,xc,xl⟩
   ·have HF : Hid (false=V):=Zh ((bylB_no (all_no HM.out hrx)).symm.trans HV.out);clear hrx;go_wp2_with fail;go_ret;exact ⟨ret_bool HF.out,HB.out.trans ((hbel.trans (hbw.mono hhe)).mono HB.out.size)⟩
   ·have HRX:=Zh hrx;clear hrx;go_wp2_with (at_builtin;go_must (refine wpl_append_sl _ rfl (.tmp 18) (.tmp 21) _ rfl Tryz.underlying117 infoStr Zo senc_k senc_one ⟨B,d,nl⟩ ⟨some ⟨w3.heap.size,0,none⟩,1,[xn]⟩ rfl rfl ((HW.out.below hbw).alloc _) (rd_ones (Blk.new w3 _ _)) (by simp [maxLen]; omega) (by simp; omega) (by simp; omega) ?_);intro A2 c2 w4 hown hg _);go_roundw
    case measure=>simp [intOf]; omega
    case rel =>
     refine ⟨k+1,A2,c2,nl ++ [xn],by omega,by rw [List.length_append,HN.out]; rfl,by go_num,by simp,Zh hown, ?_,Zh ⟨?_, ?_⟩⟩
     ·exact (Below.alloc (hbel.trans (hbw.mono hhe)) Zo _).grown hg (by simp; omega) (fun k hk=>by have:=World.ownsRow.lt HW.out k hk; omega)
     ·rw [HT.out,List.all_append,HG.out.1]; simp [HRX.out]
     ·rw [HT.out,HG.out.2]; simp [namesL]
  ·have hkl : L.take k=L:=List.take_of_length_le Zo;have hgo:=HG.out;rw [hkl] at hgo;obtain ⟨hall,hnl2⟩:=hgo;have HZ:=Zh (names_sz HP.out.lets);simp only at HZ;rw [← hnl2] at HZ;have HV2:=Zh (HV.out.symm.trans (bylB_is hall));simp only at HV2;rw [← hnl2] at HV2;clear HG hall hnl2 hkl HV hnl;obtain ⟨y0,y1,y2,y3,y4,y5,y6,y7,y8,y9,y10,y11,y12,y13,y14,y15,y16,y17,y18,y19,y20,y21,y22,y23,y24,yf,yz⟩:=(HA.out.later hbel).b25;go_wp2_with fail;have hf4 : Own wr.heap.size 26 5 PT.enc (wr.alloc (.cells #[.int .i64 o,.int .i64 n,.int .i64 u,.string s,.slice A l.length c,.int .i64 oB,.int .i64 nB,.int .i64 uB,.string sB,.slice AB lB.length cB,.int .i64 oC,.int .i64 nC,.int .i64 uC,.string sC,.slice AC lC.length cC,.int .i64 oD,.int .i64 nD,.int .i64 uD,.string sD,.slice AD lD.length cD] 26)) ⟨some ⟨wr.heap.size,0,none⟩,4,[PT.mk o n u s A c l,PT.mk oB nB uB sB AB cB lB,PT.mk oC nC uC sC AC cC lC,PT.mk oD nD uD sD AD cD lD]⟩:=Own.lit wr #[.int .i64 o,.int .i64 n,.int .i64 u,.string s,.slice A l.length c,.int .i64 oB,.int .i64 nB,.int .i64 uB,.string sB,.slice AB lB.length cB,.int .i64 oC,.int .i64 nC,.int .i64 uC,.string sC,.slice AC lC.length cC,.int .i64 oD,.int .i64 nD,.int .i64 uD,.string sD,.slice AD lD.length cD] [PT.mk o n u s A c l,PT.mk oB nB uB sB AB cB lB,PT.mk oC nC uC sC AC cC lC,PT.mk oD nD uD sD AD cD lD] Zl (by unfold maxLen; simp) rfl PT.enc_k;have HF4:=Zh hf4;clear hf4 y0 y1 y2 y3 y4 y5 y6 y7 y8 y9 y10 y11 y12 y13 y14 y15 y16 y17 y18 y19 y20 y21 y22 y23 y24 yf yz;have HK0 : Hid (Below wr.heap.size wr (wr.alloc (.cells #[.int .i64 o,.int .i64 n,.int .i64 u,.string s,.slice A l.length c,.int .i64 oB,.int .i64 nB,.int .i64 uB,.string sB,.slice AB lB.length cB,.int .i64 oC,.int .i64 nC,.int .i64 uC,.string sC,.slice AC lC.length cC,.int .i64 oD,.int .i64 nD,.int .i64 uD,.string sD,.slice AD lD.length cD] 26))):=Zh qbl;generalize wr.alloc (.cells _ 26)=w2 at *;have hk0:=HK0.out.size;refine (syn_name nm _ HP.out.nm).mono ?_;rintro e w3 ⟨rfl,hb3⟩;have HQ3 : Hid (Below wr.heap.size wr w3):=Zh (HK0.out.trans (hb3.mono hk0));have H23 : Hid (Below w2.heap.size w2 w3):=Zh hb3;have hk3:=hb3.size;clear hb3;have y22 : (w3).cell? ⟨w.heap.size,22,none⟩=some (.int .i64 q):=(HA.out.later (hbel.trans ((HQ3.out).mono hhe))).cell 22;have y23 : (w3).cell? ⟨w.heap.size,23,none⟩=some (.int .i64 sh):=(HA.out.later (hbel.trans ((HQ3.out).mono hhe))).cell 23;have y24 : (w3).cell? ⟨w.heap.size,24,none⟩=some (.int .i64 ch):=(HA.out.later (hbel.trans ((HQ3.out).mono hhe))).cell 24;rcases hr1 : nameB nm
   ·have HF : Hid (false=V):=Zh (by rw [HV2.out,hr1]; exact and5a _ _ _ _);clear hr1;go_wp2_with fail;go_ret;exact ⟨ret_bool HF.out,HB.out.trans ((hbel.trans ((HQ3).out.mono hhe)).mono HB.out.size)⟩
   have HR1:=Zh hr1;clear hr1;go_wp2_with fail;refine (syn_in 0 1000 ⟨some ⟨w3.heap.size,0,none⟩,2,[q,sh]⟩ _ (OI.new w3 [q,sh] (by simp [maxLen])).rdlt).mono ?_;rintro e w4 ⟨rfl,hb4⟩;have h34 : Below w3.heap.size w3 w4:=Below.trans qbl (hb4.mono Zp);have HQ4 : Hid (Below wr.heap.size wr w4):=Zh (HQ3.out.trans (h34.mono (Nat.le_trans hk0 hk3)));have H24 : Hid (Below w2.heap.size w2 w4):=Zh (H23.out.trans (h34.mono hk3));have hk4:=h34.size;clear hb4 h34 y22 y23 y24;have y22 : (w4).cell? ⟨w.heap.size,22,none⟩=some (.int .i64 q):=(HA.out.later (hbel.trans ((HQ4.out).mono hhe))).cell 22;have y23 : (w4).cell? ⟨w.heap.size,23,none⟩=some (.int .i64 sh):=(HA.out.later (hbel.trans ((HQ4.out).mono hhe))).cell 23;have y24 : (w4).cell? ⟨w.heap.size,24,none⟩=some (.int .i64 ch):=(HA.out.later (hbel.trans ((HQ4.out).mono hhe))).cell 24;rcases hr2 : [q,sh].all (inB 0 1000)
   ·have HF : Hid (false=V):=Zh (by rw [HV2.out,hr2]; exact and5b _ _ _ _);clear hr2;go_wp2_with fail;go_ret;exact ⟨ret_bool HF.out,HB.out.trans ((hbel.trans ((HQ4).out.mono hhe)).mono HB.out.size)⟩
   have HR2:=Zh hr2;clear hr2;go_wp2_with fail;refine (syn_in_one 1 1000 ch w4.heap.size _ (Blk.new _ _ _)).mono ?_;rintro e w5 ⟨rfl,hb5⟩;have h45 : Below w4.heap.size w4 w5:=Below.trans qbl (hb5.mono Zp);have HQ5 : Hid (Below wr.heap.size wr w5):=Zh (HQ4.out.trans (h45.mono (Nat.le_trans hk0 (Nat.le_trans hk3 hk4))));have H25 : Hid (Below w2.heap.size w2 w5):=Zh (H24.out.trans (h45.mono (Nat.le_trans hk3 hk4)));have hk5:=h45.size;clear hb5 h45 y22 y23 y24;rcases hr3 : inB 1 1000 ch
   ·have HF : Hid (false=V):=Zh (by rw [HV2.out,hr3]; exact and5c _ _ _ _);clear hr3;go_wp2_with fail;go_ret;exact ⟨ret_bool HF.out,HB.out.trans ((hbel.trans ((HQ5).out.mono hhe)).mono HB.out.size)⟩
   have HR3:=Zh hr3;clear hr3;go_wp2_with fail;refine (syn_unique ⟨B,d,nl⟩ 20 _ ((((HW.out.below HQ5.out).rd senc_k)).mono (fun b hb=>hb.2)) HZ.out).mono ?_;rintro e w6 ⟨rfl,hb6⟩;have HQ6:=Zt HQ5 hb6;have H26:=Zt H25 hb6;clear hb6;simp only;obtain ⟨r4,hr4⟩ : ∃ r,(uniqB [] nl && decide ((nl.length : Int)≤20))=r:=⟨_,rfl⟩;rw [hr4];rcases r4
   ·have HF : Hid (false=V):=Zh (by rw [HV2.out,hr4]; exact and5d _ _ _ _);clear hr4;go_wp2_with fail;go_ret;exact ⟨ret_bool HF.out,HB.out.trans ((hbel.trans ((HQ6).out.mono hhe)).mono HB.out.size)⟩
   have HF0 : Hid (V=[PT.mk o n u s A c l,PT.mk oB nB uB sB AB cB lB,PT.mk oC nC uC sC AC cC lC,PT.mk oD nD uD sD AD cD lD].all rexp):=Zh (by rw [HV2.out,HR1.out,HR2.out,HR3.out,hr4]; exact and5e _);clear hr4;go_wp2_with fail;have HP6:=Zh (HP.out.later (HB.out.trans ((hbel.trans (HQ6.out.mono hhe)).mono HB.out.size)));refine (hasE_R ⟨some ⟨wr.heap.size,0,none⟩,4,[PT.mk o n u s A c l,PT.mk oB nB uB sB AB cB lB,PT.mk oC nC uC sC AC cC lC,PT.mk oD nD uD sD AD cD lD]⟩ (fun x=>!rexp x) 0 _ (((HF4.out.below H26.out).rd PT.enc_k).mono (fun b hb=>hb.2)) ?_).mono ?_
   ·intro W x hx hW;refine syn_Right1 x W ?_;simp only [List.mem_cons,List.not_mem_nil,or_false] at hx;rcases hx with rfl | rfl | rfl | rfl
    ·exact HP6.out.ad.later hW
    ·exact HP6.out.fa.later hW
    ·exact HP6.out.la.later hW
    ·exact HP6.out.no.later hW
   rintro e w7 ⟨rfl,hb7⟩;have HQ7:=Zt HQ6 hb7;clear hb7;rw [show (fun x=>!rexp x)=(fun x=>!(rexp) x) from rfl];have HAN:=any_not rexp [PT.mk o n u s A c l,PT.mk oB nB uB sB AB cB lB,PT.mk oC nC uC sC AC cC lC,PT.mk oD nD uD sD AD cD lD];obtain ⟨r5,hr5⟩ : ∃ r,([PT.mk o n u s A c l,PT.mk oB nB uB sB AB cB lB,PT.mk oC nC uC sC AC cC lC,PT.mk oD nD uD sD AD cD lD].any (fun x=>!rexp x))=r:=⟨_,rfl⟩;rw [hr5] at HAN;simp only [hr5];have HF : Hid ((!r5)=V):=Zh (HAN.trans HF0.out.symm);clear hr5 HAN;go_wp2_with fail;go_ret;exact ⟨ret_bool HF.out,HB.out.trans ((hbel.trans ((HQ7).out.mono hhe)).mono HB.out.size)⟩
end Go.Proofs.YtpbdjpfbhicmdaaGreatDoor
