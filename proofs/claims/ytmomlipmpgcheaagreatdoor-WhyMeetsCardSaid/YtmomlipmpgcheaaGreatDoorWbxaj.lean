/- Walks: syntax.RightExp, Right$1, unique. -/
import Derived.Test.YtmomlipmpgcheaaGreatDoorWbxai
set_option linter.unusedSimpArgs false
set_option linter.unusedVariables false
set_option maxRecDepth 100000
set_option maxHeartbeats 6400000
namespace Go.Proofs.YtmomlipmpgcheaaGreatDoor
open Go.RowKit
def rexp (e : PT) : Bool:=okE 12 e
theorem syn_rexp (e : PT) (w : World) (he : PT.At (· < w.heap.size) w e) : Calls Tryz.prog 97 #[e.v] w fun r w'=>r = .returned (.bool (rexp e))∧Below w.heap.size w w':=by
 have HI:=Zh (fun w2 (h : PT.At (· < w2.heap.size) w2 e)=>syn_right 12 Zo e w2 h);have HE:=Zh he;clear he;obtain ⟨o,n,u,s,A,c,l⟩:=e;simp only [PT.v] at HI ⊢;go_enter Tryz.func97,Tryz.ntmps97;go_wp2_with fail;have HB : Hid (Below w.heap.size w (w.alloc (.cells #[.int .i64 o,.int .i64 n,.int .i64 u,.string s,.slice A l.length c] 25))):=Zh qbl;refine (HI.out _ (HE.out.later HB.out)).mono ?_;rintro e w' ⟨rfl,hb⟩;have hB : Below w.heap.size w w':=HB.out.trans (hb.mono HB.out.size);clear hb;obtain ⟨r,hr⟩ : ∃ r,okE 12 ⟨o,n,u,s,A,c,l⟩=r:=⟨_,rfl⟩;rw [hr];have HR : Hid (r=rexp ⟨o,n,u,s,A,c,l⟩):=Zh hr.symm;clear hr;go_wp2_with fail;go_ret;exact ⟨ret_bool HR.out,hB⟩
def uniqB : List ByteArray→List ByteArray→Bool
  | _,[]=>true
  | p,x :: r=>nameB x && (!inL x p && uniqB (p ++ [x]) r)
theorem uniqB_no {p r : List ByteArray} {x : ByteArray} (h : nameB x=false) : uniqB p (x :: r)=false:=by unfold uniqB; rw [h]; rfl
theorem uniqB_had {p r : List ByteArray} {x : ByteArray} (h : inL x p=true) : uniqB p (x :: r)=false:=by unfold uniqB; rw [h]; simp
theorem uniqB_on {p r : List ByteArray} {x : ByteArray} (h : nameB x=true) (k : inL x p=false) : uniqB p (x :: r)=uniqB (p ++ [x]) r:=by rw [uniqB,h,k]; rfl
structure LT where
  nm : ByteArray
  b : PT
def LT.enc (x : LT) : List Value:=.string x.nm :: x.b.enc
def LT.v : LT→Value | ⟨nm,o,n,u,s,A,c,l⟩=>.agg #[.string nm,.int .i64 o,.int .i64 n,.int .i64 u,.string s,.slice A l.length c]
structure LT.At (F : Nat→Prop) (w : World) (x : LT) : Prop where
  nm : x.nm.size≤9223372036854775807
  b : PT.At F w x.b
structure LetsAt (F : Nat→Prop) (w : World) (s : Sl LT) : Prop where
  rd : Rd F 6 LT.enc w s
  all : ∀ x,x ∈ s.l→LT.At F w x
theorem LT.At.keep {F G : Nat→Prop} {w w' : World} {e : LT} (h : LT.At F w e) (hk : ∀ b,F b→w'.heap[b]? = w.heap[b]?) (hFG : ∀ b,F b→G b) : LT.At G w' e:=⟨h.nm,h.b.keep hk hFG⟩
theorem LetsAt.keep {F G : Nat→Prop} {w w' : World} {s : Sl LT} (h : LetsAt F w s) (hk : ∀ b,F b→w'.heap[b]? = w.heap[b]?) (hFG : ∀ b,F b→G b) : LetsAt G w' s :=
 ⟨(h.rd.keep hk).mono hFG,fun x hx=>(h.all x hx).keep hk hFG⟩
theorem LT.At.later {w w' : World} {e : LT} (h : LT.At (· < w.heap.size) w e) (hb : Below w.heap.size w w') : LT.At (· < w'.heap.size) w' e :=
 h.keep (fun b hb'=>hb.block b hb') (fun b hb'=>Nat.lt_of_lt_of_le hb' hb.size)
theorem LetsAt.later {w w' : World} {s : Sl LT} (h : LetsAt (· < w.heap.size) w s) (hb : Below w.heap.size w w') : LetsAt (· < w'.heap.size) w' s :=
 h.keep (fun b hb'=>hb.block b hb') (fun b hb'=>Nat.lt_of_lt_of_le hb' hb.size)
structure Byl where
  nm : ByteArray
  lets : Sl LT
  ad : PT
  fa : PT
  la : PT
  no : PT
  q : Int
  sh : Int
  ch : Int
def Byl.v : Byl→Value
  | ⟨nm,L,⟨o,n,u,s,A,c,l⟩,⟨o2,n2,u2,s2,A2,c2,l2⟩,⟨o3,n3,u3,s3,A3,c3,l3⟩,⟨o4,n4,u4,s4,A4,c4,l4⟩,q,sh,ch⟩ =>
    .agg #[.string nm,.slice L.A L.l.length L.c,.int .i64 o,.int .i64 n,.int .i64 u,.string s,.slice A l.length c,.int .i64 o2,.int .i64 n2,.int .i64 u2,.string s2,.slice A2 l2.length c2,.int .i64 o3,.int .i64 n3,.int .i64 u3,.string s3,.slice A3 l3.length c3,.int .i64 o4,.int .i64 n4,.int .i64 u4,.string s4,.slice A4 l4.length c4,.int .i64 q,.int .i64 sh,.int .i64 ch]
structure Byl.At (F : Nat→Prop) (w : World) (b : Byl) : Prop where
  nm : b.nm.size≤9223372036854775807
  lets : LetsAt F w b.lets
  ad : PT.At F w b.ad
  fa : PT.At F w b.fa
  la : PT.At F w b.la
  no : PT.At F w b.no
theorem Byl.At.later {w w' : World} {b : Byl} (h : Byl.At (· < w.heap.size) w b) (hb : Below w.heap.size w w') : Byl.At (· < w'.heap.size) w' b :=
 ⟨h.nm,h.lets.later hb,h.ad.later hb,h.fa.later hb,h.la.later hb,h.no.later hb⟩
def namesL (l : List LT) : List ByteArray:=l.map LT.nm
def bylB (b : Byl) : Bool :=
  b.lets.l.all (fun x=>rexp x.b) && (nameB b.nm && (inB 0 1000 b.q && inB 0 1000 b.sh) && inB 1 1000 b.ch && (uniqB [] (namesL b.lets.l) && decide ((b.lets.l.length : Int)≤20)) && [b.ad,b.fa,b.la,b.no].all rexp)
theorem infoStr : Info Tryz.prog 9 (.string ByteArray.empty) 1 16:=info_mk Zy rfl
theorem Blk.b25 {w : World} {g : Nat} {t : TypeId} {x0 x1 x2 x3 x4 x5 x6 x7 x8 x9 x10 x11 x12 x13 x14 x15 x16 x17 x18 x19 x20 x21 x22 x23 x24 : Value} (h : Blk w g t #[x0,x1,x2,x3,x4,x5,x6,x7,x8,x9,x10,x11,x12,x13,x14,x15,x16,x17,x18,x19,x20,x21,x22,x23,x24]) : w.cell? ⟨g,0,none⟩=some x0∧w.cell? ⟨g,1,none⟩=some x1∧w.cell? ⟨g,2,none⟩=some x2∧w.cell? ⟨g,3,none⟩=some x3∧w.cell? ⟨g,4,none⟩=some x4∧w.cell? ⟨g,5,none⟩=some x5∧w.cell? ⟨g,6,none⟩=some x6∧w.cell? ⟨g,7,none⟩=some x7∧w.cell? ⟨g,8,none⟩=some x8∧w.cell? ⟨g,9,none⟩=some x9∧w.cell? ⟨g,10,none⟩=some x10∧w.cell? ⟨g,11,none⟩=some x11∧w.cell? ⟨g,12,none⟩=some x12∧w.cell? ⟨g,13,none⟩=some x13∧w.cell? ⟨g,14,none⟩=some x14∧w.cell? ⟨g,15,none⟩=some x15∧w.cell? ⟨g,16,none⟩=some x16∧w.cell? ⟨g,17,none⟩=some x17∧w.cell? ⟨g,18,none⟩=some x18∧w.cell? ⟨g,19,none⟩=some x19∧w.cell? ⟨g,20,none⟩=some x20∧w.cell? ⟨g,21,none⟩=some x21∧w.cell? ⟨g,22,none⟩=some x22∧w.cell? ⟨g,23,none⟩=some x23∧w.cell? ⟨g,24,none⟩=some x24∧(∀ o,w.frozen? ⟨g,o,none⟩=false)∧g<w.heap.size:=⟨h.cell 0,h.cell 1,h.cell 2,h.cell 3,h.cell 4,h.cell 5,h.cell 6,h.cell 7,h.cell 8,h.cell 9,h.cell 10,h.cell 11,h.cell 12,h.cell 13,h.cell 14,h.cell 15,h.cell 16,h.cell 17,h.cell 18,h.cell 19,h.cell 20,h.cell 21,h.cell 22,h.cell 23,h.cell 24,h.frozen,h.lt⟩
theorem PT.enc_k : ∀ x : PT,x.enc.length=5 | ⟨_,_,_,_,_,_,_⟩=>rfl
theorem rd_ones {W : World} {g : Nat} {t : TypeId} {x : ByteArray} (h : Blk W g t #[.string x]) : Rd (· < W.heap.size) 1 senc W ⟨some ⟨g,0,none⟩,1,[x]⟩ :=
 ⟨Nat.le_refl _,by unfold maxLen; simp,fun h=>by simp at h,fun i y hy=>by
  have hi : i=0:=by
   rcases i with _ | i
   ·rfl
   ·simp at hy
  subst hi;(have hxy : x=y:=by simpa using hy);subst hxy
  exact ⟨g,0,rfl,h.lt,fun j u hu=>by
   rw [Nat.zero_mul,Nat.add_zero,Nat.zero_add,h.cell];simpa [senc] using hu⟩⟩
theorem all_no {L : List LT} {x : LT} (hx : x ∈ L) (h : rexp x.b=false) : L.all (fun x=>rexp x.b)=false:=List.all_eq_false.2 ⟨x,hx,by simp [h]⟩
theorem bylB_no {b : Byl} (h : b.lets.l.all (fun x=>rexp x.b)=false) : bylB b=false:=by unfold bylB; rw [h]; rfl
theorem bylB_is {b : Byl} (h : b.lets.l.all (fun x=>rexp x.b)=true) : bylB b=(nameB b.nm && [b.q,b.sh].all (inB 0 1000) && inB 1 1000 b.ch && (uniqB [] (namesL b.lets.l) && decide (((namesL b.lets.l).length : Int)≤20)) && [b.ad,b.fa,b.la,b.no].all rexp):=by
 unfold bylB; rw [h,Bool.true_and,namesL,List.length_map]; simp only [List.all_cons,List.all_nil,Bool.and_true]
theorem and5a (b c d e : Bool) : false=(false && b && c && d && e):=rfl
theorem and5b (a c d e : Bool) : false=(a && false && c && d && e):=by cases a <;> rfl
theorem and5c (a b d e : Bool) : false=(a && b && false && d && e):=by cases a <;> cases b <;> rfl
theorem and5d (a b c e : Bool) : false=(a && b && c && false && e):=by cases a <;> cases b <;> cases c <;> rfl
theorem and5e (e : Bool) : (true && true && true && true && e)=e:=rfl
theorem names_sz {F : Nat→Prop} {w : World} {s : Sl LT} (h : LetsAt F w s) : ∀ x,x ∈ namesL s.l→x.size≤9223372036854775807:=by
 intro x hx;obtain ⟨y,hy,rfl⟩:=List.mem_map.1 hx;exact (h.all y hy).nm
theorem Cells.c6 {w : World} {b o : Nat} {x y z s t u : Value} (h : Cells w b o [x,y,z,s,t,u]) : w.cell? ⟨b,o,none⟩=some x∧w.cell? ⟨b,o+1,none⟩=some y∧w.cell? ⟨b,o+2,none⟩=some z∧w.cell? ⟨b,o+3,none⟩=some s∧w.cell? ⟨b,o+4,none⟩=some t∧w.cell? ⟨b,o+5,none⟩=some u:=⟨h 0 _ rfl,h 1 _ rfl,h 2 _ rfl,h 3 _ rfl,h 4 _ rfl,h 5 _ rfl⟩
theorem idx_int1 (s : Sl Int) (x : Int) (w : World) (hr : Rd (· < w.heap.size) 1 ienc w s) : Calls Tryz.prog 57 #[.slice s.A s.l.length s.c,.int .i64 x] w fun e w'=>∃ n : Int,e = .returned (.int .i64 n)∧(0≤n↔x ∈ s.l)∧Below w.heap.size w w':=by
 obtain ⟨A,c,l⟩:=s;have hl:=hr.len;simp only at hl;have HR:=Zh hr;clear hr;simp only;go_enter Tryz.func57,Tryz.ntmps57;go_wp2_with fail;go_loopw [8] (fun v wr=>∃ (k : Nat),k≤l.length∧v = .int .i64 k∧Hid (∀ j,(h : j<l.length)→j<k→l[j]≠x)∧Below w.heap.size w wr) (fun v _=>l.length - (intOf v).toNat)
 case atStart=>exact ⟨0,by omega,rfl,Zh (fun j _ hj=>absurd hj (Nat.not_lt_zero _)),Below.refl _ _⟩
 case round =>
  obtain ⟨k,hk,rfl,HP,hbel⟩:=hrel;by_cases hkl : k<l.length
  ·obtain ⟨b,o,hA,_,c0⟩:=(HR.out.later hbel).geti hkl;simp only at hA c0;subst hA;by_cases hx : x=l[k]
   ·have hin : x ∈ l:=hx ▸ List.getElem_mem hkl;have HIN:=Zh hin;rw [← hx] at c0;clear hx hin HP;go_wp2_with fail;go_ret;exact ⟨k,rfl,⟨fun _=>HIN.out,fun _=>by omega⟩,hbel⟩
   ·have HN : Hid (∀ j,(h : j<l.length)→j<k+1→l[j]≠x):=Zh (fun j hj hjk=>by
     by_cases he : j=k
     ·subst he; exact fun h=>hx h.symm
     ·exact HP.out j hj Zo)
    clear HP;generalize l[k]=y at *;go_wp2_with fail;go_roundw
    case rel=>exact ⟨k+1,by omega,by go_num,HN,hbel⟩
    case measure=>simp [intOf]; omega
  ·have hno : x ∉ l:=fun h=>by
    obtain ⟨j,hj,hjx⟩:=List.mem_iff_getElem.1 h;exact HP.out j hj Zo hjx
   have HNO:=Zh hno;clear hno HP;go_wp2_with fail;go_ret;exact ⟨-1,rfl,⟨fun h=>by omega,fun h=>absurd h HNO.out⟩,hbel⟩
theorem has_int1 (s : Sl Int) (x : Int) (w : World) (hr : Rd (· < w.heap.size) 1 ienc w s) : Calls Tryz.prog 33 #[.slice s.A s.l.length s.c,.int .i64 x] w fun e w'=>e = .returned (.bool (decide (x ∈ s.l)))∧Below w.heap.size w w':=by
 have HI:=idx_int1 s x w hr;clear hr;go_enter Tryz.func33,Tryz.ntmps33;go_wp2_with fail;refine HI.mono ?_;rintro e w' ⟨n,rfl,hn,hb⟩;have HN:=Zh hn;clear hn;go_wp2_with fail;go_ret;exact ⟨ret_bool (by simp [HN.out]),hb⟩
theorem idxL_va (l : Sl LT) (p : LT→Bool) (g : Nat) (w : World) (hr : Rd (· < w.heap.size) 6 LT.enc w l) (hp : ∀ W x,x ∈ l.l→Below w.heap.size w W→Calls Tryz.prog 96 (#[x.v] ++ #[]) W fun e w'=>e = .returned (.bool (p x))∧Below W.heap.size W w') : Calls Tryz.prog 121 #[.slice l.A l.l.length l.c,.func (.func 96) #[] #[]] w fun e w'=>e = .returned (.int .i64 (idxP p 0 l.l))∧Below w.heap.size w w':=by
 obtain ⟨A,c,l⟩:=l;have hn:=hr.len;simp only at hn;have HR:=Zh hr;clear hr;simp only;simp only at hp;go_enter Tryz.func121,Tryz.ntmps121;go_wp2_with fail;go_loopw [5,8] (fun u i wr=>∃ (k : Nat),k≤l.length∧i = .int .i64 k∧Below w.heap.size w wr∧Hid (idxP p 0 l=idxP p k (l.drop k))) (fun _ i _=>l.length - (intOf i).toNat)
 case atStart=>exact ⟨0,by omega,rfl,qbl,Zh Zs⟩
 case round =>
  obtain ⟨k,hk,rfl,hbel,HG⟩:=hrel;have hhe : w.heap.size≤wr.heap.size:=hbel.size;by_cases hlt : k<l.length
  ·obtain ⟨b,o,rfl,hb,hcl⟩:=HR.out.at1 hlt;have hcl2:=hcl.keep (hbel.block b hb);have hd : l.drop k=l[k] :: l.drop (k+1):=List.drop_eq_getElem_cons hlt;have hgo:=HG.out;rw [hd] at hgo;have HGO:=Zh hgo;have hcall:=hp wr l[k] (List.getElem_mem hlt) hbel;clear hd hgo hcl HG hp;generalize l[k]=x at *;obtain ⟨bq,hb0⟩ : ∃ bq,p x=bq:=⟨_,rfl⟩;rw [hb0] at hcall;have HB0:=Zh hb0;clear hb0;obtain ⟨xn,xo,xm,xu,xs,xA,xc,xl⟩:=x;have gg:=hcl2.c6;obtain ⟨g0,g1,g2,g3,g4,g5⟩:=gg;simp only [LT.v] at hcall;clear hcl2;rcases bq
   ·go_wp2_with fail;refine hcall.mono ?_;clear hcall;rintro e w1 ⟨rfl,hb1⟩;have hB1 : Below w.heap.size w w1:=qbv;clear hb1;go_wp2_with fail;go_roundw
    case rel=>exact ⟨k+1,by omega,by go_num,hB1,Zh (by rw [HGO.out,idxP,HB0.out]; rfl)⟩
    case measure=>simp [intOf]; omega
   ·go_wp2_with fail;refine hcall.mono ?_;clear hcall;rintro e w1 ⟨rfl,hb1⟩;have hB1 : Below w.heap.size w w1:=qbv;clear hb1;go_wp2_with fail;go_ret;exact ⟨ret_int (by rw [HGO.out,idxP,HB0.out]; rfl),hB1⟩
  ·have hkl : l.drop k=[]:=List.drop_eq_nil_of_le Zo;have hgo:=HG.out;rw [hkl] at hgo;have HGO:=Zh hgo;clear hkl hgo HG;go_wp2_with fail;go_ret;exact ⟨ret_int (by rw [HGO.out]; rfl),hbel⟩
theorem idxL_le (l : Sl LT) (p : LT→Bool) (g : Nat) (w : World) (hr : Rd (· < w.heap.size) 6 LT.enc w l) (hp : ∀ W x,x ∈ l.l→Below w.heap.size w W→Calls Tryz.prog 147 (#[x.v] ++ #[.pointer (some ⟨g,0,none⟩)]) W fun e w'=>e = .returned (.bool (p x))∧Below W.heap.size W w') : Calls Tryz.prog 121 #[.slice l.A l.l.length l.c,.func (.func 147) #[] #[.pointer (some ⟨g,0,none⟩)]] w fun e w'=>e = .returned (.int .i64 (idxP p 0 l.l))∧Below w.heap.size w w':=by
 obtain ⟨A,c,l⟩:=l;have hn:=hr.len;simp only at hn;have HR:=Zh hr;clear hr;simp only;simp only at hp;go_enter Tryz.func121,Tryz.ntmps121;go_wp2_with fail;go_loopw [5,8] (fun u i wr=>∃ (k : Nat),k≤l.length∧i = .int .i64 k∧Below w.heap.size w wr∧Hid (idxP p 0 l=idxP p k (l.drop k))) (fun _ i _=>l.length - (intOf i).toNat)
 case atStart=>exact ⟨0,by omega,rfl,qbl,Zh Zs⟩
 case round =>
  obtain ⟨k,hk,rfl,hbel,HG⟩:=hrel;have hhe : w.heap.size≤wr.heap.size:=hbel.size;by_cases hlt : k<l.length
  ·obtain ⟨b,o,rfl,hb,hcl⟩:=HR.out.at1 hlt;have hcl2:=hcl.keep (hbel.block b hb);have hd : l.drop k=l[k] :: l.drop (k+1):=List.drop_eq_getElem_cons hlt;have hgo:=HG.out;rw [hd] at hgo;have HGO:=Zh hgo;have hcall:=hp wr l[k] (List.getElem_mem hlt) hbel;clear hd hgo hcl HG hp;generalize l[k]=x at *;obtain ⟨bq,hb0⟩ : ∃ bq,p x=bq:=⟨_,rfl⟩;rw [hb0] at hcall;have HB0:=Zh hb0;clear hb0;obtain ⟨xn,xo,xm,xu,xs,xA,xc,xl⟩:=x;have gg:=hcl2.c6;obtain ⟨g0,g1,g2,g3,g4,g5⟩:=gg;simp only [LT.v] at hcall;clear hcl2;rcases bq
   ·go_wp2_with fail;refine hcall.mono ?_;clear hcall;rintro e w1 ⟨rfl,hb1⟩;have hB1 : Below w.heap.size w w1:=qbv;clear hb1;go_wp2_with fail;go_roundw
    case rel=>exact ⟨k+1,by omega,by go_num,hB1,Zh (by rw [HGO.out,idxP,HB0.out]; rfl)⟩
    case measure=>simp [intOf]; omega
   ·go_wp2_with fail;refine hcall.mono ?_;clear hcall;rintro e w1 ⟨rfl,hb1⟩;have hB1 : Below w.heap.size w w1:=qbv;clear hb1;go_wp2_with fail;go_ret;exact ⟨ret_int (by rw [HGO.out,idxP,HB0.out]; rfl),hB1⟩
  ·have hkl : l.drop k=[]:=List.drop_eq_nil_of_le Zo;have hgo:=HG.out;rw [hkl] at hgo;have HGO:=Zh hgo;clear hkl hgo HG;go_wp2_with fail;go_ret;exact ⟨ret_int (by rw [HGO.out]; rfl),hbel⟩
theorem hasL_va (l : Sl LT) (p : LT→Bool) (g : Nat) (w : World) (hr : Rd (· < w.heap.size) 6 LT.enc w l) (hp : ∀ W x,x ∈ l.l→Below w.heap.size w W→Calls Tryz.prog 96 (#[x.v] ++ #[]) W fun e w'=>e = .returned (.bool (p x))∧Below W.heap.size W w') : Calls Tryz.prog 98 #[.slice l.A l.l.length l.c,.func (.func 96) #[] #[]] w fun e w'=>e = .returned (.bool (l.l.any p))∧Below w.heap.size w w':=by
 have hcon:=idxL_va l p g w hr hp;clear hp hr;rcases idxP_ge p l.l 0 with ⟨h1,h2⟩ | ⟨j,x,h1,h2,h3,h4⟩
 ·rw [h1] at hcon;have HV:=Zh (show false=l.l.any p from (List.any_eq_false.2 (fun x hx=>by simpa using h2 x hx)).symm);clear h1 h2;go_enter Tryz.func98,Tryz.ntmps98;go_wp2_with fail;refine hcon.mono ?_;clear hcon;rintro e w1 ⟨rfl,hb1⟩;go_wp2_with fail;go_ret;exact ⟨ret_bool HV.out,hb1⟩
 ·rw [h1] at hcon;have HV:=Zh (show true=l.l.any p from (List.any_eq_true.2 ⟨x,List.mem_of_getElem? h2,h3⟩).symm);clear h1 h2 h3 h4;go_enter Tryz.func98,Tryz.ntmps98;go_wp2_with fail;refine hcon.mono ?_;clear hcon;rintro e w1 ⟨rfl,hb1⟩;go_wp2_with fail;go_ret;exact ⟨ret_bool HV.out,hb1⟩
theorem un_bad_va (x : LT) (w : World) (hx : LT.At (· < w.heap.size) w x) : Calls Tryz.prog 96 #[x.v] w fun r w'=>r = .returned (.bool (!rexp x.b))∧Below w.heap.size w w':=by
 obtain ⟨xn,xo,xm,xu,xs,xA,xc,xl⟩:=x;have HX:=Zh hx.b;clear hx;simp only at HX;simp only [LT.v];go_enter Tryz.func96,Tryz.ntmps96;go_wp2_with fail;have HB : Hid (Below w.heap.size w (w.alloc (.cells #[.string xn,.int .i64 xo,.int .i64 xm,.int .i64 xu,.string xs,.slice xA xl.length xc] 56))):=Zh qbl;refine (syn_rexp ⟨xo,xm,xu,xs,xA,xc,xl⟩ _ (HX.out.later HB.out)).mono ?_;rintro e w' ⟨rfl,hb⟩;have hB : Below w.heap.size w w':=HB.out.trans (hb.mono HB.out.size);clear hb;obtain ⟨r,hr⟩ : ∃ r,rexp ⟨xo,xm,xu,xs,xA,xc,xl⟩=r:=⟨_,rfl⟩;rw [hr];have HR : Hid ((!r) = !rexp ⟨xo,xm,xu,xs,xA,xc,xl⟩):=Zh (by rw [hr]);clear hr;go_wp2_with fail;go_ret;exact ⟨ret_bool HR.out,hB⟩
end Go.Proofs.YtmomlipmpgcheaaGreatDoor
