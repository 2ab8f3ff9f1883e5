/- Walks of the limits: nodes, FewExp, Few. -/
import Derived.Test.YtcgocdhhneckhaaGreatFtelmxbv
set_option maxRecDepth 100000
set_option maxHeartbeats 6400000
namespace Go.Proofs.YtcgocdhhneckhaaGreat
open Go.RowKit
def AnyP (w w' : World) (r : Ending) : Prop:=∃ t,r = .returned (.bool t)∧Below w.heap.size w w'
def NodP (w w' : World) (m : Int) (r : Ending) : Prop:=∃ k : Int,r = .returned (.int .i64 k)∧1≤k∧k≤m+1∧Below w.heap.size w w'
def NodIH (d : Nat) : Prop:=∀ (e : PT) (m : Int) (W : World),0≤m→m≤60→PT.At (· < W.heap.size) W e→Calls Tryz.prog 64 #[e.v,.int .i64 m,.int .i64 d] W fun r w'=>NodP W w' m r
theorem nodes_deep : NodIH 0:=by
 rintro ⟨o,a,u,s,A,c,l⟩ m w h0 h1 he;simp only [PT.v];go_enter Tryz.func64,Tryz.ntmps64;go_wp2_with fail;go_ret;exact ⟨m+1,rfl,by omega,by omega,qbl⟩
theorem nodes_more (d : Nat) (hd : d≤15) (ih : NodIH d) : NodIH (d+1):=by
 rintro ⟨o,a,u,s,A,c,l⟩ m w h0 h1 he;have HE:=Zh he;have hsz:=he.str;have hln:=he.rd.len;simp only [PT.s,PT.a] at hsz hln;clear he;simp only [PT.v];(have hd0 : ((d+1 : Nat) : Int)=(d : Int)+1:=by omega);rw [hd0];clear hd0;by_cases hs : (40 : Int)<(s.size : Int)
 ·go_enter Tryz.func64,Tryz.ntmps64;go_wp2_with fail;go_ret;exact ⟨m+1,rfl,by omega,by omega,qbl⟩
 ·go_enter Tryz.func64,Tryz.ntmps64;go_wp2_with fail;have HB1 : Hid (Below w.heap.size w (w.alloc (.cells #[.int .i64 o,.int .i64 a,.int .i64 u,.string s,.slice A l.length c] 25))):=Zh qbl;have HX1:=Zh (Blk.new w 25 #[.int .i64 o,.int .i64 a,.int .i64 u,.string s,.slice A l.length c]);generalize w.alloc (.cells _ 25)=w1 at *;go_loopw [7,8] (fun n i wr=>∃ (j : Nat) (k : Int),j≤l.length∧i = .int .i64 j∧n = .int .i64 k∧1≤k∧k≤m+1∧Below w1.heap.size w1 wr) (fun _ i _=>l.length - (intOf i).toNat)
  case atStart=>exact ⟨0,1,by omega,rfl,rfl,by omega,by omega,Below.refl _ _⟩
  case round =>
   obtain ⟨j,k,hj,rfl,rfl,hk0,hk1,hbel⟩:=hrel;have HBR:=Zt HB1 hbel;have HXR:=Zh (HX1.out.later hbel);obtain ⟨a0,a1,a2,a3,a4,af,az⟩:=HXR.out.b5;by_cases hlt : j<l.length
   ·by_cases hkm : k≤m
    ·have hEW:=HE.out.later HBR.out;obtain ⟨b,q,hA,hbl,hcl⟩:=hEW.rd.at1 hlt;have HX:=Zh (hEW.all _ (List.getElem_mem hlt));simp only [PT.a] at hA hcl HX;clear hEW;generalize l[j]=x at *;obtain ⟨xo,xm,xu,xs,xA,xc,xl⟩:=x;obtain ⟨g0,g1,g2,g3,g4⟩:=Cells.c5 hcl;clear hcl;subst hA;have hcall:=ih ⟨xo,xm,xu,xs,xA,xc,xl⟩ (m - k) wr Zo Zo HX.out;simp only [PT.v] at hcall;go_wp2_with fail;refine hcall.mono ?_;clear hcall;rintro e w2 ⟨k2,rfl,hk20,hk21,hb2⟩;have HB2 : Hid (Below w1.heap.size w1 w2):=Zh (hbel.trans (hb2.mono hbel.size));clear hb2 g0 g1 g2 g3 g4 a0 a1 a2 a3 a4 af az;go_wp2_with fail;go_roundw
     case rel=>exact ⟨j+1,k+k2,by omega,by go_num,rfl,by omega,by omega,HB2.out⟩
     case measure=>simp [intOf]; omega
    ·go_wp2_with fail;go_ret;exact ⟨k,rfl,hk0,hk1,HBR.out⟩
   ·go_wp2_with fail;go_ret;exact ⟨k,rfl,hk0,hk1,HBR.out⟩
theorem nodes_any : ∀ d : Nat,d≤16→NodIH d
 | 0,_=>nodes_deep
 | d+1,h=>nodes_more d Zo (nodes_any d Zo)
theorem few_exp (e : PT) (w : World) (he : PT.At (· < w.heap.size) w e) : Calls Tryz.prog 43 #[e.v] w fun r w'=>AnyP w w' r:=by
 have hb : Below w.heap.size w (w.alloc (.cells e.enc.toArray 25)):=qbl;have hcall:=nodes_any 16 Zl e 60 _ Zo Zo (he.later hb);have HB:=Zh hb;clear hb he;obtain ⟨o,a,u,s,A,c,l⟩:=e;simp only [PT.v,PT.enc] at hcall HB ⊢;go_enter Tryz.func43,Tryz.ntmps43;go_wp2_with fail;refine hcall.mono ?_;clear hcall;rintro e w2 ⟨k,rfl,_,_,hb2⟩;have HB2:=Zt HB hb2;clear hb2;go_wp2_with fail;go_ret;exact ⟨_,rfl,HB2.out⟩
theorem few_names (l : Sl FT) (w : World) (hl : FactsAt (· < w.heap.size) w l) : Calls Tryz.prog 44 #[.slice l.A l.l.length l.c] w fun r w'=>AnyP w w' r:=by
 have hn:=hl.rd.len;have HR:=Zh hl;clear hl;obtain ⟨A,c,l⟩:=l;simp only at hn;simp only;go_enter Tryz.func44,Tryz.ntmps44;go_wp2_with fail;go_loopw [3] (fun i wr=>∃ (k : Nat),k≤l.length∧i = .int .i64 k∧Below w.heap.size w wr) (fun i _=>l.length - (intOf i).toNat)
 case atStart=>exact ⟨0,by omega,rfl,qbl⟩
 case round =>
  obtain ⟨k,hk,rfl,hbel⟩:=hrel;by_cases hlt : k<l.length
  ·obtain ⟨b,o,hA,hb,hcl⟩:=(HR.out.later hbel).rd.at1 hlt;have hsz:=HR.out.all _ (List.getElem_mem hlt);simp only at hA hcl hsz;subst hA;generalize l[k]=x at *;obtain ⟨xn,xv⟩:=x;obtain ⟨g0,g1⟩:=Cells.c2 hcl;simp only at hsz;clear hcl;by_cases h40 : (40 : Int)<(xn.size : Int)
   ·go_wp2_with fail;go_ret;exact ⟨_,rfl,hbel⟩
   ·go_wp2_with fail;go_roundw
    case rel=>exact ⟨k+1,by omega,by go_num,hbel⟩
    case measure=>simp [intOf]; omega
  ·go_wp2_with fail;go_ret;exact ⟨_,rfl,hbel⟩
theorem law_num (n u : Int) (w : World) : Calls Tryz.prog 40 #[.int .i64 n,.int .i64 u] w fun e w'=>e = .returned (PT.v ⟨0,n,u,(⟨#[]⟩ : ByteArray),none,0,[]⟩)∧Below w.heap.size w w':=by
 go_enter Tryz.func40,Tryz.ntmps40;go_wp2_with fail;refine bodyPost_ret (v:=.agg #[.int .i64 0,.int .i64 n,.int .i64 u,.string (⟨#[]⟩ : ByteArray),.slice none 0 0]) ?_ rfl ⟨rfl,qbl⟩;simp [results,Tryz.results40,go_sem,]
theorem law_of (s : ByteArray) (w : World) : Calls Tryz.prog 42 #[.string s] w fun e w'=>e = .returned (PT.v ⟨2,0,0,s,none,0,[]⟩)∧Below w.heap.size w w':=by
 go_enter Tryz.func42,Tryz.ntmps42;go_wp2_with fail;refine bodyPost_ret (v:=.agg #[.int .i64 2,.int .i64 0,.int .i64 0,.string s,.slice none 0 0]) ?_ rfl ⟨rfl,qbl⟩;simp [results,Tryz.results42,go_sem,]
theorem pt_leaf (F : Nat→Prop) (w : World) (o n u : Int) (s : ByteArray) (h : s.size≤9223372036854775807) : PT.At F w ⟨o,n,u,s,none,0,[]⟩:=.mk h (Rd.nil _ _ _ _) (fun x hx=>by cases hx)
theorem law_two (X : Nat→Prop) (o : Int) (a b : PT) (w : World) (hX : ∀ b,X b→b<w.heap.size) (ha : PT.At (Nm X w) w a) (hb : PT.At (Nm X w) w b) : Calls Tryz.prog 41 #[.int .i64 o,a.v,b.v] w fun e w'=>∃ (g c : Nat),e = .returned (PT.v ⟨o,0,0,(⟨#[]⟩ : ByteArray),some ⟨g,0,none⟩,c,[a,b]⟩)∧PT.At (Nm X w') w' ⟨o,0,0,(⟨#[]⟩ : ByteArray),some ⟨g,0,none⟩,c,[a,b]⟩∧Below w.heap.size w w':=by
 have HA:=Zh ha;have HB:=Zh hb;clear ha hb;obtain ⟨o1,n1,u1,s1,A1,c1,l1⟩:=a;obtain ⟨o2,n2,u2,s2,A2,c2,l2⟩:=b;simp only [PT.v];go_enter Tryz.func41,Tryz.ntmps41;go_wp2_with fail;(have hz : (((w.alloc (.cells #[.int .i64 o1,.int .i64 n1,.int .i64 u1,.string s1,.slice A1 l1.length c1] 25)).alloc (.cells #[.int .i64 o2,.int .i64 n2,.int .i64 u2,.string s2,.slice A2 l2.length c2] 25)).alloc (.cells #[.int .i64 o,.int .i64 0,.int .i64 0,.string (⟨#[]⟩ : ByteArray),.slice (some ⟨w.heap.size+1+1+1,0,none⟩) 2 2] 25)).heap.size=w.heap.size+1+1+1:=by simp);have hB : Below w.heap.size w (((w.alloc (.cells #[.int .i64 o1,.int .i64 n1,.int .i64 u1,.string s1,.slice A1 l1.length c1] 25)).alloc (.cells #[.int .i64 o2,.int .i64 n2,.int .i64 u2,.string s2,.slice A2 l2.length c2] 25)).alloc (.cells #[.int .i64 o,.int .i64 0,.int .i64 0,.string (⟨#[]⟩ : ByteArray),.slice (some ⟨w.heap.size+1+1+1,0,none⟩) 2 2] 25)):=qbl;have HR : Hid (Blk (((w.alloc (.cells #[.int .i64 o1,.int .i64 n1,.int .i64 u1,.string s1,.slice A1 l1.length c1] 25)).alloc (.cells #[.int .i64 o2,.int .i64 n2,.int .i64 u2,.string s2,.slice A2 l2.length c2] 25)).alloc (.cells #[.int .i64 o,.int .i64 0,.int .i64 0,.string (⟨#[]⟩ : ByteArray),.slice (some ⟨w.heap.size+1+1+1,0,none⟩) 2 2] 25)) (w.heap.size+1+1) 25 #[.int .i64 o,.int .i64 0,.int .i64 0,.string (⟨#[]⟩ : ByteArray),.slice (some ⟨w.heap.size+1+1+1,0,none⟩) 2 2]):=Zh (Blk.new' Zs);generalize (((w.alloc (.cells #[.int .i64 o1,.int .i64 n1,.int .i64 u1,.string s1,.slice A1 l1.length c1] 25)).alloc (.cells #[.int .i64 o2,.int .i64 n2,.int .i64 u2,.string s2,.slice A2 l2.length c2] 25)).alloc (.cells #[.int .i64 o,.int .i64 0,.int .i64 0,.string (⟨#[]⟩ : ByteArray),.slice (some ⟨w.heap.size+1+1+1,0,none⟩) 2 2] 25))=w3 at *;have HO:=(Own.lit (base:=w3.heap.size) (e:=25) w3 #[.int .i64 o1,.int .i64 n1,.int .i64 u1,.string s1,.slice A1 l1.length c1,.int .i64 o2,.int .i64 n2,.int .i64 u2,.string s2,.slice A2 l2.length c2] [PT.mk o1 n1 u1 s1 A1 c1 l1,PT.mk o2 n2 u2 s2 A2 c2 l2] Zl (by simp [maxLen]) rfl PT.enc_k).rd PT.enc_k;rw [hz] at HO;have hB4 : Below w.heap.size w (w3.alloc (.cells #[.int .i64 o1,.int .i64 n1,.int .i64 u1,.string s1,.slice A1 l1.length c1,.int .i64 o2,.int .i64 n2,.int .i64 u2,.string s2,.slice A2 l2.length c2] 25)):=hB.alloc Zo _
 have hat : PT.At (Nm X (w3.alloc (.cells #[.int .i64 o1,.int .i64 n1,.int .i64 u1,.string s1,.slice A1 l1.length c1,.int .i64 o2,.int .i64 n2,.int .i64 u2,.string s2,.slice A2 l2.length c2] 25))) (w3.alloc (.cells #[.int .i64 o1,.int .i64 n1,.int .i64 u1,.string s1,.slice A1 l1.length c1,.int .i64 o2,.int .i64 n2,.int .i64 u2,.string s2,.slice A2 l2.length c2] 25)) ⟨o,0,0,(⟨#[]⟩ : ByteArray),some ⟨w.heap.size+1+1+1,0,none⟩,2,[PT.mk o1 n1 u1 s1 A1 c1 l1,PT.mk o2 n2 u2 s2 A2 c2 l2]⟩ :=
  .mk (by decide) (HO.mono (fun b hb=>⟨hb.2,fun hx=>by have:=hX b hx; have:=hb.1; omega⟩)) (fun x hx=>by
   simp only [List.mem_cons,List.not_mem_nil,or_false] at hx;rcases hx with rfl | rfl
   ·exact HA.out.more hB4 (Mor.refl _ _ _)
   ·exact HB.out.more hB4 (Mor.refl _ _ _))
 have HR4:=Zh (HR.out.alloc (.cells #[.int .i64 o1,.int .i64 n1,.int .i64 u1,.string s1,.slice A1 l1.length c1,.int .i64 o2,.int .i64 n2,.int .i64 u2,.string s2,.slice A2 l2.length c2] 25));generalize w3.alloc (.cells _ 25)=w4 at *;obtain ⟨r0,r1,r2,r3,r4,rf,rz⟩:=HR4.out.b5;refine bodyPost_ret (v:=.agg #[.int .i64 o,.int .i64 0,.int .i64 0,.string (⟨#[]⟩ : ByteArray),.slice (some ⟨w.heap.size+1+1+1,0,none⟩) 2 2]) ?_ rfl ⟨_,_,rfl,hat,hB4⟩;simp [results,Tryz.results41,go_sem,r0,r1,r2,r3,r4]
def ruleB (A1 A2 A3 A4 A5 A6 : Option Addr) (c1 c2 c3 c4 c5 c6 : Nat) : Byl :=
  ⟨⟨#[99,111,111,112]⟩,⟨none,0,[]⟩,
    ⟨12,0,0,(⟨#[]⟩ : ByteArray),A3,c3,[⟨10,0,0,(⟨#[]⟩ : ByteArray),A2,c2,[⟨6,0,0,(⟨#[]⟩ : ByteArray),A1,c1,[⟨0,2,0,(⟨#[]⟩ : ByteArray),none,0,[]⟩,⟨2,0,0,(⟨#[100,105,114,101,99,116]⟩ : ByteArray),none,0,[]⟩]⟩,⟨2,0,0,(⟨#[114,105,100,101]⟩ : ByteArray),none,0,[]⟩]⟩]⟩,
    ⟨4,0,0,(⟨#[]⟩ : ByteArray),A6,c6,[⟨0,100,1,(⟨#[]⟩ : ByteArray),none,0,[]⟩,⟨6,0,0,(⟨#[]⟩ : ByteArray),A5,c5,[⟨0,10,1,(⟨#[]⟩ : ByteArray),none,0,[]⟩,⟨7,0,0,(⟨#[]⟩ : ByteArray),A4,c4,[⟨2,0,0,(⟨#[100,105,114,101,99,116]⟩ : ByteArray),none,0,[]⟩,⟨0,1,2,(⟨#[]⟩ : ByteArray),none,0,[]⟩]⟩]⟩]⟩,
    ⟨0,50,1,(⟨#[]⟩ : ByteArray),none,0,[]⟩,⟨0,200,1,(⟨#[]⟩ : ByteArray),none,0,[]⟩,4,150,501⟩
theorem rule_bylB (A1 A2 A3 A4 A5 A6 : Option Addr) (c1 c2 c3 c4 c5 c6 : Nat) : bylB (ruleB A1 A2 A3 A4 A5 A6 c1 c2 c3 c4 c5 c6)=true:=by kernel_rfl
theorem rule_chk (A1 A2 A3 A4 A5 A6 : Option Addr) (c1 c2 c3 c4 c5 c6 : Nat) : chkU (ruleB A1 A2 A3 A4 A5 A6 c1 c2 c3 c4 c5 c6)=0:=by kernel_rfl
theorem rule_fare (A1 A2 A3 A4 A5 A6 : Option Addr) (c1 c2 c3 c4 c5 c6 : Nat) : whC (ruleB A1 A2 A3 A4 A5 A6 c1 c2 c3 c4 c5 c6) (ruleB A1 A2 A3 A4 A5 A6 c1 c2 c3 c4 c5 c6).fa (tripL 12 20 0 0 0 0 0 1) []=(220,0):=by kernel_rfl
theorem rule_noshow (A1 A2 A3 A4 A5 A6 : Option Addr) (c1 c2 c3 c4 c5 c6 : Nat) : whC (ruleB A1 A2 A3 A4 A5 A6 c1 c2 c3 c4 c5 c6) (ruleB A1 A2 A3 A4 A5 A6 c1 c2 c3 c4 c5 c6).no [] []=(200,0):=by kernel_rfl
theorem rule_adm1 (A1 A2 A3 A4 A5 A6 : Option Addr) (c1 c2 c3 c4 c5 c6 : Nat) : admC (ruleB A1 A2 A3 A4 A5 A6 c1 c2 c3 c4 c5 c6) (tripL 10 20 0 0 2 0 0 1) (riderL 0 0 3 0)=(true,0):=by kernel_rfl
theorem rule_adm2 (A1 A2 A3 A4 A5 A6 : Option Addr) (c1 c2 c3 c4 c5 c6 : Nat) : admC (ruleB A1 A2 A3 A4 A5 A6 c1 c2 c3 c4 c5 c6) (tripL 10 20 0 0 2 0 0 1) (riderL 0 0 4 0)=(false,0):=by kernel_rfl
theorem rule_adm3 (A1 A2 A3 A4 A5 A6 : Option Addr) (c1 c2 c3 c4 c5 c6 : Nat) : admC (ruleB A1 A2 A3 A4 A5 A6 c1 c2 c3 c4 c5 c6) (tripL 10 21 0 0 0 0 0 1) (riderL 0 0 3 0)=(false,0):=by kernel_rfl
theorem law_near (n : Int) (w : World) : Calls Tryz.prog 22 #[.int .i64 n] w fun r w'=>r = .returned (.bool (decide (n≤1099511627776) && decide (-1099511627776≤n)))∧w'=w:=by
 by_cases h1 : n≤1099511627776
 ·have h1b : decide (n≤1099511627776)=true:=decide_eq_true h1;go_enter Tryz.func22,Tryz.ntmps22;go_wp2_with fail;go_ret;exact ⟨by simp [h1],rfl⟩
 ·have h1b : decide (n≤1099511627776)=false:=decide_eq_false h1;go_enter Tryz.func22,Tryz.ntmps22;go_wp2_with fail;go_ret;exact ⟨by simp [h1],rfl⟩
def FewP (w w' : World) (P : Prop) (r : Ending) : Prop:=∃ t,r = .returned (.bool t)∧(t=true→P)∧Below w.heap.size w w'
theorem few32 (L : Sl LT) (T M : Sl FT) (w : World) (hL : LetsAt (· < w.heap.size) w L) (hT : FactsAt (· < w.heap.size) w T) (hM : FactsAt (· < w.heap.size) w M) : Calls Tryz.prog 29 #[.slice L.A L.l.length L.c,.slice T.A T.l.length T.c,.slice M.A M.l.length M.c] w fun r w'=>FewP w w' (L.l.length≤6∧T.l.length≤20∧M.l.length≤20) r:=by
 have hn:=hL.rd.len;have hnT:=hT.rd.len;have hnM:=hM.rd.len;have HL:=Zh hL;have HT:=Zh hT;have HM:=Zh hM;clear hL hT hM;obtain ⟨A,c,L⟩:=L;simp only at hn;simp only;by_cases h6 : (6 : Int)<(L.length : Int)
 ·go_enter Tryz.func29,Tryz.ntmps29;go_wp2_with fail;go_ret;exact ⟨false,rfl,by simp,Below.refl _ _⟩
 by_cases hT20 : (20 : Int)<(T.l.length : Int)
 ·go_enter Tryz.func29,Tryz.ntmps29;go_wp2_with fail;go_ret;exact ⟨false,rfl,by simp,Below.refl _ _⟩
 by_cases hM20 : (20 : Int)<(M.l.length : Int)
 ·go_enter Tryz.func29,Tryz.ntmps29;go_wp2_with fail;go_ret;exact ⟨false,rfl,by simp,Below.refl _ _⟩
 have HLE : Hid (L.length≤6∧T.l.length≤20∧M.l.length≤20):=Zh Zo;go_enter Tryz.func29,Tryz.ntmps29;go_wp2_with fail;go_loopw [7] (fun i wr=>∃ (k : Nat),k≤L.length∧i = .int .i64 k∧Below w.heap.size w wr) (fun i _=>L.length - (intOf i).toNat)
 case atStart=>exact ⟨0,by omega,rfl,qbl⟩
 case round =>
  obtain ⟨k,hk,rfl,hbel⟩:=hrel;have hhe : w.heap.size≤wr.heap.size:=hbel.size;by_cases hlt : k<L.length
  ·have hLW:=HL.out.later hbel;obtain ⟨b,o,hA,hb,hcl⟩:=hLW.rd.at1 hlt;have HX:=Zh (hLW.all _ (List.getElem_mem hlt));simp only at hA hcl HX;subst hA;clear hLW;generalize L[k]=x at *;obtain ⟨xn,xo,xm,xu,xs,xA,xc,xl⟩:=x;have hsz:=HX.out.nm;simp only at hsz;obtain ⟨g0,g1,g2,g3,g4,g5⟩:=Cells.c6 hcl;clear hcl;by_cases h40 : (40 : Int)<(xn.size : Int)
   ·go_wp2_with fail;go_ret;exact ⟨false,rfl,by simp,hbel⟩
   ·go_wp2_with fail;refine (few_exp ⟨xo,xm,xu,xs,xA,xc,xl⟩ wr HX.out.b).mono ?_;rintro e w2 ⟨t,rfl,hb2⟩;have HB2 : Hid (Below w.heap.size w w2):=Zh (hbel.trans (hb2.mono hhe));clear hb2 g0 g1 g2 g3 g4 g5;rcases t
    ·go_wp2_with fail;go_ret;exact ⟨false,rfl,by simp,HB2.out⟩
    ·go_wp2_with fail;go_roundw
     case rel=>exact ⟨k+1,by omega,by go_num,HB2.out⟩
     case measure=>simp [intOf]; omega
  ·go_wp2_with fail;refine (few_names T wr (HT.out.later hbel)).mono ?_;rintro e w2 ⟨t,rfl,hb2⟩;have HB2 : Hid (Below w.heap.size w w2):=Zh (hbel.trans (hb2.mono hhe));clear hb2;rcases t
   ·go_wp2_with fail;go_ret;exact ⟨false,rfl,by simp,HB2.out⟩
   ·go_wp2_with fail;refine (few_names M w2 (HM.out.later HB2.out)).mono ?_;rintro e w3 ⟨t,rfl,hb3⟩;have HB3:=Zt HB2 hb3;clear hb3;go_wp2_with fail;go_ret;exact ⟨t,rfl,fun _=>HLE.out,HB3.out⟩
theorem few30 (b : Byl) (w : World) (hb : Byl.At (· < w.heap.size) w b) : Calls Tryz.prog 28 #[b.v] w fun r w'=>AnyP w w' r:=by
 have HP:=Zh hb;have hsz:=hb.nm;have hn:=hb.lets.rd.len;clear hb;obtain ⟨nm,⟨LA,Lc,L⟩,⟨o,n,u,s,A,c,l⟩,⟨oB,nB,uB,sB,AB,cB,lB⟩,⟨oC,nC,uC,sC,AC,cC,lC⟩,⟨oD,nD,uD,sD,AD,cD,lD⟩,q,sh,ch⟩:=b;simp only at hsz hn;simp only [Byl.v];have HB : Hid (Below w.heap.size w (w.alloc (.cells #[.string nm,.slice LA L.length Lc,.int .i64 o,.int .i64 n,.int .i64 u,.string s,.slice A l.length c,.int .i64 oB,.int .i64 nB,.int .i64 uB,.string sB,.slice AB lB.length cB,.int .i64 oC,.int .i64 nC,.int .i64 uC,.string sC,.slice AC lC.length cC,.int .i64 oD,.int .i64 nD,.int .i64 uD,.string sD,.slice AD lD.length cD,.int .i64 q,.int .i64 sh,.int .i64 ch] 27))):=Zh qbl;have HA:=Zh (Blk.new w 27 #[.string nm,.slice LA L.length Lc,.int .i64 o,.int .i64 n,.int .i64 u,.string s,.slice A l.length c,.int .i64 oB,.int .i64 nB,.int .i64 uB,.string sB,.slice AB lB.length cB,.int .i64 oC,.int .i64 nC,.int .i64 uC,.string sC,.slice AC lC.length cC,.int .i64 oD,.int .i64 nD,.int .i64 uD,.string sD,.slice AD lD.length cD,.int .i64 q,.int .i64 sh,.int .i64 ch]);by_cases h22 : (22 : Int)<(L.length : Int)
 ·go_enter Tryz.func28,Tryz.ntmps28;go_wp2_with fail;go_ret;exact ⟨false,rfl,HB.out⟩
 by_cases h40 : (40 : Int)<(nm.size : Int)
 ·go_enter Tryz.func28,Tryz.ntmps28;go_wp2_with fail;go_ret;exact ⟨false,rfl,HB.out⟩
 go_enter Tryz.func28,Tryz.ntmps28;go_wp2_with fail;generalize w.alloc (.cells _ 27)=w1 at *;refine (few_exp ⟨o,n,u,s,A,c,l⟩ _ (HP.out.ad.later HB.out)).mono ?_;rintro e w2 ⟨t,rfl,hb2⟩;have HB2:=Zt HB hb2;have HA2:=Zh (HA.out.later hb2);clear hb2 HA HB;rcases t
 ·go_wp2_with fail;go_ret;exact ⟨false,rfl,HB2.out⟩
 obtain ⟨y0,y1,y2,y3,y4,y5,y6,y7,y8,y9,y10,y11,y12,y13,y14,y15,y16,y17,y18,y19,y20,y21,y22,y23,y24,yf,yz⟩:=HA2.out.b25;clear y0 y2 y3 y4 y5 y6 y12 y13 y14 y15 y16 y17 y18 y19 y20 y21 y22 y23 y24;go_wp2_with fail;refine (few_exp ⟨oB,nB,uB,sB,AB,cB,lB⟩ _ (HP.out.fa.later HB2.out)).mono ?_;rintro e w3 ⟨t,rfl,hb3⟩;have HB3:=Zt HB2 hb3;have HA3:=Zh (HA2.out.later hb3);clear hb3 HA2 HB2 y1 y7 y8 y9 y10 y11 yf yz;rcases t
 ·go_wp2_with fail;go_ret;exact ⟨false,rfl,HB3.out⟩
 obtain ⟨y0,y1,y2,y3,y4,y5,y6,y7,y8,y9,y10,y11,y12,y13,y14,y15,y16,y17,y18,y19,y20,y21,y22,y23,y24,yf,yz⟩:=HA3.out.b25;clear y0 y2 y3 y4 y5 y6 y7 y8 y9 y10 y11 y17 y18 y19 y20 y21 y22 y23 y24;go_wp2_with fail;refine (few_exp ⟨oC,nC,uC,sC,AC,cC,lC⟩ _ (HP.out.la.later HB3.out)).mono ?_;rintro e w4 ⟨t,rfl,hb4⟩;have HB4:=Zt HB3 hb4;have HA4:=Zh (HA3.out.later hb4);clear hb4 HA3 HB3 y1 y12 y13 y14 y15 y16 yf yz;rcases t
 ·go_wp2_with fail;go_ret;exact ⟨false,rfl,HB4.out⟩
 obtain ⟨y0,y1,y2,y3,y4,y5,y6,y7,y8,y9,y10,y11,y12,y13,y14,y15,y16,y17,y18,y19,y20,y21,y22,y23,y24,yf,yz⟩:=HA4.out.b25;clear y0 y2 y3 y4 y5 y6 y7 y8 y9 y10 y11 y12 y13 y14 y15 y16 y22 y23 y24;go_wp2_with fail;refine (few_exp ⟨oD,nD,uD,sD,AD,cD,lD⟩ _ (HP.out.no.later HB4.out)).mono ?_;rintro e w5 ⟨t,rfl,hb5⟩;have HB5:=Zt HB4 hb5;have HA5:=Zh (HA4.out.later hb5);clear hb5 HA4 HB4 y1 y17 y18 y19 y20 y21 yf yz;rcases t
 ·go_wp2_with fail;go_ret;exact ⟨false,rfl,HB5.out⟩
 go_wp2_with fail;go_loopw [3] (fun i wr=>∃ (k : Nat),k≤L.length∧i = .int .i64 k∧Below w5.heap.size w5 wr) (fun i _=>L.length - (intOf i).toNat)
 case atStart=>exact ⟨0,by omega,rfl,Below.refl _ _⟩
 case round =>
  obtain ⟨k,hk,rfl,hbel⟩:=hrel;have HBR:=Zt HB5 hbel;have HAR:=Zh (HA5.out.later hbel);have y1:=HAR.out.cell 1;have yz:=HAR.out.lt;by_cases hlt : k<L.length
  ·have hLW:=HP.out.lets.later HBR.out;obtain ⟨b,p,hA,hb,hcl⟩:=hLW.rd.at1 hlt;have HX:=Zh (hLW.all _ (List.getElem_mem hlt));simp only at hA hcl HX;subst hA;clear hLW;generalize L[k]=x at *;obtain ⟨xn,xo,xm,xu,xs,xA,xc,xl⟩:=x;have hsx:=HX.out.nm;simp only at hsx;obtain ⟨g0,g1,g2,g3,g4,g5⟩:=Cells.c6 hcl;clear hcl;by_cases hx40 : (40 : Int)<(xn.size : Int)
   ·go_wp2_with fail;go_ret;exact ⟨false,rfl,HBR.out⟩
   ·go_wp2_with fail;refine (few_exp ⟨xo,xm,xu,xs,xA,xc,xl⟩ wr HX.out.b).mono ?_;rintro e w6 ⟨t,rfl,hb6⟩;have HB6 : Hid (Below w5.heap.size w5 w6):=Zh (hbel.trans (hb6.mono hbel.size));clear hb6 g0 g1 g2 g3 g4 g5 y1 yz;rcases t
    ·go_wp2_with fail;go_ret;exact ⟨false,rfl,HB5.out.trans (HB6.out.mono HB5.out.size)⟩
    ·go_wp2_with fail;go_roundw
     case rel=>exact ⟨k+1,by omega,by go_num,HB6.out⟩
     case measure=>simp [intOf]; omega
  ·go_wp2_with fail;go_ret;exact ⟨true,rfl,HBR.out⟩
theorem few33 (b : Byl) (T M : Sl FT) (w : World) (hb : Byl.At (· < w.heap.size) w b) (hT : FactsAt (· < w.heap.size) w T) (hM : FactsAt (· < w.heap.size) w M) : Calls Tryz.prog 9 #[b.v,.slice T.A T.l.length T.c,.slice M.A M.l.length M.c] w fun r w'=>FewP w w' (b.lets.l.length≤6∧T.l.length≤20∧M.l.length≤20) r:=by
 have HB : Hid (Below w.heap.size w (w.alloc (.cells b.v.cells 27))):=Zh qbl;have h30:=few30 b _ (hb.later HB.out);have H32:=Zh (fun W (hW : Below w.heap.size w W)=>few32 b.lets T M W (hb.lets.later hW) (hT.later hW) (hM.later hW));have hn:=hb.lets.rd.len;clear hb hT hM;obtain ⟨nm,⟨LA,Lc,L⟩,⟨o,n,u,s,A,c,l⟩,⟨oB,nB,uB,sB,AB,cB,lB⟩,⟨oC,nC,uC,sC,AC,cC,lC⟩,⟨oD,nD,uD,sD,AD,cD,lD⟩,q,sh,ch⟩:=b;simp only at hn;simp only [Byl.v,Value.cells] at HB h30 H32 ⊢;have HA:=Zh (Blk.new w 27 #[.string nm,.slice LA L.length Lc,.int .i64 o,.int .i64 n,.int .i64 u,.string s,.slice A l.length c,.int .i64 oB,.int .i64 nB,.int .i64 uB,.string sB,.slice AB lB.length cB,.int .i64 oC,.int .i64 nC,.int .i64 uC,.string sC,.slice AC lC.length cC,.int .i64 oD,.int .i64 nD,.int .i64 uD,.string sD,.slice AD lD.length cD,.int .i64 q,.int .i64 sh,.int .i64 ch]);go_enter Tryz.func9,Tryz.ntmps9;go_wp2_with (refine wpList_load_row rfl 27 (.tmp 3) rfl _ rfl 27 _ (0,0) _ HA.out Tryz.underlying27 rfl Zy ?_);refine h30.mono ?_;clear h30;generalize w.alloc (.cells _ 27)=w1 at *;rintro e w2 ⟨t,rfl,hb2⟩;have HB2:=Zt HB hb2;have HA2:=Zh (HA.out.later hb2);clear hb2 HA HB;rcases t
 ·go_wp2_with fail;go_ret;exact ⟨false,rfl,by simp,HB2.out⟩
 ·have y1:=HA2.out.cell 1;have yz:=HA2.out.lt;by_cases h6 : (L.length : Int)≤6
  ·go_wp2_with fail;refine (H32.out _ HB2.out).mono ?_;rintro e w3 ⟨t,rfl,ht,hb3⟩;have HT:=Zh ht;have HB3:=Zt HB2 hb3;clear hb3 ht;go_wp2_with fail;go_ret;exact ⟨t,rfl,HT.out,HB3.out⟩
  ·go_wp2_with fail;go_ret;exact ⟨false,rfl,by simp,HB2.out⟩
end Go.Proofs.YtcgocdhhneckhaaGreat
