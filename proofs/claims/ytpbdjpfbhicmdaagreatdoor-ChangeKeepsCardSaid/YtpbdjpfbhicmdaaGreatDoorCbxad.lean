/- Walks of package lex: letter, digit, span over both, Word. -/
import Derived.Test.YtpbdjpfbhicmdaaGreatDoorCbxac
set_option linter.unusedSimpArgs false
set_option linter.unusedVariables false
set_option maxRecDepth 100000
set_option maxHeartbeats 6400000
namespace Go.Proofs.YtpbdjpfbhicmdaaGreatDoor
open Go.RowKit
theorem bytes_beq (x y : ByteArray) : (x.toList == y.toList)=decide (x=y):=by
 by_cases h : x=y
 ·subst h; simp
 ·have h2 : x.toList≠y.toList:=fun hc=>h (by rw [ByteArray.toList_eq,ByteArray.toList_eq] at hc; exact ByteArray.ext (Array.toList_inj.1 hc));simp [h,h2]
def letC (c : Int) : Bool:=decide (97≤c) && decide (c≤122)
def digC (c : Int) : Bool:=decide (48≤c) && decide (c≤57)
theorem lex_letter (c : Int) (w : World) : Calls Tryz.prog 124 #[.int .u8 c] w fun e w'=>e = .returned (.bool (letC c))∧w=w':=by
 by_cases h1 : 97≤c
 ·by_cases h2 : c≤122
  ·go_enter Tryz.func124,Tryz.ntmps124;go_wp2_with fail;go_ret;exact ⟨ret_bool (by simp [letC,h1,h2]),rfl⟩
  ·go_enter Tryz.func124,Tryz.ntmps124;go_wp2_with fail;go_ret;exact ⟨ret_bool (by simp [letC,h1]; omega),rfl⟩
 ·go_enter Tryz.func124,Tryz.ntmps124;go_wp2_with fail;go_ret;exact ⟨ret_bool (by simp [letC]; omega),rfl⟩
theorem lex_digit (c : Int) (w : World) : Calls Tryz.prog 126 #[.int .u8 c] w fun e w'=>e = .returned (.bool (digC c))∧w=w':=by
 by_cases h1 : 48≤c
 ·by_cases h2 : c≤57
  ·go_enter Tryz.func126,Tryz.ntmps126;go_wp2_with fail;go_ret;exact ⟨ret_bool (by simp [digC,h1,h2]),rfl⟩
  ·go_enter Tryz.func126,Tryz.ntmps126;go_wp2_with fail;go_ret;exact ⟨ret_bool (by simp [digC,h1]; omega),rfl⟩
 ·go_enter Tryz.func126,Tryz.ntmps126;go_wp2_with fail;go_ret;exact ⟨ret_bool (by simp [digC]; omega),rfl⟩
theorem lex_ld (c : Int) (w : World) : Calls Tryz.prog 135 #[.int .u8 c] w fun e w'=>e = .returned (.bool (letC c || digC c))∧w=w':=by
 rcases h : letC c
 ·go_enter Tryz.func135,Tryz.ntmps135;go_wp2_with fail;refine (lex_letter c _).mono ?_;rintro e w' ⟨rfl,rfl⟩;rw [h];go_wp2_with fail;refine (lex_digit c _).mono ?_;rintro e w' ⟨rfl,rfl⟩;go_wp2_with fail;go_ret;exact ⟨ret_bool Zs,rfl⟩
 ·go_enter Tryz.func135,Tryz.ntmps135;go_wp2_with fail;refine (lex_letter c _).mono ?_;rintro e w' ⟨rfl,rfl⟩;rw [h];go_wp2_with fail;go_ret;exact ⟨ret_bool Zs,rfl⟩
def ldC (c : Int) : Bool:=letC c || digC c
def ldS (s : ByteArray) : Prop:=∀ i,(h : i<s.size)→ldC (s[i].toNat : Int)=true
theorem lex_span (s : ByteArray) (w : World) (hs : s.size≤9223372036854775807) : Calls Tryz.prog 79 #[.string s,.func (.func 135) #[] #[]] w fun e w'=>∃ n : Nat,e = .returned (.int .i64 n)∧(n=s.size↔ldS s)∧n≤s.size∧w=w':=by
 go_enter Tryz.func79,Tryz.ntmps79;go_wp2_with fail;go_loopw [5] (fun v wr=>∃ (k : Nat),k≤s.size∧v = .int .i64 k∧Hid (∀ i,(h : i<s.size)→i<k→ldC (s[i].toNat : Int)=true)∧w=wr) (fun v _=>s.size - (intOf v).toNat)
 case atStart=>exact ⟨0,by omega,rfl,Zh (fun i _ hi=>absurd hi (Nat.not_lt_zero _)),rfl⟩
 case round =>
  obtain ⟨k,hk,rfl,HP,rfl⟩:=hrel;by_cases hlt : k<s.size
  ·go_wp2_with fail;refine (lex_ld _ _).mono ?_;rintro e w' ⟨rfl,rfl⟩;rcases hb : letC (s[k].toNat : Int) || digC (s[k].toNat : Int)
   ·have HNO : Hid (¬ ldS s):=Zh (fun h=>by have:=h k hlt; unfold ldC at this; rw [hb] at this; cases this);clear hb HP;go_wp2_with fail;go_ret;exact ⟨k,rfl,⟨fun h=>by omega,fun h=>absurd h HNO.out⟩,by omega,rfl⟩
   ·have HN : Hid (∀ i,(h : i<s.size)→i<k+1→ldC (s[i].toNat : Int)=true):=Zh (fun i hi hik=>by
     by_cases he : i=k
     ·subst he; exact hb
     ·exact HP.out i hi Zo)
    clear hb HP;go_wp2_with fail;go_roundw
    case rel=>exact ⟨k+1,by omega,by go_num,HN,trivial⟩
    case measure=>simp [intOf]; omega
  ·have HALL : Hid (ldS s):=Zh (fun i hi=>HP.out i hi Zo);(have hke : k=s.size:=by omega);subst hke;clear HP hlt hk;go_wp2_with fail;go_ret;exact ⟨s.size,rfl,by simp [HALL.out],Nat.le_refl _,rfl⟩
def wordB (s : ByteArray) : Bool:=decide (0<s.size) && (letC ((s.data.getD 0 0).toNat : Int) && (decide (s.size≤20) && s.data.all (fun c=>ldC (c.toNat : Int))))
theorem ldS_iff (s : ByteArray) : ldS s↔s.data.all (fun c=>ldC (c.toNat : Int))=true:=by
 rw [Array.all_eq_true];exact Iff.rfl
theorem lex_word (s : ByteArray) (w : World) (hs : s.size≤9223372036854775807) : Calls Tryz.prog 90 #[.string s] w fun e w'=>e = .returned (.bool (wordB s))∧w=w':=by
 by_cases h0 : s.size=0
 ·have hse : s=⟨#[]⟩:=by
   have : s.data = #[]:=Array.eq_empty_of_size_eq_zero h0;cases s;simp only at this;rw [this]
  subst hse;go_enter Tryz.func90,Tryz.ntmps90;go_wp2_with fail;go_ret;exact ⟨rfl,rfl⟩
 ·have hp : 0<s.size:=by omega
  have hg : s.data.getD 0 0=s[0]:=by
   show s.data.getD 0 0=s.data[0];have hd : 0<s.data.size:=hp;simp only [Array.getD];rw [dif_pos hd];rfl
  have hns : ¬ s=⟨#[]⟩:=fun h=>h0 (by rw [h]; rfl)
  have hn2 : ¬ s.toList=[]:=fun h=>by
   rw [ByteArray.toList_eq] at h;exact hns (ByteArray.ext (by simpa using h))
  (have hn3 : s.toList.isEmpty=false:=by simpa using hn2);clear hns;have HW : Hid (wordB s=(letC (s[0].toNat : Int) && (decide (s.size≤20) && s.data.all (fun c=>ldC (c.toNat : Int))))):=Zh (by unfold wordB; rw [hg]; simp [hp]);clear hg;rcases hl : letC (s[0].toNat : Int)
  ·rw [hl] at HW;go_enter Tryz.func90,Tryz.ntmps90;go_wp2_with fail;refine (lex_letter _ _).mono ?_;rintro e w' ⟨rfl,rfl⟩;rw [hl];go_wp2_with fail;go_ret;exact ⟨ret_bool (by rw [HW.out]; simp),rfl⟩
  ·rw [hl] at HW;by_cases h20 : s.size≤20
   ·have HL:=Zh (ldS_iff s);go_enter Tryz.func90,Tryz.ntmps90;go_wp2_with fail;refine (lex_letter _ _).mono ?_;rintro e w' ⟨rfl,rfl⟩;rw [hl];go_wp2_with fail;refine (lex_span s _ hs).mono ?_;rintro e w' ⟨n,rfl,hn,hle,rfl⟩;have HN:=Zh hn;clear hn;go_wp2_with fail;go_ret;refine ⟨ret_bool ?_,rfl⟩;rw [HW.out];by_cases hall : ldS s
    ·rw [HL.out.1 hall,HN.out.2 hall];simp [h20]
    ·have h1 : s.data.all (fun c=>ldC (c.toNat : Int))=false:=by
      rcases hb : s.data.all (fun c=>ldC (c.toNat : Int))
      ·rfl
      ·exact absurd (HL.out.2 hb) hall
     have h2 : n≠s.size:=fun h=>hall (HN.out.1 h);rw [h1];simp;omega
   ·go_enter Tryz.func90,Tryz.ntmps90;go_wp2_with fail;refine (lex_letter _ _).mono ?_;rintro e w' ⟨rfl,rfl⟩;rw [hl];go_wp2_with fail;go_ret;exact ⟨ret_bool (by rw [HW.out]; simp; omega),rfl⟩
def senc (s : ByteArray) : List Value:=[.string s]
theorem senc_k (s : ByteArray) : (senc s).length=1:=rfl
theorem senc_one (x : ByteArray) : ∀ u ∈ senc x,u.oneCell'=true:=by intro u hu; simp only [senc,List.mem_singleton] at hu; subst hu; rfl
theorem Rd.gets {F : Nat→Prop} {w : World} {s : Sl ByteArray} {i : Nat} (h : Rd F 1 senc w s) (hi : i<s.l.length) : ∃ b o,s.A=some ⟨b,o,none⟩∧F b∧w.cell? ⟨b,o+i,none⟩=some (.string s.l[i]):=by
 obtain ⟨b,o,h1,h2,h3⟩:=h.at1 hi;refine ⟨b,o,h1,h2, ?_⟩;have:=h3.c1
 rwa [Nat.mul_one] at this
theorem idx_str (s : Sl ByteArray) (x : ByteArray) (w : World) (hr : Rd (· < w.heap.size) 1 senc w s) : Calls Tryz.prog 136 #[.slice s.A s.l.length s.c,.string x] w fun e w'=>∃ n : Int,e = .returned (.int .i64 n)∧(0≤n↔x ∈ s.l)∧Below w.heap.size w w':=by
 obtain ⟨A,c,l⟩:=s;have hl:=hr.len;simp only at hl;have HR:=Zh hr;clear hr;simp only;go_enter Tryz.func136,Tryz.ntmps136;go_wp2_with fail;go_loopw [8] (fun v wr=>∃ (k : Nat),k≤l.length∧v = .int .i64 k∧Hid (∀ j,(h : j<l.length)→j<k→l[j]≠x)∧Below w.heap.size w wr) (fun v _=>l.length - (intOf v).toNat)
 case atStart=>exact ⟨0,by omega,rfl,Zh (fun j _ hj=>absurd hj (Nat.not_lt_zero _)),Below.refl _ _⟩
 case round =>
  obtain ⟨k,hk,rfl,HP,hbel⟩:=hrel;by_cases hkl : k<l.length
  ·obtain ⟨b,o,hA,_,c0⟩:=(HR.out.later hbel).gets hkl;simp only at hA c0;subst hA;by_cases hx : x=l[k]
   ·have hin : x ∈ l:=hx ▸ List.getElem_mem hkl;have HIN:=Zh hin;(have heq : (x.toList == (l[k]).toList)=true:=by rw [bytes_beq]; simpa using hx);(have heq2 : x.toList=(l[k]).toList:=by rw [← hx]);generalize l[k]=y at *;clear hx hin HP;go_wp2_with fail;go_ret;exact ⟨k,rfl,⟨fun _=>HIN.out,fun _=>by omega⟩,hbel⟩
   ·have HN : Hid (∀ j,(h : j<l.length)→j<k+1→l[j]≠x):=Zh (fun j hj hjk=>by
     by_cases he : j=k
     ·subst he; exact fun h=>hx h.symm
     ·exact HP.out j hj Zo)
    (have heq : (x.toList == (l[k]).toList)=false:=by rw [bytes_beq]; simpa using hx);(have heq2 : ¬ x.toList=(l[k]).toList:=by simpa using heq);generalize l[k]=y at *;clear hx HP;go_wp2_with fail;go_roundw
    case rel=>exact ⟨k+1,by omega,by go_num,HN,hbel⟩
    case measure=>simp [intOf]; omega
  ·have hno : x ∉ l:=fun h=>by
    obtain ⟨j,hj,hjx⟩:=List.mem_iff_getElem.1 h;exact HP.out j hj Zo hjx
   have HNO:=Zh hno;clear hno HP;go_wp2_with fail;go_ret;exact ⟨-1,rfl,⟨fun h=>by omega,fun h=>absurd h HNO.out⟩,hbel⟩
def inL (x : ByteArray) (l : List ByteArray) : Bool:=l.any (fun y=>x.toList == y.toList)
theorem inL_iff (x : ByteArray) (l : List ByteArray) : inL x l=true↔x ∈ l:=by
 unfold inL;rw [List.any_eq_true];constructor
 ·rintro ⟨y,hy,he⟩;rw [bytes_beq] at he;have:=of_decide_eq_true he;subst this;exact hy
 ·intro h;exact ⟨x,h,by simp⟩
theorem inL_no (x : ByteArray) (l : List ByteArray) (h : x ∉ l) : inL x l=false:=by
 rcases he : inL x l
 ·rfl
 ·exact absurd ((inL_iff x l).1 he) h
def resL : List ByteArray:=[⟨#[97,100,109,105,116]⟩,⟨#[97,110,100]⟩,⟨#[98,121,108,97,119,115]⟩,⟨#[99,101,110,116,115]⟩,⟨#[99,104,97,110,103,101]⟩,⟨#[101,108,115,101]⟩,⟨#[102,97,108,115,101]⟩,⟨#[102,97,114,101]⟩,⟨#[105,102]⟩,⟨#[108,97,116,101]⟩,⟨#[108,101,116]⟩,⟨#[109,97,120]⟩,⟨#[109,101,109,98,101,114]⟩,⟨#[109,105,110]⟩,⟨#[109,105,110,117,116,101,115]⟩,⟨#[110,111,115,104,111,119]⟩,⟨#[110,111,116]⟩,⟨#[111,114]⟩,⟨#[113,117,111,116,97]⟩,⟨#[115,104,97,114,101]⟩,⟨#[116,104,101,110]⟩,⟨#[116,114,105,112]⟩,⟨#[116,114,117,101]⟩]
theorem has_str (s : Sl ByteArray) (x : ByteArray) (w : World) (hr : Rd (· < w.heap.size) 1 senc w s) : Calls Tryz.prog 91 #[.slice s.A s.l.length s.c,.string x] w fun e w'=>e = .returned (.bool (inL x s.l))∧Below w.heap.size w w':=by
 have HI:=idx_str s x w hr;clear hr;go_enter Tryz.func91,Tryz.ntmps91;go_wp2_with fail;refine HI.mono ?_;rintro e w' ⟨n,rfl,hn,hb⟩;have HN:=Zh hn;clear hn;by_cases h0 : 0≤n
 ·have HV:=Zh ((inL_iff x s.l).2 (HN.out.1 h0));go_wp2_with fail;go_ret;exact ⟨ret_bool HV.out.symm,hb⟩
 ·have HV:=Zh ((inL_no x s.l (fun h=>h0 (HN.out.2 h))).trans (decide_eq_false h0).symm);clear h0;go_wp2_with fail;go_ret;exact ⟨ret_bool HV.out.symm,hb⟩
def resC : Array Value:=#[.string ⟨#[97,100,109,105,116]⟩,.string ⟨#[97,110,100]⟩,.string ⟨#[98,121,108,97,119,115]⟩,.string ⟨#[99,101,110,116,115]⟩,.string ⟨#[99,104,97,110,103,101]⟩,.string ⟨#[101,108,115,101]⟩,.string ⟨#[102,97,108,115,101]⟩,.string ⟨#[102,97,114,101]⟩,.string ⟨#[105,102]⟩,.string ⟨#[108,97,116,101]⟩,.string ⟨#[108,101,116]⟩,.string ⟨#[109,97,120]⟩,.string ⟨#[109,101,109,98,101,114]⟩,.string ⟨#[109,105,110]⟩,.string ⟨#[109,105,110,117,116,101,115]⟩,.string ⟨#[110,111,115,104,111,119]⟩,.string ⟨#[110,111,116]⟩,.string ⟨#[111,114]⟩,.string ⟨#[113,117,111,116,97]⟩,.string ⟨#[115,104,97,114,101]⟩,.string ⟨#[116,104,101,110]⟩,.string ⟨#[116,114,105,112]⟩,.string ⟨#[116,114,117,101]⟩]
theorem resC_is : resC.toList=resL.flatMap senc:=by rfl
theorem syn_reserved (w : World) : Calls Tryz.prog 92 #[] w fun e w'=>∃ s : Sl ByteArray,e = .returned (.slice s.A s.l.length s.c)∧s.l=resL∧Rd (· < w'.heap.size) 1 senc w' s∧Below w.heap.size w w':=by
 have hown : Own w.heap.size 9 1 senc (w.alloc (.cells resC 9)) ⟨some ⟨w.heap.size,0,none⟩,23,resL⟩:=Own.lit w resC resL Zl (by decide) resC_is senc_k;have HO:=Zh hown;clear hown;go_enter Tryz.func92,Tryz.ntmps92;go_wp2_with fail;go_ret;exact ⟨⟨some ⟨w.heap.size,0,none⟩,23,resL⟩,rfl,rfl,(HO.out.rd senc_k).mono (fun b hb=>hb.2),qbl⟩
def nameB (s : ByteArray) : Bool:=wordB s && !inL s resL
theorem syn_name (s : ByteArray) (w : World) (hs : s.size≤9223372036854775807) : Calls Tryz.prog 60 #[.string s] w fun e w'=>e = .returned (.bool (nameB s))∧Below w.heap.size w w':=by
 have HW:=lex_word s w hs;rcases hw : wordB s
 ·rw [hw] at HW;have HV : Hid (nameB s=false):=Zh (by unfold nameB; rw [hw]; rfl);clear hw;go_enter Tryz.func60,Tryz.ntmps60;go_wp2_with fail;refine HW.mono ?_;rintro e w' ⟨rfl,rfl⟩;go_wp2_with fail;go_ret;exact ⟨ret_bool HV.out.symm,Below.refl _ _⟩
 ·rw [hw] at HW;have HV : Hid (nameB s = !inL s resL):=Zh (by unfold nameB; rw [hw]; rfl);clear hw;go_enter Tryz.func60,Tryz.ntmps60;go_wp2_with fail;refine HW.mono ?_;rintro e w' ⟨rfl,rfl⟩;go_wp2_with fail;refine (syn_reserved _).mono ?_;rintro e w1 ⟨⟨A,c,l⟩,rfl,hl,hr,hb⟩;simp only at hl;subst hl;have hB1 : Below w.heap.size w w1:=hb;have HR:=Zh hr;clear hr hb;go_wp2_with fail;refine (has_str ⟨A,c,resL⟩ s _ HR.out).mono ?_;rintro e w2 ⟨rfl,hb2⟩;have hB2 : Below w.heap.size w w2:=hB1.trans (hb2.mono hB1.size);clear hb2;simp only;generalize inL s resL=bb at *;go_wp2_with fail;go_ret;exact ⟨ret_bool HV.out.symm,hB2⟩
def idxP {α : Type} (p : α→Bool) : Nat→List α→Int
  | _,[]=>-1
  | k,x :: l=>if p x then (k : Int) else idxP p (k+1) l
theorem idxP_ge {α : Type} (p : α→Bool) : ∀ (l : List α) (k : Nat),(idxP p k l = -1∧∀ x ∈ l,p x=false)∨∃ (j : Nat) (x : α),idxP p k l=((k+j : Nat) : Int)∧l[j]? = some x∧p x=true∧∀ y ∈ l.take j,p y=false
 | [],k=>.inl ⟨rfl,by simp⟩
 | x :: r,k=>by
  unfold idxP;by_cases h : p x=true
  ·rw [if_pos h]; exact .inr ⟨0,x,rfl,rfl,h,by simp⟩
  ·rw [if_neg h];(have hf : p x=false:=by simpa using h);rcases idxP_ge p r (k+1) with ⟨h1,h2⟩ | ⟨j,y,h1,h2,h3,h4⟩
   ·exact .inl ⟨h1,fun y hy=>by rcases List.mem_cons.1 hy with rfl | hy; exact hf; exact h2 y hy⟩
   ·refine .inr ⟨j+1,y,by rw [h1]; congr 1; omega,by simpa using h2,h3,fun z hz=>?_⟩;rw [List.take_succ_cons] at hz;rcases List.mem_cons.1 hz with rfl | hz
    ·exact hf
    ·exact h4 z hz
inductive PT where
  | mk (op n un : Int) (s : ByteArray) (A : Option Addr) (c : Nat) (l : List PT)
def PT.op : PT→Int | ⟨o,_,_,_,_,_,_⟩=>o
def PT.n : PT→Int | ⟨_,n,_,_,_,_,_⟩=>n
def PT.un : PT→Int | ⟨_,_,u,_,_,_,_⟩=>u
def PT.s : PT→ByteArray | ⟨_,_,_,s,_,_,_⟩=>s
def PT.a : PT→Sl PT | ⟨_,_,_,_,A,c,l⟩=>⟨A,c,l⟩
def PT.enc : PT→List Value | ⟨o,n,u,s,A,c,l⟩=>[.int .i64 o,.int .i64 n,.int .i64 u,.string s,.slice A l.length c]
def PT.v : PT→Value | ⟨o,n,u,s,A,c,l⟩=>.agg #[.int .i64 o,.int .i64 n,.int .i64 u,.string s,.slice A l.length c]
inductive PT.At (F : Nat→Prop) (w : World) : PT→Prop
  | mk {o n u : Int} {s : ByteArray} {A : Option Addr} {c : Nat} {l : List PT} : s.size≤9223372036854775807→Rd F 5 PT.enc w ⟨A,c,l⟩→(∀ x,x ∈ l→PT.At F w x)→PT.At F w ⟨o,n,u,s,A,c,l⟩
theorem PT.At.keep {F G : Nat→Prop} {w w' : World} {e : PT} (h : PT.At F w e) (hk : ∀ b,F b→w'.heap[b]? = w.heap[b]?) (hFG : ∀ b,F b→G b) : PT.At G w' e:=by
 induction h with
 | mk hs hr _ ih=>exact .mk hs ((hr.keep hk).mono hFG) ih
theorem PT.At.later {w w' : World} {e : PT} (h : PT.At (· < w.heap.size) w e) (hb : Below w.heap.size w w') : PT.At (· < w'.heap.size) w' e :=
 h.keep (fun b hb'=>hb.block b hb') (fun b hb'=>Nat.lt_of_lt_of_le hb' hb.size)
theorem PT.At.rd {F : Nat→Prop} {w : World} {e : PT} (h : PT.At F w e) : Rd F 5 PT.enc w e.a:=by cases h with | mk hs hr _=>exact hr
theorem PT.At.all {F : Nat→Prop} {w : World} {e : PT} (h : PT.At F w e) : ∀ x,x ∈ e.a.l→PT.At F w x:=by cases h with | mk hs hr hm=>exact hm
theorem PT.At.str {F : Nat→Prop} {w : World} {e : PT} (h : PT.At F w e) : e.s.size≤9223372036854775807:=by cases h with | mk hs hr hm=>exact hs
theorem idxI_in (l : Sl Int) (p : Int→Bool) (g h : Nat) (w : World) (hr : Rd (· < w.heap.size) 1 ienc w l) (hp : ∀ W x,x ∈ l.l→Below w.heap.size w W→Calls Tryz.prog 94 (#[.int .i64 x] ++ #[.pointer (some ⟨g,0,none⟩),.pointer (some ⟨h,0,none⟩)]) W fun e w'=>e = .returned (.bool (p x))∧Below W.heap.size W w') : Calls Tryz.prog 137 #[.slice l.A l.l.length l.c,.func (.func 94) #[] #[.pointer (some ⟨g,0,none⟩),.pointer (some ⟨h,0,none⟩)]] w fun e w'=>e = .returned (.int .i64 (idxP p 0 l.l))∧Below w.heap.size w w':=by
 obtain ⟨A,c,l⟩:=l;have hn:=hr.len;simp only at hn;have HR:=Zh hr;clear hr;simp only;simp only at hp;go_enter Tryz.func137,Tryz.ntmps137;go_wp2_with fail;go_loopw [5,8] (fun u i wr=>∃ (k : Nat),k≤l.length∧i = .int .i64 k∧Below w.heap.size w wr∧Hid (idxP p 0 l=idxP p k (l.drop k))) (fun _ i _=>l.length - (intOf i).toNat)
 case atStart=>exact ⟨0,by omega,rfl,qbl,Zh Zs⟩
 case round =>
  obtain ⟨k,hk,rfl,hbel,HG⟩:=hrel;have hhe : w.heap.size≤wr.heap.size:=hbel.size;by_cases hlt : k<l.length
  ·obtain ⟨b,o,rfl,hb,hcl⟩:=HR.out.at1 hlt;have hcl2:=hcl.keep (hbel.block b hb);have hd : l.drop k=l[k] :: l.drop (k+1):=List.drop_eq_getElem_cons hlt;have hgo:=HG.out;rw [hd] at hgo;have HGO:=Zh hgo;have hcall:=hp wr l[k] (List.getElem_mem hlt) hbel;clear hd hgo hcl HG hp;generalize l[k]=x at *;obtain ⟨bq,hb0⟩ : ∃ bq,p x=bq:=⟨_,rfl⟩;rw [hb0] at hcall;have HB0:=Zh hb0;clear hb0;have g0:=hcl2.c1;simp only [Nat.mul_one] at g0;clear hcl2;rcases bq
   ·go_wp2_with fail;refine hcall.mono ?_;clear hcall;rintro e w1 ⟨rfl,hb1⟩;have hB1 : Below w.heap.size w w1:=qbv;clear hb1;go_wp2_with fail;go_roundw
    case rel=>exact ⟨k+1,by omega,by go_num,hB1,Zh (by rw [HGO.out,idxP,HB0.out]; rfl)⟩
    case measure=>simp [intOf]; omega
   ·go_wp2_with fail;refine hcall.mono ?_;clear hcall;rintro e w1 ⟨rfl,hb1⟩;have hB1 : Below w.heap.size w w1:=qbv;clear hb1;go_wp2_with fail;go_ret;exact ⟨ret_int (by rw [HGO.out,idxP,HB0.out]; rfl),hB1⟩
  ·have hkl : l.drop k=[]:=List.drop_eq_nil_of_le Zo;have hgo:=HG.out;rw [hkl] at hgo;have HGO:=Zh hgo;clear hkl hgo HG;go_wp2_with fail;go_ret;exact ⟨ret_int (by rw [HGO.out]; rfl),hbel⟩
theorem hasI_in (l : Sl Int) (p : Int→Bool) (g h : Nat) (w : World) (hr : Rd (· < w.heap.size) 1 ienc w l) (hp : ∀ W x,x ∈ l.l→Below w.heap.size w W→Calls Tryz.prog 94 (#[.int .i64 x] ++ #[.pointer (some ⟨g,0,none⟩),.pointer (some ⟨h,0,none⟩)]) W fun e w'=>e = .returned (.bool (p x))∧Below W.heap.size W w') : Calls Tryz.prog 93 #[.slice l.A l.l.length l.c,.func (.func 94) #[] #[.pointer (some ⟨g,0,none⟩),.pointer (some ⟨h,0,none⟩)]] w fun e w'=>e = .returned (.bool (l.l.any p))∧Below w.heap.size w w':=by
 have hcon:=idxI_in l p g h w hr hp;clear hp hr;rcases idxP_ge p l.l 0 with ⟨h1,h2⟩ | ⟨j,x,h1,h2,h3,h4⟩
 ·rw [h1] at hcon;have HV:=Zh (show false=l.l.any p from (List.any_eq_false.2 (fun x hx=>by simpa using h2 x hx)).symm);clear h1 h2;go_enter Tryz.func93,Tryz.ntmps93;go_wp2_with fail;refine hcon.mono ?_;clear hcon;rintro e w1 ⟨rfl,hb1⟩;go_wp2_with fail;go_ret;exact ⟨ret_bool HV.out,hb1⟩
 ·rw [h1] at hcon;have HV:=Zh (show true=l.l.any p from (List.any_eq_true.2 ⟨x,List.mem_of_getElem? h2,h3⟩).symm);clear h1 h2 h3 h4;go_enter Tryz.func93,Tryz.ntmps93;go_wp2_with fail;refine hcon.mono ?_;clear hcon;rintro e w1 ⟨rfl,hb1⟩;go_wp2_with fail;go_ret;exact ⟨ret_bool HV.out,hb1⟩
theorem idxI_jn (l : Sl Int) (p : Int→Bool) (g h : Nat) (w : World) (hr : Rd (· < w.heap.size) 1 ienc w l) (hp : ∀ W x,x ∈ l.l→Below w.heap.size w W→Calls Tryz.prog 190 (#[.int .i64 x] ++ #[]) W fun e w'=>e = .returned (.bool (p x))∧Below W.heap.size W w') : Calls Tryz.prog 137 #[.slice l.A l.l.length l.c,.func (.func 190) #[] #[]] w fun e w'=>e = .returned (.int .i64 (idxP p 0 l.l))∧Below w.heap.size w w':=by
 obtain ⟨A,c,l⟩:=l;have hn:=hr.len;simp only at hn;have HR:=Zh hr;clear hr;simp only;simp only at hp;go_enter Tryz.func137,Tryz.ntmps137;go_wp2_with fail;go_loopw [5,8] (fun u i wr=>∃ (k : Nat),k≤l.length∧i = .int .i64 k∧Below w.heap.size w wr∧Hid (idxP p 0 l=idxP p k (l.drop k))) (fun _ i _=>l.length - (intOf i).toNat)
 case atStart=>exact ⟨0,by omega,rfl,qbl,Zh Zs⟩
 case round =>
  obtain ⟨k,hk,rfl,hbel,HG⟩:=hrel;have hhe : w.heap.size≤wr.heap.size:=hbel.size;by_cases hlt : k<l.length
  ·obtain ⟨b,o,rfl,hb,hcl⟩:=HR.out.at1 hlt;have hcl2:=hcl.keep (hbel.block b hb);have hd : l.drop k=l[k] :: l.drop (k+1):=List.drop_eq_getElem_cons hlt;have hgo:=HG.out;rw [hd] at hgo;have HGO:=Zh hgo;have hcall:=hp wr l[k] (List.getElem_mem hlt) hbel;clear hd hgo hcl HG hp;generalize l[k]=x at *;obtain ⟨bq,hb0⟩ : ∃ bq,p x=bq:=⟨_,rfl⟩;rw [hb0] at hcall;have HB0:=Zh hb0;clear hb0;have g0:=hcl2.c1;simp only [Nat.mul_one] at g0;clear hcl2;rcases bq
   ·go_wp2_with fail;refine hcall.mono ?_;clear hcall;rintro e w1 ⟨rfl,hb1⟩;have hB1 : Below w.heap.size w w1:=qbv;clear hb1;go_wp2_with fail;go_roundw
    case rel=>exact ⟨k+1,by omega,by go_num,hB1,Zh (by rw [HGO.out,idxP,HB0.out]; rfl)⟩
    case measure=>simp [intOf]; omega
   ·go_wp2_with fail;refine hcall.mono ?_;clear hcall;rintro e w1 ⟨rfl,hb1⟩;have hB1 : Below w.heap.size w w1:=qbv;clear hb1;go_wp2_with fail;go_ret;exact ⟨ret_int (by rw [HGO.out,idxP,HB0.out]; rfl),hB1⟩
  ·have hkl : l.drop k=[]:=List.drop_eq_nil_of_le Zo;have hgo:=HG.out;rw [hkl] at hgo;have HGO:=Zh hgo;clear hkl hgo HG;go_wp2_with fail;go_ret;exact ⟨ret_int (by rw [HGO.out]; rfl),hbel⟩
theorem hasI_jn (l : Sl Int) (p : Int→Bool) (g h : Nat) (w : World) (hr : Rd (· < w.heap.size) 1 ienc w l) (hp : ∀ W x,x ∈ l.l→Below w.heap.size w W→Calls Tryz.prog 190 (#[.int .i64 x] ++ #[]) W fun e w'=>e = .returned (.bool (p x))∧Below W.heap.size W w') : Calls Tryz.prog 93 #[.slice l.A l.l.length l.c,.func (.func 190) #[] #[]] w fun e w'=>e = .returned (.bool (l.l.any p))∧Below w.heap.size w w':=by
 have hcon:=idxI_jn l p g h w hr hp;clear hp hr;rcases idxP_ge p l.l 0 with ⟨h1,h2⟩ | ⟨j,x,h1,h2,h3,h4⟩
 ·rw [h1] at hcon;have HV:=Zh (show false=l.l.any p from (List.any_eq_false.2 (fun x hx=>by simpa using h2 x hx)).symm);clear h1 h2;go_enter Tryz.func93,Tryz.ntmps93;go_wp2_with fail;refine hcon.mono ?_;clear hcon;rintro e w1 ⟨rfl,hb1⟩;go_wp2_with fail;go_ret;exact ⟨ret_bool HV.out,hb1⟩
 ·rw [h1] at hcon;have HV:=Zh (show true=l.l.any p from (List.any_eq_true.2 ⟨x,List.mem_of_getElem? h2,h3⟩).symm);clear h1 h2 h3 h4;go_enter Tryz.func93,Tryz.ntmps93;go_wp2_with fail;refine hcon.mono ?_;clear hcon;rintro e w1 ⟨rfl,hb1⟩;go_wp2_with fail;go_ret;exact ⟨ret_bool HV.out,hb1⟩
theorem idxE_r (l : Sl PT) (p : PT→Bool) (g : Nat) (w : World) (hr : Rd (· < w.heap.size) 5 PT.enc w l) (hp : ∀ W x,x ∈ l.l→Below w.heap.size w W→Calls Tryz.prog 134 (#[x.v] ++ #[.pointer (some ⟨g,0,none⟩)]) W fun e w'=>e = .returned (.bool (p x))∧Below W.heap.size W w') : Calls Tryz.prog 95 #[.slice l.A l.l.length l.c,.func (.func 134) #[] #[.pointer (some ⟨g,0,none⟩)]] w fun e w'=>e = .returned (.int .i64 (idxP p 0 l.l))∧Below w.heap.size w w':=by
 obtain ⟨A,c,l⟩:=l;have hn:=hr.len;simp only at hn;have HR:=Zh hr;clear hr;simp only;simp only at hp;go_enter Tryz.func95,Tryz.ntmps95;go_wp2_with fail;go_loopw [5,8] (fun u i wr=>∃ (k : Nat),k≤l.length∧i = .int .i64 k∧Below w.heap.size w wr∧Hid (idxP p 0 l=idxP p k (l.drop k))) (fun _ i _=>l.length - (intOf i).toNat)
 case atStart=>exact ⟨0,by omega,rfl,qbl,Zh Zs⟩
 case round =>
  obtain ⟨k,hk,rfl,hbel,HG⟩:=hrel;have hhe : w.heap.size≤wr.heap.size:=hbel.size;by_cases hlt : k<l.length
  ·obtain ⟨b,o,rfl,hb,hcl⟩:=HR.out.at1 hlt;have hcl2:=hcl.keep (hbel.block b hb);have hd : l.drop k=l[k] :: l.drop (k+1):=List.drop_eq_getElem_cons hlt;have hgo:=HG.out;rw [hd] at hgo;have HGO:=Zh hgo;have hcall:=hp wr l[k] (List.getElem_mem hlt) hbel;clear hd hgo hcl HG hp;generalize l[k]=x at *;obtain ⟨bq,hb0⟩ : ∃ bq,p x=bq:=⟨_,rfl⟩;rw [hb0] at hcall;have HB0:=Zh hb0;clear hb0;obtain ⟨op,n,un,s,xA,xc,xl⟩:=x;have gg:=hcl2.c5;obtain ⟨g0,g1,g2,g3,g4⟩:=gg;simp only [PT.v] at hcall;clear hcl2;rcases bq
   ·go_wp2_with fail;refine hcall.mono ?_;clear hcall;rintro e w1 ⟨rfl,hb1⟩;have hB1 : Below w.heap.size w w1:=qbv;clear hb1;go_wp2_with fail;go_roundw
    case rel=>exact ⟨k+1,by omega,by go_num,hB1,Zh (by rw [HGO.out,idxP,HB0.out]; rfl)⟩
    case measure=>simp [intOf]; omega
   ·go_wp2_with fail;refine hcall.mono ?_;clear hcall;rintro e w1 ⟨rfl,hb1⟩;have hB1 : Below w.heap.size w w1:=qbv;clear hb1;go_wp2_with fail;go_ret;exact ⟨ret_int (by rw [HGO.out,idxP,HB0.out]; rfl),hB1⟩
  ·have hkl : l.drop k=[]:=List.drop_eq_nil_of_le Zo;have hgo:=HG.out;rw [hkl] at hgo;have HGO:=Zh hgo;clear hkl hgo HG;go_wp2_with fail;go_ret;exact ⟨ret_int (by rw [HGO.out]; rfl),hbel⟩
theorem hasE_r (l : Sl PT) (p : PT→Bool) (g : Nat) (w : World) (hr : Rd (· < w.heap.size) 5 PT.enc w l) (hp : ∀ W x,x ∈ l.l→Below w.heap.size w W→Calls Tryz.prog 134 (#[x.v] ++ #[.pointer (some ⟨g,0,none⟩)]) W fun e w'=>e = .returned (.bool (p x))∧Below W.heap.size W w') : Calls Tryz.prog 63 #[.slice l.A l.l.length l.c,.func (.func 134) #[] #[.pointer (some ⟨g,0,none⟩)]] w fun e w'=>e = .returned (.bool (l.l.any p))∧Below w.heap.size w w':=by
 have hcon:=idxE_r l p g w hr hp;clear hp hr;rcases idxP_ge p l.l 0 with ⟨h1,h2⟩ | ⟨j,x,h1,h2,h3,h4⟩
 ·rw [h1] at hcon;have HV:=Zh (show false=l.l.any p from (List.any_eq_false.2 (fun x hx=>by simpa using h2 x hx)).symm);clear h1 h2;go_enter Tryz.func63,Tryz.ntmps63;go_wp2_with fail;refine hcon.mono ?_;clear hcon;rintro e w1 ⟨rfl,hb1⟩;go_wp2_with fail;go_ret;exact ⟨ret_bool HV.out,hb1⟩
 ·rw [h1] at hcon;have HV:=Zh (show true=l.l.any p from (List.any_eq_true.2 ⟨x,List.mem_of_getElem? h2,h3⟩).symm);clear h1 h2 h3 h4;go_enter Tryz.func63,Tryz.ntmps63;go_wp2_with fail;refine hcon.mono ?_;clear hcon;rintro e w1 ⟨rfl,hb1⟩;go_wp2_with fail;go_ret;exact ⟨ret_bool HV.out,hb1⟩
theorem idxE_R (l : Sl PT) (p : PT→Bool) (g : Nat) (w : World) (hr : Rd (· < w.heap.size) 5 PT.enc w l) (hp : ∀ W x,x ∈ l.l→Below w.heap.size w W→Calls Tryz.prog 64 (#[x.v] ++ #[]) W fun e w'=>e = .returned (.bool (p x))∧Below W.heap.size W w') : Calls Tryz.prog 95 #[.slice l.A l.l.length l.c,.func (.func 64) #[] #[]] w fun e w'=>e = .returned (.int .i64 (idxP p 0 l.l))∧Below w.heap.size w w':=by
 obtain ⟨A,c,l⟩:=l;have hn:=hr.len;simp only at hn;have HR:=Zh hr;clear hr;simp only;simp only at hp;go_enter Tryz.func95,Tryz.ntmps95;go_wp2_with fail;go_loopw [5,8] (fun u i wr=>∃ (k : Nat),k≤l.length∧i = .int .i64 k∧Below w.heap.size w wr∧Hid (idxP p 0 l=idxP p k (l.drop k))) (fun _ i _=>l.length - (intOf i).toNat)
 case atStart=>exact ⟨0,by omega,rfl,qbl,Zh Zs⟩
 case round =>
  obtain ⟨k,hk,rfl,hbel,HG⟩:=hrel;have hhe : w.heap.size≤wr.heap.size:=hbel.size;by_cases hlt : k<l.length
  ·obtain ⟨b,o,rfl,hb,hcl⟩:=HR.out.at1 hlt;have hcl2:=hcl.keep (hbel.block b hb);have hd : l.drop k=l[k] :: l.drop (k+1):=List.drop_eq_getElem_cons hlt;have hgo:=HG.out;rw [hd] at hgo;have HGO:=Zh hgo;have hcall:=hp wr l[k] (List.getElem_mem hlt) hbel;clear hd hgo hcl HG hp;generalize l[k]=x at *;obtain ⟨bq,hb0⟩ : ∃ bq,p x=bq:=⟨_,rfl⟩;rw [hb0] at hcall;have HB0:=Zh hb0;clear hb0;obtain ⟨op,n,un,s,xA,xc,xl⟩:=x;have gg:=hcl2.c5;obtain ⟨g0,g1,g2,g3,g4⟩:=gg;simp only [PT.v] at hcall;clear hcl2;rcases bq
   ·go_wp2_with fail;refine hcall.mono ?_;clear hcall;rintro e w1 ⟨rfl,hb1⟩;have hB1 : Below w.heap.size w w1:=qbv;clear hb1;go_wp2_with fail;go_roundw
    case rel=>exact ⟨k+1,by omega,by go_num,hB1,Zh (by rw [HGO.out,idxP,HB0.out]; rfl)⟩
    case measure=>simp [intOf]; omega
   ·go_wp2_with fail;refine hcall.mono ?_;clear hcall;rintro e w1 ⟨rfl,hb1⟩;have hB1 : Below w.heap.size w w1:=qbv;clear hb1;go_wp2_with fail;go_ret;exact ⟨ret_int (by rw [HGO.out,idxP,HB0.out]; rfl),hB1⟩
  ·have hkl : l.drop k=[]:=List.drop_eq_nil_of_le Zo;have hgo:=HG.out;rw [hkl] at hgo;have HGO:=Zh hgo;clear hkl hgo HG;go_wp2_with fail;go_ret;exact ⟨ret_int (by rw [HGO.out]; rfl),hbel⟩
theorem hasE_R (l : Sl PT) (p : PT→Bool) (g : Nat) (w : World) (hr : Rd (· < w.heap.size) 5 PT.enc w l) (hp : ∀ W x,x ∈ l.l→Below w.heap.size w W→Calls Tryz.prog 64 (#[x.v] ++ #[]) W fun e w'=>e = .returned (.bool (p x))∧Below W.heap.size W w') : Calls Tryz.prog 63 #[.slice l.A l.l.length l.c,.func (.func 64) #[] #[]] w fun e w'=>e = .returned (.bool (l.l.any p))∧Below w.heap.size w w':=by
 have hcon:=idxE_R l p g w hr hp;clear hp hr;rcases idxP_ge p l.l 0 with ⟨h1,h2⟩ | ⟨j,x,h1,h2,h3,h4⟩
 ·rw [h1] at hcon;have HV:=Zh (show false=l.l.any p from (List.any_eq_false.2 (fun x hx=>by simpa using h2 x hx)).symm);clear h1 h2;go_enter Tryz.func63,Tryz.ntmps63;go_wp2_with fail;refine hcon.mono ?_;clear hcon;rintro e w1 ⟨rfl,hb1⟩;go_wp2_with fail;go_ret;exact ⟨ret_bool HV.out,hb1⟩
 ·rw [h1] at hcon;have HV:=Zh (show true=l.l.any p from (List.any_eq_true.2 ⟨x,List.mem_of_getElem? h2,h3⟩).symm);clear h1 h2 h3 h4;go_enter Tryz.func63,Tryz.ntmps63;go_wp2_with fail;refine hcon.mono ?_;clear hcon;rintro e w1 ⟨rfl,hb1⟩;go_wp2_with fail;go_ret;exact ⟨ret_bool HV.out,hb1⟩
end Go.Proofs.YtpbdjpfbhicmdaaGreatDoor
