/- Walks of package lex: letter, digit, span over both, Word. -/
import Derived.Test.YtmomlipmpgcheaaGreatDoorWbxae
import Derived.Test.YtmomlipmpgcheaaGreatDoorWbxac
import Derived.LoopN
set_option linter.unusedSimpArgs false
set_option linter.unusedVariables false
set_option maxRecDepth 100000
set_option maxHeartbeats 6400000
namespace Go.Proofs.YtmomlipmpgcheaaGreatDoor
open Go.RowKit
theorem bytes_beq (x y : ByteArray) : (x.toList == y.toList)=decide (x=y):=by
 by_cases h : x=y
 ·subst h; simp
 ·have h2 : x.toList≠y.toList:=fun hc=>h (by rw [ByteArray.toList_eq,ByteArray.toList_eq] at hc; exact ByteArray.ext (Array.toList_inj.1 hc));simp [h,h2]
def letC (c : Int) : Bool:=decide (97≤c) && decide (c≤122)
def digC (c : Int) : Bool:=decide (48≤c) && decide (c≤57)
theorem lex_letter (c : Int) (w : World) : Calls Tryz.prog 89 #[.int .u8 c] w fun e w'=>e = .returned (.bool (letC c))∧w=w':=by
 by_cases h1 : 97≤c
 ·by_cases h2 : c≤122
  ·go_enter Tryz.func89,Tryz.ntmps89;go_wp2_with fail;go_ret;exact ⟨ret_bool (by simp [letC,h1,h2]),rfl⟩
  ·go_enter Tryz.func89,Tryz.ntmps89;go_wp2_with fail;go_ret;exact ⟨ret_bool (by simp [letC,h1]; omega),rfl⟩
 ·go_enter Tryz.func89,Tryz.ntmps89;go_wp2_with fail;go_ret;exact ⟨ret_bool (by simp [letC]; omega),rfl⟩
theorem lex_digit (c : Int) (w : World) : Calls Tryz.prog 92 #[.int .u8 c] w fun e w'=>e = .returned (.bool (digC c))∧w=w':=by
 by_cases h1 : 48≤c
 ·by_cases h2 : c≤57
  ·go_enter Tryz.func92,Tryz.ntmps92;go_wp2_with fail;go_ret;exact ⟨ret_bool (by simp [digC,h1,h2]),rfl⟩
  ·go_enter Tryz.func92,Tryz.ntmps92;go_wp2_with fail;go_ret;exact ⟨ret_bool (by simp [digC,h1]; omega),rfl⟩
 ·go_enter Tryz.func92,Tryz.ntmps92;go_wp2_with fail;go_ret;exact ⟨ret_bool (by simp [digC]; omega),rfl⟩
theorem lex_ld (c : Int) (w : World) : Calls Tryz.prog 91 #[.int .u8 c] w fun e w'=>e = .returned (.bool (letC c || digC c))∧w=w':=by
 rcases h : letC c
 ·go_enter Tryz.func91,Tryz.ntmps91;go_wp2_with fail;refine (lex_letter c _).mono ?_;rintro e w' ⟨rfl,rfl⟩;rw [h];go_wp2_with fail;refine (lex_digit c _).mono ?_;rintro e w' ⟨rfl,rfl⟩;go_wp2_with fail;go_ret;exact ⟨ret_bool Zs,rfl⟩
 ·go_enter Tryz.func91,Tryz.ntmps91;go_wp2_with fail;refine (lex_letter c _).mono ?_;rintro e w' ⟨rfl,rfl⟩;rw [h];go_wp2_with fail;go_ret;exact ⟨ret_bool Zs,rfl⟩
def ldC (c : Int) : Bool:=letC c || digC c
def ldS (s : ByteArray) : Prop:=∀ i,(h : i<s.size)→ldC (s[i].toNat : Int)=true
theorem lex_span (s : ByteArray) (w : World) (hs : s.size≤9223372036854775807) : Calls Tryz.prog 90 #[.string s,.func (.func 91) #[] #[]] w fun e w'=>∃ n : Nat,e = .returned (.int .i64 n)∧(n=s.size↔ldS s)∧n≤s.size∧w=w':=by
 go_enter Tryz.func90,Tryz.ntmps90;go_wp2_with fail;go_loopw [5] (fun v wr=>∃ (k : Nat),k≤s.size∧v = .int .i64 k∧Hid (∀ i,(h : i<s.size)→i<k→ldC (s[i].toNat : Int)=true)∧w=wr) (fun v _=>s.size - (intOf v).toNat)
 case atStart=>exact ⟨0,by omega,rfl,Zh (fun i _ hi=>absurd hi (Nat.not_lt_zero _)),rfl⟩
 case round =>
  obtain ⟨k,hk,rfl,HP,rfl⟩:=hrel;by_cases hlt : k<s.size
  ·go_wp2_with fail;refine (lex_ld _ _).mono ?_;rintro e w' ⟨rfl,rfl⟩;rcases hb : letC (s[k].toNat : Int) || digC (s[k].toNat : Int)
   ·have HNO : Hid (¬ ldS s):=Zh (fun h=>by have:=h k hlt; unfold ldC at this; rw [hb] at this; cases this);clear hb HP;go_wp2_with fail;go_ret;exact ⟨k,rfl,⟨fun h=>by omega,fun h=>absurd h HNO.out⟩,by omega,rfl⟩
   ·have HN : Hid (∀ i,(h : i<s.size)→i<k+1→ldC (s[i].toNat : Int)=true):=Zh (fun i hi hik=>by
     by_cases he : i=k
     ·subst he; exact hb
     ·exact HP.out i hi Zo)
    clear hb HP;go_wp2_with fail;go_roundw
    case rel=>exact ⟨k+1,by omega,by go_num,HN,trivial⟩
    case measure=>simp [intOf]; omega
  ·have HALL : Hid (ldS s):=Zh (fun i hi=>HP.out i hi Zo);(have hke : k=s.size:=by omega);subst hke;clear HP hlt hk;go_wp2_with fail;go_ret;exact ⟨s.size,rfl,by simp [HALL.out],Nat.le_refl _,rfl⟩
def wordB (s : ByteArray) : Bool:=decide (0<s.size) && (letC ((s.data.getD 0 0).toNat : Int) && (decide (s.size≤20) && s.data.all (fun c=>ldC (c.toNat : Int))))
theorem ldS_iff (s : ByteArray) : ldS s↔s.data.all (fun c=>ldC (c.toNat : Int))=true:=by
 rw [Array.all_eq_true];exact Iff.rfl
theorem lex_word (s : ByteArray) (w : World) (hs : s.size≤9223372036854775807) : Calls Tryz.prog 64 #[.string s] w fun e w'=>e = .returned (.bool (wordB s))∧w=w':=by
 by_cases h0 : s.size=0
 ·have hse : s=⟨#[]⟩:=by
   have : s.data = #[]:=Array.eq_empty_of_size_eq_zero h0;cases s;simp only at this;rw [this]
  subst hse;go_enter Tryz.func64,Tryz.ntmps64;go_wp2_with fail;go_ret;exact ⟨rfl,rfl⟩
 ·have hp : 0<s.size:=by omega
  have hg : s.data.getD 0 0=s[0]:=by
   show s.data.getD 0 0=s.data[0];have hd : 0<s.data.size:=hp;simp only [Array.getD];rw [dif_pos hd];rfl
  have hns : ¬ s=⟨#[]⟩:=fun h=>h0 (by rw [h]; rfl)
  have hn2 : ¬ s.toList=[]:=fun h=>by
   rw [ByteArray.toList_eq] at h;exact hns (ByteArray.ext (by simpa using h))
  (have hn3 : s.toList.isEmpty=false:=by simpa using hn2);clear hns;have HW : Hid (wordB s=(letC (s[0].toNat : Int) && (decide (s.size≤20) && s.data.all (fun c=>ldC (c.toNat : Int))))):=Zh (by unfold wordB; rw [hg]; simp [hp]);clear hg;rcases hl : letC (s[0].toNat : Int)
  ·rw [hl] at HW;go_enter Tryz.func64,Tryz.ntmps64;go_wp2_with fail;refine (lex_letter _ _).mono ?_;rintro e w' ⟨rfl,rfl⟩;rw [hl];go_wp2_with fail;go_ret;exact ⟨ret_bool (by rw [HW.out]; simp),rfl⟩
  ·rw [hl] at HW;by_cases h20 : s.size≤20
   ·have HL:=Zh (ldS_iff s);go_enter Tryz.func64,Tryz.ntmps64;go_wp2_with fail;refine (lex_letter _ _).mono ?_;rintro e w' ⟨rfl,rfl⟩;rw [hl];go_wp2_with fail;refine (lex_span s _ hs).mono ?_;rintro e w' ⟨n,rfl,hn,hle,rfl⟩;have HN:=Zh hn;clear hn;go_wp2_with fail;go_ret;refine ⟨ret_bool ?_,rfl⟩;rw [HW.out];by_cases hall : ldS s
    ·rw [HL.out.1 hall,HN.out.2 hall];simp [h20]
    ·have h1 : s.data.all (fun c=>ldC (c.toNat : Int))=false:=by
      rcases hb : s.data.all (fun c=>ldC (c.toNat : Int))
      ·rfl
      ·exact absurd (HL.out.2 hb) hall
     have h2 : n≠s.size:=fun h=>hall (HN.out.1 h);rw [h1];simp;omega
   ·go_enter Tryz.func64,Tryz.ntmps64;go_wp2_with fail;refine (lex_letter _ _).mono ?_;rintro e w' ⟨rfl,rfl⟩;rw [hl];go_wp2_with fail;go_ret;exact ⟨ret_bool (by rw [HW.out]; simp; omega),rfl⟩
def senc (s : ByteArray) : List Value:=[.string s]
theorem senc_k (s : ByteArray) : (senc s).length=1:=rfl
theorem senc_one (x : ByteArray) : ∀ u ∈ senc x,u.oneCell'=true:=by intro u hu; simp only [senc,List.mem_singleton] at hu; subst hu; rfl
theorem Rd.gets {F : Nat→Prop} {w : World} {s : Sl ByteArray} {i : Nat} (h : Rd F 1 senc w s) (hi : i<s.l.length) : ∃ b o,s.A=some ⟨b,o,none⟩∧F b∧w.cell? ⟨b,o+i,none⟩=some (.string s.l[i]):=by
 obtain ⟨b,o,h1,h2,h3⟩:=h.at1 hi;refine ⟨b,o,h1,h2, ?_⟩;have:=h3.c1
 rwa [Nat.mul_one] at this
theorem idx_str (s : Sl ByteArray) (x : ByteArray) (w : World) (hr : Rd (· < w.heap.size) 1 senc w s) : Calls Tryz.prog 93 #[.slice s.A s.l.length s.c,.string x] w fun e w'=>∃ n : Int,e = .returned (.int .i64 n)∧(0≤n↔x ∈ s.l)∧Below w.heap.size w w':=by
 obtain ⟨A,c,l⟩:=s;have hl:=hr.len;simp only at hl;have HR:=Zh hr;clear hr;simp only;go_enter Tryz.func93,Tryz.ntmps93;go_wp2_with fail;go_loopw [8] (fun v wr=>∃ (k : Nat),k≤l.length∧v = .int .i64 k∧Hid (∀ j,(h : j<l.length)→j<k→l[j]≠x)∧Below w.heap.size w wr) (fun v _=>l.length - (intOf v).toNat)
 case atStart=>exact ⟨0,by omega,rfl,Zh (fun j _ hj=>absurd hj (Nat.not_lt_zero _)),Below.refl _ _⟩
 case round =>
  obtain ⟨k,hk,rfl,HP,hbel⟩:=hrel;by_cases hkl : k<l.length
  ·obtain ⟨b,o,hA,_,c0⟩:=(HR.out.later hbel).gets hkl;simp only at hA c0;subst hA;by_cases hx : x=l[k]
   ·have hin : x ∈ l:=hx ▸ List.getElem_mem hkl;have HIN:=Zh hin;(have heq : (x.toList == (l[k]).toList)=true:=by rw [bytes_beq]; simpa using hx);(have heq2 : x.toList=(l[k]).toList:=by rw [← hx]);generalize l[k]=y at *;clear hx hin HP;go_wp2_with fail;go_ret;exact ⟨k,rfl,⟨fun _=>HIN.out,fun _=>by omega⟩,hbel⟩
   ·have HN : Hid (∀ j,(h : j<l.length)→j<k+1→l[j]≠x):=Zh (fun j hj hjk=>by
     by_cases he : j=k
     ·subst he; exact fun h=>hx h.symm
     ·exact HP.out j hj Zo)
    (have heq : (x.toList == (l[k]).toList)=false:=by rw [bytes_beq]; simpa using hx);(have heq2 : ¬ x.toList=(l[k]).toList:=by simpa using heq);generalize l[k]=y at *;clear hx HP;go_wp2_with fail;go_roundw
    case rel=>exact ⟨k+1,by omega,by go_num,HN,hbel⟩
    case measure=>simp [intOf]; omega
  ·have hno : x ∉ l:=fun h=>by
    obtain ⟨j,hj,hjx⟩:=List.mem_iff_getElem.1 h;exact HP.out j hj Zo hjx
   have HNO:=Zh hno;clear hno HP;go_wp2_with fail;go_ret;exact ⟨-1,rfl,⟨fun h=>by omega,fun h=>absurd h HNO.out⟩,hbel⟩
def inL (x : ByteArray) (l : List ByteArray) : Bool:=l.any (fun y=>x.toList == y.toList)
theorem inL_iff (x : ByteArray) (l : List ByteArray) : inL x l=true↔x ∈ l:=by
 unfold inL;rw [List.any_eq_true];constructor
 ·rintro ⟨y,hy,he⟩;rw [bytes_beq] at he;have:=of_decide_eq_true he;subst this;exact hy
 ·intro h;exact ⟨x,h,by simp⟩
theorem inL_no (x : ByteArray) (l : List ByteArray) (h : x ∉ l) : inL x l=false:=by
 rcases he : inL x l
 ·rfl
 ·exact absurd ((inL_iff x l).1 he) h
def resL : List ByteArray:=[⟨#[97,100,109,105,116]⟩,⟨#[97,110,100]⟩,⟨#[98,121,108,97,119,115]⟩,⟨#[99,101,110,116,115]⟩,⟨#[99,104,97,110,103,101]⟩,⟨#[101,108,115,101]⟩,⟨#[102,97,108,115,101]⟩,⟨#[102,97,114,101]⟩,⟨#[105,102]⟩,⟨#[108,97,116,101]⟩,⟨#[108,101,116]⟩,⟨#[109,97,120]⟩,⟨#[109,101,109,98,101,114]⟩,⟨#[109,105,110]⟩,⟨#[109,105,110,117,116,101,115]⟩,⟨#[110,111,115,104,111,119]⟩,⟨#[110,111,116]⟩,⟨#[111,114]⟩,⟨#[113,117,111,116,97]⟩,⟨#[115,104,97,114,101]⟩,⟨#[116,104,101,110]⟩,⟨#[116,114,105,112]⟩,⟨#[116,114,117,101]⟩]
theorem has_str (s : Sl ByteArray) (x : ByteArray) (w : World) (hr : Rd (· < w.heap.size) 1 senc w s) : Calls Tryz.prog 65 #[.slice s.A s.l.length s.c,.string x] w fun e w'=>e = .returned (.bool (inL x s.l))∧Below w.heap.size w w':=by
 have HI:=idx_str s x w hr;clear hr;go_enter Tryz.func65,Tryz.ntmps65;go_wp2_with fail;refine HI.mono ?_;rintro e w' ⟨n,rfl,hn,hb⟩;have HN:=Zh hn;clear hn;by_cases h0 : 0≤n
 ·have HV:=Zh ((inL_iff x s.l).2 (HN.out.1 h0));go_wp2_with fail;go_ret;exact ⟨ret_bool HV.out.symm,hb⟩
 ·have HV:=Zh ((inL_no x s.l (fun h=>h0 (HN.out.2 h))).trans (decide_eq_false h0).symm);clear h0;go_wp2_with fail;go_ret;exact ⟨ret_bool HV.out.symm,hb⟩
def resC : Array Value:=#[.string ⟨#[97,100,109,105,116]⟩,.string ⟨#[97,110,100]⟩,.string ⟨#[98,121,108,97,119,115]⟩,.string ⟨#[99,101,110,116,115]⟩,.string ⟨#[99,104,97,110,103,101]⟩,.string ⟨#[101,108,115,101]⟩,.string ⟨#[102,97,108,115,101]⟩,.string ⟨#[102,97,114,101]⟩,.string ⟨#[105,102]⟩,.string ⟨#[108,97,116,101]⟩,.string ⟨#[108,101,116]⟩,.string ⟨#[109,97,120]⟩,.string ⟨#[109,101,109,98,101,114]⟩,.string ⟨#[109,105,110]⟩,.string ⟨#[109,105,110,117,116,101,115]⟩,.string ⟨#[110,111,115,104,111,119]⟩,.string ⟨#[110,111,116]⟩,.string ⟨#[111,114]⟩,.string ⟨#[113,117,111,116,97]⟩,.string ⟨#[115,104,97,114,101]⟩,.string ⟨#[116,104,101,110]⟩,.string ⟨#[116,114,105,112]⟩,.string ⟨#[116,114,117,101]⟩]
theorem resC_is : resC.toList=resL.flatMap senc:=by rfl
theorem syn_reserved (w : World) : Calls Tryz.prog 66 #[] w fun e w'=>∃ s : Sl ByteArray,e = .returned (.slice s.A s.l.length s.c)∧s.l=resL∧Rd (· < w'.heap.size) 1 senc w' s∧Below w.heap.size w w':=by
 have hown : Own w.heap.size 9 1 senc (w.alloc (.cells resC 9)) ⟨some ⟨w.heap.size,0,none⟩,23,resL⟩:=Own.lit w resC resL Zl (by decide) resC_is senc_k;have HO:=Zh hown;clear hown;go_enter Tryz.func66,Tryz.ntmps66;go_wp2_with fail;go_ret;exact ⟨⟨some ⟨w.heap.size,0,none⟩,23,resL⟩,rfl,rfl,(HO.out.rd senc_k).mono (fun b hb=>hb.2),qbl⟩
def nameB (s : ByteArray) : Bool:=wordB s && !inL s resL
theorem syn_name (s : ByteArray) (w : World) (hs : s.size≤9223372036854775807) : Calls Tryz.prog 49 #[.string s] w fun e w'=>e = .returned (.bool (nameB s))∧Below w.heap.size w w':=by
 have HW:=lex_word s w hs;rcases hw : wordB s
 ·rw [hw] at HW;have HV : Hid (nameB s=false):=Zh (by unfold nameB; rw [hw]; rfl);clear hw;go_enter Tryz.func49,Tryz.ntmps49;go_wp2_with fail;refine HW.mono ?_;rintro e w' ⟨rfl,rfl⟩;go_wp2_with fail;go_ret;exact ⟨ret_bool HV.out.symm,Below.refl _ _⟩
 ·rw [hw] at HW;have HV : Hid (nameB s = !inL s resL):=Zh (by unfold nameB; rw [hw]; rfl);clear hw;go_enter Tryz.func49,Tryz.ntmps49;go_wp2_with fail;refine HW.mono ?_;rintro e w' ⟨rfl,rfl⟩;go_wp2_with fail;refine (syn_reserved _).mono ?_;rintro e w1 ⟨⟨A,c,l⟩,rfl,hl,hr,hb⟩;simp only at hl;subst hl;have hB1 : Below w.heap.size w w1:=hb;have HR:=Zh hr;clear hr hb;go_wp2_with fail;refine (has_str ⟨A,c,resL⟩ s _ HR.out).mono ?_;rintro e w2 ⟨rfl,hb2⟩;have hB2 : Below w.heap.size w w2:=hB1.trans (hb2.mono hB1.size);clear hb2;simp only;generalize inL s resL=bb at *;go_wp2_with fail;go_ret;exact ⟨ret_bool HV.out.symm,hB2⟩
def cmpW (x y : Int) : Int:=if x<y then -1 else if y<x then 1 else 0
theorem cmpW_lt {x y : Int} (h : x<y) : cmpW x y = -1:=by simp [cmpW,h]
theorem cmpW_gt {x y : Int} (h : y<x) : cmpW x y=1:=by simp [cmpW,h]; omega
theorem cmpW_eq {x y : Int} (h : x=y) : cmpW x y=0:=by simp [cmpW,h]
theorem cmp_intW (x y : Int) (w : World) : Calls Tryz.prog 55 #[.int .i64 x,.int .i64 y] w fun e w'=>e = .returned (.int .i64 (cmpW x y))∧w=w':=by
  rcases Int.lt_trichotomy x y with h | h | h
  · rw [cmpW_lt h]
    go_enter Tryz.func55,Tryz.ntmps55
    go_wp2
    go_ret
    exact ⟨rfl,rfl⟩
  · rw [cmpW_eq h]
    subst h
    go_enter Tryz.func55,Tryz.ntmps55
    go_wp2
    go_ret
    exact ⟨rfl,rfl⟩
  · rw [cmpW_gt h]
    go_enter Tryz.func55,Tryz.ntmps55
    go_wp2
    go_ret
    exact ⟨rfl,rfl⟩
def orI (x y : Int) : Int:=if x≠0 then x else y
theorem or_int (x y : Int) (g : Nat) (w : World) (h0 : w.cell? ⟨g,0,none⟩=some (.int .i64 x)) (h1 : w.cell? ⟨g,1,none⟩=some (.int .i64 y)) :
    Calls Tryz.prog 43 #[.slice (some ⟨g,0,none⟩) 2 2] w fun e w'=>e = .returned (.int .i64 (orI x y))∧w=w':=by
  unfold orI
  by_cases hx : x=0
  · have e1 : (x != 0)=false:=by simp [hx]
    have hv : (if x≠0 then x else y)=y:=if_neg (fun h=>h hx)
    rw [hv]
    clear hv
    have HX:=Lib.hid hx
    clear hx
    by_cases hy : y=0
    · have e2 : (y != 0)=false:=by simp [hy]
      have HY:=Lib.hid hy
      clear hy
      go_enter Tryz.func43,Tryz.ntmps43
      go_wp2_with fail
      refine wp_loop_rounds 3 ?_
      rw [rounds_succ]
      go_wp2_with fail
      rw [rounds_succ]
      go_wp2_with fail
      rw [rounds_succ]
      go_wp2_with fail
      go_ret
      exact ⟨ret_int HY.out.symm,rfl⟩
    · have e2 : (y != 0)=true:=by simp [hy]
      clear hy
      go_enter Tryz.func43,Tryz.ntmps43
      go_wp2_with fail
      refine wp_loop_rounds 3 ?_
      rw [rounds_succ]
      go_wp2_with fail
      rw [rounds_succ]
      go_wp2_with fail
      go_ret
      exact ⟨rfl,rfl⟩
  · have e1 : (x != 0)=true:=by simp [hx]
    have hv : (if x≠0 then x else y)=x:=if_pos hx
    rw [hv]
    clear hv hx
    go_enter Tryz.func43,Tryz.ntmps43
    go_wp2_with fail
    refine wp_loop_rounds 3 ?_
    rw [rounds_succ]
    go_wp2_with fail
    go_ret
    exact ⟨rfl,rfl⟩
def cmpL : List Int→List Int→Int
  | [],[]=>0
  | [],_ :: _=>-1
  | _ :: _,[]=>1
  | x :: a,y :: b=>if cmpW x y≠0 then cmpW x y else cmpL a b
theorem cmpL_nil (b : List Int) : cmpL [] b=if 0<b.length then -1 else 0:=by cases b <;> simp [cmpL]
theorem cmpL_out (x : Int) (a : List Int) : cmpL (x :: a) []=1:=rfl
theorem cmpL_ne {x y : Int} {a b : List Int} (h : cmpW x y≠0) : cmpL (x :: a) (y :: b)=cmpW x y:=by rw [cmpL,if_pos h]
theorem cmpL_eq {x y : Int} {a b : List Int} (h : cmpW x y=0) : cmpL (x :: a) (y :: b)=cmpL a b:=by rw [cmpL,if_neg (fun h'=>h' h)]
theorem slices_Compare (s t : Sl Int) (w : World) (hs : Rd (· < w.heap.size) 1 ienc w s) (ht : Rd (· < w.heap.size) 1 ienc w t) :
    Calls Tryz.prog 44 #[.slice s.A s.l.length s.c,.slice t.A t.l.length t.c] w fun e w'=>e = .returned (.int .i64 (cmpL s.l t.l))∧w=w':=by
  obtain ⟨A,c,a⟩:=s
  obtain ⟨B,d,b⟩:=t
  have hl:=hs.len
  have hm:=ht.len
  simp only at hl hm
  have HS:=Lib.hid hs
  have HT:=Lib.hid ht
  clear hs ht
  simp only
  obtain ⟨V,hV⟩ : ∃ V,cmpL a b=V:=⟨_,rfl⟩
  rw [hV]
  have HV:=Lib.hid hV
  clear hV
  go_enter Tryz.func44,Tryz.ntmps44
  go_wp2_with fail
  go_loopw [11] (fun v wr=>∃ (k : Nat),k≤a.length∧k≤b.length∧v = .int .i64 k∧Hid (cmpL (a.drop k) (b.drop k)=V)∧w=wr) (fun v _=>a.length - (intOf v).toNat)
  case atStart=>exact ⟨0,by omega,by omega,rfl,HV,rfl⟩
  case round =>
    clear HV
    obtain ⟨k,hk,hk2,rfl,HP,rfl⟩:=hrel
    by_cases hkl : k<a.length
    · obtain ⟨b1,o1,hA,_,hcl⟩:=HS.out.at1 hkl
      simp only at hA hcl
      subst hA
      have c0:=hcl.c1
      rw [Nat.mul_one] at c0
      have hda : a.drop k=a[k] :: a.drop (k+1):=List.drop_eq_getElem_cons hkl
      by_cases hkm : k<b.length
      · obtain ⟨b2,o2,hB,_,hcm⟩:=HT.out.at1 hkm
        simp only at hB hcm
        subst hB
        have d0:=hcm.c1
        rw [Nat.mul_one] at d0
        have hdb : b.drop k=b[k] :: b.drop (k+1):=List.drop_eq_getElem_cons hkm
        have hp:=HP.out
        rw [hda,hdb] at hp
        generalize a[k]=x at *
        generalize b[k]=y at *
        have HP2:=Lib.hid hp
        clear hda hdb hcl hcm hp HP
        have hmi : ¬ ((b.length : Int)≤(k : Int)):=by omega
        go_wp2_with fail
        refine (cmp_intW _ _ _).mono ?_
        rintro e w' ⟨rfl,rfl⟩
        obtain ⟨q,hq⟩ : ∃ q,cmpW x y=q:=⟨_,rfl⟩
        rw [hq]
        by_cases hz : q=0
        · have hzb : (q != 0)=false:=by rw [hz]; rfl
          have HN:=Lib.hid ((cmpL_eq (hq.trans hz)).symm.trans HP2.out)
          clear hz hq HP2
          go_wp2_with fail
          go_roundw
          case rel=>exact ⟨k+1,by omega,by omega,by go_num,HN,trivial⟩
          case measure=>simp [intOf]; omega
        · have hzb : (q != 0)=true:=by simpa using hz
          have HN:=Lib.hid ((cmpL_ne (by rw [hq]; exact hz)).symm.trans HP2.out)
          rw [hq] at HN
          clear hz hq HP2
          go_wp2_with fail
          go_ret
          exact ⟨ret_int HN.out,rfl⟩
      · have hp:=HP.out
        rw [hda,show b.drop k=[] from List.drop_eq_nil_of_le (by omega),cmpL_out] at hp
        have HN:=Lib.hid hp
        have hmi : ((b.length : Int)≤(k : Int)):=by omega
        generalize a[k]=x at *
        clear hda hcl hp HP
        go_wp2_with fail
        go_ret
        exact ⟨ret_int HN.out,rfl⟩
    · have hp:=HP.out
      rw [show a.drop k=[] from List.drop_eq_nil_of_le (by omega),cmpL_nil,List.length_drop] at hp
      by_cases hab : a.length<b.length
      · rw [if_pos (by omega)] at hp
        have HN:=Lib.hid hp
        have habi : (a.length : Int)<(b.length : Int):=by omega
        clear hp HP
        go_wp2_with fail
        go_ret
        exact ⟨ret_int HN.out,rfl⟩
      · rw [if_neg (by omega)] at hp
        have HN:=Lib.hid hp
        have habi : ¬ (a.length : Int)<(b.length : Int):=by omega
        clear hp HP
        go_wp2_with fail
        go_ret
        exact ⟨ret_int HN.out,rfl⟩
theorem small_cases {m : Nat} (h : m<16) : m=0∨m=1∨m=2∨m=3∨m=4∨m=5∨m=6∨m=7∨m=8∨m=9∨m=10∨m=11∨m=12∨m=13∨m=14∨m=15:=by omega
structure TabW (w : World) : Prop where
  c0 : w.cell? ⟨1,0,none⟩=some (.int .u8 0)
  c1 : w.cell? ⟨1,1,none⟩=some (.int .u8 1)
  c3 : w.cell? ⟨1,3,none⟩=some (.int .u8 2)
  c7 : w.cell? ⟨1,7,none⟩=some (.int .u8 3)
theorem TabW.later {w w' : World} (h : TabW w) (hb : Below w.heap.size w w') : TabW w':=⟨keep_cell hb h.c0,keep_cell hb h.c1,keep_cell hb h.c3,keep_cell hb h.c7⟩
theorem ones_0 (w : World) : Calls Tryz.prog 75 #[.int .u64 0] w fun e w'=>e = .returned (.int .i64 0)∧w=w':=by
  go_enter Tryz.func75,Tryz.ntmps75
  go_wp2_with fail
  go_ret
  exact ⟨by kernel_rfl,rfl⟩
theorem ones_1 (w : World) : Calls Tryz.prog 75 #[.int .u64 1] w fun e w'=>e = .returned (.int .i64 1)∧w=w':=by
  go_enter Tryz.func75,Tryz.ntmps75
  go_wp2_with fail
  go_ret
  exact ⟨by kernel_rfl,rfl⟩
theorem ones_2 (w : World) : Calls Tryz.prog 75 #[.int .u64 2] w fun e w'=>e = .returned (.int .i64 1)∧w=w':=by
  go_enter Tryz.func75,Tryz.ntmps75
  go_wp2_with fail
  go_ret
  exact ⟨by kernel_rfl,rfl⟩
theorem ones_3 (w : World) : Calls Tryz.prog 75 #[.int .u64 3] w fun e w'=>e = .returned (.int .i64 2)∧w=w':=by
  go_enter Tryz.func75,Tryz.ntmps75
  go_wp2_with fail
  go_ret
  exact ⟨by kernel_rfl,rfl⟩
theorem ones_4 (w : World) : Calls Tryz.prog 75 #[.int .u64 4] w fun e w'=>e = .returned (.int .i64 1)∧w=w':=by
  go_enter Tryz.func75,Tryz.ntmps75
  go_wp2_with fail
  go_ret
  exact ⟨by kernel_rfl,rfl⟩
theorem ones_5 (w : World) : Calls Tryz.prog 75 #[.int .u64 5] w fun e w'=>e = .returned (.int .i64 2)∧w=w':=by
  go_enter Tryz.func75,Tryz.ntmps75
  go_wp2_with fail
  go_ret
  exact ⟨by kernel_rfl,rfl⟩
theorem ones_6 (w : World) : Calls Tryz.prog 75 #[.int .u64 6] w fun e w'=>e = .returned (.int .i64 2)∧w=w':=by
  go_enter Tryz.func75,Tryz.ntmps75
  go_wp2_with fail
  go_ret
  exact ⟨by kernel_rfl,rfl⟩
theorem ones_7 (w : World) : Calls Tryz.prog 75 #[.int .u64 7] w fun e w'=>e = .returned (.int .i64 3)∧w=w':=by
  go_enter Tryz.func75,Tryz.ntmps75
  go_wp2_with fail
  go_ret
  exact ⟨by kernel_rfl,rfl⟩
theorem ones_8 (w : World) : Calls Tryz.prog 75 #[.int .u64 8] w fun e w'=>e = .returned (.int .i64 1)∧w=w':=by
  go_enter Tryz.func75,Tryz.ntmps75
  go_wp2_with fail
  go_ret
  exact ⟨by kernel_rfl,rfl⟩
theorem ones_9 (w : World) : Calls Tryz.prog 75 #[.int .u64 9] w fun e w'=>e = .returned (.int .i64 2)∧w=w':=by
  go_enter Tryz.func75,Tryz.ntmps75
  go_wp2_with fail
  go_ret
  exact ⟨by kernel_rfl,rfl⟩
theorem ones_10 (w : World) : Calls Tryz.prog 75 #[.int .u64 10] w fun e w'=>e = .returned (.int .i64 2)∧w=w':=by
  go_enter Tryz.func75,Tryz.ntmps75
  go_wp2_with fail
  go_ret
  exact ⟨by kernel_rfl,rfl⟩
theorem ones_11 (w : World) : Calls Tryz.prog 75 #[.int .u64 11] w fun e w'=>e = .returned (.int .i64 3)∧w=w':=by
  go_enter Tryz.func75,Tryz.ntmps75
  go_wp2_with fail
  go_ret
  exact ⟨by kernel_rfl,rfl⟩
theorem ones_12 (w : World) : Calls Tryz.prog 75 #[.int .u64 12] w fun e w'=>e = .returned (.int .i64 2)∧w=w':=by
  go_enter Tryz.func75,Tryz.ntmps75
  go_wp2_with fail
  go_ret
  exact ⟨by kernel_rfl,rfl⟩
theorem ones_13 (w : World) : Calls Tryz.prog 75 #[.int .u64 13] w fun e w'=>e = .returned (.int .i64 3)∧w=w':=by
  go_enter Tryz.func75,Tryz.ntmps75
  go_wp2_with fail
  go_ret
  exact ⟨by kernel_rfl,rfl⟩
theorem ones_14 (w : World) : Calls Tryz.prog 75 #[.int .u64 14] w fun e w'=>e = .returned (.int .i64 3)∧w=w':=by
  go_enter Tryz.func75,Tryz.ntmps75
  go_wp2_with fail
  go_ret
  exact ⟨by kernel_rfl,rfl⟩
theorem ones_15 (w : World) : Calls Tryz.prog 75 #[.int .u64 15] w fun e w'=>e = .returned (.int .i64 4)∧w=w':=by
  go_enter Tryz.func75,Tryz.ntmps75
  go_wp2_with fail
  go_ret
  exact ⟨by kernel_rfl,rfl⟩
theorem tz_1 (w : World) (h : TabW w) : Calls Tryz.prog 77 #[.int .u64 1] w fun e w'=>e = .returned (.int .i64 0)∧w=w':=by
  obtain ⟨c0,c1,c3,c7⟩:=h
  have key : IntKind.u64.wrap (bits BinOp.and IntKind.u64 1 (IntKind.u64.wrap (-1)) * 285870213051353865) / 288230376151711744=0:=by kernel_rfl
  go_enter Tryz.func77,Tryz.ntmps77
  go_wp2_with (simp only [key])
  go_ret
  exact ⟨rfl,rfl⟩
theorem tz_2 (w : World) (h : TabW w) : Calls Tryz.prog 77 #[.int .u64 2] w fun e w'=>e = .returned (.int .i64 1)∧w=w':=by
  obtain ⟨c0,c1,c3,c7⟩:=h
  have key : IntKind.u64.wrap (bits BinOp.and IntKind.u64 2 (IntKind.u64.wrap (-2)) * 285870213051353865) / 288230376151711744=1:=by kernel_rfl
  go_enter Tryz.func77,Tryz.ntmps77
  go_wp2_with (simp only [key])
  go_ret
  exact ⟨rfl,rfl⟩
theorem tz_3 (w : World) (h : TabW w) : Calls Tryz.prog 77 #[.int .u64 3] w fun e w'=>e = .returned (.int .i64 0)∧w=w':=by
  obtain ⟨c0,c1,c3,c7⟩:=h
  have key : IntKind.u64.wrap (bits BinOp.and IntKind.u64 3 (IntKind.u64.wrap (-3)) * 285870213051353865) / 288230376151711744=0:=by kernel_rfl
  go_enter Tryz.func77,Tryz.ntmps77
  go_wp2_with (simp only [key])
  go_ret
  exact ⟨rfl,rfl⟩
theorem tz_4 (w : World) (h : TabW w) : Calls Tryz.prog 77 #[.int .u64 4] w fun e w'=>e = .returned (.int .i64 2)∧w=w':=by
  obtain ⟨c0,c1,c3,c7⟩:=h
  have key : IntKind.u64.wrap (bits BinOp.and IntKind.u64 4 (IntKind.u64.wrap (-4)) * 285870213051353865) / 288230376151711744=3:=by kernel_rfl
  go_enter Tryz.func77,Tryz.ntmps77
  go_wp2_with (simp only [key])
  go_ret
  exact ⟨rfl,rfl⟩
theorem tz_5 (w : World) (h : TabW w) : Calls Tryz.prog 77 #[.int .u64 5] w fun e w'=>e = .returned (.int .i64 0)∧w=w':=by
  obtain ⟨c0,c1,c3,c7⟩:=h
  have key : IntKind.u64.wrap (bits BinOp.and IntKind.u64 5 (IntKind.u64.wrap (-5)) * 285870213051353865) / 288230376151711744=0:=by kernel_rfl
  go_enter Tryz.func77,Tryz.ntmps77
  go_wp2_with (simp only [key])
  go_ret
  exact ⟨rfl,rfl⟩
theorem tz_6 (w : World) (h : TabW w) : Calls Tryz.prog 77 #[.int .u64 6] w fun e w'=>e = .returned (.int .i64 1)∧w=w':=by
  obtain ⟨c0,c1,c3,c7⟩:=h
  have key : IntKind.u64.wrap (bits BinOp.and IntKind.u64 6 (IntKind.u64.wrap (-6)) * 285870213051353865) / 288230376151711744=1:=by kernel_rfl
  go_enter Tryz.func77,Tryz.ntmps77
  go_wp2_with (simp only [key])
  go_ret
  exact ⟨rfl,rfl⟩
theorem tz_7 (w : World) (h : TabW w) : Calls Tryz.prog 77 #[.int .u64 7] w fun e w'=>e = .returned (.int .i64 0)∧w=w':=by
  obtain ⟨c0,c1,c3,c7⟩:=h
  have key : IntKind.u64.wrap (bits BinOp.and IntKind.u64 7 (IntKind.u64.wrap (-7)) * 285870213051353865) / 288230376151711744=0:=by kernel_rfl
  go_enter Tryz.func77,Tryz.ntmps77
  go_wp2_with (simp only [key])
  go_ret
  exact ⟨rfl,rfl⟩
theorem tz_8 (w : World) (h : TabW w) : Calls Tryz.prog 77 #[.int .u64 8] w fun e w'=>e = .returned (.int .i64 3)∧w=w':=by
  obtain ⟨c0,c1,c3,c7⟩:=h
  have key : IntKind.u64.wrap (bits BinOp.and IntKind.u64 8 (IntKind.u64.wrap (-8)) * 285870213051353865) / 288230376151711744=7:=by kernel_rfl
  go_enter Tryz.func77,Tryz.ntmps77
  go_wp2_with (simp only [key])
  go_ret
  exact ⟨rfl,rfl⟩
theorem tz_9 (w : World) (h : TabW w) : Calls Tryz.prog 77 #[.int .u64 9] w fun e w'=>e = .returned (.int .i64 0)∧w=w':=by
  obtain ⟨c0,c1,c3,c7⟩:=h
  have key : IntKind.u64.wrap (bits BinOp.and IntKind.u64 9 (IntKind.u64.wrap (-9)) * 285870213051353865) / 288230376151711744=0:=by kernel_rfl
  go_enter Tryz.func77,Tryz.ntmps77
  go_wp2_with (simp only [key])
  go_ret
  exact ⟨rfl,rfl⟩
theorem tz_10 (w : World) (h : TabW w) : Calls Tryz.prog 77 #[.int .u64 10] w fun e w'=>e = .returned (.int .i64 1)∧w=w':=by
  obtain ⟨c0,c1,c3,c7⟩:=h
  have key : IntKind.u64.wrap (bits BinOp.and IntKind.u64 10 (IntKind.u64.wrap (-10)) * 285870213051353865) / 288230376151711744=1:=by kernel_rfl
  go_enter Tryz.func77,Tryz.ntmps77
  go_wp2_with (simp only [key])
  go_ret
  exact ⟨rfl,rfl⟩
theorem tz_11 (w : World) (h : TabW w) : Calls Tryz.prog 77 #[.int .u64 11] w fun e w'=>e = .returned (.int .i64 0)∧w=w':=by
  obtain ⟨c0,c1,c3,c7⟩:=h
  have key : IntKind.u64.wrap (bits BinOp.and IntKind.u64 11 (IntKind.u64.wrap (-11)) * 285870213051353865) / 288230376151711744=0:=by kernel_rfl
  go_enter Tryz.func77,Tryz.ntmps77
  go_wp2_with (simp only [key])
  go_ret
  exact ⟨rfl,rfl⟩
theorem tz_12 (w : World) (h : TabW w) : Calls Tryz.prog 77 #[.int .u64 12] w fun e w'=>e = .returned (.int .i64 2)∧w=w':=by
  obtain ⟨c0,c1,c3,c7⟩:=h
  have key : IntKind.u64.wrap (bits BinOp.and IntKind.u64 12 (IntKind.u64.wrap (-12)) * 285870213051353865) / 288230376151711744=3:=by kernel_rfl
  go_enter Tryz.func77,Tryz.ntmps77
  go_wp2_with (simp only [key])
  go_ret
  exact ⟨rfl,rfl⟩
theorem tz_13 (w : World) (h : TabW w) : Calls Tryz.prog 77 #[.int .u64 13] w fun e w'=>e = .returned (.int .i64 0)∧w=w':=by
  obtain ⟨c0,c1,c3,c7⟩:=h
  have key : IntKind.u64.wrap (bits BinOp.and IntKind.u64 13 (IntKind.u64.wrap (-13)) * 285870213051353865) / 288230376151711744=0:=by kernel_rfl
  go_enter Tryz.func77,Tryz.ntmps77
  go_wp2_with (simp only [key])
  go_ret
  exact ⟨rfl,rfl⟩
theorem tz_14 (w : World) (h : TabW w) : Calls Tryz.prog 77 #[.int .u64 14] w fun e w'=>e = .returned (.int .i64 1)∧w=w':=by
  obtain ⟨c0,c1,c3,c7⟩:=h
  have key : IntKind.u64.wrap (bits BinOp.and IntKind.u64 14 (IntKind.u64.wrap (-14)) * 285870213051353865) / 288230376151711744=1:=by kernel_rfl
  go_enter Tryz.func77,Tryz.ntmps77
  go_wp2_with (simp only [key])
  go_ret
  exact ⟨rfl,rfl⟩
theorem tz_15 (w : World) (h : TabW w) : Calls Tryz.prog 77 #[.int .u64 15] w fun e w'=>e = .returned (.int .i64 0)∧w=w':=by
  obtain ⟨c0,c1,c3,c7⟩:=h
  have key : IntKind.u64.wrap (bits BinOp.and IntKind.u64 15 (IntKind.u64.wrap (-15)) * 285870213051353865) / 288230376151711744=0:=by kernel_rfl
  go_enter Tryz.func77,Tryz.ntmps77
  go_wp2_with (simp only [key])
  go_ret
  exact ⟨rfl,rfl⟩
end Go.Proofs.YtmomlipmpgcheaaGreatDoor
