/- Walks of package units: Trip, Member, pair, logic, joined. -/
import Derived.Test.YtpbdjpfbhicmdaaGreatDoorCbxaf
set_option linter.unusedSimpArgs false
set_option linter.unusedVariables false
set_option maxRecDepth 100000
set_option maxHeartbeats 6400000
namespace Go.Proofs.YtpbdjpfbhicmdaaGreatDoor
open Go.RowKit
def sFav : ByteArray:=⟨#[102,97,118,111,117,114]⟩
def sBal : ByteArray:=⟨#[98,97,108,97,110,99,101]⟩
def sTri : ByteArray:=⟨#[116,114,105,112,115]⟩
def sNos : ByteArray:=⟨#[110,111,115,104,111,119,115]⟩
def sDir : ByteArray:=⟨#[100,105,114,101,99,116]⟩
def sRid : ByteArray:=⟨#[114,105,100,101]⟩
def sDel : ByteArray:=⟨#[100,101,108,97,121]⟩
def sNot : ByteArray:=⟨#[110,111,116,105,99,101]⟩
def sSea : ByteArray:=⟨#[115,101,97,116,115]⟩
def sCha : ByteArray:=⟨#[99,104,97,105,114,115]⟩
def sBag : ByteArray:=⟨#[98,97,103,115]⟩
def sRis : ByteArray:=⟨#[114,105,100,101,114,115]⟩
def memU (s : ByteArray) : Option Int:=if s.toList == [102,97,118,111,117,114] then some 2 else if s.toList == [98,97,108,97,110,99,101] then some 1 else if s.toList == [116,114,105,112,115] then some 0 else if s.toList == [110,111,115,104,111,119,115] then some 0 else none
def triU (s : ByteArray) : Option Int:=if s.toList == [100,105,114,101,99,116] then some 2 else if s.toList == [114,105,100,101] then some 2 else if s.toList == [100,101,108,97,121] then some 2 else if s.toList == [110,111,116,105,99,101] then some 2 else if s.toList == [115,101,97,116,115] then some 0 else if s.toList == [99,104,97,105,114,115] then some 0 else if s.toList == [98,97,103,115] then some 0 else if s.toList == [114,105,100,101,114,115] then some 0 else none
def optV (u : Option Int) : Value:=.tuple #[.int .i64 (u.getD 0),.bool u.isSome]
theorem un_member (s : ByteArray) (w : World) : Calls Tryz.prog 140 #[.string s] w fun r w'=>r = .returned (optV (memU s))∧w=w':=by
 obtain ⟨V,hV⟩ : ∃ V,optV (memU s)=V:=⟨_,rfl⟩;rw [hV];have HV:=Zh hV;clear hV;go_enter Tryz.func140,Tryz.ntmps140;go_wp2_with fail
 all_goals
  refine bodyPost_ret (v:=V) ?_ rfl ⟨rfl,rfl⟩;rw [← HV.out];clear HV
  first
   | (simp [results,Tryz.results140,go_sem,optV,memU, *]; done)
   | (exfalso; simp_all; done)
theorem un_trip (s : ByteArray) (w : World) : Calls Tryz.prog 139 #[.string s] w fun r w'=>r = .returned (optV (triU s))∧w=w':=by
 obtain ⟨V,hV⟩ : ∃ V,optV (triU s)=V:=⟨_,rfl⟩;rw [hV];have HV:=Zh hV;clear hV;go_enter Tryz.func139,Tryz.ntmps139;go_wp2_with fail
 all_goals
  refine bodyPost_ret (v:=V) ?_ rfl ⟨rfl,rfl⟩;rw [← HV.out];clear HV
  first
   | (simp [results,Tryz.results139,go_sem,optV,triU, *]; done)
   | (exfalso; simp_all; done)
def pairU (op a b : Int) : Int :=
  if op=4∨op=5∨op=8∨op=9 then (if a=b∧a≠3 then a else -1)
  else if op=6 then (if a=0∧b≠3 then b else if b=0∧a≠3 then a else -1)
  else if op=7 then (if b=0∧a≠3 then a else if a=b∧a≠3∧a≠0 then 0 else -1)
  else if op=10 then (if a=b∧a≠3 then 3 else -1)
  else if op=11 then (if a=b then 3 else -1)
  else -1
theorem un_pair (op a b : Int) (w : World) : Calls Tryz.prog 192 #[.int .i64 op,.int .i64 a,.int .i64 b] w fun r w'=>r = .returned (.int .i64 (pairU op a b))∧w=w':=by
 obtain ⟨V,hV⟩ : ∃ V,pairU op a b=V:=⟨_,rfl⟩;rw [hV];have HV:=Zh hV;clear hV;go_enter Tryz.func192,Tryz.ntmps192;go_wp2_with fail
 all_goals
  refine bodyPost_ret (v:=.int .i64 V) ?_ rfl ⟨rfl,rfl⟩;rw [← HV.out];clear HV
  first
   | (simp [results,Tryz.results192,go_sem,pairU, *]; done)
   | (exfalso; simp_all; done)
   | (simp [results,Tryz.results192,go_sem]; unfold pairU; simp_all; done)
theorem idx_int1 (s : Sl Int) (x : Int) (w : World) (hr : Rd (· < w.heap.size) 1 ienc w s) : Calls Tryz.prog 245 #[.slice s.A s.l.length s.c,.int .i64 x] w fun e w'=>∃ n : Int,e = .returned (.int .i64 n)∧(0≤n↔x ∈ s.l)∧Below w.heap.size w w':=by
 obtain ⟨A,c,l⟩:=s;have hl:=hr.len;simp only at hl;have HR:=Zh hr;clear hr;simp only;go_enter Tryz.func245,Tryz.ntmps245;go_wp2_with fail;go_loopw [8] (fun v wr=>∃ (k : Nat),k≤l.length∧v = .int .i64 k∧Hid (∀ j,(h : j<l.length)→j<k→l[j]≠x)∧Below w.heap.size w wr) (fun v _=>l.length - (intOf v).toNat)
 case atStart=>exact ⟨0,by omega,rfl,Zh (fun j _ hj=>absurd hj (Nat.not_lt_zero _)),Below.refl _ _⟩
 case round =>
  obtain ⟨k,hk,rfl,HP,hbel⟩:=hrel;by_cases hkl : k<l.length
  ·obtain ⟨b,o,hA,_,c0⟩:=(HR.out.later hbel).geti hkl;simp only at hA c0;subst hA;by_cases hx : x=l[k]
   ·have hin : x ∈ l:=hx ▸ List.getElem_mem hkl;have HIN:=Zh hin;rw [← hx] at c0;clear hx hin HP;go_wp2_with fail;go_ret;exact ⟨k,rfl,⟨fun _=>HIN.out,fun _=>by omega⟩,hbel⟩
   ·have HN : Hid (∀ j,(h : j<l.length)→j<k+1→l[j]≠x):=Zh (fun j hj hjk=>by
     by_cases he : j=k
     ·subst he; exact fun h=>hx h.symm
     ·exact HP.out j hj Zo)
    clear HP;generalize l[k]=y at *;go_wp2_with fail;go_roundw
    case rel=>exact ⟨k+1,by omega,by go_num,HN,hbel⟩
    case measure=>simp [intOf]; omega
  ·have hno : x ∉ l:=fun h=>by
    obtain ⟨j,hj,hjx⟩:=List.mem_iff_getElem.1 h;exact HP.out j hj Zo hjx
   have HNO:=Zh hno;clear hno HP;go_wp2_with fail;go_ret;exact ⟨-1,rfl,⟨fun h=>by omega,fun h=>absurd h HNO.out⟩,hbel⟩
theorem has_int1 (s : Sl Int) (x : Int) (w : World) (hr : Rd (· < w.heap.size) 1 ienc w s) : Calls Tryz.prog 228 #[.slice s.A s.l.length s.c,.int .i64 x] w fun e w'=>e = .returned (.bool (decide (x ∈ s.l)))∧Below w.heap.size w w':=by
 have HI:=idx_int1 s x w hr;clear hr;go_enter Tryz.func228,Tryz.ntmps228;go_wp2_with fail;refine HI.mono ?_;rintro e w' ⟨n,rfl,hn,hb⟩;have HN:=Zh hn;clear hn;go_wp2_with fail;go_ret;exact ⟨ret_bool (by simp [HN.out]),hb⟩
def logB (op : Int) : Bool:=decide (op ∈ [(12 : Int),13,14])
theorem un_logic (op : Int) (w : World) : Calls Tryz.prog 191 #[.int .i64 op] w fun r w'=>r = .returned (.bool (logB op))∧Below w.heap.size w w':=by
 go_enter Tryz.func191,Tryz.ntmps191;go_wp2_with fail;refine (has_int1 ⟨some ⟨w.heap.size,0,none⟩,3,[12,13,14]⟩ op _ (OI.new w [12,13,14] (by simp [maxLen])).rdlt).mono ?_;rintro e w' ⟨rfl,hb⟩;have hB : Below w.heap.size w w':=Below.trans qbl (hb.mono Zp);clear hb;obtain ⟨r,hr⟩ : ∃ r,decide (op ∈ [(12 : Int),13,14])=r:=⟨_,rfl⟩;simp only [hr];have HR : Hid (r=logB op):=Zh hr.symm;clear hr;go_wp2_with fail;go_ret;exact ⟨ret_bool HR.out,hB⟩
theorem un_joined1 (n : Int) (w : World) : Calls Tryz.prog 190 #[.int .i64 n] w fun r w'=>r = .returned (.bool (!decide (n=3)))∧Below w.heap.size w w':=by
 go_enter Tryz.func190,Tryz.ntmps190;go_wp2_with fail;go_ret;exact ⟨ret_bool (by by_cases h : n=3 <;> simp [h]),Below.refl _ _⟩
def allB (l : List Int) : Bool:=l.all (fun n=>decide (n=3))
def joinU (op : Int) (l : List Int) : Int :=
  if logB op then (if allB l then 3 else -1)
  else if op=15 then (match l with | [a,b,c]=>if a=3∧b=c then b else -1 | _=>-1)
  else (match l with | [a,b]=>pairU op a b | _=>-1)
theorem join_log {op : Int} {l : List Int} (h : logB op=true) (r : Bool) (hr : allB l=r) : joinU op l=if r then 3 else -1:=by unfold joinU; rw [h,hr]; rfl
theorem join_if {a b c : Int} : joinU 15 [a,b,c]=if a=3∧b=c then b else -1:=by unfold joinU; rw [if_neg (by decide)]; rfl
theorem join_two {op a b : Int} (h : logB op=false) (h15 : ¬ op=15) : joinU op [a,b]=pairU op a b:=by unfold joinU; rw [h,if_neg h15]; rfl
theorem join_no {op : Int} {l : List Int} (h : logB op=false) (h15 : ¬ op=15) (hl : ¬ l.length=2) : joinU op l = -1:=by
 unfold joinU; rw [h,if_neg h15]
 match l,hl with
 | [],_=>rfl
 | [_],_=>rfl
 | [_,_],hl=>exact absurd rfl hl
 | _ :: _ :: _ :: _,_=>rfl
theorem un_join_log (op : Int) (s : Sl Int) (w : World) (hr : Rd (· < w.heap.size) 1 ienc w s) (hl : logB op=true) : Calls Tryz.prog 143 #[.int .i64 op,.slice s.A s.l.length s.c] w fun r w'=>r = .returned (.int .i64 (joinU op s.l))∧Below w.heap.size w w':=by
 have HL:=Zh (fun w2=>un_logic op w2);have HJ:=Zh (fun r hr=>join_log (l:=s.l) hl r hr);have HR:=Zh hr;clear hr;rw [hl] at HL;clear hl;obtain ⟨V,hV⟩ : ∃ V,joinU op s.l=V:=⟨_,rfl⟩;rw [hV] at HJ ⊢;clear hV;go_enter Tryz.func143,Tryz.ntmps143;go_wp2_with fail;refine (HL.out _).mono ?_;rintro e w' ⟨rfl,hb⟩;have hB:=hb;clear hb;go_wp2_with fail;refine (hasI_jn s (fun n=>!decide (n=3)) 0 0 _ (HR.out.later hB) (fun W x _ _=>un_joined1 x W)).mono ?_;rintro e w2 ⟨rfl,hb2⟩;have hB2:=hB.trans (hb2.mono hB.size);clear hb2;have HAN:=any_not (fun n=>decide (n=3)) s.l;obtain ⟨r,hr⟩ : ∃ r,(s.l.any (fun n=>!decide (n=3)))=r:=⟨_,rfl⟩;rw [hr] at HAN;simp only [hr];have HF:=Zh (HJ.out _ HAN.symm);clear hr HAN;rcases r
 ·go_wp2_with fail;go_ret;exact ⟨ret_int HF.out.symm,hB2⟩
 ·go_wp2_with fail;go_ret;exact ⟨ret_int HF.out.symm,hB2⟩
theorem un_join_no (op : Int) (s : Sl Int) (w : World) (hr : Rd (· < w.heap.size) 1 ienc w s) (hl : logB op=false) (h15 : ¬ op=15) (h2 : ¬ s.l.length=2) : Calls Tryz.prog 143 #[.int .i64 op,.slice s.A s.l.length s.c] w fun r w'=>r = .returned (.int .i64 (joinU op s.l))∧Below w.heap.size w w':=by
 have HL:=Zh (fun w2=>un_logic op w2);rw [join_no hl h15 h2];rw [hl] at HL;have hln:=hr.len;clear hr hl;(have h2i : ¬ (s.l.length : Int)=2:=by omega);go_enter Tryz.func143,Tryz.ntmps143;go_wp2_with fail;refine (HL.out _).mono ?_;rintro e w' ⟨rfl,hb⟩;have hB:=hb;clear hb;go_wp2_with fail;go_ret;exact ⟨rfl,hB⟩
theorem un_join_two (op a b : Int) (A : Option Addr) (c : Nat) (w : World) (hr : Rd (· < w.heap.size) 1 ienc w ⟨A,c,[a,b]⟩) (hl : logB op=false) (h15 : ¬ op=15) : Calls Tryz.prog 143 #[.int .i64 op,.slice A 2 c] w fun r w'=>r = .returned (.int .i64 (joinU op [a,b]))∧Below w.heap.size w w':=by
 have HL:=Zh (fun w2=>un_logic op w2);rw [join_two hl h15];rw [hl] at HL;have HR:=Zh hr;clear hr hl;go_enter Tryz.func143,Tryz.ntmps143;go_wp2_with fail;refine (HL.out _).mono ?_;rintro e w' ⟨rfl,hb⟩;have hB:=hb;clear hb;obtain ⟨g,o,hA,_,c0⟩:=(HR.out.later hB).geti (i:=0) Zs;obtain ⟨g',o',hA',_,c1⟩:=(HR.out.later hB).geti (i:=1) Zs;simp only at hA hA';rw [hA] at hA';injection hA' with hA';injection hA' with hg ho _;subst hg ho hA;simp only [List.getElem_cons_zero,List.getElem_cons_succ,Nat.add_zero] at c0 c1;go_wp2_with fail;refine wp_region_T (fun W=>W.cell? ⟨g,o,none⟩=some (.int .i64 a)∧W.cell? ⟨g,o+1,none⟩=some (.int .i64 b)) (fun _=>false) Zy ⟨c0,c1⟩ (fun hHeld=>?_);refine Zr 0 ?_;refine Zr 1 ?_;refine Zr 2 ?_;refine Zr 3 ?_;refine Zr 4 ?_;refine Zr 5 ?_;refine Zr 6 ?_;clear hHeld;refine Zn 7 ?_;go_wp2_with fail;refine (un_pair op a b _).mono ?_;rintro e w2 ⟨rfl,rfl⟩;go_wp2_with fail;refine And.intro (by first | exact fun _=>⟨c0,c1⟩ | exact ⟨c0,c1⟩) ?_;have hHeld:=(⟨c0,c1⟩ : w'.cell? ⟨g,o,none⟩=some (.int .i64 a)∧w'.cell? ⟨g,o+1,none⟩=some (.int .i64 b));refine Zr 8 ?_;refine Ze ?_;clear hHeld;go_wp2_with fail;go_ret;exact ⟨rfl,hB.drew⟩
theorem un_join_if1 (a b d : Int) (A : Option Addr) (c : Nat) (w : World) (hr : Rd (· < w.heap.size) 1 ienc w ⟨A,c,[a,b,d]⟩) (ha : ¬ a=3) : Calls Tryz.prog 143 #[.int .i64 15,.slice A 3 c] w fun r w'=>r = .returned (.int .i64 (joinU 15 [a,b,d]))∧Below w.heap.size w w':=by
 rw [join_if,if_neg (fun h=>ha h.1)];(have ha3 : (a == 3)=false:=by simpa using ha);have HL:=Zh (fun w2=>un_logic 15 w2);rw [show logB 15=false by decide] at HL;have HR:=Zh hr;clear hr;go_enter Tryz.func143,Tryz.ntmps143;go_wp2_with fail;refine (HL.out _).mono ?_;rintro e w' ⟨rfl,hb⟩;have hB:=hb;clear hb;obtain ⟨g,o,hA,_,c0⟩:=(HR.out.later hB).geti (i:=0) Zs;obtain ⟨g',o',hA',_,c1⟩:=(HR.out.later hB).geti (i:=1) Zs;obtain ⟨g2,o2,hA2,_,c2⟩:=(HR.out.later hB).geti (i:=2) Zs;simp only at hA hA' hA2;rw [hA] at hA' hA2;injection hA' with hA';injection hA' with hg ho _;injection hA2 with hA2;injection hA2 with hg2 ho2 _;subst hg ho hg2 ho2 hA;simp only [List.getElem_cons_zero,List.getElem_cons_succ,Nat.add_zero] at c0 c1 c2;go_wp2_with fail;refine wp_region_T (fun W=>W.cell? ⟨g,o,none⟩=some (.int .i64 a)∧W.cell? ⟨g,o+1,none⟩=some (.int .i64 b)∧W.cell? ⟨g,o+2,none⟩=some (.int .i64 d)) (fun _=>false) Zy ⟨c0,c1,c2⟩ (fun hHeld=>?_);refine Zr 0 ?_;refine Zr 1 ?_;refine Zr 2 ?_;clear hHeld;have hHeld : w'.cell? ⟨g,o,none⟩=some (.int .i64 a)∧w'.cell? ⟨g,o+1,none⟩=some (.int .i64 b)∧w'.cell? ⟨g,o+2,none⟩=some (.int .i64 d):=⟨c0,c1,c2⟩;refine wpAnyT_take2 (i:=3) (v:=.bool false) rfl rfl Zy Zy Zy Zy (fun _ _ _ h=>h) (Or.inl ⟨by rfl, ?_⟩) (by first | assumption | trivial) ?_
 ·(intro w hSw; (try dsimp only at hSw); go_simp) <;> (first | (with_reducible rfl) | assumption | (simp; done) | (simp [*]; done) | (simp; omega))
 simp only [qsa,qsb,qsc];refine Zr 4 ?_;refine Zm 5 ?_;refine Zm 6 ?_;refine Zm 7 ?_;refine Zm 8 ?_;refine Zm 9 ?_;refine Zm 10 ?_;refine Zm 11 ?_;refine Zr 12 ?_;refine Ze ?_;clear hHeld;go_wp2_with fail;go_ret;exact ⟨rfl,hB.drew⟩
theorem un_join_if2 (b d : Int) (A : Option Addr) (c : Nat) (w : World) (hr : Rd (· < w.heap.size) 1 ienc w ⟨A,c,[3,b,d]⟩) : Calls Tryz.prog 143 #[.int .i64 15,.slice A 3 c] w fun r w'=>r = .returned (.int .i64 (joinU 15 [3,b,d]))∧Below w.heap.size w w':=by
 rw [join_if];obtain ⟨a,ha⟩ : ∃ a : Int,a=3:=⟨_,rfl⟩;by_cases hbd : b=d
 ·rw [if_pos ⟨rfl,hbd⟩];rw [← ha] at hr;(have ha3 : (a == 3)=true:=by simpa using ha);(have hbd3 : (b == d)=true:=by simpa using hbd);have HA3:=Zh ha;clear ha hbd;have HL:=Zh (fun w2=>un_logic 15 w2);rw [show logB 15=false by decide] at HL;have HR:=Zh hr;clear hr;go_enter Tryz.func143,Tryz.ntmps143;go_wp2_with fail;refine (HL.out _).mono ?_;rintro e w' ⟨rfl,hb⟩;have hB:=hb;clear hb;obtain ⟨g,o,hA,_,c0⟩:=(HR.out.later hB).geti (i:=0) Zs;obtain ⟨g',o',hA',_,c1⟩:=(HR.out.later hB).geti (i:=1) Zs;obtain ⟨g2,o2,hA2,_,c2⟩:=(HR.out.later hB).geti (i:=2) Zs;simp only at hA hA' hA2;rw [hA] at hA' hA2;injection hA' with hA';injection hA' with hg ho _;injection hA2 with hA2;injection hA2 with hg2 ho2 _;subst hg ho hg2 ho2 hA;simp only [List.getElem_cons_zero,List.getElem_cons_succ,Nat.add_zero] at c0 c1 c2;go_wp2_with fail;refine wp_region_T (fun W=>W.cell? ⟨g,o,none⟩=some (.int .i64 a)∧W.cell? ⟨g,o+1,none⟩=some (.int .i64 b)∧W.cell? ⟨g,o+2,none⟩=some (.int .i64 d)) (fun _=>false) Zy ⟨c0,c1,c2⟩ (fun hHeld=>?_);refine Zr 0 ?_;refine Zr 1 ?_;refine Zr 2 ?_;clear hHeld;have hHeld : w'.cell? ⟨g,o,none⟩=some (.int .i64 a)∧w'.cell? ⟨g,o+1,none⟩=some (.int .i64 b)∧w'.cell? ⟨g,o+2,none⟩=some (.int .i64 d):=⟨c0,c1,c2⟩;refine wpAnyT_take2 (i:=3) (v:=.bool true) rfl rfl Zy Zy Zy Zy (fun _ _ _ h=>h) (Or.inl ⟨by rfl, ?_⟩) (by first | assumption | trivial) ?_
  ·(intro w hSw; (try dsimp only at hSw); go_simp) <;> (first | (with_reducible rfl) | assumption | (simp; done) | (simp [*]; done) | (simp; omega))
  simp only [qsa,qsb,qsc];refine Zr 4 ?_;refine Zr 5 ?_;refine Zr 6 ?_;refine Zr 7 ?_;refine Zr 8 ?_;refine Zr 9 ?_;refine Zr 10 ?_;refine wpAnyT_take2 (i:=11) (v:=.bool true) rfl rfl Zy Zy Zy Zy (fun _ _ _ h=>h) (Or.inl ⟨by rfl, ?_⟩) (by first | assumption | trivial) ?_
  ·(intro w hSw; (try dsimp only at hSw); go_simp) <;> (first | (with_reducible rfl) | assumption | (simp; done) | (simp [*]; done) | (simp; omega))
  simp only [qsa,qsb,qsc];refine Zr 12 ?_;refine Ze ?_;clear hHeld;go_wp2_with fail;go_ret;exact ⟨rfl,hB.drew⟩
 ·rw [if_neg (fun h=>hbd h.2)];rw [← ha] at hr;(have ha3 : (a == 3)=true:=by simpa using ha);(have hbd3 : (b == d)=false:=by simpa using hbd);have HA3:=Zh ha;clear ha hbd;have HL:=Zh (fun w2=>un_logic 15 w2);rw [show logB 15=false by decide] at HL;have HR:=Zh hr;clear hr;go_enter Tryz.func143,Tryz.ntmps143;go_wp2_with fail;refine (HL.out _).mono ?_;rintro e w' ⟨rfl,hb⟩;have hB:=hb;clear hb;obtain ⟨g,o,hA,_,c0⟩:=(HR.out.later hB).geti (i:=0) Zs;obtain ⟨g',o',hA',_,c1⟩:=(HR.out.later hB).geti (i:=1) Zs;obtain ⟨g2,o2,hA2,_,c2⟩:=(HR.out.later hB).geti (i:=2) Zs;simp only at hA hA' hA2;rw [hA] at hA' hA2;injection hA' with hA';injection hA' with hg ho _;injection hA2 with hA2;injection hA2 with hg2 ho2 _;subst hg ho hg2 ho2 hA;simp only [List.getElem_cons_zero,List.getElem_cons_succ,Nat.add_zero] at c0 c1 c2;go_wp2_with fail;refine wp_region_T (fun W=>W.cell? ⟨g,o,none⟩=some (.int .i64 a)∧W.cell? ⟨g,o+1,none⟩=some (.int .i64 b)∧W.cell? ⟨g,o+2,none⟩=some (.int .i64 d)) (fun _=>false) Zy ⟨c0,c1,c2⟩ (fun hHeld=>?_);refine Zr 0 ?_;refine Zr 1 ?_;refine Zr 2 ?_;clear hHeld;have hHeld : w'.cell? ⟨g,o,none⟩=some (.int .i64 a)∧w'.cell? ⟨g,o+1,none⟩=some (.int .i64 b)∧w'.cell? ⟨g,o+2,none⟩=some (.int .i64 d):=⟨c0,c1,c2⟩;refine wpAnyT_take2 (i:=3) (v:=.bool true) rfl rfl Zy Zy Zy Zy (fun _ _ _ h=>h) (Or.inl ⟨by rfl, ?_⟩) (by first | assumption | trivial) ?_
  ·(intro w hSw; (try dsimp only at hSw); go_simp) <;> (first | (with_reducible rfl) | assumption | (simp; done) | (simp [*]; done) | (simp; omega))
  simp only [qsa,qsb,qsc];refine Zr 4 ?_;refine Zr 5 ?_;refine Zr 6 ?_;refine Zr 7 ?_;refine Zr 8 ?_;refine Zr 9 ?_;refine Zr 10 ?_;refine wpAnyT_take2 (i:=11) (v:=.bool false) rfl rfl Zy Zy Zy Zy (fun _ _ _ h=>h) (Or.inl ⟨by rfl, ?_⟩) (by first | assumption | trivial) ?_
  ·(intro w hSw; (try dsimp only at hSw); go_simp) <;> (first | (with_reducible rfl) | assumption | (simp; done) | (simp [*]; done) | (simp; omega))
  simp only [qsa,qsb,qsc];refine Zr 12 ?_;refine Ze ?_;clear hHeld;go_wp2_with fail;go_ret;exact ⟨rfl,hB.drew⟩
theorem un_joined (op : Int) (s : Sl Int) (w : World) (hr : Rd (· < w.heap.size) 1 ienc w s) (h15 : op=15→s.l.length=3) : Calls Tryz.prog 143 #[.int .i64 op,.slice s.A s.l.length s.c] w fun r w'=>r = .returned (.int .i64 (joinU op s.l))∧Below w.heap.size w w':=by
 rcases hl : logB op
 ·by_cases h : op=15
  ·subst h;obtain ⟨A,c,l⟩:=s
   match l,h15 rfl with
   | [a,b,d],_ =>
    by_cases ha : a=3
    ·subst ha; exact un_join_if2 b d A c w hr
    ·exact un_join_if1 a b d A c w hr ha
  ·by_cases h2 : s.l.length=2
   ·obtain ⟨A,c,l⟩:=s
    match l,h2 with
    | [a,b],_=>exact un_join_two op a b A c w hr hl h
   ·exact un_join_no op s w hr hl h h2
 ·exact un_join_log op s w hr hl
end Go.Proofs.YtpbdjpfbhicmdaaGreatDoor
