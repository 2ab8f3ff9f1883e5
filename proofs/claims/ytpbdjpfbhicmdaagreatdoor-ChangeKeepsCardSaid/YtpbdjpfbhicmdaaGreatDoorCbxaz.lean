/- Walk of lex.next. -/
import Derived.Test.YtpbdjpfbhicmdaaGreatDoorCbxay
import Derived.Deep.Cut
set_option linter.unusedSimpArgs false
set_option linter.unusedVariables false
set_option maxRecDepth 100000
set_option maxHeartbeats 6400000
namespace Go.Proofs.YtpbdjpfbhicmdaaGreatDoor
open Go.RowKit
section
variable {c : UInt8} {r : List UInt8}
theorem nextL_w1 (h : letC (c.toNat : Int)=true) (h1 : wordB (bs ((c :: r).take (spanL ldC (c :: r))))=true) : nextL (c :: r)=(⟨0,bs ((c :: r).take (spanL ldC (c :: r))),0,0⟩,0):=by
 simp only [nextL]; rw [if_pos h,if_pos h1]
theorem nextL_w0 (h : letC (c.toNat : Int)=true) (h1 : wordB (bs ((c :: r).take (spanL ldC (c :: r))))=false) : nextL (c :: r)=(TK.zero,11):=by
 simp only [nextL]; rw [if_pos h,if_neg (by rw [h1]; decide)]
theorem nextL_n1 (h : letC (c.toNat : Int)=false) (hd : digC (c.toNat : Int)=true) (h1 : (numL ((c :: r).take (spanL digC (c :: r)))).2=true) : nextL (c :: r)=(⟨1,bs ((c :: r).take (spanL digC (c :: r))),(numL ((c :: r).take (spanL digC (c :: r)))).1,0⟩,0):=by
 simp only [nextL]; rw [if_neg (by rw [h]; decide),if_pos hd,if_pos h1]
theorem nextL_n0 (h : letC (c.toNat : Int)=false) (hd : digC (c.toNat : Int)=true) (h1 : (numL ((c :: r).take (spanL digC (c :: r)))).2=false) : nextL (c :: r)=(TK.zero,3):=by
 simp only [nextL]; rw [if_neg (by rw [h]; decide),if_pos hd,if_neg (by rw [h1]; decide)]
theorem nextL_s1 (h : letC (c.toNat : Int)=false) (hd : digC (c.toNat : Int)=false) {x : List UInt8} (h1 : signsL.find? (fun x=>preL (c :: r) x)=some x) : nextL (c :: r)=(⟨2,bs x,0,0⟩,0):=by
 simp only [nextL]; rw [if_neg (by rw [h]; decide),if_neg (by rw [hd]; decide),h1]
theorem nextL_s0 (h : letC (c.toNat : Int)=false) (hd : digC (c.toNat : Int)=false) (h1 : signsL.find? (fun x=>preL (c :: r) x)=none) : nextL (c :: r)=(TK.zero,10):=by
 simp only [nextL]; rw [if_neg (by rw [h]; decide),if_neg (by rw [hd]; decide),h1]
end
theorem find_at {α : Type} {p : α→Bool} : ∀ {l : List α} {i : Nat} {x : α},l[i]? = some x→(∀ j y,j<i→l[j]? = some y→p y=false)→p x=true→l.find? p=some x
 | [],i,x,h,_,_=>by simp at h
 | y :: l,0,x,h,_,hx=>by
  simp only [List.getElem?_cons_zero,Option.some.injEq] at h;subst h;rw [List.find?_cons_of_pos hx]
 | y :: l,i+1,x,h,hb,hx=>by
  rw [List.find?_cons_of_neg (by rw [hb 0 y Zo rfl]; decide)];exact find_at (i:=i) (by simpa using h) (fun j z hj hz=>hb (j+1) z Zo (by simpa using hz)) hx
theorem find_no {α : Type} {p : α→Bool} {l : List α} (h : ∀ (j : Nat) (y : α),l[j]? = some y→p y=false) : l.find? p=none:=by
 rw [List.find?_eq_none];intro x hx;obtain ⟨j,hj⟩:=List.getElem?_of_mem hx;rw [h j x hj]; decide
def NextP (w w' : World) (x : TK × Int) (e : Ending) : Prop:=e = .returned (.tuple #[x.1.v,.int .i64 x.2])∧Below w.heap.size w w'
theorem NextP.cast {w w' : World} {x y : TK × Int} {e : Ending} (h : x=y) (p : NextP w w' y e) : NextP w w' x e:=by rw [h]; exact p
theorem lex_next (s : ByteArray) (w : World) (h0 : 0<s.size) (hs : s.size≤9223372036854775807) (hg : SigW w) : Calls Tryz.prog 81 #[.string s] w fun e w'=>NextP w w' (nextL s.data.toList) e:=by
 have HG:=Zh hg;clear hg;have hd:=byte_drop h0;rw [List.drop_zero] at hd;obtain ⟨c,hc⟩ : ∃ c,s[0]=c:=⟨_,rfl⟩;obtain ⟨R,hR⟩ : ∃ R,s.data.toList.drop (0+1)=R:=⟨_,rfl⟩;rw [hc,hR] at hd;have HL:=Zh hd;have HSL:=Zh (span_ld s);have HSD:=Zh (span_dig s);have HPX:=Zh (has_prefix s);have hle1:=spanL_le ldC s.data.toList;have hle2:=spanL_le digC s.data.toList;rw [byte_len] at hle1 hle2;obtain ⟨V,hV⟩ : ∃ V,nextL s.data.toList=V:=⟨_,rfl⟩;rw [hV];have HV:=Zh hV;clear hV hR hd;have HB1 : Hid (Below w.heap.size w (w.alloc (.cells #[.int .i64 0,.string ⟨#[]⟩,.int .i64 0,.int .i64 0] 115))):=Zh qbl;have HZ1:=Zh (Blk.new w 115 #[.int .i64 0,.string ⟨#[]⟩,.int .i64 0,.int .i64 0]);obtain ⟨n1,hn1⟩ : ∃ n,spanL ldC s.data.toList=n:=⟨_,rfl⟩;obtain ⟨n2,hn2⟩ : ∃ n,spanL digC s.data.toList=n:=⟨_,rfl⟩;rw [hn1] at HSL hle1;rw [hn2] at HSD hle2;have HN1:=Zh hn1;have HN2:=Zh hn2;clear hn1 hn2;go_enter Tryz.func81,Tryz.ntmps81;go_wp2_with fail;generalize w.alloc (.cells _ 115)=w1 at *;obtain ⟨r0,r1,r2,r3,rf,rz⟩:=HZ1.out.b4;refine (lex_letter _ _).mono ?_;rintro e w' ⟨rfl,rfl⟩;obtain ⟨tl,htl⟩ : ∃ t,letC (c.toNat : Int)=t:=⟨_,rfl⟩;rw [htl];rcases tl
 ·go_wp2_with fail;refine (lex_digit _ _).mono ?_;rintro e w' ⟨rfl,rfl⟩;obtain ⟨td,htd⟩ : ∃ t,digC (c.toNat : Int)=t:=⟨_,rfl⟩;rw [htd];rcases td
  ·have HG1:=Zh (HG.out.later HB1.out);have HIX:=Zh sig_index;have g0:=HG1.out.at_ 0 _ rfl;have g1:=HG1.out.at_ 1 _ rfl;have g2:=HG1.out.at_ 2 _ rfl;have g3:=HG1.out.at_ 3 _ rfl;have g4:=HG1.out.at_ 4 _ rfl;have g5:=HG1.out.at_ 5 _ rfl;have g6:=HG1.out.at_ 6 _ rfl;have g7:=HG1.out.at_ 7 _ rfl;have g8:=HG1.out.at_ 8 _ rfl;have g9:=HG1.out.at_ 9 _ rfl;have g10:=HG1.out.at_ 10 _ rfl;go_wp2_with fail;go_loopw [44] (fun v wr=>∃ k : Nat,k≤11∧v = .int .i64 k∧Hid (∀ (j : Nat) (y : List UInt8),j<k→signsL[j]? = some y→preL s.data.toList y=false)∧w1=wr) (fun v _=>11 - (intOf v).toNat)
   case atStart=>exact ⟨0,by omega,rfl,Zh (fun j y hj _=>absurd hj Zo),rfl⟩
   case round =>
    obtain ⟨k,hk,rfl,HK,rfl⟩:=hrel;by_cases hlt : k<11
    ·obtain ⟨x,hx⟩ : ∃ x,signsL[k]? = some x:=⟨signsL[k]'hlt,List.getElem?_eq_getElem hlt⟩;have HX:=Zh hx;have hix:=sig_index k x hx;clear hx;obtain ⟨X,hX⟩ : ∃ X,bs x=X:=⟨_,rfl⟩;have HXX:=Zh hX;rw [hX] at hix;clear hX;go_wp2_with fail;refine (HPX.out X _ hs).mono ?_;rintro e w' ⟨rfl,rfl⟩;obtain ⟨pb,hpb⟩ : ∃ b,preL s.data.toList X.data.toList=b:=⟨_,rfl⟩;rw [hpb];have HPB : Hid (preL s.data.toList x=pb):=Zh (by rw [← hpb,← HXX.out]; simp [bs]);clear hpb hix;rcases pb
     ·have HN : Hid (∀ (j : Nat) (y : List UInt8),j<k+1→signsL[j]? = some y→preL s.data.toList y=false):=Zh (fun j y hj hy=>by
       by_cases hjk : j=k
       ·subst hjk;rw [HX.out] at hy;injection hy with hy;rw [← hy]; exact HPB.out
       ·exact HK.out j y Zo hy)
      clear HK HPB HX HXX;go_wp2_with fail;go_roundw
      case rel=>exact ⟨k+1,by omega,by go_num,HN,trivial⟩
      case measure=>simp [intOf]; omega
     ·have HF : Hid (signsL.find? (fun x=>preL (c :: R) x)=some x):=Zh (by rw [← HL.out]; exact find_at HX.out HK.out HPB.out);go_wp2_with fail;refine bodyPost_ret (v:=.tuple #[.agg #[.int .i64 2,.string X,.int .i64 0,.int .i64 0],.int .i64 0]) ?_ rfl (NextP.cast (HV.out.symm.trans (by rw [HL.out,nextL_s1 htl htd HF.out,HXX.out])) ⟨rfl,below_st4 HB1.out⟩);simp [results,Tryz.results81,go_sem,r0,r1,r2,r3,rz]
    ·have HF : Hid (signsL.find? (fun x=>preL (c :: R) x)=none):=Zh (by
      rw [← HL.out];exact find_no fun j y hy=>HK.out j y (by have:=(List.getElem?_eq_some_iff.1 hy).1; have h2 : signsL.length=11:=rfl; omega) hy)
     clear HK;go_wp2_with fail;refine bodyPost_ret (v:=.tuple #[.agg #[.int .i64 0,.string ⟨#[]⟩,.int .i64 0,.int .i64 0],.int .i64 10]) ?_ rfl (NextP.cast (HV.out.symm.trans ((congrArg nextL HL.out).trans (nextL_s0 htl htd HF.out))) ⟨rfl,below_st4 HB1.out⟩);simp [results,Tryz.results81,go_sem,r0,r1,r2,r3,rz]
  ·go_wp2_with fail;refine (HSD.out _ hs).mono ?_;rintro e w' ⟨rfl,rfl⟩;have HT:=Zh (ext_bs s 0 n2);go_wp2_with fail;generalize s.extract 0 n2=T at *;(have hT : T.data.toList=(c :: R).take n2:=by rw [HT.out,← HL.out]; simp [bs]);(have hTs : T.size≤9223372036854775807:=by rw [← byte_len,hT,← HL.out]; have:=List.length_take_le' n2 s.data.toList; rw [byte_len] at this; omega);refine (lex_Number T _ hTs).mono ?_;rintro e w' ⟨rfl,rfl⟩;obtain ⟨NV,hNV⟩ : ∃ v,numL T.data.toList=v:=⟨_,rfl⟩;rw [hNV];obtain ⟨nv,nb⟩:=NV;have HNV : Hid (numL ((c :: R).take (spanL digC (c :: R)))=(nv,nb)):=Zh (by rw [← HL.out,HN2.out,HL.out,← hT]; exact hNV);have HTT : Hid (bs ((c :: R).take (spanL digC (c :: R)))=T):=Zh (by rw [← HL.out,HN2.out,HL.out,← hT,bs_list]);clear hNV hT;rcases nb
   ·go_wp2_with fail;refine bodyPost_ret (v:=.tuple #[.agg #[.int .i64 0,.string ⟨#[]⟩,.int .i64 0,.int .i64 0],.int .i64 3]) ?_ rfl (NextP.cast (HV.out.symm.trans ((congrArg nextL HL.out).trans (nextL_n0 htl htd (by rw [HNV.out])))) ⟨rfl,below_st4 HB1.out⟩);simp [results,Tryz.results81,go_sem,r0,r1,r2,r3,rz]
   ·go_wp2_with fail;refine bodyPost_ret (v:=.tuple #[.agg #[.int .i64 1,.string T,.int .i64 nv,.int .i64 0],.int .i64 0]) ?_ rfl (NextP.cast (HV.out.symm.trans (by rw [HL.out,nextL_n1 htl htd (by rw [HNV.out]),HNV.out,HTT.out])) ⟨rfl,below_st4 HB1.out⟩);simp [results,Tryz.results81,go_sem,r0,r1,r2,r3,rz]
 ·go_wp2_with fail;refine (HSL.out _ hs).mono ?_;rintro e w' ⟨rfl,rfl⟩;have HT:=Zh (ext_bs s 0 n1);go_wp2_with fail;generalize s.extract 0 n1=T at *;(have hT : T.data.toList=(c :: R).take n1:=by rw [HT.out,← HL.out]; simp [bs]);(have hTs : T.size≤9223372036854775807:=by rw [← byte_len,hT,← HL.out]; have:=List.length_take_le' n1 s.data.toList; rw [byte_len] at this; omega);refine (lex_word T _ hTs).mono ?_;rintro e w' ⟨rfl,rfl⟩;have HTT : Hid (bs ((c :: R).take (spanL ldC (c :: R)))=T):=Zh (by rw [← HL.out,HN1.out,HL.out,← hT,bs_list]);obtain ⟨wb,hwb⟩ : ∃ v,wordB T=v:=⟨_,rfl⟩;rw [hwb];have HW:=Zh hwb;clear hwb hT;rcases wb
  ·go_wp2_with fail;refine bodyPost_ret (v:=.tuple #[.agg #[.int .i64 0,.string ⟨#[]⟩,.int .i64 0,.int .i64 0],.int .i64 11]) ?_ rfl (NextP.cast (HV.out.symm.trans ((congrArg nextL HL.out).trans (nextL_w0 htl ((congrArg wordB HTT.out).trans HW.out)))) ⟨rfl,below_st4 HB1.out⟩);simp [results,Tryz.results81,go_sem,r0,r1,r2,r3,rz]
  ·go_wp2_with fail;refine bodyPost_ret (v:=.tuple #[.agg #[.int .i64 0,.string T,.int .i64 0,.int .i64 0],.int .i64 0]) ?_ rfl (NextP.cast (HV.out.symm.trans (by rw [HL.out,nextL_w1 htl ((congrArg wordB HTT.out).trans HW.out),HTT.out])) ⟨rfl,below_st4 HB1.out⟩);simp [results,Tryz.results81,go_sem,r0,r1,r2,r3,rz]
theorem TK.enc_one : ∀ x : TK,∀ u ∈ x.enc,u.oneCell'=true
 | ⟨k,t,n,p⟩,v,hv=>by
  simp only [TK.enc,List.mem_cons,List.not_mem_nil,or_false] at hv;rcases hv with rfl | rfl | rfl | rfl <;> rfl
theorem infoTok : Info Tryz.prog 115 (.agg #[.int .i64 0,.string ByteArray.empty,.int .i64 0,.int .i64 0]) 4 40:=info_mk Zy rfl
def joinL (l : List TK) (r : List TK × Int × Int) : List TK × Int × Int:=if r.2.2≠0 then ([],r.2) else (l ++ r.1,0,0)
theorem spanL_pos {f : Int→Bool} {c : UInt8} {r : List UInt8} (h : f (c.toNat : Int)=true) : 1≤spanL f (c :: r):=by rw [spanL_hit h]; omega
theorem bs_size (l : List UInt8) : (bs l).size=l.length:=by simp [bs,ByteArray.size]
theorem letC_ldC {c : Int} (h : letC c=true) : ldC c=true:=by unfold ldC; rw [h]; rfl
theorem preL_len : ∀ {l m : List UInt8},preL l m=true→m.length≤l.length
 | _,[],_=>by simp
 | [],y :: b,h=>by simp [preL] at h
 | x :: a,y :: b,h=>by
  simp only [preL,Bool.and_eq_true] at h;simpa using preL_len h.2
theorem signs_pos : ∀ x ∈ signsL,1≤x.length:=by decide
theorem nextL_size {c : UInt8} {r : List UInt8} (h : (nextL (c :: r)).2=0) : 1≤(nextL (c :: r)).1.t.size∧(nextL (c :: r)).1.t.size≤(c :: r).length:=by
 have tk : ∀ (f : Int→Bool),f (c.toNat : Int)=true→1≤(bs ((c :: r).take (spanL f (c :: r)))).size∧(bs ((c :: r).take (spanL f (c :: r)))).size≤(c :: r).length:=fun f hf=>by
  rw [bs_size,List.length_take];have:=spanL_pos (r:=r) hf;have:=spanL_le f (c :: r);omega
 cases h1 : letC (c.toNat : Int)
 ·cases h2 : digC (c.toNat : Int)
  ·cases h3 : signsL.find? (fun x=>preL (c :: r) x) with
   | none=>rw [nextL_s0 h1 h2 h3] at h; exact absurd h (by decide)
   | some x =>
    rw [nextL_s1 h1 h2 h3,bs_size];exact ⟨signs_pos x (List.mem_of_find?_eq_some h3),preL_len (List.find?_some h3)⟩
  ·cases h3 : (numL ((c :: r).take (spanL digC (c :: r)))).2
   ·rw [nextL_n0 h1 h2 h3] at h; exact absurd h (by decide)
   ·rw [nextL_n1 h1 h2 h3]; exact tk _ h2
 ·cases h3 : wordB (bs ((c :: r).take (spanL ldC (c :: r))))
  ·rw [nextL_w0 h1 h3] at h; exact absurd h (by decide)
  ·rw [nextL_w1 h1 h3]; exact tk _ (letC_ldC h1)
def stepL (f at_ : Nat) (m : List UInt8) (l : List TK) : List TK × Int × Int :=
  if m=[] then (l ++ [⟨3,⟨#[]⟩,0,(at_ : Int)⟩],0,0)
  else if (nextL m).2≠0 then ([],(at_ : Int),(nextL m).2)
  else joinL (l ++ [{ (nextL m).1 with p:=(at_ : Int) }]) (lexL f (at_+(nextL m).1.t.size) (m.drop (nextL m).1.t.size))
theorem lexL_s {f at_ : Nat} {l M : List UInt8} {k : Nat} {L : List TK × Int × Int} (hM : l.drop (spanL blankC l)=M) (hk : at_+spanL blankC l=k) (hL : lexL f (k+(nextL M).1.t.size) (M.drop (nextL M).1.t.size)=L) : lexL (f+1) at_ l=if M=[] then ([⟨3,⟨#[]⟩,0,(k : Int)⟩],0,0) else if (nextL M).2≠0 then ([],(k : Int),(nextL M).2) else if L.2.2≠0 then ([],L.2) else ({ (nextL M).1 with p:=(k : Int) } :: L.1,0,0):=by
 subst hM; subst hk; subst hL; rw [lexL]
theorem joinL_step (f at_ : Nat) (m : List UInt8) (l : List TK) : joinL l (lexL (f+1) at_ m)=stepL f (at_+spanL blankC m) (m.drop (spanL blankC m)) l:=by
 obtain ⟨M,hM⟩ : ∃ M,m.drop (spanL blankC m)=M:=⟨_,rfl⟩;obtain ⟨k,hk⟩ : ∃ k,at_+spanL blankC m=k:=⟨_,rfl⟩;obtain ⟨L,hL⟩ : ∃ L,lexL f (k+(nextL M).1.t.size) (M.drop (nextL M).1.t.size)=L:=⟨_,rfl⟩;rw [lexL_s hM hk hL,hM,hk];unfold stepL joinL;rw [hL];by_cases h0 : M=[]
 ·simp [h0]
 ·by_cases h1 : (nextL M).2=0
  ·by_cases h2 : L.2.2=0
   ·simp [h0,h1,h2]
   ·simp [h0,h1,h2]
  ·simp [h0,h1]
theorem joinL_nil {r : List TK × Int × Int} (h : r.2.2=0→r.2=(0,0)) (h1 : r.2.2≠0→r.1=[]) : joinL [] r=r:=by
 unfold joinL;by_cases h2 : r.2.2=0
 ·rw [if_neg (fun hn=>hn h2)];obtain ⟨a,b⟩:=r;simp only at h h2;rw [h h2]; rfl
 ·rw [if_pos h2,← h1 h2]
theorem lexL_form : ∀ (f at_ : Nat) (l : List UInt8),((lexL f at_ l).2.2=0→(lexL f at_ l).2=(0,0))∧((lexL f at_ l).2.2≠0→(lexL f at_ l).1=[])
 | 0,_,_=>by unfold lexL; simp
 | f+1,at_,m=>by
  obtain ⟨M,hM⟩ : ∃ M,m.drop (spanL blankC m)=M:=⟨_,rfl⟩;obtain ⟨k,hk⟩ : ∃ k,at_+spanL blankC m=k:=⟨_,rfl⟩;obtain ⟨L,hL⟩ : ∃ L,lexL f (k+(nextL M).1.t.size) (M.drop (nextL M).1.t.size)=L:=⟨_,rfl⟩;rw [lexL_s hM hk hL];by_cases h0 : M=[]
  ·simp [h0]
  ·by_cases h1 : (nextL M).2=0
   ·by_cases h2 : L.2.2=0
    ·simp [h0,h1,h2]
    ·simp [h0,h1,h2]
   ·simp [h0,h1]
theorem lexT_big {l : List UInt8} (h : 4000<l.length) : lexT l=([],0,6):=by unfold lexT; rw [if_pos h]
theorem lexT_join {l : List UInt8} (h : ¬ 4000<l.length) : lexT l=joinL [] (lexL (l.length+1) 0 l):=by
 unfold lexT; rw [if_neg h,joinL_nil (lexL_form _ _ _).1 (lexL_form _ _ _).2]
def LexP (w w' : World) (x : List TK × Int × Int) (e : Ending) : Prop:=∃ A c,e = .returned (.tuple #[.slice A x.1.length c,.int .i64 x.2.1,.int .i64 x.2.2])∧Own w.heap.size 115 4 TK.enc w' ⟨A,c,x.1⟩∧Below w.heap.size w w'
theorem LexP.cast {w w' : World} {x y : List TK × Int × Int} {e : Ending} (h : x=y) (p : LexP w w' y e) : LexP w w' x e:=by rw [h]; exact p
theorem ext_drop (s : ByteArray) (k : Nat) : (s.extract k s.size).data.toList=s.data.toList.drop k:=by
 rw [ext_list,List.take_of_length_le (by rw [List.length_drop,byte_len]; omega)]
theorem own_ge {α : Type} {base k : Nat} {e : TypeId} {enc : α→List Value} {w : World} {s : Sl α} (h : Own base e k enc w s) : ∀ g,(Value.slice s.A s.l.length s.c).ownBlock=some g→base≤g:=by
 intro g hg;rcases h.form with ⟨hA,_,_⟩ | ⟨g0,hA,hb,_⟩
 ·rw [hA] at hg; simp [Value.ownBlock] at hg
 ·rw [hA] at hg; simp [Value.ownBlock] at hg; omega
theorem tok_new (w : World) (x : TK) : Rd (· < (w.alloc (.cells #[.int .i64 x.k,.string x.t,.int .i64 x.n,.int .i64 x.p] 115)).heap.size) 4 TK.enc (w.alloc (.cells #[.int .i64 x.k,.string x.t,.int .i64 x.n,.int .i64 x.p] 115)) ⟨some ⟨w.heap.size,0,none⟩,1,[x]⟩ :=
 ((Own.lit w #[.int .i64 x.k,.string x.t,.int .i64 x.n,.int .i64 x.p] [x] Zl (by simp [maxLen]) rfl TK.enc_k).rd TK.enc_k).mono fun _ hb=>hb.2
theorem tok_new2 (w : World) (o : Obj) (x : TK) : Rd (· < ((w.alloc o).alloc (.cells #[.int .i64 x.k,.string x.t,.int .i64 x.n,.int .i64 x.p] 115)).heap.size) 4 TK.enc ((w.alloc o).alloc (.cells #[.int .i64 x.k,.string x.t,.int .i64 x.n,.int .i64 x.p] 115)) ⟨some ⟨w.heap.size+1,0,none⟩,1,[x]⟩:=by
 have h:=tok_new (w.alloc o) x
 rwa [show (w.alloc o).heap.size=w.heap.size+1 by simp] at h
theorem grown_cell {w w' : World} {row : Option Nat} (hg : w.grownBy w' row) {p : Addr} (hp : p.block<w.heap.size) (hr : ∀ g,row=some g→g≠p.block) {v : Value} (h : w.cell? p=some v) : w'.cell? p=some v:=by
 rw [← h];exact World.cell?_of_block (hg.block p.block hp (fun e=>hr _ e.symm rfl))
theorem own_lt {α : Type} {base k : Nat} {e : TypeId} {enc : α→List Value} {w : World} {s : Sl α} (h : Own base e k enc w s) : ∀ g,(Value.slice s.A s.l.length s.c).ownBlock=some g→g<w.heap.size:=by
 intro g hg;rcases h.form with ⟨hA,_,_⟩ | ⟨g0,hA,hb,hl,_⟩
 ·rw [hA] at hg; simp [Value.ownBlock] at hg
 ·rw [hA] at hg; simp [Value.ownBlock] at hg; omega
theorem lex_Lex (s : ByteArray) (w : World) (hs : s.size≤9223372036854775807) (hg : SigW w) : Calls Tryz.prog 51 #[.string s] w fun e w'=>LexP w w' (lexT s.data.toList) e:=by
 have HG:=Zh hg;clear hg;have HBL:=Zh (byte_len s);obtain ⟨V,hV⟩ : ∃ V,lexT s.data.toList=V:=⟨_,rfl⟩;rw [hV];have HV:=Zh hV;clear hV;by_cases hbig : 4000<s.size
 ·have HF : Hid (V=([],0,6)):=Zh (by rw [← HV.out]; exact lexT_big (by rw [HBL.out]; exact hbig));go_enter Tryz.func51,Tryz.ntmps51;go_wp2_with fail;refine bodyPost_ret (v:=.tuple #[.slice none 0 0,.int .i64 0,.int .i64 6]) ?_ rfl (LexP.cast HF.out ⟨none,0,rfl,Own.nil _ _ _ _ _,Below.refl _ _⟩);simp [results,Tryz.results51,go_sem,]
 have HF : Hid (V=joinL [] (lexL (s.size+1) 0 s.data.toList)):=Zh (by rw [← HV.out,lexT_join (by rw [HBL.out]; exact hbig),HBL.out]);clear HV;go_enter Tryz.func51,Tryz.ntmps51;go_wp2_with fail;go_loopw [5,6] (fun t a wr=>∃ (l : List TK) (A : Option Addr) (c k f : Nat),k≤s.size∧s.size<k+f∧l.length≤k∧t = .slice A l.length c∧a = .int .i64 k∧Hid (Own w.heap.size 115 4 TK.enc wr ⟨A,c,l⟩)∧Hid (V=joinL l (lexL f k (s.data.toList.drop k)))∧Hid (Below w.heap.size w wr)) (fun _ a _=>s.size - (intOf a).toNat)
 case atStart=>exact ⟨[],none,0,0,s.size+1,by omega,by omega,Nat.le_refl _,rfl,rfl,Zh (Own.nil _ _ _ _ _),Zh (by rw [List.drop_zero]; exact HF.out),Zh Zz⟩
 case round =>
  clear HF;obtain ⟨l,A,c,k,f,hk,hf,hl,rfl,rfl,HO,HJ,HB⟩:=hrel;obtain ⟨f,rfl⟩ : ∃ g,f=g+1:=⟨f - 1,by omega⟩;have hJ:=HJ.out;rw [joinL_step] at hJ;have hble:=spanL_le blankC (s.data.toList.drop k);rw [List.length_drop,HBL.out] at hble;rw [List.drop_drop] at hJ;obtain ⟨b,hb⟩ : ∃ b,spanL blankC (s.data.toList.drop k)=b:=⟨_,rfl⟩;rw [hb] at hble hJ;have HBB:=Zh hb;have HJJ:=Zh hJ;clear hJ hb HJ;have hlc:=HO.out.rd TK.enc_k;have hlc1:=hlc.len;have hlc2:=hlc.cap;clear hlc;simp only at hlc1 hlc2;go_wp2_with fail;refine (span_blank _ _ (by simp; omega)).mono ?_;rintro e w' ⟨rfl,rfl⟩;rw [ext_drop,HBB.out];clear HBB;by_cases hq : k+b=s.size
  ·have hqi : (((k : Int)+(b : Int)) == (s.size : Int))=true:=by simp; omega
   have HJE : Hid (V=(l ++ [⟨3,⟨#[]⟩,0,(k : Int)+(b : Int)⟩],0,0)):=Zh (by
    rw [HJJ.out,List.drop_eq_nil_of_le (by rw [HBL.out]; omega)];unfold stepL;rw [if_pos rfl]
    simp)
   clear HJJ hq;go_wp2_with (at_builtin;go_must (refine wpl_append_sl _ rfl (.tmp 22) (.tmp 25) _ rfl Tryz.underlying96 infoTok Zo TK.enc_k TK.enc_one ⟨A,c,l⟩ ⟨some ⟨wr.heap.size,0,none⟩,1,[⟨3,⟨#[]⟩,0,(k : Int)+(b : Int)⟩]⟩ rfl rfl (HO.out.alloc _) (tok_new wr ⟨3,⟨#[]⟩,0,(k : Int)+(b : Int)⟩) (by simp [maxLen]; omega) (by simp; omega) (by have:=HB.out.size; simp; omega) ?_);intro A' c' w1 hown hg _);have hbe:=(HB.out.alloc HB.out.size (.cells #[.int .i64 3,.string ⟨#[]⟩,.int .i64 0,.int .i64 ((k : Int)+(b : Int))] 115)).grown hg (by have:=HB.out.size; simp; omega) (own_ge HO.out);refine bodyPost_ret (v:=.tuple #[.slice A' (l.length+1) c',.int .i64 0,.int .i64 0]) ?_ rfl (LexP.cast HJE.out ⟨A',c',by simp,hown,hbe⟩);simp [results,Tryz.results51,go_sem,]
  ·(have hqi : (((k : Int)+(b : Int)) == (s.size : Int))=false:=by simp; omega);obtain ⟨q,hqe⟩ : ∃ q,k+b=q:=⟨_,rfl⟩;(have hq2 : (k : Int)+(b : Int)=(q : Int):=by omega);rw [hq2] at hqi;rw [hqe] at HJJ hq;(have hpos : 0<(s.extract q s.size).size:=by simp; omega);(have hqs : q<s.size:=by omega);have HN:=Zh (lex_next (s.extract q s.size) wr hpos (by simp; omega) (HG.out.later HB.out));clear hpos hq;go_wp2_with fail;refine HN.out.mono ?_;clear HN;rintro e w2 ⟨rfl,hbw⟩;rw [ext_drop];have HBW:=Zh hbw;clear hbw;have hj:=HJJ.out;have hM:=byte_drop hqs;obtain ⟨M,hMM⟩ : ∃ M,s.data.toList.drop q=M:=⟨_,rfl⟩;have HMM:=Zh hMM;rw [hMM] at hj hM ⊢;have hszM : M.length=s.size - q:=by rw [← hMM,List.length_drop,HBL.out]
   have hsz2 : (nextL M).2=0→1≤(nextL M).1.t.size∧(nextL M).1.t.size≤s.size - q:=fun h=>by
    rw [← hszM]; rw [hM] at h ⊢; exact nextL_size h
   (have hne : ¬ M=[]:=fun h=>by rw [h] at hM; exact absurd hM Zs);unfold stepL at hj;rw [if_neg hne] at hj;clear hM hMM hszM hne HJJ;obtain ⟨N,hN⟩ : ∃ N,nextL M=N:=⟨_,rfl⟩;rw [hN] at hj hsz2 ⊢;clear hN;obtain ⟨⟨tk,tt,tn,tp⟩,te⟩:=N;simp only at hj hsz2;simp only [TK.v];have HB2:=Zt HB HBW.out;by_cases ht : te=0
   ·subst ht;obtain ⟨ht1,ht2⟩:=hsz2 rfl;have HJ2:=Zh hj;clear hj hsz2;have HW2:=Zh (HO.out.below HBW.out);have HNR : Hid (∀ g,(Value.slice A l.length c).ownBlock=some g→g≠w2.heap.size):=Zh (fun g hg=>by have:=own_lt HO.out g hg; have:=HBW.out.size; omega);have HBX:=Zh ((HB2.out.alloc HB2.out.size (.cells #[.int .i64 tk,.string tt,.int .i64 tn,.int .i64 q] 115)).alloc (by have:=HB2.out.size; simp; omega) (.cells #[.int .i64 tk,.string tt,.int .i64 tn,.int .i64 q] 115));go_wp2_with (at_builtin;go_must (refine wpl_append_sl _ rfl (.tmp 40) (.tmp 42) _ rfl Tryz.underlying96 infoTok Zo TK.enc_k TK.enc_one ⟨A,c,l⟩ ⟨some ⟨w2.heap.size+1,0,none⟩,1,[⟨tk,tt,tn,q⟩]⟩ rfl rfl ((HW2.out.alloc _).alloc _) (tok_new2 w2 _ ⟨tk,tt,tn,q⟩) (by simp [maxLen]; omega) (by simp; omega) (by have:=HB2.out.size; simp; omega) ?_);intro A' c' w3 hown hg _;have r1 : w3.cell? ⟨w2.heap.size,1,none⟩=some (.string tt):=grown_cell hg (by simp; omega) HNR.out Zs;have HO3:=Zh hown;have HB3:=Zh (HBX.out.grown hg (by have:=HB2.out.size; simp; omega) (own_ge HO.out));clear hown hg);go_roundw
    case rel=>exact ⟨l ++ [⟨tk,tt,tn,q⟩],A',c',q+tt.size,f,by omega,by omega,by simp; omega,by simp,by go_num,HO3,Zh (by rw [HJ2.out,← HMM.out,List.drop_drop]; simp),HB3⟩
    case measure=>simp [intOf]; omega
   ·(have htb : (te != 0)=true:=by simpa using ht);have HJ2 : Hid (V=([],(q : Int),te)):=Zh (by rw [hj,if_pos ht]);clear hj hsz2 ht;go_wp2_with fail;refine bodyPost_ret (v:=.tuple #[.slice none 0 0,.int .i64 q,.int .i64 te]) ?_ rfl (LexP.cast HJ2.out ⟨none,0,rfl,Own.nil _ _ _ _ _,(HB2.out.alloc HB2.out.size _)⟩);simp [results,Tryz.results51,go_sem,]
structure PrS (g : Nat) (L : Sl TK) (at_ : Nat) (X : Nat→Prop) (w : World) : Prop where
  blk : Blk w g 100 #[.slice L.A L.l.length L.c,.int .i64 at_]
  rd : Rd (Nm X w) 4 TK.enc w L
  lt : at_<L.l.length
  xg : X g
  xlt : ∀ b,X b→b<w.heap.size
theorem rd_nmg {X : Nat→Prop} {w w' : World} {g : Nat} {L : Sl TK} (h : Rd (Nm X w) 4 TK.enc w L) (hX : X g) (hg : w.grownBy w' (some g)) : Rd (Nm X w') 4 TK.enc w' L:=(h.keep (fun _ hb=>hb.kept hX hg)).mono fun _ hb=>hb.grow hg.size
section
variable {g : Nat} {L : Sl TK} {a b : Nat} {X Y : Nat→Prop} {w w' : World}
theorem PrS.more (h : PrS g L a X w) (hb : Below w.heap.size w w') (hY : Mor X Y w w') : PrS g L a Y w' :=
 ⟨h.blk.later hb,(h.rd.keep (fun _ hb'=>hb.block _ hb'.1)).mono (fun _ hb'=>hY.nm hb hb'),h.lt,hY.1 g h.xg,fun c hc=>by
  rcases hY.2 c hc with hx | hx
  ·exact Nat.lt_of_lt_of_le (h.xlt c hx) hb.size
  ·exact hx.2⟩
theorem PrS.later (h : PrS g L a X w) (hb : Below w.heap.size w w') : PrS g L a X w':=h.more hb (Mor.refl _ _ _)
theorem PrS.less (h : PrS g L a Y w) (hXY : ∀ b,X b→Y b) (hg : X g) : PrS g L a X w:=⟨h.blk,h.rd.mono fun _ hb=>hb.less hXY,h.lt,hg,fun b hb=>h.xlt b (hXY b hb)⟩
theorem PrS.set_ (h : PrS g L a X w) {p : Addr} (hp : X p.block) (hg : g≠p.block) (u : Value) : PrS g L a X (w.setCell p u) :=
 ⟨h.blk.far hg u,(h.rd.keep (fun b hb=>Below.heap_setCell w p u b (fun e=>hb.2 (by rw [e]; exact hp)))).mono (fun b hb=>⟨by simpa using hb.1,hb.2⟩),h.lt,h.xg,fun b hb=>by simpa using h.xlt b hb⟩
theorem PrS.move (h : PrS g L a X w) (hb : b<L.l.length) : PrS g L b X (w.setCell ⟨g,1,none⟩ (.int .i64 b)) :=
 ⟨by simpa using h.blk.set_ 1 (.int .i64 b),(h.rd.keep (fun c hc=>Below.heap_setCell w ⟨g,1,none⟩ _ c (fun e=>hc.2 (by rw [e]; exact h.xg)))).mono (fun c hc=>⟨by simpa using hc.1,hc.2⟩),hb,h.xg,fun c hc=>by simpa using h.xlt c hc⟩
theorem PrS.at1 (h : PrS g L a X w) : ∃ x q o,L.l[a]? = some x∧L.A=some ⟨q,o,none⟩∧q<w.heap.size∧w.cell? ⟨q,o+a * 4,none⟩=some (.int .i64 x.k)∧w.cell? ⟨q,o+a * 4+1,none⟩=some (.string x.t)∧w.cell? ⟨q,o+a * 4+2,none⟩=some (.int .i64 x.n)∧w.cell? ⟨q,o+a * 4+3,none⟩=some (.int .i64 x.p):=by
 obtain ⟨q,o,hA,hq,hc⟩:=h.rd.at1 h.lt;exact ⟨L.l[a]'h.lt,q,o,List.getElem?_eq_getElem h.lt,hA,hq.1,hc 0 _ rfl,hc 1 _ rfl,hc 2 _ rfl,hc 3 _ rfl⟩
theorem drop_at {l : List TK} {a : Nat} {x : TK} (h : l[a]? = some x) : l.drop a=x :: l.drop (a+1):=by
 obtain ⟨h1,h2⟩:=List.getElem?_eq_some_iff.1 h;rw [List.drop_eq_getElem_cons h1,h2]
end
def StopV (p e : Int) : Ending:=.panicked [{ v:=.iface 102 (.agg #[.int .i64 p,.int .i64 e]),recovered:=false }]
theorem p_next {g : Nat} {L : Sl TK} {a : Nat} {X : Nat→Prop} {x : TK} (hx : L.l[a]? = some x) (w : World) (h : PrS g L a X w) : Calls Tryz.prog 58 #[.pointer (some ⟨g,0,none⟩)] w fun e w'=>e = .returned x.v∧Below w.heap.size w w':=by
 have HS:=Zh h;clear h;obtain ⟨tA,tc,tl⟩:=L;simp only at hx;have HB1 : Hid (Below w.heap.size w (w.alloc (.cells #[.int .i64 0,.string ⟨#[]⟩,.int .i64 0,.int .i64 0] 115))):=Zh qbl;have HZ1:=Zh (Blk.new w 115 #[.int .i64 0,.string ⟨#[]⟩,.int .i64 0,.int .i64 0]);go_enter Tryz.func58,Tryz.ntmps58;go_wp2_with fail;generalize w.alloc (.cells _ 115)=w1 at *;obtain ⟨y,q,o,hy,hA,hq,c0,c1,c2,c3⟩:=(HS.out.later HB1.out).at1;simp only at hy hA c0 c1 c2 c3;obtain rfl : y=x:=Option.some.inj (hy.symm.trans hx);(have hlt : (a : Int)<(tl.length : Int):=by have:=(List.getElem?_eq_some_iff.1 hx).1; omega);obtain ⟨b0,b1,bf,bz⟩:=(HS.out.later HB1.out).blk.b2;subst hA;obtain ⟨r0,r1,r2,r3,rf,rz⟩:=HZ1.out.b4;clear hx hy;refine wp_region_T (fun W=>W.cell? ⟨g,0,none⟩=some (.slice (some ⟨q,o,none⟩) tl.length tc)∧W.cell? ⟨g,1,none⟩=some (.int .i64 a)∧W.cell? ⟨q,o+a * 4,none⟩=some (.int .i64 y.k)∧W.cell? ⟨q,o+a * 4+1,none⟩=some (.string y.t)∧W.cell? ⟨q,o+a * 4+2,none⟩=some (.int .i64 y.n)∧W.cell? ⟨q,o+a * 4+3,none⟩=some (.int .i64 y.p)) (fun i=>10≤i) Zy ⟨b0,b1,c0,c1,c2,c3⟩ (fun hHeld=>?_);refine Zr 0 ?_;refine Zr 1 ?_;refine Zr 2 ?_;refine Zr 3 ?_;refine Zr 4 ?_;refine Zr 5 ?_;refine Zr 6 ?_;refine Zr 7 ?_;refine Zr 8 ?_;refine Zr 9 ?_;clear hHeld;refine Zn 10 ?_;go_wp2_with fail;(try simp only [QT]);(try (with_reducible refine And.intro (fun h=>by simp at h) ?_));refine Ze ?_;go_wp2_with fail;refine bodyPost_ret (v:=.agg #[.int .i64 y.k,.string y.t,.int .i64 y.n,.int .i64 y.p]) ?_ rfl ⟨rfl,below_st4 HB1.out.drew⟩;simp [results,Tryz.results58,go_sem,r0,r1,r2,r3,rz]
end Go.Proofs.YtpbdjpfbhicmdaaGreatDoor
