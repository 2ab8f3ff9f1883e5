/- Walks of package big: Right. -/
import Derived.Test.YtmomlipmpgcheaaGreatDoorWbxae
import Derived.Test.YtmomlipmpgcheaaGreatDoorWbxad
set_option linter.unusedSimpArgs false
set_option linter.unusedVariables false
set_option maxRecDepth 100000
set_option maxHeartbeats 6400000
namespace Go.Proofs.YtmomlipmpgcheaaGreatDoor
open Go.RowKit
structure Big where
  s : Int
  l : Sl Int
def Big.d (a : Big) : BigD:=⟨a.s,a.l.l⟩
def Big.v (a : Big) : Value:=.agg #[.int .i64 a.s,.slice a.l.A a.l.l.length a.l.c]
theorem bright_no {s : Int} {l : List Int} {i : Nat} (hi : i<l.length) (h : l[i]<0∨1048575<l[i]) : (BigD.mk s l).right=false:=by
 rcases hr : (BigD.mk s l).right
 ·rfl
 ·unfold BigD.right at hr;rw [Bool.and_eq_true,all_digOK] at hr;have:=hr.1 l[i] (List.getElem_mem hi);omega
theorem bright_nil {s : Int} : (BigD.mk s []).right=decide (s=0):=by simp [BigD.right]
theorem bright_yes {s : Int} {l : List Int} (h : DigOK l) (hl : l.length - 1<l.length) : (BigD.mk s l).right=((decide (s=1) || decide (s = -1)) && (decide (l.length≤60) && decide (l[l.length - 1]≠0))):=by
 (have hg : l.getLast? = some l[l.length - 1]:=by rw [List.getLast?_eq_getElem?,List.getElem?_eq_getElem hl]);unfold BigD.right;simp only;rw [all_digOK.2 h,hg]; simp
theorem big_right (a : Big) (w : World) (hr : Rd (· < w.heap.size) 1 ienc w a.l) : Calls Tryz.prog 180 #[a.v] w fun e w'=>e = .returned (.bool a.d.right)∧Below w.heap.size w w':=by
 obtain ⟨s,⟨A,c,l⟩⟩:=a;have HR:=Zh hr;have hml : l.length≤9223372036854775807:=hr.len;clear hr;simp only [Big.v,Big.d];go_enter Tryz.func180,Tryz.ntmps180;go_wp2_with fail;go_loopw [5,12] (fun _ v wr=>∃ (k : Nat),k≤l.length∧v = .int .i64 k∧(∀ j,(hj : j<l.length)→j<k→0≤l[j]∧l[j]<1048576)∧Blk wr w.heap.size 92 #[.int .i64 s,.slice A l.length c]∧Below w.heap.size w wr) (fun _ v _=>l.length - (intOf v).toNat)
 case atStart=>exact ⟨0,by omega,rfl,fun j _ hj=>absurd hj (Nat.not_lt_zero _),Blk.new _ _ _,qbl⟩
 case round =>
  obtain ⟨k,hk,rfl,hall,hblk,hbel⟩:=hrel;obtain ⟨b0,b1,bf,bz⟩:=hblk.b2;by_cases hkl : k<l.length
  ·(have hkl' : (k : Int)<(l.length : Int):=by omega);obtain ⟨b,o,hA,hF,hcl⟩:=(HR.out.later hbel).at1 hkl;simp only at hA;subst hA;have c0:=hcl.c1;simp only [Nat.mul_one] at c0;generalize hx : l[k]=x at *;have HX:=Zh hx;have HALL:=Zh hall;have HBLK:=Zh hblk;clear hx hall hcl hblk;by_cases h1 : x<0
   ·go_wp2_with fail;go_ret;exact ⟨ret_bool (bright_no hkl (.inl (HX.out ▸ h1))).symm,hbel⟩
   ·by_cases h2 : 1048575<x
    ·go_wp2_with fail;go_ret;exact ⟨ret_bool (bright_no hkl (.inr (HX.out ▸ h2))).symm,hbel⟩
    ·go_wp2_with fail;go_roundw
     case rel =>
      refine ⟨k+1,by omega,by go_num,fun j hj hjk=>?_,HBLK.out,hbel⟩;by_cases he : j=k
      ·subst he; rw [HX.out]; omega
      ·exact HALL.out j hj Zo
     case measure=>simp [intOf]; omega
  ·obtain rfl : k=l.length:=by omega
   have hok : DigOK l:=fun d hd=>by
    obtain ⟨j,hj,rfl⟩:=List.mem_iff_getElem.1 hd;exact hall j hj hj
   have HOK:=Zh hok;clear hall hok;by_cases hz : l.length=0
   ·go_wp2_with fail;go_ret;exact ⟨ret_bool (by rw [List.eq_nil_of_length_eq_zero hz,bright_nil]; rfl),hbel⟩
   ·(have hl1 : l.length - 1<l.length:=by omega);obtain ⟨b,o,hA,hF,c0⟩:=(HR.out.later hbel).geti hl1;simp only at hA c0;subst hA;have HY:=Zh (bright_yes (s:=s) HOK.out hl1);generalize l[l.length - 1]=x at *;clear HOK;by_cases h3 : l.length≤60
    ·by_cases h1 : s=1
     ·subst h1;go_wp2_with fail;go_ret;exact ⟨ret_bool (by rw [HY.out]; simp [h3]; rfl),hbel⟩
     ·by_cases h2 : s = -1
      ·subst h2;go_wp2_with fail;go_ret;exact ⟨ret_bool (by rw [HY.out]; simp [h3]; rfl),hbel⟩
      ·go_wp2_with fail;go_ret;exact ⟨ret_bool (by rw [HY.out]; simp [h1,h2]),hbel⟩
    ·by_cases h1 : s=1
     ·subst h1;go_wp2_with fail;go_ret;exact ⟨ret_bool (by rw [HY.out]; simp; omega),hbel⟩
     ·by_cases h2 : s = -1
      ·subst h2;go_wp2_with fail;go_ret;exact ⟨ret_bool (by rw [HY.out]; simp; omega),hbel⟩
      ·go_wp2_with fail;go_ret;exact ⟨ret_bool (by rw [HY.out]; simp [h1,h2]),hbel⟩
theorem take_zero_step {l : List Int} {k : Nat} (hk : k<l.length) (h0 : l[k]=0) : trimL (l.take (k+1))=trimL (l.take k):=by
 rw [List.take_succ_eq_append_getElem hk,h0,trimL_zero]
theorem take_top_step {l : List Int} {k : Nat} (hk : k<l.length) (h0 : l[k]≠0) : trimL (l.take (k+1))=l.take (k+1):=by
 rw [List.take_succ_eq_append_getElem hk,trimL_top _ h0]
theorem big_trim (s : Sl Int) {F : Nat→Prop} (w : World) (hr : Rd F 1 ienc w s) : Calls Tryz.prog 192 #[.slice s.A s.l.length s.c] w fun e w'=>e = .returned (.slice s.A (trimL s.l).length s.c)∧w=w':=by
 obtain ⟨A,c,l⟩:=s;have hml : l.length≤9223372036854775807:=hr.len;have hcap : l.length≤c:=hr.1;have hcm : c≤9223372036854775807:=hr.cap;have HR:=Zh hr;clear hr;simp only;go_enter Tryz.func192,Tryz.ntmps192;go_wp2_with fail;go_loopw [3] (fun v wr=>∃ (k : Nat),k≤l.length∧v = .int .i64 k∧Hid (trimL l=trimL (l.take k))∧w=wr) (fun v _=>(intOf v).toNat)
 case atStart=>exact ⟨l.length,Nat.le_refl _,rfl,Zh (by rw [List.take_length]),rfl⟩
 case round =>
  obtain ⟨k,hk,rfl,HT,rfl⟩:=hrel;rcases k with _ | k
  ·(have hT : trimL l=[]:=by rw [HT.out]; rfl);have HL:=Zh (congrArg List.length hT);clear hT HT;go_wp2_with fail;go_ret;exact ⟨by rw [HL.out]; rfl,rfl⟩
  ·obtain ⟨b,o,hA,hF,c0⟩:=HR.out.geti (show k<l.length by omega);simp only at hA c0;subst hA;have h1:=fun h : l[k]'(Nat.lt_of_succ_le hk)=0=>take_zero_step (l:=l) (k:=k) (Nat.lt_of_succ_le hk) h;have h2:=fun h : l[k]'(Nat.lt_of_succ_le hk)≠0=>take_top_step (l:=l) (k:=k) (Nat.lt_of_succ_le hk) h;generalize l[k]=x at *;have H1:=Zh h1;have H2:=Zh h2;clear h1 h2;by_cases hx : x=0
   ·have HT2:=Zh (HT.out.trans (H1.out hx));clear HT H1 H2;go_wp2_with fail;go_roundw
    case rel=>exact ⟨k,by omega,by go_num,HT2,trivial⟩
    case measure=>simp [intOf]
   ·have hT:=congrArg List.length (HT.out.trans (H2.out hx));rw [List.length_take,Nat.min_eq_left Zo] at hT;have HL:=Zh hT;clear HT H1 H2 hT;go_wp2_with fail;go_ret;exact ⟨by rw [HL.out]; rfl,rfl⟩
def Sl.v (s : Sl Int) : Value:=.slice s.A s.l.length s.c
def SlP (w w' : World) (l : List Int) (e : Ending) : Prop:=∃ s : Sl Int,e = .returned s.v∧s.l=l∧Own w.heap.size 3 1 ienc w' s∧Below w.heap.size w w'
def BigP (w w' : World) (d : BigD) (e : Ending) : Prop:=∃ a : Big,e = .returned a.v∧a.d=d∧Rd (Nw w.heap.size w') 1 ienc w' a.l∧Below w.heap.size w w'
def BigF (F : Nat→Prop) (w w' : World) (d : BigD) (e : Ending) : Prop:=∃ a : Big,e = .returned a.v∧a.d=d∧Rd F 1 ienc w' a.l∧Below w.heap.size w w'
theorem BigF.cast {F : Nat→Prop} {w w' : World} {d d' : BigD} {e : Ending} (h : d=d') (x : BigF F w w' d' e) : BigF F w w' d e:=by rw [h]; exact x
theorem BigP.cast {w w' : World} {d d' : BigD} {e : Ending} (h : d=d') (x : BigP w w' d' e) : BigP w w' d e:=by rw [h]; exact x
theorem SlP.cast {w w' : World} {d d' : List Int} {e : Ending} (h : d=d') (x : SlP w w' d' e) : SlP w w' d e:=by rw [h]; exact x
theorem big_signed (g : Int) (s : Sl Int) {F : Nat→Prop} (w : World) (hr : Rd F 1 ienc w s) (hF : ∀ b,F b→b<w.heap.size) : Calls Tryz.prog 182 #[.int .i64 g,s.v] w fun e w'=>BigF F w w' (signedD g s.l) e:=by
 obtain ⟨A,c,l⟩:=s;have HT:=big_trim ⟨A,c,l⟩ (w.alloc (.cells Zg 92)) (hr.up hF qbl);have hml : (trimL l).length≤9223372036854775807:=Nat.le_trans (trimL_le l) hr.len;have HR:=Zh hr;have HF:=Zh hF;clear hr hF;simp only [Sl.v] at HT ⊢;go_enter Tryz.func182,Tryz.ntmps182;go_wp2_with fail;refine HT.mono ?_;rintro e w1 ⟨rfl,rfl⟩;by_cases hz : (trimL l).length=0
 ·(have hd : signedD g l=⟨0,[]⟩:=by unfold signedD; rw [if_pos (List.eq_nil_of_length_eq_zero hz)]);have HD:=Zh hd;clear hd;go_wp2_with fail;refine bodyPost_ret (v:=.agg Zg) ?_ rfl (BigF.cast HD.out ⟨⟨0,⟨none,0,[]⟩⟩,rfl,rfl,Rd.nil _ _ _ _,qbl⟩);simp [results,Tryz.results182,go_sem,]
 ·(have hd : signedD g l=⟨g,trimL l⟩:=by unfold signedD; rw [if_neg (fun h=>hz (by rw [h]; rfl))]);have HD:=Zh hd
  have HP : Hid (Rd F 1 ienc w ⟨A,c,trimL l⟩):=Zh (by
   have:=HR.out.takeN (trimL l).length;rw [← trimL_take] at this;exact this)
  clear hd HR;go_wp2_with fail;refine bodyPost_ret (v:=.agg #[.int .i64 g,.slice A (trimL l).length c]) ?_ rfl (BigF.cast HD.out ⟨⟨g,⟨A,c,trimL l⟩⟩,rfl,rfl,HP.out.up HF.out qbl,qbl⟩);simp [results,Tryz.results182,go_sem,]
theorem Rd.trim {F : Nat→Prop} {w : World} {s : Sl Int} (h : Rd F 1 ienc w s) : Rd F 1 ienc w ⟨s.A,s.c,trimL s.l⟩:=by
 have:=h.takeN (trimL s.l).length;rw [← trimL_take] at this;exact this
def ucmp (x y : Int) : Int:=if x<y then -1 else if y<x then 1 else 0
theorem ucmp_sign (x y : Int) : ucmp x y=(x - y).sign:=by
 unfold ucmp;split
 ·rw [Int.sign_eq_neg_one_of_neg Zo]
 ·split
  ·rw [Int.sign_eq_one_of_pos Zo]
  ·rw [show x - y=0 by omega]; rfl
def cmpI (p q r s : Int) : Int :=
  if h : 0<q∧0<s then
    if p / q≠r / s then ucmp (p / q) (r / s)
    else if p % q=0∨r % s=0 then (p % q).sign - (r % s).sign
    else -(cmpI q (p % q) s (r % s))
  else 0
termination_by q.toNat
decreasing_by
  have:=Int.emod_lt_of_pos p h.1
  have:=Int.emod_nonneg p (show q≠0 by omega)
  omega
theorem sign_mul_pos {a b : Int} (hb : 0<b) : (a * b).sign=a.sign:=by rw [Int.sign_mul,Int.sign_eq_one_of_pos hb,Int.mul_one]
theorem cmpI_is : ∀ (n : Nat) (p q r s : Int),q.toNat≤n→0<q→0<s→cmpI p q r s=(p * s - r * q).sign
 | 0,p,q,r,s,hn,hq,_=>by omega
 | n+1,p,q,r,s,hn,hq,hs=>by
  have e1:=Int.mul_ediv_add_emod p q;have e2:=Int.mul_ediv_add_emod r s;have u0:=Int.emod_nonneg p (show q≠0 by omega);have u1:=Int.emod_lt_of_pos p hq;have v0:=Int.emod_nonneg r (show s≠0 by omega);have v1:=Int.emod_lt_of_pos r hs;have ih:=fun h1 h2=>cmpI_is n q (p % q) s (r % s) h1 h2;unfold cmpI;rw [dif_pos ⟨hq,hs⟩];generalize p / q=x at *;generalize p % q=u at *;generalize r / s=y at *;generalize r % s=v at *
  have hk : p * s - r * q=(x - y) * (q * s)+(u * s - v * q):=by
   rw [← e1,← e2,Int.add_mul,Int.add_mul,Int.sub_mul];rw [show q * x * s=x * (q * s) by rw [Int.mul_comm q x,Int.mul_assoc],show s * y * q=y * (q * s) by rw [Int.mul_comm s y,Int.mul_assoc,Int.mul_comm s q]];omega
  have hqs : 0<q * s:=Int.mul_pos hq hs;have hus0 : 0≤u * s:=Int.mul_nonneg u0 Zo;have hvq0 : 0≤v * q:=Int.mul_nonneg v0 Zo;have hus1 : u * s<q * s:=Int.mul_lt_mul_of_pos_right u1 hs;(have hvq1 : v * q<q * s:=by rw [Int.mul_comm q s]; exact Int.mul_lt_mul_of_pos_right v1 hq);rw [hk];split
  ·rename_i hne;rw [ucmp_sign];rcases Int.lt_or_gt_of_ne hne with hlt | hgt
   ·have : (x - y) * (q * s)≤-1 * (q * s):=Int.mul_le_mul_of_nonneg_right Zo Zo;rw [Int.sign_eq_neg_one_of_neg Zo,Int.sign_eq_neg_one_of_neg Zo]
   ·have : 1 * (q * s)≤(x - y) * (q * s):=Int.mul_le_mul_of_nonneg_right Zo Zo;rw [Int.sign_eq_one_of_pos Zo,Int.sign_eq_one_of_pos Zo]
  ·rename_i heq;have heq : x=y:=Decidable.not_not.1 heq;rw [show x - y=0 by omega,Int.zero_mul,Int.zero_add];split
   ·rename_i h0;rcases h0 with rfl | rfl
    ·rw [Int.zero_mul,Int.zero_sub,Int.sign_neg,sign_mul_pos hq]; simp
    ·rw [Int.zero_mul,Int.sub_zero,sign_mul_pos hs]; simp
   ·rename_i h0;(have hu : 0<u:=by omega);(have hv : 0<v:=by omega);rw [ih Zo hu hv,← Int.sign_neg];congr 1;rw [Int.mul_comm q v,Int.mul_comm s u]; omega
theorem cmpI_sign {p q r s : Int} (hq : 0<q) (hs : 0<s) : cmpI p q r s=(p * s - r * q).sign:=cmpI_is _ p q r s Zl hq hs
theorem ucmp_lt {x y : Int} (h : x<y) : ucmp x y = -1:=by simp [ucmp,h]
theorem ucmp_gt {x y : Int} (h : y<x) : ucmp x y=1:=by simp [ucmp,h]; omega
theorem ucmp_eq {x y : Int} (h : x=y) : ucmp x y=0:=by simp [ucmp,h]
theorem cmp_int (x y : Int) (w : World) : Calls Tryz.prog 55 #[.int .i64 x,.int .i64 y] w fun e w'=>e = .returned (.int .i64 (ucmp x y))∧w=w':=by
 rcases Int.lt_trichotomy x y with h | h | h
 ·rw [ucmp_lt h];go_enter Tryz.func55,Tryz.ntmps55
  go_wp2
  go_ret;exact ⟨rfl,rfl⟩
 ·rw [ucmp_eq h];subst h;go_enter Tryz.func55,Tryz.ntmps55
  go_wp2
  go_ret;exact ⟨rfl,rfl⟩
 ·rw [ucmp_gt h];go_enter Tryz.func55,Tryz.ntmps55
  go_wp2
  go_ret;exact ⟨rfl,rfl⟩
theorem ienc_one (x : Int) : ∀ u ∈ ienc x,u.oneCell'=true:=by intro u hu; simp only [ienc,List.mem_singleton] at hu; subst hu; rfl
theorem clone_int (s : Sl Int) (w : World) (hr : Rd (· < w.heap.size) 1 ienc w s) (hb : s.l.length * 8≤140737488355328) : Calls Tryz.prog 191 #[s.v] w fun e w'=>∃ A c,e = .returned (.slice A s.l.length c)∧Own w.heap.size 3 1 ienc w' ⟨A,c,s.l⟩∧Below w.heap.size w w':=by
 obtain ⟨A,c,l⟩:=s;have hcap:=hr.cap;have hlc:=hr.lecap;simp only at hcap hlc hb;simp only [Sl.v];rcases A with _ | ad
 ·obtain ⟨hl,hc⟩:=hr.none_ rfl;simp only at hl hc;subst hl; subst hc;have hnil:=fun W=>Lib.run_eql_slice_nil (P:=Tryz.prog) W 37 3 none 0 0 0 0 Tryz.underlying37;go_enter Tryz.func191,Tryz.ntmps191;go_wp2_with fail;go_ret;exact ⟨none,0,rfl,Own.nil _ _ _ _ _,Below.refl _ _⟩
 ·have HR:=Zh hr;clear hr;have hnil:=fun W=>Lib.run_eql_slice_nil (P:=Tryz.prog) W 37 3 (some ad) l.length c 0 0 Tryz.underlying37;go_enter Tryz.func191,Tryz.ntmps191;go_wp2_with (at_builtin;go_must (refine wpl_append_sl _ rfl (.tmp 5) (.tmp 6) _ rfl Tryz.underlying37 infoInt Zo ienc_k ienc_one ⟨some ⟨w.heap.size,0,none⟩,0,[]⟩ ⟨some ad,c,l⟩ rfl rfl (Own.lit w #[] [] Zl (Nat.zero_le _) rfl ienc_k) (HR.out.lt_alloc _) (by simp [maxLen]; omega) (by simp; omega) Zs ?_);intro A' c' w1 hown hg _);go_ret;exact ⟨A',c',rfl,hown,(Zz.alloc Zl _).grown hg Zs (by simp [Value.ownBlock])⟩
theorem rd_own {B : Nat} {w : World} {s : Sl Int} (h : Own B 3 1 ienc w s) : Rd (· < w.heap.size) 1 ienc w s:=(h.rd ienc_k).mono fun _ hb=>hb.2
theorem big_compare (a b : Sl Int) (w : World) (ha : Rd (· < w.heap.size) 1 ienc w a) (hb : Rd (· < w.heap.size) 1 ienc w b) (na : Norm a.l) (nb : Norm b.l) : Calls Tryz.prog 187 #[a.v,b.v] w fun e w'=>e = .returned (.int .i64 (ucmp (val a.l) (val b.l)))∧Below w.heap.size w w':=by
 obtain ⟨A,c,l⟩:=a;obtain ⟨B,d,m⟩:=b;have hl : l.length≤9223372036854775807:=ha.len;have hm : m.length≤9223372036854775807:=hb.len;have HA:=Zh ha;have HB:=Zh hb;have NA:=Zh na;have NB:=Zh nb;clear ha hb na nb;simp only [Sl.v];go_enter Tryz.func187,Tryz.ntmps187;by_cases hlm : l.length=m.length
 ·go_wp2_with fail;have HLM:=Zh hlm;go_loopw [5] (fun v wr=>∃ (j : Nat),j≤l.length∧v = .int .i64 ((j : Int) - 1)∧Hid (l.drop j=m.drop j)∧Below w.heap.size w wr) (fun v _=>((intOf v)+1).toNat)
  case atStart=>exact ⟨l.length,Nat.le_refl _,by rw [HLM.out],Zh (by rw [List.drop_length,HLM.out,List.drop_length]),Below.refl _ _⟩
  case round =>
   obtain ⟨j,hj,rfl,HD,hbel⟩:=hrel;clear hlm;rcases j with _ | j
   ·have HE : Hid (ucmp (val l) (val m)=0):=Zh (by rw [ucmp_eq]; have h:=HD.out; rw [List.drop_zero,List.drop_zero] at h; rw [h]);go_wp2_with fail;go_ret;exact ⟨ret_int HE.out.symm,hbel⟩
   ·(have hjl : j<l.length:=by omega);(have hjm : j<m.length:=by rw [← HLM.out]; exact hjl);obtain ⟨b1,o1,hA,_,c0⟩:=(HA.out.later hbel).geti hjl;obtain ⟨b2,o2,hB,_,c1⟩:=(HB.out.later hbel).geti hjm;simp only at hA hB c0 c1;subst hA hB;have h1:=fun h=>ucmp_lt (dig_lt NA.out.ok NB.out.ok hjl hjm HD.out h);have h2:=fun h=>ucmp_gt (dig_lt NB.out.ok NA.out.ok hjm hjl HD.out.symm h);(have h3 : l[j]=m[j]→l.drop j=m.drop j:=fun h=>by rw [List.drop_eq_getElem_cons hjl,List.drop_eq_getElem_cons hjm,h,HD.out]);generalize l[j]=x at *;generalize m[j]=y at *;have H1:=Zh h1;have H2:=Zh h2;have H3:=Zh h3;clear h1 h2 h3;go_wp2_with fail;refine wp_region_T (fun W=>W.cell? ⟨b1,o1+j,none⟩=some (.int .i64 x)∧W.cell? ⟨b2,o2+j,none⟩=some (.int .i64 y)) (fun _=>false) Zy ⟨c0,c1⟩ (fun hHeld=>?_);refine Zr 0 ?_;refine Zr 1 ?_;refine Zr 2 ?_;refine Zr 3 ?_;refine Zr 4 ?_;refine Zr 5 ?_;refine Zr 6 ?_;refine Zr 7 ?_;refine Zr 8 ?_;refine Ze ?_;clear hHeld;by_cases hxy : x=y
    ·have HD2:=Zh (H3.out hxy);clear HD H1 H2 H3;go_wp2_with fail;go_roundw
     case rel=>exact ⟨j,by omega,by go_num,HD2,Below.drew hbel⟩
     case measure=>simp [intOf]
    ·have HU : Hid (ucmp x y=ucmp (val l) (val m)):=Zh (by
      rcases Int.lt_or_gt_of_ne hxy with h | h
      ·rw [ucmp_lt h,H1.out h]
      ·rw [ucmp_gt h,H2.out h])
     clear HD H1 H2 H3;go_wp2_with fail;refine wp_region_T (fun W=>W.cell? ⟨b1,o1+j,none⟩=some (.int .i64 x)∧W.cell? ⟨b2,o2+j,none⟩=some (.int .i64 y)) (fun _=>false) Zy ⟨c0,c1⟩ (fun hHeld=>?_);refine Zr 0 ?_;refine Zr 1 ?_;refine Zr 2 ?_;refine Zr 3 ?_;refine Zr 4 ?_;refine Zr 5 ?_;refine Zr 6 ?_;refine Zr 7 ?_;clear hHeld;refine Zn 8 ?_;go_wp2_with fail;refine (cmp_int x y _).mono ?_;rintro e w' ⟨rfl,rfl⟩;go_wp2_with fail;refine And.intro (by first | exact fun _=>⟨c0,c1⟩ | exact ⟨c0,c1⟩) ?_;have hHeld:=(⟨c0,c1⟩ : wr.cell? ⟨b1,o1+j,none⟩=some (.int .i64 x)∧wr.cell? ⟨b2,o2+j,none⟩=some (.int .i64 y));refine Zr 9 ?_;refine Ze ?_;clear hHeld;go_wp2_with fail;go_ret;exact ⟨ret_int HU.out,Below.drew (Below.drew hbel)⟩
 ·go_wp2_with fail;refine (cmp_int _ _ _).mono ?_;rintro e w' ⟨rfl,rfl⟩
  have HC : Hid (ucmp (l.length : Int) (m.length : Int)=ucmp (val l) (val m)):=Zh (by
   rcases Nat.lt_or_gt_of_ne hlm with h | h
   ·rw [ucmp_lt Zo,ucmp_lt (len_lt NA.out.ok NB.out h)]
   ·rw [ucmp_gt Zo,ucmp_gt (len_lt NB.out.ok NA.out h)])
  go_wp2_with fail;go_ret;exact ⟨ret_int HC.out,Below.refl _ _⟩
end Go.Proofs.YtmomlipmpgcheaaGreatDoor
