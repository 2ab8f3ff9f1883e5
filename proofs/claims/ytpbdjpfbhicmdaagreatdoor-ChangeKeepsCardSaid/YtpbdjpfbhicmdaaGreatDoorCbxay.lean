/- Walk of lex.Number. -/
import Derived.Test.YtpbdjpfbhicmdaaGreatDoorCbxax
set_option linter.unusedSimpArgs false
set_option linter.unusedVariables false
set_option maxRecDepth 100000
set_option maxHeartbeats 6400000
namespace Go.Proofs.YtpbdjpfbhicmdaaGreatDoor
open Go.RowKit
theorem span_all {f : Int→Bool} : ∀ {l : List UInt8},spanL f l=l.length→∀ c,c ∈ l→f (c.toNat : Int)=true
 | [],_,c,hc=>by cases hc
 | x :: r,h,c,hc=>by
  cases hx : f (x.toNat : Int)
  ·rw [spanL_no hx] at h; simp at h
  ·rw [spanL_hit hx] at h;rcases List.mem_cons.1 hc with rfl | hc
   ·exact hx
   ·exact span_all (by simpa using h) c hc
theorem emp_of {s : ByteArray} (h : s.size=0) : s=⟨#[]⟩:=by
 cases s;simp only [ByteArray.size] at h;rw [Array.eq_empty_of_size_eq_zero h]
theorem toL (s : ByteArray) : s.toList=s.data.toList:=by rw [ByteArray.toList_eq]
theorem numL_no0 {l : List UInt8} (h : l=[]) : numL l=(0,false):=by unfold numL; rw [if_pos h]
theorem numL_no1 {l : List UInt8} (h0 : ¬ l=[]) (h : spanL digC l≠l.length) : numL l=(0,false):=by unfold numL; rw [if_neg h0,if_pos h]
theorem numL_no2 {l : List UInt8} (h0 : ¬ l=[]) (h1 : spanL digC l=l.length) (h : l.head? = some 48∧l≠[48]) : numL l=(0,false):=by unfold numL; rw [if_neg h0,if_neg (fun h=>h h1),if_pos h]
theorem numL_no3 {l : List UInt8} (h0 : ¬ l=[]) (h1 : spanL digC l=l.length) (h2 : ¬ (l.head? = some 48∧l≠[48])) (h : 16<l.length) : numL l=(0,false):=by unfold numL; rw [if_neg h0,if_neg (fun h=>h h1),if_neg h2,if_pos h]
theorem numL_no4 {l : List UInt8} (h0 : ¬ l=[]) (h1 : spanL digC l=l.length) (h2 : ¬ (l.head? = some 48∧l≠[48])) (h3 : ¬ 16<l.length) (h : 1000000000000000<digitsN 0 l) : numL l=(0,false):=by unfold numL; rw [if_neg h0,if_neg (fun h=>h h1),if_neg h2,if_neg h3,if_pos h]
theorem numL_ok {l : List UInt8} (h0 : ¬ l=[]) (h1 : spanL digC l=l.length) (h2 : ¬ (l.head? = some 48∧l≠[48])) (h3 : ¬ 16<l.length) (h : ¬ 1000000000000000<digitsN 0 l) : numL l=(digitsN 0 l,true):=by unfold numL; rw [if_neg h0,if_neg (fun h=>h h1),if_neg h2,if_neg h3,if_neg h]
def p10 : Nat→Int
  | 0=>1
  | n+1=>10 * p10 n
theorem digitsN_go {s : ByteArray} {k : Nat} (h : k<s.size) (n : Int) : digitsN n (s.data.toList.drop k)=digitsN (10 * n+((s[k].toNat : Int) - 48)) (s.data.toList.drop (k+1)):=by
 rw [byte_drop h]; rfl
theorem p10_le : ∀ {k : Nat},k≤16→p10 k≤10000000000000000:=by
 intro k hk;(have h : ∀ j,j≤16→p10 j≤10000000000000000:=by decide);exact h k hk
theorem lex_Number (s : ByteArray) (w : World) (hs : s.size≤9223372036854775807) : Calls Tryz.prog 127 #[.string s] w fun e w'=>e = .returned (.tuple #[.int .i64 (numL s.data.toList).1,.bool (numL s.data.toList).2])∧w=w':=by
 have HSP:=Zh (span_dig s);have HBL:=Zh (byte_len s);obtain ⟨V,hV⟩ : ∃ V,numL s.data.toList=V:=⟨_,rfl⟩;rw [hV];have HV:=Zh hV;clear hV;by_cases h0 : s.size=0
 ·have hse:=emp_of h0;subst hse;have HF : Hid (V=(0,false)):=Zh (by rw [← HV.out]; exact numL_no0 rfl);clear h0 hs;go_enter Tryz.func127,Tryz.ntmps127;go_wp2_with fail;refine bodyPost_ret (v:=.tuple #[.int .i64 0,.bool false]) ?_ rfl ⟨by rw [HF.out],rfl⟩;simp [results,Tryz.results127,go_sem,]
 (have hp : 0<s.size:=by omega);(have hne : ¬ s.data.toList=[]:=fun h=>by have h1:=HBL.out; rw [h] at h1; exact h0 h1.symm);have HNE:=Zh hne;have hn3 : s.toList.isEmpty=false:=by rw [toL]; simpa using hne
 have hh : s.data.toList.head? = some s[0]:=by
  have:=byte_drop hp;rw [List.drop_zero] at this;rw [this]; rfl
 have HH:=Zh hh;obtain ⟨D,hD⟩ : ∃ D,spanL digC s.data.toList=D:=⟨_,rfl⟩;rw [hD] at HSP;have HD:=Zh hD;clear hD hne hh h0;by_cases hd : D=s.size
 ·have HDD : Hid (spanL digC s.data.toList=s.data.toList.length):=Zh (by rw [HD.out,HBL.out,hd]);(have hdi : ((D : Int) != (s.size : Int))=false:=by rw [hd]; simp);clear hd;obtain ⟨z,hz⟩ : ∃ z,((s[0].toNat : Int) == 48)=z:=⟨_,rfl⟩;obtain ⟨y,hy⟩ : ∃ y,(s.toList == [48])=y:=⟨_,rfl⟩;by_cases hzy : z=true∧y=false
  ·obtain ⟨rfl,rfl⟩:=hzy
   have HF : Hid (V=(0,false)):=Zh (by
    rw [← HV.out];refine numL_no2 HNE.out HDD.out ⟨?_,fun hc=>?_⟩
    ·rw [HH.out];(have h1 : (s[0].toNat : Int)=48:=by simpa using hz);(have h2 : s[0].toNat=48:=by omega);exact congrArg some (UInt8.toNat_inj.1 (by rw [h2]; rfl))
    ·rw [toL,hc] at hy; simp at hy)
   go_enter Tryz.func127,Tryz.ntmps127;go_wp2_with fail;refine (HSP.out _ hs).mono ?_;rintro e w' ⟨rfl,rfl⟩;go_wp2_with fail;refine bodyPost_ret (v:=.tuple #[.int .i64 0,.bool false]) ?_ rfl ⟨by rw [HF.out],rfl⟩;simp [results,Tryz.results127,go_sem,]
  ·have H2 : Hid (¬ (s.data.toList.head? = some 48∧s.data.toList≠[48])):=Zh (fun hc=>by
    obtain ⟨hc1,hc2⟩:=hc;rw [HH.out] at hc1;injection hc1 with hc1;refine hzy ⟨?_, ?_⟩
    ·rw [← hz,hc1]; rfl
    ·rw [← hy,toL]; simpa using hc2)
   by_cases h16 : 16<s.size
   ·have HF : Hid (V=(0,false)):=Zh (by rw [← HV.out]; exact numL_no3 HNE.out HDD.out H2.out (by rw [HBL.out]; exact h16));have hd16 : decide (16<(s.size : Int))=true:=decide_eq_true Zo;clear h16;rcases z
    ·clear hzy hy;go_enter Tryz.func127,Tryz.ntmps127;go_wp2_with fail;refine (HSP.out _ hs).mono ?_;rintro e w' ⟨rfl,rfl⟩;go_wp2_with fail;refine bodyPost_ret (v:=.tuple #[.int .i64 0,.bool false]) ?_ rfl ⟨by rw [HF.out],rfl⟩;simp [results,Tryz.results127,go_sem,]
    ·rcases y
     ·exact absurd ⟨rfl,rfl⟩ hzy
     ·clear hzy;go_enter Tryz.func127,Tryz.ntmps127;go_wp2_with fail;refine (HSP.out _ hs).mono ?_;rintro e w' ⟨rfl,rfl⟩;go_wp2_with fail;refine bodyPost_ret (v:=.tuple #[.int .i64 0,.bool false]) ?_ rfl ⟨by rw [HF.out],rfl⟩;simp [results,Tryz.results127,go_sem,]
   ·have hd16 : decide (16<(s.size : Int))=false:=decide_eq_false Zo;have HDG:=Zh (span_all HDD.out);have hd16' : ¬ 16<s.size:=h16;rcases z
    ·clear hzy hy;go_enter Tryz.func127,Tryz.ntmps127;go_wp2_with fail;refine (HSP.out _ hs).mono ?_;rintro e w' ⟨rfl,rfl⟩;go_wp2_with fail;go_loopw [4,31] (fun n v wr=>∃ (k : Nat) (m : Int),k≤s.size∧v = .int .i64 k∧n = .int .i64 m∧0≤m∧Hid (m<p10 k)∧Hid (digitsN 0 s.data.toList=digitsN m (s.data.toList.drop k))∧w=wr) (fun _ v _=>s.size - (intOf v).toNat)
     case atStart=>exact ⟨0,0,by omega,rfl,rfl,by omega,Zh (by decide),Zh (by rw [List.drop_zero]),rfl⟩
     case round =>
      obtain ⟨k,m,hk,rfl,rfl,hm0,HM,HN,rfl⟩:=hrel;have hmb : m<10000000000000000:=Int.lt_of_lt_of_le HM.out (p10_le Zo);by_cases hlt : k<s.size
      ·have hmb1 : m<1000000000000000:=Int.lt_of_lt_of_le HM.out (by have:=p10_le (k:=k+1) Zo; have h2 : p10 (k+1)=10 * p10 k:=rfl; omega);have HN2:=Zh (HN.out.trans (digitsN_go hlt m));have hdc:=HDG.out s[k] (by rw [show s[k]=s.data.toList[k]'(by rw [byte_len]; exact hlt) from rfl]; exact List.getElem_mem _);unfold digC at hdc;simp only [Bool.and_eq_true,decide_eq_true_eq] at hdc;obtain ⟨hc0,hc1⟩:=hdc;obtain ⟨c,hc⟩ : ∃ c,(s[k].toNat : Int)=c:=⟨_,rfl⟩;rw [hc] at HN2 hc0 hc1;(have hM2 : 10 * m+(c - 48)<p10 (k+1):=by have h2 : p10 (k+1)=10 * p10 k:=rfl; have:=HM.out; omega);have HM2:=Zh hM2;clear hM2 HM HN;go_wp2_with fail;go_roundw
       case rel=>exact ⟨k+1,10 * m+(c - 48),by omega,by go_num,by go_num,by omega,HM2,HN2,trivial⟩
       case measure=>simp [intOf]; omega
      ·(have hkl : k=s.size:=by omega);have HDN : Hid (digitsN 0 s.data.toList=m):=Zh (by rw [HN.out,List.drop_eq_nil_of_le (by rw [byte_len]; omega)]; rfl);clear HN HM hkl;by_cases hbig : 1000000000000000<m
       ·have HF : Hid (V=(0,false)):=Zh (by rw [← HV.out]; exact numL_no4 HNE.out HDD.out H2.out (by rw [HBL.out]; exact hd16') (by rw [HDN.out]; exact hbig));go_wp2_with fail;refine bodyPost_ret (v:=.tuple #[.int .i64 0,.bool false]) ?_ rfl ⟨by rw [HF.out],rfl⟩;simp [results,Tryz.results127,go_sem,]
       ·have HF : Hid (V=(m,true)):=Zh (by rw [← HV.out,numL_ok HNE.out HDD.out H2.out (by rw [HBL.out]; exact hd16') (by rw [HDN.out]; exact hbig),HDN.out]);go_wp2_with fail;refine bodyPost_ret (v:=.tuple #[.int .i64 m,.bool true]) ?_ rfl ⟨by rw [HF.out],rfl⟩;simp [results,Tryz.results127,go_sem,]
    ·rcases y
     ·exact absurd ⟨rfl,rfl⟩ hzy
     ·clear hzy;go_enter Tryz.func127,Tryz.ntmps127;go_wp2_with fail;refine (HSP.out _ hs).mono ?_;rintro e w' ⟨rfl,rfl⟩;go_wp2_with fail;go_loopw [4,31] (fun n v wr=>∃ (k : Nat) (m : Int),k≤s.size∧v = .int .i64 k∧n = .int .i64 m∧0≤m∧Hid (m<p10 k)∧Hid (digitsN 0 s.data.toList=digitsN m (s.data.toList.drop k))∧w=wr) (fun _ v _=>s.size - (intOf v).toNat)
      case atStart=>exact ⟨0,0,by omega,rfl,rfl,by omega,Zh (by decide),Zh (by rw [List.drop_zero]),rfl⟩
      case round =>
       obtain ⟨k,m,hk,rfl,rfl,hm0,HM,HN,rfl⟩:=hrel;have hmb : m<10000000000000000:=Int.lt_of_lt_of_le HM.out (p10_le Zo);by_cases hlt : k<s.size
       ·have hmb1 : m<1000000000000000:=Int.lt_of_lt_of_le HM.out (by have:=p10_le (k:=k+1) Zo; have h2 : p10 (k+1)=10 * p10 k:=rfl; omega);have HN2:=Zh (HN.out.trans (digitsN_go hlt m));have hdc:=HDG.out s[k] (by rw [show s[k]=s.data.toList[k]'(by rw [byte_len]; exact hlt) from rfl]; exact List.getElem_mem _);unfold digC at hdc;simp only [Bool.and_eq_true,decide_eq_true_eq] at hdc;obtain ⟨hc0,hc1⟩:=hdc;obtain ⟨c,hc⟩ : ∃ c,(s[k].toNat : Int)=c:=⟨_,rfl⟩;rw [hc] at HN2 hc0 hc1;(have hM2 : 10 * m+(c - 48)<p10 (k+1):=by have h2 : p10 (k+1)=10 * p10 k:=rfl; have:=HM.out; omega);have HM2:=Zh hM2;clear hM2 HM HN;go_wp2_with fail;go_roundw
        case rel=>exact ⟨k+1,10 * m+(c - 48),by omega,by go_num,by go_num,by omega,HM2,HN2,trivial⟩
        case measure=>simp [intOf]; omega
       ·(have hkl : k=s.size:=by omega);have HDN : Hid (digitsN 0 s.data.toList=m):=Zh (by rw [HN.out,List.drop_eq_nil_of_le (by rw [byte_len]; omega)]; rfl);clear HN HM hkl;by_cases hbig : 1000000000000000<m
        ·have HF : Hid (V=(0,false)):=Zh (by rw [← HV.out]; exact numL_no4 HNE.out HDD.out H2.out (by rw [HBL.out]; exact hd16') (by rw [HDN.out]; exact hbig));go_wp2_with fail;refine bodyPost_ret (v:=.tuple #[.int .i64 0,.bool false]) ?_ rfl ⟨by rw [HF.out],rfl⟩;simp [results,Tryz.results127,go_sem,]
        ·have HF : Hid (V=(m,true)):=Zh (by rw [← HV.out,numL_ok HNE.out HDD.out H2.out (by rw [HBL.out]; exact hd16') (by rw [HDN.out]; exact hbig),HDN.out]);go_wp2_with fail;refine bodyPost_ret (v:=.tuple #[.int .i64 m,.bool true]) ?_ rfl ⟨by rw [HF.out],rfl⟩;simp [results,Tryz.results127,go_sem,]
 ·have HF : Hid (V=(0,false)):=Zh (by rw [← HV.out]; exact numL_no1 HNE.out (by rw [HD.out,HBL.out]; exact hd));(have hdi : ((D : Int) != (s.size : Int))=true:=by simp; omega);clear hd;go_enter Tryz.func127,Tryz.ntmps127;go_wp2_with fail;refine (HSP.out _ hs).mono ?_;rintro e w' ⟨rfl,rfl⟩;go_wp2_with fail;refine bodyPost_ret (v:=.tuple #[.int .i64 0,.bool false]) ?_ rfl ⟨by rw [HF.out],rfl⟩;simp [results,Tryz.results127,go_sem,]
theorem preL_is : ∀ (l m : List UInt8),preL l m=(decide (m.length≤l.length) && (l.take m.length == m))
 | l,[]=>by unfold preL; simp
 | [],y :: b=>by unfold preL; simp
 | x :: a,y :: b=>by
  unfold preL;rw [preL_is a b];by_cases h : x=y
  ·subst h; simp
  ·simp [h,Bool.and_left_comm]
theorem ext_list (s : ByteArray) (a b : Nat) : (s.extract a b).data.toList=(s.data.toList.drop a).take (b - a):=by
 have h:=ByteArray.extract_mk s.data.toList a b;(have h2 : ByteArray.mk s.data.toList.toArray=s:=by cases s; simp);rw [h2] at h;rw [h]
theorem ext_bs (s : ByteArray) (a b : Nat) : s.extract a b=bs ((s.data.toList.drop a).take (b - a)):=by
 rw [← bs_list (s.extract a b),ext_list]
theorem pre_lite (s p : ByteArray) (w : World) (hs : s.size≤9223372036854775807) : Calls Tryz.prog 187 #[.string s,.string p] w fun e w'=>e = .returned (.bool (preL s.data.toList p.data.toList))∧w=w':=by
 have HP:=Zh (preL_is s.data.toList p.data.toList);rw [byte_len,byte_len] at HP;by_cases h : p.size≤s.size
 ·obtain ⟨B,hB⟩ : ∃ B,((s.extract 0 p.size).toList == p.toList)=B:=⟨_,rfl⟩
  have HR : Hid (B=preL s.data.toList p.data.toList):=Zh (by
   rw [HP.out,← hB,toL,toL,ext_list,List.drop_zero,Nat.sub_zero,decide_eq_true h]; rfl)
  go_enter Tryz.func187,Tryz.ntmps187;go_wp2_with fail;go_ret;exact ⟨ret_bool HR.out,rfl⟩
 ·have HR : Hid (false=preL s.data.toList p.data.toList):=Zh (by rw [HP.out,decide_eq_false h]; rfl);go_enter Tryz.func187,Tryz.ntmps187;go_wp2_with fail;go_ret;exact ⟨ret_bool HR.out,rfl⟩
theorem has_prefix (s p : ByteArray) (w : World) (hs : s.size≤9223372036854775807) : Calls Tryz.prog 128 #[.string s,.string p] w fun e w'=>e = .returned (.bool (preL s.data.toList p.data.toList))∧w=w':=by
 obtain ⟨B,hB⟩ : ∃ B,preL s.data.toList p.data.toList=B:=⟨_,rfl⟩;have hc:=pre_lite s p w hs;rw [hB] at hc ⊢;clear hB;go_enter Tryz.func128,Tryz.ntmps128;go_wp2_with fail;refine hc.mono ?_;rintro e w' ⟨rfl,rfl⟩;clear hc;go_wp2_with fail;go_ret;exact ⟨rfl,rfl⟩
structure SigW (w : World) : Prop where
  pos : 0<w.heap.size
  at_ : ∀ i x,#[.string ⟨#[61,61]⟩,.string ⟨#[59]⟩,.string ⟨#[44]⟩,.string ⟨#[61]⟩,.string ⟨#[60]⟩,.string ⟨#[43]⟩,.string ⟨#[45]⟩,.string ⟨#[42]⟩,.string ⟨#[47]⟩,.string ⟨#[40]⟩,.string ⟨#[41]⟩][i]? = some x→w.cell? ⟨0,i,none⟩=some x
theorem SigW.later {w w' : World} (h : SigW w) (hb : Below w.heap.size w w') : SigW w':=⟨Nat.lt_of_lt_of_le h.pos hb.size,fun i x hx=>keep_cell hb (h.at_ i x hx)⟩
theorem sig_index0 (w : World) : (Instr.index 184 (.agg #[.string ⟨#[61,61]⟩,.string ⟨#[59]⟩,.string ⟨#[44]⟩,.string ⟨#[61]⟩,.string ⟨#[60]⟩,.string ⟨#[43]⟩,.string ⟨#[45]⟩,.string ⟨#[42]⟩,.string ⟨#[47]⟩,.string ⟨#[40]⟩,.string ⟨#[41]⟩]) (.int .i64 ((0 : Nat) : Int))).run Tryz.prog w = .ok (.string (bs [61,61])) w:=by kernel_rfl
theorem sig_index1 (w : World) : (Instr.index 184 (.agg #[.string ⟨#[61,61]⟩,.string ⟨#[59]⟩,.string ⟨#[44]⟩,.string ⟨#[61]⟩,.string ⟨#[60]⟩,.string ⟨#[43]⟩,.string ⟨#[45]⟩,.string ⟨#[42]⟩,.string ⟨#[47]⟩,.string ⟨#[40]⟩,.string ⟨#[41]⟩]) (.int .i64 ((1 : Nat) : Int))).run Tryz.prog w = .ok (.string (bs [59])) w:=by kernel_rfl
theorem sig_index2 (w : World) : (Instr.index 184 (.agg #[.string ⟨#[61,61]⟩,.string ⟨#[59]⟩,.string ⟨#[44]⟩,.string ⟨#[61]⟩,.string ⟨#[60]⟩,.string ⟨#[43]⟩,.string ⟨#[45]⟩,.string ⟨#[42]⟩,.string ⟨#[47]⟩,.string ⟨#[40]⟩,.string ⟨#[41]⟩]) (.int .i64 ((2 : Nat) : Int))).run Tryz.prog w = .ok (.string (bs [44])) w:=by kernel_rfl
theorem sig_index3 (w : World) : (Instr.index 184 (.agg #[.string ⟨#[61,61]⟩,.string ⟨#[59]⟩,.string ⟨#[44]⟩,.string ⟨#[61]⟩,.string ⟨#[60]⟩,.string ⟨#[43]⟩,.string ⟨#[45]⟩,.string ⟨#[42]⟩,.string ⟨#[47]⟩,.string ⟨#[40]⟩,.string ⟨#[41]⟩]) (.int .i64 ((3 : Nat) : Int))).run Tryz.prog w = .ok (.string (bs [61])) w:=by kernel_rfl
theorem sig_index4 (w : World) : (Instr.index 184 (.agg #[.string ⟨#[61,61]⟩,.string ⟨#[59]⟩,.string ⟨#[44]⟩,.string ⟨#[61]⟩,.string ⟨#[60]⟩,.string ⟨#[43]⟩,.string ⟨#[45]⟩,.string ⟨#[42]⟩,.string ⟨#[47]⟩,.string ⟨#[40]⟩,.string ⟨#[41]⟩]) (.int .i64 ((4 : Nat) : Int))).run Tryz.prog w = .ok (.string (bs [60])) w:=by kernel_rfl
theorem sig_index5 (w : World) : (Instr.index 184 (.agg #[.string ⟨#[61,61]⟩,.string ⟨#[59]⟩,.string ⟨#[44]⟩,.string ⟨#[61]⟩,.string ⟨#[60]⟩,.string ⟨#[43]⟩,.string ⟨#[45]⟩,.string ⟨#[42]⟩,.string ⟨#[47]⟩,.string ⟨#[40]⟩,.string ⟨#[41]⟩]) (.int .i64 ((5 : Nat) : Int))).run Tryz.prog w = .ok (.string (bs [43])) w:=by kernel_rfl
theorem sig_index6 (w : World) : (Instr.index 184 (.agg #[.string ⟨#[61,61]⟩,.string ⟨#[59]⟩,.string ⟨#[44]⟩,.string ⟨#[61]⟩,.string ⟨#[60]⟩,.string ⟨#[43]⟩,.string ⟨#[45]⟩,.string ⟨#[42]⟩,.string ⟨#[47]⟩,.string ⟨#[40]⟩,.string ⟨#[41]⟩]) (.int .i64 ((6 : Nat) : Int))).run Tryz.prog w = .ok (.string (bs [45])) w:=by kernel_rfl
theorem sig_index7 (w : World) : (Instr.index 184 (.agg #[.string ⟨#[61,61]⟩,.string ⟨#[59]⟩,.string ⟨#[44]⟩,.string ⟨#[61]⟩,.string ⟨#[60]⟩,.string ⟨#[43]⟩,.string ⟨#[45]⟩,.string ⟨#[42]⟩,.string ⟨#[47]⟩,.string ⟨#[40]⟩,.string ⟨#[41]⟩]) (.int .i64 ((7 : Nat) : Int))).run Tryz.prog w = .ok (.string (bs [42])) w:=by kernel_rfl
theorem sig_index8 (w : World) : (Instr.index 184 (.agg #[.string ⟨#[61,61]⟩,.string ⟨#[59]⟩,.string ⟨#[44]⟩,.string ⟨#[61]⟩,.string ⟨#[60]⟩,.string ⟨#[43]⟩,.string ⟨#[45]⟩,.string ⟨#[42]⟩,.string ⟨#[47]⟩,.string ⟨#[40]⟩,.string ⟨#[41]⟩]) (.int .i64 ((8 : Nat) : Int))).run Tryz.prog w = .ok (.string (bs [47])) w:=by kernel_rfl
theorem sig_index9 (w : World) : (Instr.index 184 (.agg #[.string ⟨#[61,61]⟩,.string ⟨#[59]⟩,.string ⟨#[44]⟩,.string ⟨#[61]⟩,.string ⟨#[60]⟩,.string ⟨#[43]⟩,.string ⟨#[45]⟩,.string ⟨#[42]⟩,.string ⟨#[47]⟩,.string ⟨#[40]⟩,.string ⟨#[41]⟩]) (.int .i64 ((9 : Nat) : Int))).run Tryz.prog w = .ok (.string (bs [40])) w:=by kernel_rfl
theorem sig_index10 (w : World) : (Instr.index 184 (.agg #[.string ⟨#[61,61]⟩,.string ⟨#[59]⟩,.string ⟨#[44]⟩,.string ⟨#[61]⟩,.string ⟨#[60]⟩,.string ⟨#[43]⟩,.string ⟨#[45]⟩,.string ⟨#[42]⟩,.string ⟨#[47]⟩,.string ⟨#[40]⟩,.string ⟨#[41]⟩]) (.int .i64 ((10 : Nat) : Int))).run Tryz.prog w = .ok (.string (bs [41])) w:=by kernel_rfl
theorem sig_index (i : Nat) (x : List UInt8) (h : signsL[i]? = some x) (w : World) : (Instr.index 184 (.agg #[.string ⟨#[61,61]⟩,.string ⟨#[59]⟩,.string ⟨#[44]⟩,.string ⟨#[61]⟩,.string ⟨#[60]⟩,.string ⟨#[43]⟩,.string ⟨#[45]⟩,.string ⟨#[42]⟩,.string ⟨#[47]⟩,.string ⟨#[40]⟩,.string ⟨#[41]⟩]) (.int .i64 (i : Int))).run Tryz.prog w = .ok (.string (bs x)) w:=by
 have hi : i<11:=(List.getElem?_eq_some_iff.1 h).1
 match i,hi,h with
 | 0,_,h=>cases h; exact sig_index0 w
 | 1,_,h=>cases h; exact sig_index1 w
 | 2,_,h=>cases h; exact sig_index2 w
 | 3,_,h=>cases h; exact sig_index3 w
 | 4,_,h=>cases h; exact sig_index4 w
 | 5,_,h=>cases h; exact sig_index5 w
 | 6,_,h=>cases h; exact sig_index6 w
 | 7,_,h=>cases h; exact sig_index7 w
 | 8,_,h=>cases h; exact sig_index8 w
 | 9,_,h=>cases h; exact sig_index9 w
 | 10,_,h=>cases h; exact sig_index10 w
end Go.Proofs.YtpbdjpfbhicmdaaGreatDoor
