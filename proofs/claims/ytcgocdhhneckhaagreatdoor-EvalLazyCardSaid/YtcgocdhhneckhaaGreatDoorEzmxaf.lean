/- Walks of tonneauref30: right at names and operations, RightExp. -/
import Derived.Test.YtcgocdhhneckhaaGreatDoorEzmxae
import Derived.Test.YtcgocdhhneckhaaGreatDoorEvbxaf
import Derived.Test.YtcgocdhhneckhaaGreatDoorEvbxay
import Derived.Test.YtcgocdhhneckhaaGreatDoorEzmxad
set_option linter.unusedSimpArgs false
set_option linter.unusedVariables false
set_option maxRecDepth 100000
set_option maxHeartbeats 6400000
namespace Go.Proofs.YtcgocdhhneckhaaGreatDoor
open Go.RowKit
theorem op_tests {o : Int} (h4 : 4≤o) (h16 : o<16) (h12 : ¬ o=12) (h15 : ¬ o=15) : (o == 0)=false∧(o == 1)=false∧(o == 2)=false∧(o == 3)=false∧(o == 12)=false∧(o == 15)=false∧decide (o<0)=false∧decide (16≤o)=false∧(o != 0)=true :=
 ⟨beq_eq_false_iff_ne.2 Zo,beq_eq_false_iff_ne.2 Zo,beq_eq_false_iff_ne.2 Zo,beq_eq_false_iff_ne.2 Zo,beq_eq_false_iff_ne.2 h12,beq_eq_false_iff_ne.2 h15,decide_eq_false Zo,decide_eq_false Zo,bne_iff_ne.2 Zo⟩
theorem r30_right_nm1 (k : Nat) (n u : Int) (s : ByteArray) (A : Option Addr) (c : Nat) (l : List PT) (w : World) (he : PT.At (· < w.heap.size) w ⟨1,n,u,s,A,c,l⟩) : Calls Tryz.prog 70 #[PT.v ⟨1,n,u,s,A,c,l⟩,.int .i64 ((k : Int)+1)] w fun r w'=>r = .returned (.bool (okE (k+1) ⟨1,n,u,s,A,c,l⟩))∧Below w.heap.size w w':=by
 have hlen:=he.rd.len;have hstr:=he.str;simp only [PT.a,PT.s] at hlen hstr;simp only [PT.v];have hkd : decide ((k : Int)+1<1)=false:=decide_eq_false Zo;clear he;obtain ⟨V,hVV⟩ : ∃ V,okE (k+1) ⟨1,n,u,s,A,c,l⟩=V:=⟨_,rfl⟩;rw [hVV];by_cases hl : l.length=0
 ·have hlb : ((l.length : Int) == 0)=true:=beq_iff_eq.2 Zo;have HN : Hid ((bothZ n u && nameB s)=V):=Zh (by rw [← hVV]; exact okE_name (by rw [hl]; rfl) (by decide) (by decide));clear hVV;by_cases hu : u=0
  ·have hub : (u == 0)=true:=beq_iff_eq.2 hu;by_cases hn : n=0
   ·have hnb : (n == 0)=true:=beq_iff_eq.2 hn;have HV : Hid (nameB s=V):=Zh (by rw [← HN.out,hu,hn]; rfl);have HNM:=Zh (fun w2=>r30_Name s w2 hstr);clear HN hub hnb;subst hu;subst hn;go_enter Tryz.func70,Tryz.ntmps70;go_wp2_with fail;refine (HNM.out _).mono ?_;rintro e w' ⟨rfl,hb⟩;have HB : Hid (Below w.heap.size w w'):=Zh qbv;clear hb;obtain ⟨r,hr⟩ : ∃ r,nameB s=r:=⟨_,rfl⟩;rw [hr] at HV ⊢;clear hr;go_wp2_with fail;go_ret;exact ⟨ret_bool HV.out,HB.out⟩
   ·have hnb : (n == 0)=false:=beq_eq_false_iff_ne.2 hn;have HV : Hid (false=V):=Zh (by rw [← HN.out]; exact both_no1 hn);clear HN;go_enter Tryz.func70,Tryz.ntmps70;go_wp2_with fail;go_ret;exact ⟨ret_bool HV.out,qbl⟩
  ·have hub : (u == 0)=false:=beq_eq_false_iff_ne.2 hu;have HV : Hid (false=V):=Zh (by rw [← HN.out]; exact both_no2 hu);clear HN;go_enter Tryz.func70,Tryz.ntmps70;go_wp2_with fail;go_ret;exact ⟨ret_bool HV.out,qbl⟩
 ·have HV : Hid (false=V):=Zh (by rw [← hVV]; exact okE_len (by rw [show opsN 1=0 from rfl]; omega));have hlb : ((l.length : Int) == 0)=false:=beq_eq_false_iff_ne.2 Zo;clear hVV;go_enter Tryz.func70,Tryz.ntmps70;go_wp2_with fail;go_ret;exact ⟨ret_bool HV.out,qbl⟩
theorem r30_right_nm2 (k : Nat) (n u : Int) (s : ByteArray) (A : Option Addr) (c : Nat) (l : List PT) (w : World) (he : PT.At (· < w.heap.size) w ⟨2,n,u,s,A,c,l⟩) : Calls Tryz.prog 70 #[PT.v ⟨2,n,u,s,A,c,l⟩,.int .i64 ((k : Int)+1)] w fun r w'=>r = .returned (.bool (okE (k+1) ⟨2,n,u,s,A,c,l⟩))∧Below w.heap.size w w':=by
 have hlen:=he.rd.len;have hstr:=he.str;simp only [PT.a,PT.s] at hlen hstr;simp only [PT.v];have hkd : decide ((k : Int)+1<1)=false:=decide_eq_false Zo;clear he;obtain ⟨V,hVV⟩ : ∃ V,okE (k+1) ⟨2,n,u,s,A,c,l⟩=V:=⟨_,rfl⟩;rw [hVV];by_cases hl : l.length=0
 ·have hlb : ((l.length : Int) == 0)=true:=beq_iff_eq.2 Zo;have HN : Hid ((bothZ n u && nameB s)=V):=Zh (by rw [← hVV]; exact okE_name (by rw [hl]; rfl) (by decide) (by decide));clear hVV;by_cases hu : u=0
  ·have hub : (u == 0)=true:=beq_iff_eq.2 hu;by_cases hn : n=0
   ·have hnb : (n == 0)=true:=beq_iff_eq.2 hn;have HV : Hid (nameB s=V):=Zh (by rw [← HN.out,hu,hn]; rfl);have HNM:=Zh (fun w2=>r30_Name s w2 hstr);clear HN hub hnb;subst hu;subst hn;go_enter Tryz.func70,Tryz.ntmps70;go_wp2_with fail;refine (HNM.out _).mono ?_;rintro e w' ⟨rfl,hb⟩;have HB : Hid (Below w.heap.size w w'):=Zh qbv;clear hb;obtain ⟨r,hr⟩ : ∃ r,nameB s=r:=⟨_,rfl⟩;rw [hr] at HV ⊢;clear hr;go_wp2_with fail;go_ret;exact ⟨ret_bool HV.out,HB.out⟩
   ·have hnb : (n == 0)=false:=beq_eq_false_iff_ne.2 hn;have HV : Hid (false=V):=Zh (by rw [← HN.out]; exact both_no1 hn);clear HN;go_enter Tryz.func70,Tryz.ntmps70;go_wp2_with fail;go_ret;exact ⟨ret_bool HV.out,qbl⟩
  ·have hub : (u == 0)=false:=beq_eq_false_iff_ne.2 hu;have HV : Hid (false=V):=Zh (by rw [← HN.out]; exact both_no2 hu);clear HN;go_enter Tryz.func70,Tryz.ntmps70;go_wp2_with fail;go_ret;exact ⟨ret_bool HV.out,qbl⟩
 ·have HV : Hid (false=V):=Zh (by rw [← hVV]; exact okE_len (by rw [show opsN 2=0 from rfl]; omega));have hlb : ((l.length : Int) == 0)=false:=beq_eq_false_iff_ne.2 Zo;clear hVV;go_enter Tryz.func70,Tryz.ntmps70;go_wp2_with fail;go_ret;exact ⟨ret_bool HV.out,qbl⟩
theorem r30_right_nm3 (k : Nat) (n u : Int) (s : ByteArray) (A : Option Addr) (c : Nat) (l : List PT) (w : World) (he : PT.At (· < w.heap.size) w ⟨3,n,u,s,A,c,l⟩) : Calls Tryz.prog 70 #[PT.v ⟨3,n,u,s,A,c,l⟩,.int .i64 ((k : Int)+1)] w fun r w'=>r = .returned (.bool (okE (k+1) ⟨3,n,u,s,A,c,l⟩))∧Below w.heap.size w w':=by
 have hlen:=he.rd.len;have hstr:=he.str;simp only [PT.a,PT.s] at hlen hstr;simp only [PT.v];have hkd : decide ((k : Int)+1<1)=false:=decide_eq_false Zo;clear he;obtain ⟨V,hVV⟩ : ∃ V,okE (k+1) ⟨3,n,u,s,A,c,l⟩=V:=⟨_,rfl⟩;rw [hVV];by_cases hl : l.length=0
 ·have hlb : ((l.length : Int) == 0)=true:=beq_iff_eq.2 Zo;have HN : Hid ((bothZ n u && nameB s)=V):=Zh (by rw [← hVV]; exact okE_name (by rw [hl]; rfl) (by decide) (by decide));clear hVV;by_cases hu : u=0
  ·have hub : (u == 0)=true:=beq_iff_eq.2 hu;by_cases hn : n=0
   ·have hnb : (n == 0)=true:=beq_iff_eq.2 hn;have HV : Hid (nameB s=V):=Zh (by rw [← HN.out,hu,hn]; rfl);have HNM:=Zh (fun w2=>r30_Name s w2 hstr);clear HN hub hnb;subst hu;subst hn;go_enter Tryz.func70,Tryz.ntmps70;go_wp2_with fail;refine (HNM.out _).mono ?_;rintro e w' ⟨rfl,hb⟩;have HB : Hid (Below w.heap.size w w'):=Zh qbv;clear hb;obtain ⟨r,hr⟩ : ∃ r,nameB s=r:=⟨_,rfl⟩;rw [hr] at HV ⊢;clear hr;go_wp2_with fail;go_ret;exact ⟨ret_bool HV.out,HB.out⟩
   ·have hnb : (n == 0)=false:=beq_eq_false_iff_ne.2 hn;have HV : Hid (false=V):=Zh (by rw [← HN.out]; exact both_no1 hn);clear HN;go_enter Tryz.func70,Tryz.ntmps70;go_wp2_with fail;go_ret;exact ⟨ret_bool HV.out,qbl⟩
  ·have hub : (u == 0)=false:=beq_eq_false_iff_ne.2 hu;have HV : Hid (false=V):=Zh (by rw [← HN.out]; exact both_no2 hu);clear HN;go_enter Tryz.func70,Tryz.ntmps70;go_wp2_with fail;go_ret;exact ⟨ret_bool HV.out,qbl⟩
 ·have HV : Hid (false=V):=Zh (by rw [← hVV]; exact okE_len (by rw [show opsN 3=0 from rfl]; omega));have hlb : ((l.length : Int) == 0)=false:=beq_eq_false_iff_ne.2 Zo;clear hVV;go_enter Tryz.func70,Tryz.ntmps70;go_wp2_with fail;go_ret;exact ⟨ret_bool HV.out,qbl⟩
theorem r30_right_op12 (k : Nat) (hk : k≤1000) (ih : RxP k)  (n u : Int) (s : ByteArray) (A : Option Addr) (c : Nat) (l : List PT) (w : World) (he : PT.At (· < w.heap.size) w ⟨12,n,u,s,A,c,l⟩) : Calls Tryz.prog 70 #[PT.v ⟨12,n,u,s,A,c,l⟩,.int .i64 ((k : Int)+1)] w fun r w'=>r = .returned (.bool (okE (k+1) ⟨12,n,u,s,A,c,l⟩))∧Below w.heap.size w w':=by
 have hlen:=he.rd.len;simp only [PT.a] at hlen;have HE:=Zh he;have IH:=Zh ih;simp only [PT.v];have hkd : decide ((k : Int)+1<1)=false:=decide_eq_false Zo;skip;clear he ih;obtain ⟨V,hVV⟩ : ∃ V,okE (k+1) ⟨12,n,u,s,A,c,l⟩=V:=⟨_,rfl⟩;rw [hVV];have HOP : Hid (opsN 12=1):=Zh ((rfl : opsN 12=1));by_cases hl : l.length=1
 ·have hlb : ((l.length : Int) == 1)=true:=beq_iff_eq.2 Zo;have HN : Hid ((bothZ n u && (empB s && l.all (okE k)))=V):=Zh (by rw [← hVV]; exact okE_rest (by rw [HOP.out,hl]; rfl) (by decide) (by decide));clear hVV HOP;by_cases hu : u=0
  ·have hub : (u == 0)=true:=beq_iff_eq.2 hu;by_cases hn : n=0
   ·have hnb : (n == 0)=true:=beq_iff_eq.2 hn;have HN2 : Hid ((empB s && l.all (okE k))=V):=Zh (by rw [← HN.out,hu,hn]; rfl);have HLE:=Zh hl;(have hw : IntKind.i64.wrap ((k : Int)+1 - 1)=(k : Int):=by rw [IntKind.wrap_i64]; omega);have HB1 : Hid (Below w.heap.size w (w.alloc (.cells #[.int .i64 12,.int .i64 n,.int .i64 u,.string s,.slice A l.length c] 25))):=Zh qbl;have HX1:=Zh (Blk.new w 25 #[.int .i64 12,.int .i64 n,.int .i64 u,.string s,.slice A l.length c]);clear HN hub hnb;subst hu;subst hn;have HW2 : Hid (w.alloc (.cells #[.int .i64 12,.int .i64 0,.int .i64 0,.string s,.slice A 1 c] 25)=w.alloc (.cells #[.int .i64 12,.int .i64 0,.int .i64 0,.string s,.slice A l.length c] 25)):=Zh (by rw [hl]);go_enter Tryz.func70,Tryz.ntmps70;go_wp2_with fail;rw [HW2.out];clear hl HW2;generalize w.alloc (.cells _ 25)=w1 at *;go_loopw [7] (fun i wr=>∃ (j : Nat),j≤l.length∧i = .int .i64 j∧Below w1.heap.size w1 wr∧Hid ((l.take j).all (okE k)=true)) (fun i _=>l.length - (intOf i).toNat)
    case atStart=>exact ⟨0,by omega,rfl,Below.refl _ _,Zh Zs⟩
    case round =>
     obtain ⟨j,hj,rfl,hbel,HT⟩:=hrel;have HBR:=Zt HB1 hbel;have HXR:=Zh (HX1.out.later hbel);obtain ⟨a0,a1,a2,a3,a4,af,az⟩:=HXR.out.b5;by_cases hlt : j<l.length
     ·have hEW:=HE.out.later HBR.out;obtain ⟨b,q,hA,hbl,hcl⟩:=hEW.rd.at1 hlt;have HX:=Zh (hEW.all _ (List.getElem_mem hlt))
      have HSTEP : Hid (okE k l[j]=true→(l.take (j+1)).all (okE k)=true):=Zh (fun h=>by
       rw [List.take_succ_eq_append_getElem hlt,List.all_append,HT.out]; simp [h])
      have HBAD : Hid (okE k l[j]=false→false=V):=Zh (fun h=>by
       rw [← HN2.out]
       have h1 : l.all (okE k)=false:=by
        rcases hx : l.all (okE k)
        ·rfl
        ·have:=List.all_eq_true.1 hx _ (List.getElem_mem hlt);rw [h] at this; cases this
       rw [h1,Bool.and_false])
      simp only [PT.a] at hA hcl HX;clear hEW;generalize l[j]=y at *;obtain ⟨xo,xm,xu,xs,xA,xc,xl⟩:=y;obtain ⟨g0,g1,g2,g3,g4⟩:=Cells.c5 hcl;clear hcl;subst hA;have hcall:=IH.out ⟨xo,xm,xu,xs,xA,xc,xl⟩ wr HX.out;obtain ⟨t,ht⟩ : ∃ t,okE k ⟨xo,xm,xu,xs,xA,xc,xl⟩=t:=⟨_,rfl⟩;rw [ht] at hcall HSTEP HBAD;simp only [PT.v] at hcall;clear ht;go_wp2_with fail;refine hcall.mono ?_;clear hcall;rintro e w2 ⟨rfl,hb2⟩;have HB2 : Hid (Below w1.heap.size w1 w2):=Zh (hbel.trans (hb2.mono hbel.size));have HBW:=Zt HBR hb2;clear g0 g1 g2 g3 g4 a0 a1 a2 a3 a4 af az hb2 hbel HT;rcases t
      ·have HV:=Zh (HBAD.out rfl);clear HSTEP HBAD;go_wp2_with fail;go_ret;exact ⟨ret_bool HV.out,HBW.out⟩
      ·have HT2:=Zh (HSTEP.out rfl);clear HSTEP HBAD;go_wp2_with fail;go_roundw
       case rel=>exact ⟨j+1,by omega,by go_num,HB2.out,HT2⟩
       case measure=>simp [intOf]; omega
     ·have HV : Hid (s.toList.isEmpty=V):=Zh (by
       have h:=HT.out;rw [List.take_of_length_le Zo] at h;rw [← HN2.out,h,Bool.and_true]; rfl)
      clear HT HN2;go_wp2_with fail;go_ret;exact ⟨ret_bool HV.out,HBR.out⟩
   ·have hnb : (n == 0)=false:=beq_eq_false_iff_ne.2 hn;have hnc : (n != 0)=true:=bne_iff_ne.2 hn;have HV : Hid (false=V):=Zh (by rw [← HN.out]; exact both_no1 hn);clear HN HE IH;go_enter Tryz.func70,Tryz.ntmps70;go_wp2_with fail;go_ret;exact ⟨ret_bool HV.out,qbl⟩
  ·have hub : (u == 0)=false:=beq_eq_false_iff_ne.2 hu;have huc : (u != 0)=true:=bne_iff_ne.2 hu;have HV : Hid (false=V):=Zh (by rw [← HN.out]; exact both_no2 hu);clear HN HE IH;go_enter Tryz.func70,Tryz.ntmps70;go_wp2_with fail;go_ret;exact ⟨ret_bool HV.out,qbl⟩
 ·have HV : Hid (false=V):=Zh (by rw [← hVV]; exact okE_len (by rw [HOP.out]; omega));have hlb : ((l.length : Int) == 1)=false:=beq_eq_false_iff_ne.2 Zo;clear hVV HOP HE IH;go_enter Tryz.func70,Tryz.ntmps70;go_wp2_with fail;go_ret;exact ⟨ret_bool HV.out,qbl⟩
theorem r30_right_op15 (k : Nat) (hk : k≤1000) (ih : RxP k)  (n u : Int) (s : ByteArray) (A : Option Addr) (c : Nat) (l : List PT) (w : World) (he : PT.At (· < w.heap.size) w ⟨15,n,u,s,A,c,l⟩) : Calls Tryz.prog 70 #[PT.v ⟨15,n,u,s,A,c,l⟩,.int .i64 ((k : Int)+1)] w fun r w'=>r = .returned (.bool (okE (k+1) ⟨15,n,u,s,A,c,l⟩))∧Below w.heap.size w w':=by
 have hlen:=he.rd.len;simp only [PT.a] at hlen;have HE:=Zh he;have IH:=Zh ih;simp only [PT.v];have hkd : decide ((k : Int)+1<1)=false:=decide_eq_false Zo;skip;clear he ih;obtain ⟨V,hVV⟩ : ∃ V,okE (k+1) ⟨15,n,u,s,A,c,l⟩=V:=⟨_,rfl⟩;rw [hVV];have HOP : Hid (opsN 15=3):=Zh ((rfl : opsN 15=3));by_cases hl : l.length=3
 ·have hlb : ((l.length : Int) == 3)=true:=beq_iff_eq.2 Zo;have HN : Hid ((bothZ n u && (empB s && l.all (okE k)))=V):=Zh (by rw [← hVV]; exact okE_rest (by rw [HOP.out,hl]; rfl) (by decide) (by decide));clear hVV HOP;by_cases hu : u=0
  ·have hub : (u == 0)=true:=beq_iff_eq.2 hu;by_cases hn : n=0
   ·have hnb : (n == 0)=true:=beq_iff_eq.2 hn;have HN2 : Hid ((empB s && l.all (okE k))=V):=Zh (by rw [← HN.out,hu,hn]; rfl);have HLE:=Zh hl;(have hw : IntKind.i64.wrap ((k : Int)+1 - 1)=(k : Int):=by rw [IntKind.wrap_i64]; omega);have HB1 : Hid (Below w.heap.size w (w.alloc (.cells #[.int .i64 15,.int .i64 n,.int .i64 u,.string s,.slice A l.length c] 25))):=Zh qbl;have HX1:=Zh (Blk.new w 25 #[.int .i64 15,.int .i64 n,.int .i64 u,.string s,.slice A l.length c]);clear HN hub hnb;subst hu;subst hn;have HW2 : Hid (w.alloc (.cells #[.int .i64 15,.int .i64 0,.int .i64 0,.string s,.slice A 3 c] 25)=w.alloc (.cells #[.int .i64 15,.int .i64 0,.int .i64 0,.string s,.slice A l.length c] 25)):=Zh (by rw [hl]);go_enter Tryz.func70,Tryz.ntmps70;go_wp2_with fail;rw [HW2.out];clear hl HW2;generalize w.alloc (.cells _ 25)=w1 at *;go_loopw [7] (fun i wr=>∃ (j : Nat),j≤l.length∧i = .int .i64 j∧Below w1.heap.size w1 wr∧Hid ((l.take j).all (okE k)=true)) (fun i _=>l.length - (intOf i).toNat)
    case atStart=>exact ⟨0,by omega,rfl,Below.refl _ _,Zh Zs⟩
    case round =>
     obtain ⟨j,hj,rfl,hbel,HT⟩:=hrel;have HBR:=Zt HB1 hbel;have HXR:=Zh (HX1.out.later hbel);obtain ⟨a0,a1,a2,a3,a4,af,az⟩:=HXR.out.b5;by_cases hlt : j<l.length
     ·have hEW:=HE.out.later HBR.out;obtain ⟨b,q,hA,hbl,hcl⟩:=hEW.rd.at1 hlt;have HX:=Zh (hEW.all _ (List.getElem_mem hlt))
      have HSTEP : Hid (okE k l[j]=true→(l.take (j+1)).all (okE k)=true):=Zh (fun h=>by
       rw [List.take_succ_eq_append_getElem hlt,List.all_append,HT.out]; simp [h])
      have HBAD : Hid (okE k l[j]=false→false=V):=Zh (fun h=>by
       rw [← HN2.out]
       have h1 : l.all (okE k)=false:=by
        rcases hx : l.all (okE k)
        ·rfl
        ·have:=List.all_eq_true.1 hx _ (List.getElem_mem hlt);rw [h] at this; cases this
       rw [h1,Bool.and_false])
      simp only [PT.a] at hA hcl HX;clear hEW;generalize l[j]=y at *;obtain ⟨xo,xm,xu,xs,xA,xc,xl⟩:=y;obtain ⟨g0,g1,g2,g3,g4⟩:=Cells.c5 hcl;clear hcl;subst hA;have hcall:=IH.out ⟨xo,xm,xu,xs,xA,xc,xl⟩ wr HX.out;obtain ⟨t,ht⟩ : ∃ t,okE k ⟨xo,xm,xu,xs,xA,xc,xl⟩=t:=⟨_,rfl⟩;rw [ht] at hcall HSTEP HBAD;simp only [PT.v] at hcall;clear ht;go_wp2_with fail;refine hcall.mono ?_;clear hcall;rintro e w2 ⟨rfl,hb2⟩;have HB2 : Hid (Below w1.heap.size w1 w2):=Zh (hbel.trans (hb2.mono hbel.size));have HBW:=Zt HBR hb2;clear g0 g1 g2 g3 g4 a0 a1 a2 a3 a4 af az hb2 hbel HT;rcases t
      ·have HV:=Zh (HBAD.out rfl);clear HSTEP HBAD;go_wp2_with fail;go_ret;exact ⟨ret_bool HV.out,HBW.out⟩
      ·have HT2:=Zh (HSTEP.out rfl);clear HSTEP HBAD;go_wp2_with fail;go_roundw
       case rel=>exact ⟨j+1,by omega,by go_num,HB2.out,HT2⟩
       case measure=>simp [intOf]; omega
     ·have HV : Hid (s.toList.isEmpty=V):=Zh (by
       have h:=HT.out;rw [List.take_of_length_le Zo] at h;rw [← HN2.out,h,Bool.and_true]; rfl)
      clear HT HN2;go_wp2_with fail;go_ret;exact ⟨ret_bool HV.out,HBR.out⟩
   ·have hnb : (n == 0)=false:=beq_eq_false_iff_ne.2 hn;have hnc : (n != 0)=true:=bne_iff_ne.2 hn;have HV : Hid (false=V):=Zh (by rw [← HN.out]; exact both_no1 hn);clear HN HE IH;go_enter Tryz.func70,Tryz.ntmps70;go_wp2_with fail;go_ret;exact ⟨ret_bool HV.out,qbl⟩
  ·have hub : (u == 0)=false:=beq_eq_false_iff_ne.2 hu;have huc : (u != 0)=true:=bne_iff_ne.2 hu;have HV : Hid (false=V):=Zh (by rw [← HN.out]; exact both_no2 hu);clear HN HE IH;go_enter Tryz.func70,Tryz.ntmps70;go_wp2_with fail;go_ret;exact ⟨ret_bool HV.out,qbl⟩
 ·have HV : Hid (false=V):=Zh (by rw [← hVV]; exact okE_len (by rw [HOP.out]; omega));have hlb : ((l.length : Int) == 3)=false:=beq_eq_false_iff_ne.2 Zo;clear hVV HOP HE IH;go_enter Tryz.func70,Tryz.ntmps70;go_wp2_with fail;go_ret;exact ⟨ret_bool HV.out,qbl⟩
theorem r30_right_opel (k : Nat) (hk : k≤1000) (ih : RxP k) (o : Int) (h4 : 4≤o) (h16 : o<16) (h12 : ¬ o=12) (h15 : ¬ o=15) (n u : Int) (s : ByteArray) (A : Option Addr) (c : Nat) (l : List PT) (w : World) (he : PT.At (· < w.heap.size) w ⟨o,n,u,s,A,c,l⟩) : Calls Tryz.prog 70 #[PT.v ⟨o,n,u,s,A,c,l⟩,.int .i64 ((k : Int)+1)] w fun r w'=>r = .returned (.bool (okE (k+1) ⟨o,n,u,s,A,c,l⟩))∧Below w.heap.size w w':=by
 have hlen:=he.rd.len;simp only [PT.a] at hlen;have HE:=Zh he;have IH:=Zh ih;simp only [PT.v];have hkd : decide ((k : Int)+1<1)=false:=decide_eq_false Zo;obtain ⟨e0,e1,e2,e3,e12,e15,el,eg,eb⟩:=op_tests h4 h16 h12 h15;clear he ih;obtain ⟨V,hVV⟩ : ∃ V,okE (k+1) ⟨o,n,u,s,A,c,l⟩=V:=⟨_,rfl⟩;rw [hVV];have HOP : Hid (opsN o=2):=Zh (opsN_bin h4 h16 h12 h15);by_cases hl : l.length=2
 ·have hlb : ((l.length : Int) == 2)=true:=beq_iff_eq.2 Zo;have HN : Hid ((bothZ n u && (empB s && l.all (okE k)))=V):=Zh (by rw [← hVV]; exact okE_rest (by rw [HOP.out,hl]; rfl) Zo Zo);clear hVV HOP;by_cases hu : u=0
  ·have hub : (u == 0)=true:=beq_iff_eq.2 hu;by_cases hn : n=0
   ·have hnb : (n == 0)=true:=beq_iff_eq.2 hn;have HN2 : Hid ((empB s && l.all (okE k))=V):=Zh (by rw [← HN.out,hu,hn]; rfl);have HLE:=Zh hl;(have hw : IntKind.i64.wrap ((k : Int)+1 - 1)=(k : Int):=by rw [IntKind.wrap_i64]; omega);have HB1 : Hid (Below w.heap.size w (w.alloc (.cells #[.int .i64 o,.int .i64 n,.int .i64 u,.string s,.slice A l.length c] 25))):=Zh qbl;have HX1:=Zh (Blk.new w 25 #[.int .i64 o,.int .i64 n,.int .i64 u,.string s,.slice A l.length c]);clear HN hub hnb;subst hu;subst hn;have HW2 : Hid (w.alloc (.cells #[.int .i64 o,.int .i64 0,.int .i64 0,.string s,.slice A 2 c] 25)=w.alloc (.cells #[.int .i64 o,.int .i64 0,.int .i64 0,.string s,.slice A l.length c] 25)):=Zh (by rw [hl]);go_enter Tryz.func70,Tryz.ntmps70;go_wp2_with fail;rw [HW2.out];clear hl HW2;generalize w.alloc (.cells _ 25)=w1 at *;go_loopw [7] (fun i wr=>∃ (j : Nat),j≤l.length∧i = .int .i64 j∧Below w1.heap.size w1 wr∧Hid ((l.take j).all (okE k)=true)) (fun i _=>l.length - (intOf i).toNat)
    case atStart=>exact ⟨0,by omega,rfl,Below.refl _ _,Zh Zs⟩
    case round =>
     obtain ⟨j,hj,rfl,hbel,HT⟩:=hrel;have HBR:=Zt HB1 hbel;have HXR:=Zh (HX1.out.later hbel);obtain ⟨a0,a1,a2,a3,a4,af,az⟩:=HXR.out.b5;by_cases hlt : j<l.length
     ·have hEW:=HE.out.later HBR.out;obtain ⟨b,q,hA,hbl,hcl⟩:=hEW.rd.at1 hlt;have HX:=Zh (hEW.all _ (List.getElem_mem hlt))
      have HSTEP : Hid (okE k l[j]=true→(l.take (j+1)).all (okE k)=true):=Zh (fun h=>by
       rw [List.take_succ_eq_append_getElem hlt,List.all_append,HT.out]; simp [h])
      have HBAD : Hid (okE k l[j]=false→false=V):=Zh (fun h=>by
       rw [← HN2.out]
       have h1 : l.all (okE k)=false:=by
        rcases hx : l.all (okE k)
        ·rfl
        ·have:=List.all_eq_true.1 hx _ (List.getElem_mem hlt);rw [h] at this; cases this
       rw [h1,Bool.and_false])
      simp only [PT.a] at hA hcl HX;clear hEW;generalize l[j]=y at *;obtain ⟨xo,xm,xu,xs,xA,xc,xl⟩:=y;obtain ⟨g0,g1,g2,g3,g4⟩:=Cells.c5 hcl;clear hcl;subst hA;have hcall:=IH.out ⟨xo,xm,xu,xs,xA,xc,xl⟩ wr HX.out;obtain ⟨t,ht⟩ : ∃ t,okE k ⟨xo,xm,xu,xs,xA,xc,xl⟩=t:=⟨_,rfl⟩;rw [ht] at hcall HSTEP HBAD;simp only [PT.v] at hcall;clear ht;go_wp2_with fail;refine hcall.mono ?_;clear hcall;rintro e w2 ⟨rfl,hb2⟩;have HB2 : Hid (Below w1.heap.size w1 w2):=Zh (hbel.trans (hb2.mono hbel.size));have HBW:=Zt HBR hb2;clear g0 g1 g2 g3 g4 a0 a1 a2 a3 a4 af az hb2 hbel HT;rcases t
      ·have HV:=Zh (HBAD.out rfl);clear HSTEP HBAD;go_wp2_with fail;go_ret;exact ⟨ret_bool HV.out,HBW.out⟩
      ·have HT2:=Zh (HSTEP.out rfl);clear HSTEP HBAD;go_wp2_with fail;go_roundw
       case rel=>exact ⟨j+1,by omega,by go_num,HB2.out,HT2⟩
       case measure=>simp [intOf]; omega
     ·have HV : Hid (s.toList.isEmpty=V):=Zh (by
       have h:=HT.out;rw [List.take_of_length_le Zo] at h;rw [← HN2.out,h,Bool.and_true]; rfl)
      clear HT HN2;go_wp2_with fail;go_ret;exact ⟨ret_bool HV.out,HBR.out⟩
   ·have hnb : (n == 0)=false:=beq_eq_false_iff_ne.2 hn;have hnc : (n != 0)=true:=bne_iff_ne.2 hn;have HV : Hid (false=V):=Zh (by rw [← HN.out]; exact both_no1 hn);clear HN HE IH;go_enter Tryz.func70,Tryz.ntmps70;go_wp2_with fail;go_ret;exact ⟨ret_bool HV.out,qbl⟩
  ·have hub : (u == 0)=false:=beq_eq_false_iff_ne.2 hu;have huc : (u != 0)=true:=bne_iff_ne.2 hu;have HV : Hid (false=V):=Zh (by rw [← HN.out]; exact both_no2 hu);clear HN HE IH;go_enter Tryz.func70,Tryz.ntmps70;go_wp2_with fail;go_ret;exact ⟨ret_bool HV.out,qbl⟩
 ·have HV : Hid (false=V):=Zh (by rw [← hVV]; exact okE_len (by rw [HOP.out]; omega));have hlb : ((l.length : Int) == 2)=false:=beq_eq_false_iff_ne.2 Zo;clear hVV HOP HE IH;go_enter Tryz.func70,Tryz.ntmps70;go_wp2_with fail;go_ret;exact ⟨ret_bool HV.out,qbl⟩
theorem r30_right_lo (k : Nat) (hk : k≤1000) (o n u : Int) (s : ByteArray) (A : Option Addr) (c : Nat) (l : List PT) (w : World) (ho : o<0) : Calls Tryz.prog 70 #[PT.v ⟨o,n,u,s,A,c,l⟩,.int .i64 ((k : Int)+1)] w fun r w'=>r = .returned (.bool (okE (k+1) ⟨o,n,u,s,A,c,l⟩))∧Below w.heap.size w w':=by
 have HV : Hid (false=okE (k+1) ⟨o,n,u,s,A,c,l⟩):=Zh (okE_len (by rw [opsN_out (.inl ho)]; omega));simp only [PT.v];have hkd : decide ((k : Int)+1<1)=false:=decide_eq_false Zo;obtain ⟨V,hVV⟩ : ∃ V,okE (k+1) ⟨o,n,u,s,A,c,l⟩=V:=⟨_,rfl⟩;rw [hVV] at HV ⊢;have h1 : decide (o<0)=true:=decide_eq_true ho;clear hVV ho;go_enter Tryz.func70,Tryz.ntmps70;go_wp2_with fail;go_ret;exact ⟨ret_bool HV.out,qbl⟩
theorem r30_right_hi (k : Nat) (hk : k≤1000) (o n u : Int) (s : ByteArray) (A : Option Addr) (c : Nat) (l : List PT) (w : World) (ho : 16≤o) : Calls Tryz.prog 70 #[PT.v ⟨o,n,u,s,A,c,l⟩,.int .i64 ((k : Int)+1)] w fun r w'=>r = .returned (.bool (okE (k+1) ⟨o,n,u,s,A,c,l⟩))∧Below w.heap.size w w':=by
 have HV : Hid (false=okE (k+1) ⟨o,n,u,s,A,c,l⟩):=Zh (okE_len (by rw [opsN_out (.inr ho)]; omega));simp only [PT.v];have hkd : decide ((k : Int)+1<1)=false:=decide_eq_false Zo;obtain ⟨V,hVV⟩ : ∃ V,okE (k+1) ⟨o,n,u,s,A,c,l⟩=V:=⟨_,rfl⟩;rw [hVV] at HV ⊢;have h1 : decide (o<0)=false:=decide_eq_false Zo;have h2 : decide (16≤o)=true:=decide_eq_true ho;clear hVV ho;go_enter Tryz.func70,Tryz.ntmps70;go_wp2_with fail;go_ret;exact ⟨ret_bool HV.out,qbl⟩
theorem r30_rightS (k : Nat) (hk : k≤1000) (ih : RxP k) : RxP (k+1):=by
 rintro ⟨o,n,u,s,A,c,l⟩ w he;(have hkk : ((k+1 : Nat) : Int)=(k : Int)+1:=by omega);rw [hkk];by_cases hlo : o<0
 ·exact r30_right_lo k hk o n u s A c l w hlo
 by_cases hhi : 16≤o
 ·exact r30_right_hi k hk o n u s A c l w hhi
 by_cases h0 : o=0
 ·subst h0; exact r30_right_num k n u s A c l w he
 by_cases h1 : o=1
 ·subst h1; exact r30_right_nm1 k n u s A c l w he
 by_cases h2 : o=2
 ·subst h2; exact r30_right_nm2 k n u s A c l w he
 by_cases h3 : o=3
 ·subst h3; exact r30_right_nm3 k n u s A c l w he
 by_cases h12 : o=12
 ·subst h12; exact r30_right_op12 k hk ih n u s A c l w he
 by_cases h15 : o=15
 ·subst h15; exact r30_right_op15 k hk ih n u s A c l w he
 exact r30_right_opel k hk ih o Zo Zo h12 h15 n u s A c l w he
theorem r30_right : ∀ k : Nat,k≤1000→RxP k
 | 0,_=>r30_right0
 | k+1,hk=>r30_rightS k Zo (r30_right k Zo)
theorem r30_rexp (e : PT) (w : World) (he : PT.At (· < w.heap.size) w e) : Calls Tryz.prog 36 #[e.v] w fun r w'=>r = .returned (.bool (rexp e))∧Below w.heap.size w w':=by
 have HI:=Zh (fun w2 (h : PT.At (· < w2.heap.size) w2 e)=>r30_right 12 Zo e w2 h);have HE:=Zh he;clear he;obtain ⟨o,n,u,s,A,c,l⟩:=e;simp only [PT.v] at HI ⊢;go_enter Tryz.func36,Tryz.ntmps36;go_wp2_with fail;have HB : Hid (Below w.heap.size w (w.alloc (.cells #[.int .i64 o,.int .i64 n,.int .i64 u,.string s,.slice A l.length c] 25))):=Zh qbl;refine (HI.out _ (HE.out.later HB.out)).mono ?_;rintro e w' ⟨rfl,hb⟩;have hB : Below w.heap.size w w':=HB.out.trans (hb.mono HB.out.size);clear hb;obtain ⟨r,hr⟩ : ∃ r,okE 12 ⟨o,n,u,s,A,c,l⟩=r:=⟨_,rfl⟩;rw [hr];have HR : Hid (r=rexp ⟨o,n,u,s,A,c,l⟩):=Zh hr.symm;clear hr;go_wp2_with fail;go_ret;exact ⟨ret_bool HR.out,hB⟩
theorem inL_take {x : ByteArray} {l : List ByteArray} {j : Nat} (hj : j<l.length) : inL x (l.take (j+1))=(inL x (l.take j) || (x.toList == l[j].toList)):=by
 unfold inL;rw [List.take_succ_eq_append_getElem hj,List.any_append];simp
theorem k_value (g m : Nat) (L : Sl LT) (T M : Sl FT) (hok : ∀ x,x ∈ L.l→okE 12 x.b=true) (hT : ∀ x,x ∈ T.l→-9223372036854775808≤x.v∧x.v≤9223372036854775807) (hM : ∀ x,x ∈ M.l→-9223372036854775808≤x.v∧x.v≤9223372036854775807) : ∀ n,n≤L.l.length→∀ k,ValK g m L T M n k:=by
 intro n
 induction n using Nat.strongRecOn with
 | ind n ihn =>
  intro hn k
  induction k with
  | zero=>intro e X E W hk; unfold okE at hk; cases hk
  | succ k ih =>
   rintro ⟨o,a,u,s,A,c,l⟩ X E W hk he hs;by_cases h0 : o=0
   ·subst h0;exact k_val_num g m L T M n k a u s A c l X E W (okE_numb hk).1 (okE_numb hk).2 he hs
   by_cases h1 : o=1
   ·subst h1;exact k_val_name g m L T M n k hn (fun j hj=>ihn j hj Zo 12) hok a u s A c l X E W he hs
   by_cases h2 : o=2
   ·subst h2;exact k_val_trip g m L T M n k a u s A c l X E W hT he hs
   by_cases h3 : o=3
   ·subst h3;exact k_val_memb g m L T M n k a u s A c l X E W hM he hs
   have hall:=okE_all hk h0 h1 h2 h3;have hlen:=okE_is hk;by_cases h12 : o=12
   ·subst h12;obtain ⟨x,hl⟩:=len_one (l:=l) (by have h : opsN 12=1:=(by decide); omega);exact k_val_not g m L T M n k ih a u s A c l x hl (hall x (by rw [hl]; simp)) X E W he hs
   by_cases h15 : o=15
   ·subst h15;obtain ⟨x,y,z,hl⟩:=len_three (l:=l) (by have h : opsN 15=3:=(by decide); omega);exact k_val_ite g m L T M n k ih a u s A c l x y z hl (hall x (by rw [hl]; simp)) (hall y (by rw [hl]; simp)) (hall z (by rw [hl]; simp)) X E W he hs
   obtain ⟨x,y,hl⟩:=len_two (l:=l) (opsN_two hlen h0 h1 h2 h3 h12 h15);have hx:=hall x (by rw [hl]; simp);have hy:=hall y (by rw [hl]; simp);by_cases h13 : o=13
   ·subst h13;exact k_val_and g m L T M n k ih a u s A c l x y hl hx hy X E W he hs
   by_cases h14 : o=14
   ·subst h14;exact k_val_or g m L T M n k ih a u s A c l x y hl hx hy X E W he hs
   exact k_val_two g m L T M n k ih o a u s A c l x y hl hx hy X E W h0 h1 h2 h3 h12 h13 h14 h15 he hs
theorem infoNote : Info Tryz.prog 150 (.agg #[.bool false,.int .i64 0,.slice none 0 0,.int .i64 0,.slice none 0 0,.int .i64 0]) 6 80:=info_mk Zy rfl
theorem make_notes (n : Nat) (hn : n≤100000) (w : World) : (Instr.makeSlice 77 (.int .i64 (n : Int)) (.int .i64 (n : Int))).run Tryz.prog w = .ok (.slice (some ⟨w.heap.size,0,none⟩) n n) (w.alloc (.cells ((List.replicate n NT.zero).flatMap NT.enc).toArray 150)):=by
 obtain ⟨i,hi,hz,hsize,hby,hzs⟩:=infoNote;have h:=run_makeSlice w 77 150 i _ Tryz.underlying77 hi hz .i64 .i64 (n : Int) (n : Int) Zo (Int.le_refl _) (by rw [hsize]; omega) (by rw [hby]; omega) Zo
 have hc : madeCells (Value.agg #[.bool false,.int .i64 0,.slice none 0 0,.int .i64 0,.slice none 0 0,.int .i64 0]).cells (n * 6)=((List.replicate n NT.zero).flatMap NT.enc).toArray:=by
  unfold madeCells;apply Array.ext_getElem?;intro j;rw [List.getElem?_toArray (xs:=(List.replicate n NT.zero).flatMap NT.enc)];rcases Nat.lt_or_ge j (n * 6) with hj | hj
  ·(have hq : (List.replicate n NT.zero)[j / 6]? = some NT.zero:=by rw [List.getElem?_replicate,if_pos Zo]);have hf:=flat_get NT.enc_k (List.replicate n NT.zero) (j / 6) (j % 6) NT.zero hq Zo;rw [show j / 6 * 6+j % 6=j by omega] at hf;rw [hf,Array.getElem?_map,Array.getElem?_range,if_pos hj];(have h6 : j % 6<6:=by omega);have hsz : (Value.agg #[.bool false,.int .i64 0,.slice none 0 0,.int .i64 0,.slice none 0 0,.int .i64 0]).cells.size=6:=rfl;simp only [Option.map_some,hsz];generalize j % 6=t at h6
   match t,h6 with
   | 0,_=>rfl
   | 1,_=>rfl
   | 2,_=>rfl
   | 3,_=>rfl
   | 4,_=>rfl
   | 5,_=>rfl
  ·rw [Array.getElem?_eq_none (by simpa using hj),List.getElem?_eq_none (by rw [flat_len NT.enc_k,List.length_replicate]; exact hj)]
 rw [h,hsize];simp only [Int.toNat_natCast,hc]
structure VR (w w1 : World) (e : PT) : Prop where
  bel : Below w.heap.size w w1
  bE : Blk w1 w.heap.size 25 e.enc.toArray
  bR : Blk w1 (w.heap.size+1) 36 Zf
theorem VR.later {w w1 w2 : World} {e : PT} (h : VR w w1 e) (hb : Below w1.heap.size w1 w2) : VR w w2 e :=
 ⟨h.bel.trans (hb.mono h.bel.size),h.bE.later hb,h.bR.later hb⟩
theorem vr_make (w : World) (e : PT) : VR w ((w.alloc (.cells e.enc.toArray 25)).alloc (.cells Zf 36)) e :=
 ⟨qbl,(Blk.new _ _ _).alloc _,Blk.new' Zs⟩
section
variable {L : List LT} {e : PT} {T M : List FT}
theorem ev_no1 (h : rexp e=false) : evalF L e T M=FrR.bad 1:=evalF_arg (fun h'=>by rw [h] at h'; exact absurd h'.1 (by decide))
theorem ev_no2 (h : 20<(L.length : Int)) : evalF L e T M=FrR.bad 1:=evalF_arg (fun h'=>by have:=h'.2.1; omega)
theorem ev_no3 (h : factsB T=false) : evalF L e T M=FrR.bad 1:=evalF_arg (fun h'=>by have:=h'.2.2.2.1; rw [h] at this; cases this)
theorem ev_no4 (h : factsB M=false) : evalF L e T M=FrR.bad 1:=evalF_arg (fun h'=>by have:=h'.2.2.2.2; rw [h] at this; cases this)
theorem ev_no5 {x : LT} (hx : x ∈ L) (h : rexp x.b=false) : evalF L e T M=FrR.bad 1:=evalF_arg (fun h'=>by have h3:=h'.2.2.1; rw [all_no hx h] at h3; cases h3)
end
theorem ret_val0 {x : Value} {e : Int} (h : e=0) : Ending.returned (.tuple #[x,.int .i64 0]) = .returned (.tuple #[x,.int .i64 e]):=by rw [h]
theorem below_sta {w w' : World} {x y z v : Value} {o : Obj} (h : Below w.heap.size w w') : Below w.heap.size w (((((w'.setCell ⟨w.heap.size+1,0,none⟩ x).setCell ⟨w.heap.size+1,1,none⟩ y).setCell ⟨w.heap.size+1,2,none⟩ z).setCell ⟨w.heap.size+1,3,none⟩ v).alloc o) :=
 (below_st4 h).alloc (by have:=h.size; simpa using this) _
theorem r32_Value (L : Sl LT) (e : PT) (T M : Sl FT) (w : World) (hL : LetsAt (· < w.heap.size) w L) (he : PT.At (· < w.heap.size) w e) (hT : FactsAt (· < w.heap.size) w T) (hM : FactsAt (· < w.heap.size) w M) : Calls Tryz.prog 12 #[.slice L.A L.l.length L.c,e.v,.slice T.A T.l.length T.c,.slice M.A M.l.length M.c] w fun r w'=>ValP w w' (evalF L.l e T.l M.l) r:=by
 have HL:=Zh hL;have HE:=Zh he;have HT:=Zh hT;have HM:=Zh hM;have hln:=hL.rd.len;clear hL he hT hM;obtain ⟨V,hV⟩ : ∃ V,evalF L.l e T.l M.l=V:=⟨_,rfl⟩;have HV:=Zh hV;rw [hV];clear hV;obtain ⟨LA,Lc,L⟩:=L;obtain ⟨xo,xm,xu,xs,xA,xc,xl⟩:=e;have HRX:=Zh (fun w2 (h : PT.At (· < w2.heap.size) w2 ⟨xo,xm,xu,xs,xA,xc,xl⟩)=>r30_rexp ⟨xo,xm,xu,xs,xA,xc,xl⟩ w2 h);simp only at HL HV hln;have HB1:=Zh (vr_make w ⟨xo,xm,xu,xs,xA,xc,xl⟩);simp only [PT.v,PT.enc] at HB1 HRX ⊢;go_enter Tryz.func12,Tryz.ntmps12;go_wp2_with fail;generalize (w.alloc (.cells #[.int .i64 xo,.int .i64 xm,.int .i64 xu,.string xs,.slice xA xl.length xc] 25)).alloc (.cells Zf 36)=w1 at *;refine (HRX.out _ (HE.out.later HB1.out.bel)).mono ?_;rintro e w2 ⟨rfl,hb2⟩;have HB2:=Zh (HB1.out.later hb2);clear hb2 HB1 HRX;obtain ⟨t1,ht1⟩ : ∃ t,rexp ⟨xo,xm,xu,xs,xA,xc,xl⟩=t:=⟨_,rfl⟩;rw [ht1];rcases t1
 ·skip;have HFF:=Zh ((ev_no1 ht1 : evalF L ⟨xo,xm,xu,xs,xA,xc,xl⟩ T.l M.l=FrR.bad 1).symm.trans HV.out);obtain ⟨r0,r1,r2,r3,rf,rz⟩:=HB2.out.bR.b4;go_wp2_with fail;refine bodyPost_ret (v:=.tuple #[.agg Zf,.int .i64 1]) ?_ rfl (ValP.cast HFF.out.symm ⟨Frc.zero,rfl,fun h=>absurd h (by decide),fun _=>rfl,below_st4 HB2.out.bel⟩);simp [results,Tryz.results12,go_sem,r0,r1,r2,r3,rz]
 have HR:=Zh ht1;clear ht1;by_cases h20 : 20<(L.length : Int)
 ·have hd : decide (20<(L.length : Int))=true:=decide_eq_true h20;have HFF:=Zh ((ev_no2 h20 : evalF L ⟨xo,xm,xu,xs,xA,xc,xl⟩ T.l M.l=FrR.bad 1).symm.trans HV.out);obtain ⟨r0,r1,r2,r3,rf,rz⟩:=HB2.out.bR.b4;go_wp2_with fail;refine bodyPost_ret (v:=.tuple #[.agg Zf,.int .i64 1]) ?_ rfl (ValP.cast HFF.out.symm ⟨Frc.zero,rfl,fun h=>absurd h (by decide),fun _=>rfl,below_st4 HB2.out.bel⟩);simp [results,Tryz.results12,go_sem,r0,r1,r2,r3,rz]
 have hd : decide (20<(L.length : Int))=false:=decide_eq_false h20;go_wp2_with fail;refine (r32_Facts T _ (HT.out.later HB2.out.bel)).mono ?_;rintro e w3 ⟨rfl,hb3⟩;have HB3:=Zh (HB2.out.later hb3);clear hb3 HB2;obtain ⟨t2,ht2⟩ : ∃ t,factsB T.l=t:=⟨_,rfl⟩;rw [ht2];rcases t2
 ·skip;have HFF:=Zh ((ev_no3 ht2 : evalF L ⟨xo,xm,xu,xs,xA,xc,xl⟩ T.l M.l=FrR.bad 1).symm.trans HV.out);obtain ⟨r0,r1,r2,r3,rf,rz⟩:=HB3.out.bR.b4;go_wp2_with fail;refine bodyPost_ret (v:=.tuple #[.agg Zf,.int .i64 1]) ?_ rfl (ValP.cast HFF.out.symm ⟨Frc.zero,rfl,fun h=>absurd h (by decide),fun _=>rfl,below_st4 HB3.out.bel⟩);simp [results,Tryz.results12,go_sem,r0,r1,r2,r3,rz]
 have HT2:=Zh ht2;clear ht2;go_wp2_with fail;refine (r32_Facts M _ (HM.out.later HB3.out.bel)).mono ?_;rintro e w4 ⟨rfl,hb4⟩;have HB4:=Zh (HB3.out.later hb4);clear hb4 HB3;obtain ⟨t3,ht3⟩ : ∃ t,factsB M.l=t:=⟨_,rfl⟩;rw [ht3];rcases t3
 ·skip;have HFF:=Zh ((ev_no4 ht3 : evalF L ⟨xo,xm,xu,xs,xA,xc,xl⟩ T.l M.l=FrR.bad 1).symm.trans HV.out);obtain ⟨r0,r1,r2,r3,rf,rz⟩:=HB4.out.bR.b4;go_wp2_with fail;refine bodyPost_ret (v:=.tuple #[.agg Zf,.int .i64 1]) ?_ rfl (ValP.cast HFF.out.symm ⟨Frc.zero,rfl,fun h=>absurd h (by decide),fun _=>rfl,below_st4 HB4.out.bel⟩);simp [results,Tryz.results12,go_sem,r0,r1,r2,r3,rz]
 have HM2:=Zh ht3;clear ht3;go_wp2_with fail;go_loopw [10] (fun i wr=>∃ (j : Nat),j≤L.length∧i = .int .i64 j∧Below w4.heap.size w4 wr∧Hid ((L.take j).all (fun x=>rexp x.b)=true)) (fun i _=>L.length - (intOf i).toNat)
 case atStart=>exact ⟨0,by omega,rfl,Below.refl _ _,Zh rfl⟩
 case round =>
  obtain ⟨j,hj,rfl,hbel,HG⟩:=hrel;have HBR:=Zh (HB4.out.later hbel);by_cases hlt : j<L.length
  ·obtain ⟨b,q,hA,hbl,hcl⟩:=HL.out.rd.at1 hlt;have HX:=Zh (HL.out.all _ (List.getElem_mem hlt));have HMX:=Zh (List.getElem_mem hlt);simp only at hA hcl HX;subst hA;have HTK : Hid (L.take (j+1)=L.take j ++ [L[j]]):=Zh (by rw [List.take_succ_eq_append_getElem hlt]);generalize L[j]=x at *;obtain ⟨yn,yo,ym,yu,ys,yA,yc,yl⟩:=x;obtain ⟨g0,g1,g2,g3,g4,g5⟩:=Cells.c6 (hcl.keep (HBR.out.bel.block b hbl));have hbw : b<wr.heap.size:=Nat.lt_of_lt_of_le hbl HBR.out.bel.size;go_wp2_with fail;refine (r30_rexp ⟨yo,ym,yu,ys,yA,yc,yl⟩ _ (HX.out.b.later HBR.out.bel)).mono ?_;rintro e w5 ⟨rfl,hb5⟩;have HB5 : Hid (Below w4.heap.size w4 w5):=Zh (hbel.trans (hb5.mono hbel.size));have HV5:=Zh (HBR.out.later hb5);clear hb5 g0 g1 g2 g3 g4 g5 hcl hbel HBR;obtain ⟨r,hr⟩ : ∃ r,rexp ⟨yo,ym,yu,ys,yA,yc,yl⟩=r:=⟨_,rfl⟩;rw [hr];rcases r
   ·skip;have HFF:=Zh ((ev_no5 HMX.out hr : evalF L ⟨xo,xm,xu,xs,xA,xc,xl⟩ T.l M.l=FrR.bad 1).symm.trans HV.out);obtain ⟨r0,r1,r2,r3,rf,rz⟩:=HV5.out.bR.b4;go_wp2_with fail;refine bodyPost_ret (v:=.tuple #[.agg Zf,.int .i64 1]) ?_ rfl (ValP.cast HFF.out.symm ⟨Frc.zero,rfl,fun h=>absurd h (by decide),fun _=>rfl,below_st4 HV5.out.bel⟩);simp [results,Tryz.results12,go_sem,r0,r1,r2,r3,rz]
   ·have HG2 : Hid ((L.take (j+1)).all (fun x=>rexp x.b)=true):=Zh (by rw [HTK.out,List.all_append,HG.out]; simp [hr]);clear hr;go_wp2_with fail;go_roundw
    case rel=>exact ⟨j+1,by omega,by go_num,HB5.out,HG2⟩
    case measure=>simp [intOf]; omega
  ·have hkl : L.take j=L:=List.take_of_length_le Zo;have hga:=HG.out;rw [hkl] at hga;have hvv:=HV.out;rw [evalF_ok ⟨HR.out,by omega,hga,HT2.out,HM2.out⟩] at hvv;have HVV:=Zh hvv;have HALL : Hid (∀ x,x ∈ L→okE 12 x.b=true):=Zh (List.all_eq_true.1 hga);have hmk:=make_notes L.length Zo;obtain ⟨a0,a1,a2,a3,a4,af,az⟩:=HBR.out.bE.b5;clear HG HV hga hkl hvv HB4 hbel;have hrz:=HBR.out.bR.lt;go_wp2_with fail;obtain ⟨X,hX⟩ : ∃ X : Nat→Prop,X=fun b=>b=w.heap.size+1∨b=wr.heap.size:=⟨_,rfl⟩;(have hgx : ∀ b,X b→w.heap.size≤b:=fun b hb=>by rw [hX] at hb; omega);(have hlx : ∀ b,X b→b<wr.heap.size+1+1:=fun b hb=>by rw [hX] at hb; omega);(have hxr : X (w.heap.size+1):=by rw [hX]; exact .inl rfl);(have hxm : X wr.heap.size:=by rw [hX]; exact .inr rfl);have HB6 : Hid (VR w ((wr.alloc (.cells ((List.replicate L.length NT.zero).flatMap NT.enc).toArray 150)).alloc (.cells #[.slice LA L.length Lc,.slice (some ⟨wr.heap.size,0,none⟩) L.length L.length,.slice T.A T.l.length T.c,.slice M.A M.l.length M.c] 79)) ⟨xo,xm,xu,xs,xA,xc,xl⟩):=Zh (HBR.out.later qbl)
   have HST : Hid (FkSt (wr.heap.size+1) wr.heap.size ⟨LA,Lc,L⟩ T M X (List.replicate L.length NT.zero) ((wr.alloc (.cells ((List.replicate L.length NT.zero).flatMap NT.enc).toArray 150)).alloc (.cells #[.slice LA L.length Lc,.slice (some ⟨wr.heap.size,0,none⟩) L.length L.length,.slice T.A T.l.length T.c,.slice M.A M.l.length M.c] 79))):=Lib.hid
    ⟨Blk.new' Zs,(Blk.new _ _ _).alloc _,by simp,HL.out.keep (fun b hb=>HB6.out.bel.block b hb) (fun b hb=>⟨by simp; omega,fun hx=>by have:=hgx b hx; omega⟩),HT.out.keep (fun b hb=>HB6.out.bel.block b hb) (fun b hb=>⟨by simp; omega,fun hx=>by have:=hgx b hx; omega⟩),HM.out.keep (fun b hb=>HB6.out.bel.block b hb) (fun b hb=>⟨by simp; omega,fun hx=>by have:=hgx b hx; omega⟩),(fun j x hx hk=>by
     rw [List.getElem?_replicate] at hx;split at hx
     ·injection hx with hx;subst hx;cases hk
     ·cases hx),by omega,hxm,(fun b hb=>by have:=hlx b hb; simpa using this)⟩
   have HEX : Hid (PT.At (Nm X ((wr.alloc (.cells ((List.replicate L.length NT.zero).flatMap NT.enc).toArray 150)).alloc (.cells #[.slice LA L.length Lc,.slice (some ⟨wr.heap.size,0,none⟩) L.length L.length,.slice T.A T.l.length T.c,.slice M.A M.l.length M.c] 79))) ((wr.alloc (.cells ((List.replicate L.length NT.zero).flatMap NT.enc).toArray 150)).alloc (.cells #[.slice LA L.length Lc,.slice (some ⟨wr.heap.size,0,none⟩) L.length L.length,.slice T.A T.l.length T.c,.slice M.A M.l.length M.c] 79)) ⟨xo,xm,xu,xs,xA,xc,xl⟩):=Zh (HE.out.keep (fun b hb=>HB6.out.bel.block b hb) (fun b hb=>⟨by simp; omega,fun hx=>by have:=hgx b hx; omega⟩));have hcall:=k_value (wr.heap.size+1) wr.heap.size ⟨LA,Lc,L⟩ T M HALL.out (facts_i64 HT2.out) (facts_i64 HM2.out) L.length Zl 12 ⟨xo,xm,xu,xs,xA,xc,xl⟩ X _ _ HR.out HEX.out HST.out;rw [HVV.out] at hcall;simp only [PT.v] at hcall;clear HST HEX a0 a1 a2 a3 a4 af az hmk HR HT2 HM2 HBR HVV HALL;generalize (wr.alloc (.cells ((List.replicate L.length NT.zero).flatMap NT.enc).toArray 150)).alloc (.cells #[.slice LA L.length Lc,.slice (some ⟨wr.heap.size,0,none⟩) L.length L.length,.slice T.A T.l.length T.c,.slice M.A M.l.length M.c] 79)=w6 at *;refine hcall.mono ?_;clear hcall;rintro e w7 ⟨⟨f,rfl,hf⟩,⟨N7,hst⟩,hg⟩;(have hrm : w.heap.size+1≠wr.heap.size:=by omega);have HB7 : Hid (Below w.heap.size w w7):=Zh (HB6.out.bel.trans (grown_below hg HB6.out.bel.size Zo));have HR7:=Zh (HB6.out.bR.gm hg hrm);have HF:=Zh hf;clear hg hst hf HB6;simp only [Frc.v];by_cases h0 : V.e=0
   ·have HB8 : Hid (Below w.heap.size w (w7.alloc (.cells (Zc f) 36))):=Zh (HB7.out.alloc HB7.out.size _);have HF8 : Hid (RG (Nm X (w7.alloc (.cells (Zc f) 36))) (w7.alloc (.cells (Zc f) 36)) f V.p V.q):=Zh ((HF.out h0).more qbl (Mor.refl _ _ _));have HR8:=Zh (HR7.out.alloc (.cells (Zc f) 36));have HZ8:=Zh (Blk.new w7 36 (Zc f));have H0:=Zh h0;rw [h0];clear h0 HF HB7 HR7;go_upto_if 64 with fail;generalize w7.alloc (.cells _ 36)=w8 at *;generalize w7.heap.size=gz at *;obtain ⟨r0,r1,r2,r3,rf,rz⟩:=HR8.out.b4;obtain ⟨z0,z1,z2,z3,zf,zz⟩:=HZ8.out.b4;go_wp2_with fail;have hf9:=HF8.out.stX (X:=X) (x:=.int .i64 f.p.s) (y:=.slice f.p.l.A f.p.l.l.length f.p.l.c) (z:=.int .i64 f.q.s) (v:=.slice f.q.l.A f.q.l.l.length f.q.l.c) hxr (fun _ h=>h);refine bodyPost_ret (v:=.tuple #[.agg #[.int .i64 f.p.s,.slice f.p.l.A f.p.l.l.length f.p.l.c,.int .i64 f.q.s,.slice f.q.l.A f.q.l.l.length f.q.l.c],.int .i64 0]) ?_ rfl ⟨f,ret_val0 H0.out,fun _=>hf9.mono (fun b hb=>hb.1),fun h=>absurd H0.out h,below_st4 HB8.out⟩;simp [results,Tryz.results12,go_sem,r0,r1,r2,r3,rz]
   ·have hne : (V.e != 0)=true:=bne_iff_ne.2 h0;obtain ⟨r0,r1,r2,r3,rf,rz⟩:=HR7.out.b4;(have lz : w.heap.size+1<w7.heap.size+1:=by omega);clear h0 HF;go_wp2_with fail;refine bodyPost_ret (v:=.tuple #[.agg Zf,.int .i64 V.e]) ?_ rfl ⟨Frc.zero,rfl,fun h=>absurd h (bne_iff_ne.1 hne),fun _=>rfl,below_sta HB7.out⟩;simp [results,Tryz.results12,go_sem,r0,r1,r2,r3,rz,lz]
theorem intR_yes {x : Int} (h0 : -9223372036854775808≤x) (h1 : x≤9223372036854775807) : intR x=(x,true):=by unfold intR; rw [if_pos ⟨h0,h1⟩]
theorem intR_no {x : Int} (h1 : ¬ x≤9223372036854775807) : intR x=(0,false):=by unfold intR; rw [if_neg (fun h=>h1 h.2)]
theorem whole_ge {p q : Int} (hq : 0<q) (h : 1000000000000001 * q≤p) : 1000000000000001≤p / q:=(Int.le_ediv_iff_mul_le hq).2 h
theorem whole_le {p q : Int} (hq : 0<q) (h : ¬ 1000000000000001 * q≤p) : p / q≤1000000000000000:=by
 have:=Int.ediv_lt_of_lt_mul hq (Int.not_le.1 h);omega
theorem floor_fits {p q : Int} (h : FracOK p q) (h0 : 0≤p) : Fits (p / q):=fits_le h.fp (by
 have h1 : 0≤p / q:=Int.ediv_nonneg h0 (by have:=h.pos; omega)
 have h2 : p / q≤p:=Int.ediv_le_self q h0
 omega)
theorem r32_Whole (L : Sl LT) (e : PT) (T M : Sl FT) (w : World) (hL : LetsAt (· < w.heap.size) w L) (he : PT.At (· < w.heap.size) w e) (hT : FactsAt (· < w.heap.size) w T) (hM : FactsAt (· < w.heap.size) w M) : Calls Tryz.prog 14 #[.slice L.A L.l.length L.c,e.v,.slice T.A T.l.length T.c,.slice M.A M.l.length M.c] w fun r w'=>r = .returned (.tuple #[.int .i64 (whF (evalF L.l e T.l M.l)).1,.int .i64 (whF (evalF L.l e T.l M.l)).2])∧Below w.heap.size w w':=by
 have hbb : Below w.heap.size w (w.alloc (.cells e.enc.toArray 25)):=qbl;have hcall:=r32_Value L e T M _ (hL.later hbb) (he.later hbb) (hT.later hbb) (hM.later hbb);obtain ⟨V,hV⟩ : ∃ V,evalF L.l e T.l M.l=V:=⟨_,rfl⟩;rw [hV] at hcall ⊢;have HBB:=Zh hbb;clear hL he hT hM hV hbb;obtain ⟨LA,Lc,L⟩:=L;obtain ⟨xo,xm,xu,xs,xA,xc,xl⟩:=e;simp only [PT.v,PT.enc] at hcall HBB ⊢;go_enter Tryz.func14,Tryz.ntmps14;go_wp2_with fail;refine hcall.mono ?_;clear hcall;rintro e w2 ⟨f,rfl,hok,hno,hb2⟩;have HB2:=Zt HBB hb2;clear hb2 HBB hno;simp only [Frc.v];by_cases h0 : V.e=0
 ·have HF:=Zh (hok h0);have H0:=Zh h0;rw [h0];clear hok h0;have hsg:=HF.out.dp.1;by_cases hneg : V.p<0
  ·have HW:=Zh (whF_neg H0.out hneg);(have hs1 : f.p.s<0:=by rw [hsg,Int.sign_eq_neg_one_of_neg hneg]; decide);clear hsg;go_wp2_with fail;refine bodyPost_ret (v:=.tuple #[.int .i64 0,.int .i64 0]) ?_ rfl ⟨by rw [HW.out],HB2.out.alloc HB2.out.size _⟩;simp [results,Tryz.results14,go_sem,]
  ·have hs1 : ¬ f.p.s<0:=by
    rw [hsg];rcases Int.lt_or_le 0 V.p with h | h
    ·rw [Int.sign_eq_one_of_pos h]; decide
    ·(have : V.p=0:=by omega);rw [this]; decide
   have HNG : Hid (0≤V.p):=Zh Zo;clear hsg hneg;go_upto_if 28 with fail;have HB3 : Hid (Below w.heap.size w (w2.alloc (.cells (Zc f) 36))):=Zh (HB2.out.alloc HB2.out.size _);have HF3 : Hid (RG (· < (w2.alloc (.cells (Zc f) 36)).heap.size) (w2.alloc (.cells (Zc f) 36)) f V.p V.q):=Zh (HF.out.lat qbl);have HBF:=Zh (Blk.new w2 36 (Zc f));generalize w2.alloc (.cells _ 36)=w3 at *;generalize w2.heap.size=gf at *;obtain ⟨g0,g1,g2,g3,gg,gz⟩:=HBF.out.b4;go_wp2_with fail;refine (r05_Floor f V.p V.q w3 (HF3.out.rf (fun _ h=>h))).mono ?_;rintro e w6 ⟨a,rfl,hd,hr6,hb6⟩;have HB6:=Zt HB3 hb6;have HA6 : Hid (RB w6 a (V.p / V.q)):=Zh (RB.mk' hr6.nwlt hd (floor_fits HF.out.ok HNG.out));have hq0:=HF3.out.ok.pos;have HQ:=Zh hq0;clear hd hr6 hb6 HF3 HBF g0 g1 g2 g3 gg gz hq0 HF;obtain ⟨Z,hZ⟩ : ∃ Z,V.p / V.q=Z:=⟨_,rfl⟩;have HZ:=Zh hZ;rw [hZ] at HA6;clear hZ;have hcall:=r04_Int a Z w6 HA6.out;simp only [Big.v] at hcall ⊢;go_wp2_with fail;refine hcall.mono ?_;clear hcall;rintro e w7 ⟨rfl,hb7⟩;have HB7:=Zt HB6 hb7;clear hb7 HA6 HB6 HB3 HB2;by_cases hc : 1000000000000001 * V.q≤V.p
   ·have HW:=Zh (whF_big H0.out HNG.out hc);have hge:=whole_ge HQ.out hc;rw [HZ.out] at hge;by_cases h64 : Z≤9223372036854775807
    ·rw [intR_yes Zo h64];have hd1 : decide (1000000000000000<Z)=true:=decide_eq_true Zo;clear hc hge h64;go_wp2_with fail;refine bodyPost_ret (v:=.tuple #[.int .i64 0,.int .i64 3]) ?_ rfl ⟨by rw [HW.out],HB7.out⟩;simp [results,Tryz.results14,go_sem,]
    ·rw [intR_no h64];clear hc hge h64;go_wp2_with fail;refine bodyPost_ret (v:=.tuple #[.int .i64 0,.int .i64 3]) ?_ rfl ⟨by rw [HW.out],HB7.out⟩;simp [results,Tryz.results14,go_sem,]
   ·have HW:=Zh (whF_ok H0.out HNG.out hc);have hle:=whole_le HQ.out hc;rw [HZ.out] at hle HW;(have h00 : 0≤Z:=by rw [← HZ.out]; exact Int.ediv_nonneg HNG.out (by have:=HQ.out; omega));rw [intR_yes Zo Zo];have hd1 : decide (1000000000000000<Z)=false:=decide_eq_false Zo;clear hc hle h00;go_wp2_with fail;refine bodyPost_ret (v:=.tuple #[.int .i64 Z,.int .i64 0]) ?_ rfl ⟨by rw [HW.out],HB7.out⟩;simp [results,Tryz.results14,go_sem,]
 ·have HW:=Zh (whF_err h0);have hne : (V.e != 0)=true:=bne_iff_ne.2 h0;clear hok h0;go_wp2_with fail;refine bodyPost_ret (v:=.tuple #[.int .i64 0,.int .i64 V.e]) ?_ rfl ⟨by rw [HW.out],HB2.out.alloc HB2.out.size _⟩;simp [results,Tryz.results14,go_sem,]
end Go.Proofs.YtcgocdhhneckhaaGreatDoor
