/- Walks of tonneauref30: right at names and operations, RightExp. -/
import Derived.Test.YtcgocdhhneckhaaGreatFtelmxbo
set_option maxRecDepth 100000
set_option maxHeartbeats 6400000
namespace Go.Proofs.YtcgocdhhneckhaaGreat
open Go.RowKit
theorem op_tests {o : Int} (h4 : 4≤o) (h16 : o<16) (h12 : ¬ o=12) (h15 : ¬ o=15) : (o == 0)=false∧(o == 1)=false∧(o == 2)=false∧(o == 3)=false∧(o == 12)=false∧(o == 15)=false∧decide (o<0)=false∧decide (16≤o)=false∧(o != 0)=true :=
 ⟨beq_eq_false_iff_ne.2 Zo,beq_eq_false_iff_ne.2 Zo,beq_eq_false_iff_ne.2 Zo,beq_eq_false_iff_ne.2 Zo,beq_eq_false_iff_ne.2 h12,beq_eq_false_iff_ne.2 h15,decide_eq_false Zo,decide_eq_false Zo,bne_iff_ne.2 Zo⟩
theorem r30_right_nm1 (k : Nat) (n u : Int) (s : ByteArray) (A : Option Addr) (c : Nat) (l : List PT) (w : World) (he : PT.At (· < w.heap.size) w ⟨1,n,u,s,A,c,l⟩) : Calls Tryz.prog 73 #[PT.v ⟨1,n,u,s,A,c,l⟩,.int .i64 ((k : Int)+1)] w fun r w'=>r = .returned (.bool (okE (k+1) ⟨1,n,u,s,A,c,l⟩))∧Below w.heap.size w w':=by
 have hlen:=he.rd.len;have hstr:=he.str;simp only [PT.a,PT.s] at hlen hstr;simp only [PT.v];have hkd : decide ((k : Int)+1<1)=false:=decide_eq_false Zo;clear he;obtain ⟨V,hVV⟩ : ∃ V,okE (k+1) ⟨1,n,u,s,A,c,l⟩=V:=⟨_,rfl⟩;rw [hVV];by_cases hl : l.length=0
 ·have hlb : ((l.length : Int) == 0)=true:=beq_iff_eq.2 Zo;have HN : Hid ((bothZ n u && nameB s)=V):=Zh (by rw [← hVV]; exact okE_name (by rw [hl]; rfl) (by decide) (by decide));clear hVV;by_cases hu : u=0
  ·have hub : (u == 0)=true:=beq_iff_eq.2 hu;by_cases hn : n=0
   ·have hnb : (n == 0)=true:=beq_iff_eq.2 hn;have HV : Hid (nameB s=V):=Zh (by rw [← HN.out,hu,hn]; rfl);have HNM:=Zh (fun w2=>r30_Name s w2 hstr);clear HN hub hnb;subst hu;subst hn;go_enter Tryz.func73,Tryz.ntmps73;go_wp2_with fail;refine (HNM.out _).mono ?_;rintro e w' ⟨rfl,hb⟩;have HB : Hid (Below w.heap.size w w'):=Zh qbv;clear hb;obtain ⟨r,hr⟩ : ∃ r,nameB s=r:=⟨_,rfl⟩;rw [hr] at HV ⊢;clear hr;go_wp2_with fail;go_ret;exact ⟨ret_bool HV.out,HB.out⟩
   ·have hnb : (n == 0)=false:=beq_eq_false_iff_ne.2 hn;have HV : Hid (false=V):=Zh (by rw [← HN.out]; exact both_no1 hn);clear HN;go_enter Tryz.func73,Tryz.ntmps73;go_wp2_with fail;go_ret;exact ⟨ret_bool HV.out,qbl⟩
  ·have hub : (u == 0)=false:=beq_eq_false_iff_ne.2 hu;have HV : Hid (false=V):=Zh (by rw [← HN.out]; exact both_no2 hu);clear HN;go_enter Tryz.func73,Tryz.ntmps73;go_wp2_with fail;go_ret;exact ⟨ret_bool HV.out,qbl⟩
 ·have HV : Hid (false=V):=Zh (by rw [← hVV]; exact okE_len (by rw [show opsN 1=0 from rfl]; omega));have hlb : ((l.length : Int) == 0)=false:=beq_eq_false_iff_ne.2 Zo;clear hVV;go_enter Tryz.func73,Tryz.ntmps73;go_wp2_with fail;go_ret;exact ⟨ret_bool HV.out,qbl⟩
theorem r30_right_nm2 (k : Nat) (n u : Int) (s : ByteArray) (A : Option Addr) (c : Nat) (l : List PT) (w : World) (he : PT.At (· < w.heap.size) w ⟨2,n,u,s,A,c,l⟩) : Calls Tryz.prog 73 #[PT.v ⟨2,n,u,s,A,c,l⟩,.int .i64 ((k : Int)+1)] w fun r w'=>r = .returned (.bool (okE (k+1) ⟨2,n,u,s,A,c,l⟩))∧Below w.heap.size w w':=by
 have hlen:=he.rd.len;have hstr:=he.str;simp only [PT.a,PT.s] at hlen hstr;simp only [PT.v];have hkd : decide ((k : Int)+1<1)=false:=decide_eq_false Zo;clear he;obtain ⟨V,hVV⟩ : ∃ V,okE (k+1) ⟨2,n,u,s,A,c,l⟩=V:=⟨_,rfl⟩;rw [hVV];by_cases hl : l.length=0
 ·have hlb : ((l.length : Int) == 0)=true:=beq_iff_eq.2 Zo;have HN : Hid ((bothZ n u && nameB s)=V):=Zh (by rw [← hVV]; exact okE_name (by rw [hl]; rfl) (by decide) (by decide));clear hVV;by_cases hu : u=0
  ·have hub : (u == 0)=true:=beq_iff_eq.2 hu;by_cases hn : n=0
   ·have hnb : (n == 0)=true:=beq_iff_eq.2 hn;have HV : Hid (nameB s=V):=Zh (by rw [← HN.out,hu,hn]; rfl);have HNM:=Zh (fun w2=>r30_Name s w2 hstr);clear HN hub hnb;subst hu;subst hn;go_enter Tryz.func73,Tryz.ntmps73;go_wp2_with fail;refine (HNM.out _).mono ?_;rintro e w' ⟨rfl,hb⟩;have HB : Hid (Below w.heap.size w w'):=Zh qbv;clear hb;obtain ⟨r,hr⟩ : ∃ r,nameB s=r:=⟨_,rfl⟩;rw [hr] at HV ⊢;clear hr;go_wp2_with fail;go_ret;exact ⟨ret_bool HV.out,HB.out⟩
   ·have hnb : (n == 0)=false:=beq_eq_false_iff_ne.2 hn;have HV : Hid (false=V):=Zh (by rw [← HN.out]; exact both_no1 hn);clear HN;go_enter Tryz.func73,Tryz.ntmps73;go_wp2_with fail;go_ret;exact ⟨ret_bool HV.out,qbl⟩
  ·have hub : (u == 0)=false:=beq_eq_false_iff_ne.2 hu;have HV : Hid (false=V):=Zh (by rw [← HN.out]; exact both_no2 hu);clear HN;go_enter Tryz.func73,Tryz.ntmps73;go_wp2_with fail;go_ret;exact ⟨ret_bool HV.out,qbl⟩
 ·have HV : Hid (false=V):=Zh (by rw [← hVV]; exact okE_len (by rw [show opsN 2=0 from rfl]; omega));have hlb : ((l.length : Int) == 0)=false:=beq_eq_false_iff_ne.2 Zo;clear hVV;go_enter Tryz.func73,Tryz.ntmps73;go_wp2_with fail;go_ret;exact ⟨ret_bool HV.out,qbl⟩
theorem r30_right_nm3 (k : Nat) (n u : Int) (s : ByteArray) (A : Option Addr) (c : Nat) (l : List PT) (w : World) (he : PT.At (· < w.heap.size) w ⟨3,n,u,s,A,c,l⟩) : Calls Tryz.prog 73 #[PT.v ⟨3,n,u,s,A,c,l⟩,.int .i64 ((k : Int)+1)] w fun r w'=>r = .returned (.bool (okE (k+1) ⟨3,n,u,s,A,c,l⟩))∧Below w.heap.size w w':=by
 have hlen:=he.rd.len;have hstr:=he.str;simp only [PT.a,PT.s] at hlen hstr;simp only [PT.v];have hkd : decide ((k : Int)+1<1)=false:=decide_eq_false Zo;clear he;obtain ⟨V,hVV⟩ : ∃ V,okE (k+1) ⟨3,n,u,s,A,c,l⟩=V:=⟨_,rfl⟩;rw [hVV];by_cases hl : l.length=0
 ·have hlb : ((l.length : Int) == 0)=true:=beq_iff_eq.2 Zo;have HN : Hid ((bothZ n u && nameB s)=V):=Zh (by rw [← hVV]; exact okE_name (by rw [hl]; rfl) (by decide) (by decide));clear hVV;by_cases hu : u=0
  ·have hub : (u == 0)=true:=beq_iff_eq.2 hu;by_cases hn : n=0
   ·have hnb : (n == 0)=true:=beq_iff_eq.2 hn;have HV : Hid (nameB s=V):=Zh (by rw [← HN.out,hu,hn]; rfl);have HNM:=Zh (fun w2=>r30_Name s w2 hstr);clear HN hub hnb;subst hu;subst hn;go_enter Tryz.func73,Tryz.ntmps73;go_wp2_with fail;refine (HNM.out _).mono ?_;rintro e w' ⟨rfl,hb⟩;have HB : Hid (Below w.heap.size w w'):=Zh qbv;clear hb;obtain ⟨r,hr⟩ : ∃ r,nameB s=r:=⟨_,rfl⟩;rw [hr] at HV ⊢;clear hr;go_wp2_with fail;go_ret;exact ⟨ret_bool HV.out,HB.out⟩
   ·have hnb : (n == 0)=false:=beq_eq_false_iff_ne.2 hn;have HV : Hid (false=V):=Zh (by rw [← HN.out]; exact both_no1 hn);clear HN;go_enter Tryz.func73,Tryz.ntmps73;go_wp2_with fail;go_ret;exact ⟨ret_bool HV.out,qbl⟩
  ·have hub : (u == 0)=false:=beq_eq_false_iff_ne.2 hu;have HV : Hid (false=V):=Zh (by rw [← HN.out]; exact both_no2 hu);clear HN;go_enter Tryz.func73,Tryz.ntmps73;go_wp2_with fail;go_ret;exact ⟨ret_bool HV.out,qbl⟩
 ·have HV : Hid (false=V):=Zh (by rw [← hVV]; exact okE_len (by rw [show opsN 3=0 from rfl]; omega));have hlb : ((l.length : Int) == 0)=false:=beq_eq_false_iff_ne.2 Zo;clear hVV;go_enter Tryz.func73,Tryz.ntmps73;go_wp2_with fail;go_ret;exact ⟨ret_bool HV.out,qbl⟩
theorem r30_right_op12 (k : Nat) (hk : k≤1000) (ih : RxP k)  (n u : Int) (s : ByteArray) (A : Option Addr) (c : Nat) (l : List PT) (w : World) (he : PT.At (· < w.heap.size) w ⟨12,n,u,s,A,c,l⟩) : Calls Tryz.prog 73 #[PT.v ⟨12,n,u,s,A,c,l⟩,.int .i64 ((k : Int)+1)] w fun r w'=>r = .returned (.bool (okE (k+1) ⟨12,n,u,s,A,c,l⟩))∧Below w.heap.size w w':=by
 have hlen:=he.rd.len;simp only [PT.a] at hlen;have HE:=Zh he;have IH:=Zh ih;simp only [PT.v];have hkd : decide ((k : Int)+1<1)=false:=decide_eq_false Zo;skip;clear he ih;obtain ⟨V,hVV⟩ : ∃ V,okE (k+1) ⟨12,n,u,s,A,c,l⟩=V:=⟨_,rfl⟩;rw [hVV];have HOP : Hid (opsN 12=1):=Zh ((rfl : opsN 12=1));by_cases hl : l.length=1
 ·have hlb : ((l.length : Int) == 1)=true:=beq_iff_eq.2 Zo;have HN : Hid ((bothZ n u && (empB s && l.all (okE k)))=V):=Zh (by rw [← hVV]; exact okE_rest (by rw [HOP.out,hl]; rfl) (by decide) (by decide));clear hVV HOP;by_cases hu : u=0
  ·have hub : (u == 0)=true:=beq_iff_eq.2 hu;by_cases hn : n=0
   ·have hnb : (n == 0)=true:=beq_iff_eq.2 hn;have HN2 : Hid ((empB s && l.all (okE k))=V):=Zh (by rw [← HN.out,hu,hn]; rfl);have HLE:=Zh hl;(have hw : IntKind.i64.wrap ((k : Int)+1 - 1)=(k : Int):=by rw [IntKind.wrap_i64]; omega);have HB1 : Hid (Below w.heap.size w (w.alloc (.cells #[.int .i64 12,.int .i64 n,.int .i64 u,.string s,.slice A l.length c] 25))):=Zh qbl;have HX1:=Zh (Blk.new w 25 #[.int .i64 12,.int .i64 n,.int .i64 u,.string s,.slice A l.length c]);clear HN hub hnb;subst hu;subst hn;have HW2 : Hid (w.alloc (.cells #[.int .i64 12,.int .i64 0,.int .i64 0,.string s,.slice A 1 c] 25)=w.alloc (.cells #[.int .i64 12,.int .i64 0,.int .i64 0,.string s,.slice A l.length c] 25)):=Zh (by rw [hl]);go_enter Tryz.func73,Tryz.ntmps73;go_wp2_with fail;rw [HW2.out];clear hl HW2;generalize w.alloc (.cells _ 25)=w1 at *;go_loopw [7] (fun i wr=>∃ (j : Nat),j≤l.length∧i = .int .i64 j∧Below w1.heap.size w1 wr∧Hid ((l.take j).all (okE k)=true)) (fun i _=>l.length - (intOf i).toNat)
    case atStart=>exact ⟨0,by omega,rfl,Below.refl _ _,Zh Zs⟩
    case round =>
     obtain ⟨j,hj,rfl,hbel,HT⟩:=hrel;have HBR:=Zt HB1 hbel;have HXR:=Zh (HX1.out.later hbel);obtain ⟨a0,a1,a2,a3,a4,af,az⟩:=HXR.out.b5;by_cases hlt : j<l.length
     ·have hEW:=HE.out.later HBR.out;obtain ⟨b,q,hA,hbl,hcl⟩:=hEW.rd.at1 hlt;have HX:=Zh (hEW.all _ (List.getElem_mem hlt))
      have HSTEP : Hid (okE k l[j]=true→(l.take (j+1)).all (okE k)=true):=Zh (fun h=>by
       rw [List.take_succ_eq_append_getElem hlt,List.all_append,HT.out]; simp [h])
      have HBAD : Hid (okE k l[j]=false→false=V):=Zh (fun h=>by
       rw [← HN2.out]
       have h1 : l.all (okE k)=false:=by
        rcases hx : l.all (okE k)
        ·rfl
        ·have:=List.all_eq_true.1 hx _ (List.getElem_mem hlt);rw [h] at this; cases this
       rw [h1,Bool.and_false])
      simp only [PT.a] at hA hcl HX;clear hEW;generalize l[j]=y at *;obtain ⟨xo,xm,xu,xs,xA,xc,xl⟩:=y;obtain ⟨g0,g1,g2,g3,g4⟩:=Cells.c5 hcl;clear hcl;subst hA;have hcall:=IH.out ⟨xo,xm,xu,xs,xA,xc,xl⟩ wr HX.out;obtain ⟨t,ht⟩ : ∃ t,okE k ⟨xo,xm,xu,xs,xA,xc,xl⟩=t:=⟨_,rfl⟩;rw [ht] at hcall HSTEP HBAD;simp only [PT.v] at hcall;clear ht;go_wp2_with fail;refine hcall.mono ?_;clear hcall;rintro e w2 ⟨rfl,hb2⟩;have HB2 : Hid (Below w1.heap.size w1 w2):=Zh (hbel.trans (hb2.mono hbel.size));have HBW:=Zt HBR hb2;clear g0 g1 g2 g3 g4 a0 a1 a2 a3 a4 af az hb2 hbel HT;rcases t
      ·have HV:=Zh (HBAD.out rfl);clear HSTEP HBAD;go_wp2_with fail;go_ret;exact ⟨ret_bool HV.out,HBW.out⟩
      ·have HT2:=Zh (HSTEP.out rfl);clear HSTEP HBAD;go_wp2_with fail;go_roundw
       case rel=>exact ⟨j+1,by omega,by go_num,HB2.out,HT2⟩
       case measure=>simp [intOf]; omega
     ·have HV : Hid (s.toList.isEmpty=V):=Zh (by
       have h:=HT.out;rw [List.take_of_length_le Zo] at h;rw [← HN2.out,h,Bool.and_true]; rfl)
      clear HT HN2;go_wp2_with fail;go_ret;exact ⟨ret_bool HV.out,HBR.out⟩
   ·have hnb : (n == 0)=false:=beq_eq_false_iff_ne.2 hn;have hnc : (n != 0)=true:=bne_iff_ne.2 hn;have HV : Hid (false=V):=Zh (by rw [← HN.out]; exact both_no1 hn);clear HN HE IH;go_enter Tryz.func73,Tryz.ntmps73;go_wp2_with fail;go_ret;exact ⟨ret_bool HV.out,qbl⟩
  ·have hub : (u == 0)=false:=beq_eq_false_iff_ne.2 hu;have huc : (u != 0)=true:=bne_iff_ne.2 hu;have HV : Hid (false=V):=Zh (by rw [← HN.out]; exact both_no2 hu);clear HN HE IH;go_enter Tryz.func73,Tryz.ntmps73;go_wp2_with fail;go_ret;exact ⟨ret_bool HV.out,qbl⟩
 ·have HV : Hid (false=V):=Zh (by rw [← hVV]; exact okE_len (by rw [HOP.out]; omega));have hlb : ((l.length : Int) == 1)=false:=beq_eq_false_iff_ne.2 Zo;clear hVV HOP HE IH;go_enter Tryz.func73,Tryz.ntmps73;go_wp2_with fail;go_ret;exact ⟨ret_bool HV.out,qbl⟩
theorem r30_right_op15 (k : Nat) (hk : k≤1000) (ih : RxP k)  (n u : Int) (s : ByteArray) (A : Option Addr) (c : Nat) (l : List PT) (w : World) (he : PT.At (· < w.heap.size) w ⟨15,n,u,s,A,c,l⟩) : Calls Tryz.prog 73 #[PT.v ⟨15,n,u,s,A,c,l⟩,.int .i64 ((k : Int)+1)] w fun r w'=>r = .returned (.bool (okE (k+1) ⟨15,n,u,s,A,c,l⟩))∧Below w.heap.size w w':=by
 have hlen:=he.rd.len;simp only [PT.a] at hlen;have HE:=Zh he;have IH:=Zh ih;simp only [PT.v];have hkd : decide ((k : Int)+1<1)=false:=decide_eq_false Zo;skip;clear he ih;obtain ⟨V,hVV⟩ : ∃ V,okE (k+1) ⟨15,n,u,s,A,c,l⟩=V:=⟨_,rfl⟩;rw [hVV];have HOP : Hid (opsN 15=3):=Zh ((rfl : opsN 15=3));by_cases hl : l.length=3
 ·have hlb : ((l.length : Int) == 3)=true:=beq_iff_eq.2 Zo;have HN : Hid ((bothZ n u && (empB s && l.all (okE k)))=V):=Zh (by rw [← hVV]; exact okE_rest (by rw [HOP.out,hl]; rfl) (by decide) (by decide));clear hVV HOP;by_cases hu : u=0
  ·have hub : (u == 0)=true:=beq_iff_eq.2 hu;by_cases hn : n=0
   ·have hnb : (n == 0)=true:=beq_iff_eq.2 hn;have HN2 : Hid ((empB s && l.all (okE k))=V):=Zh (by rw [← HN.out,hu,hn]; rfl);have HLE:=Zh hl;(have hw : IntKind.i64.wrap ((k : Int)+1 - 1)=(k : Int):=by rw [IntKind.wrap_i64]; omega);have HB1 : Hid (Below w.heap.size w (w.alloc (.cells #[.int .i64 15,.int .i64 n,.int .i64 u,.string s,.slice A l.length c] 25))):=Zh qbl;have HX1:=Zh (Blk.new w 25 #[.int .i64 15,.int .i64 n,.int .i64 u,.string s,.slice A l.length c]);clear HN hub hnb;subst hu;subst hn;have HW2 : Hid (w.alloc (.cells #[.int .i64 15,.int .i64 0,.int .i64 0,.string s,.slice A 3 c] 25)=w.alloc (.cells #[.int .i64 15,.int .i64 0,.int .i64 0,.string s,.slice A l.length c] 25)):=Zh (by rw [hl]);go_enter Tryz.func73,Tryz.ntmps73;go_wp2_with fail;rw [HW2.out];clear hl HW2;generalize w.alloc (.cells _ 25)=w1 at *;go_loopw [7] (fun i wr=>∃ (j : Nat),j≤l.length∧i = .int .i64 j∧Below w1.heap.size w1 wr∧Hid ((l.take j).all (okE k)=true)) (fun i _=>l.length - (intOf i).toNat)
    case atStart=>exact ⟨0,by omega,rfl,Below.refl _ _,Zh Zs⟩
    case round =>
     obtain ⟨j,hj,rfl,hbel,HT⟩:=hrel;have HBR:=Zt HB1 hbel;have HXR:=Zh (HX1.out.later hbel);obtain ⟨a0,a1,a2,a3,a4,af,az⟩:=HXR.out.b5;by_cases hlt : j<l.length
     ·have hEW:=HE.out.later HBR.out;obtain ⟨b,q,hA,hbl,hcl⟩:=hEW.rd.at1 hlt;have HX:=Zh (hEW.all _ (List.getElem_mem hlt))
      have HSTEP : Hid (okE k l[j]=true→(l.take (j+1)).all (okE k)=true):=Zh (fun h=>by
       rw [List.take_succ_eq_append_getElem hlt,List.all_append,HT.out]; simp [h])
      have HBAD : Hid (okE k l[j]=false→false=V):=Zh (fun h=>by
       rw [← HN2.out]
       have h1 : l.all (okE k)=false:=by
        rcases hx : l.all (okE k)
        ·rfl
        ·have:=List.all_eq_true.1 hx _ (List.getElem_mem hlt);rw [h] at this; cases this
       rw [h1,Bool.and_false])
      simp only [PT.a] at hA hcl HX;clear hEW;generalize l[j]=y at *;obtain ⟨xo,xm,xu,xs,xA,xc,xl⟩:=y;obtain ⟨g0,g1,g2,g3,g4⟩:=Cells.c5 hcl;clear hcl;subst hA;have hcall:=IH.out ⟨xo,xm,xu,xs,xA,xc,xl⟩ wr HX.out;obtain ⟨t,ht⟩ : ∃ t,okE k ⟨xo,xm,xu,xs,xA,xc,xl⟩=t:=⟨_,rfl⟩;rw [ht] at hcall HSTEP HBAD;simp only [PT.v] at hcall;clear ht;go_wp2_with fail;refine hcall.mono ?_;clear hcall;rintro e w2 ⟨rfl,hb2⟩;have HB2 : Hid (Below w1.heap.size w1 w2):=Zh (hbel.trans (hb2.mono hbel.size));have HBW:=Zt HBR hb2;clear g0 g1 g2 g3 g4 a0 a1 a2 a3 a4 af az hb2 hbel HT;rcases t
      ·have HV:=Zh (HBAD.out rfl);clear HSTEP HBAD;go_wp2_with fail;go_ret;exact ⟨ret_bool HV.out,HBW.out⟩
      ·have HT2:=Zh (HSTEP.out rfl);clear HSTEP HBAD;go_wp2_with fail;go_roundw
       case rel=>exact ⟨j+1,by omega,by go_num,HB2.out,HT2⟩
       case measure=>simp [intOf]; omega
     ·have HV : Hid (s.toList.isEmpty=V):=Zh (by
       have h:=HT.out;rw [List.take_of_length_le Zo] at h;rw [← HN2.out,h,Bool.and_true]; rfl)
      clear HT HN2;go_wp2_with fail;go_ret;exact ⟨ret_bool HV.out,HBR.out⟩
   ·have hnb : (n == 0)=false:=beq_eq_false_iff_ne.2 hn;have hnc : (n != 0)=true:=bne_iff_ne.2 hn;have HV : Hid (false=V):=Zh (by rw [← HN.out]; exact both_no1 hn);clear HN HE IH;go_enter Tryz.func73,Tryz.ntmps73;go_wp2_with fail;go_ret;exact ⟨ret_bool HV.out,qbl⟩
  ·have hub : (u == 0)=false:=beq_eq_false_iff_ne.2 hu;have huc : (u != 0)=true:=bne_iff_ne.2 hu;have HV : Hid (false=V):=Zh (by rw [← HN.out]; exact both_no2 hu);clear HN HE IH;go_enter Tryz.func73,Tryz.ntmps73;go_wp2_with fail;go_ret;exact ⟨ret_bool HV.out,qbl⟩
 ·have HV : Hid (false=V):=Zh (by rw [← hVV]; exact okE_len (by rw [HOP.out]; omega));have hlb : ((l.length : Int) == 3)=false:=beq_eq_false_iff_ne.2 Zo;clear hVV HOP HE IH;go_enter Tryz.func73,Tryz.ntmps73;go_wp2_with fail;go_ret;exact ⟨ret_bool HV.out,qbl⟩
theorem r30_right_opel (k : Nat) (hk : k≤1000) (ih : RxP k) (o : Int) (h4 : 4≤o) (h16 : o<16) (h12 : ¬ o=12) (h15 : ¬ o=15) (n u : Int) (s : ByteArray) (A : Option Addr) (c : Nat) (l : List PT) (w : World) (he : PT.At (· < w.heap.size) w ⟨o,n,u,s,A,c,l⟩) : Calls Tryz.prog 73 #[PT.v ⟨o,n,u,s,A,c,l⟩,.int .i64 ((k : Int)+1)] w fun r w'=>r = .returned (.bool (okE (k+1) ⟨o,n,u,s,A,c,l⟩))∧Below w.heap.size w w':=by
 have hlen:=he.rd.len;simp only [PT.a] at hlen;have HE:=Zh he;have IH:=Zh ih;simp only [PT.v];have hkd : decide ((k : Int)+1<1)=false:=decide_eq_false Zo;obtain ⟨e0,e1,e2,e3,e12,e15,el,eg,eb⟩:=op_tests h4 h16 h12 h15;clear he ih;obtain ⟨V,hVV⟩ : ∃ V,okE (k+1) ⟨o,n,u,s,A,c,l⟩=V:=⟨_,rfl⟩;rw [hVV];have HOP : Hid (opsN o=2):=Zh (opsN_bin h4 h16 h12 h15);by_cases hl : l.length=2
 ·have hlb : ((l.length : Int) == 2)=true:=beq_iff_eq.2 Zo;have HN : Hid ((bothZ n u && (empB s && l.all (okE k)))=V):=Zh (by rw [← hVV]; exact okE_rest (by rw [HOP.out,hl]; rfl) Zo Zo);clear hVV HOP;by_cases hu : u=0
  ·have hub : (u == 0)=true:=beq_iff_eq.2 hu;by_cases hn : n=0
   ·have hnb : (n == 0)=true:=beq_iff_eq.2 hn;have HN2 : Hid ((empB s && l.all (okE k))=V):=Zh (by rw [← HN.out,hu,hn]; rfl);have HLE:=Zh hl;(have hw : IntKind.i64.wrap ((k : Int)+1 - 1)=(k : Int):=by rw [IntKind.wrap_i64]; omega);have HB1 : Hid (Below w.heap.size w (w.alloc (.cells #[.int .i64 o,.int .i64 n,.int .i64 u,.string s,.slice A l.length c] 25))):=Zh qbl;have HX1:=Zh (Blk.new w 25 #[.int .i64 o,.int .i64 n,.int .i64 u,.string s,.slice A l.length c]);clear HN hub hnb;subst hu;subst hn;have HW2 : Hid (w.alloc (.cells #[.int .i64 o,.int .i64 0,.int .i64 0,.string s,.slice A 2 c] 25)=w.alloc (.cells #[.int .i64 o,.int .i64 0,.int .i64 0,.string s,.slice A l.length c] 25)):=Zh (by rw [hl]);go_enter Tryz.func73,Tryz.ntmps73;go_wp2_with fail;rw [HW2.out];clear hl HW2;generalize w.alloc (.cells _ 25)=w1 at *;go_loopw [7] (fun i wr=>∃ (j : Nat),j≤l.length∧i = .int .i64 j∧Below w1.heap.size w1 wr∧Hid ((l.take j).all (okE k)=true)) (fun i _=>l.length - (intOf i).toNat)
    case atStart=>exact ⟨0,by omega,rfl,Below.refl _ _,Zh Zs⟩
    case round =>
     obtain ⟨j,hj,rfl,hbel,HT⟩:=hrel;have HBR:=Zt HB1 hbel;have HXR:=Zh (HX1.out.later hbel);obtain ⟨a0,a1,a2,a3,a4,af,az⟩:=HXR.out.b5;by_cases hlt : j<l.length
     ·have hEW:=HE.out.later HBR.out;obtain ⟨b,q,hA,hbl,hcl⟩:=hEW.rd.at1 hlt;have HX:=Zh (hEW.all _ (List.getElem_mem hlt))
      have HSTEP : Hid (okE k l[j]=true→(l.take (j+1)).all (okE k)=true):=Zh (fun h=>by
       rw [List.take_succ_eq_append_getElem hlt,List.all_append,HT.out]; simp [h])
      have HBAD : Hid (okE k l[j]=false→false=V):=Zh (fun h=>by
       rw [← HN2.out]
       have h1 : l.all (okE k)=false:=by
        rcases hx : l.all (okE k)
        ·rfl
        ·have:=List.all_eq_true.1 hx _ (List.getElem_mem hlt);rw [h] at this; cases this
       rw [h1,Bool.and_false])
      simp only [PT.a] at hA hcl HX;clear hEW;generalize l[j]=y at *;obtain ⟨xo,xm,xu,xs,xA,xc,xl⟩:=y;obtain ⟨g0,g1,g2,g3,g4⟩:=Cells.c5 hcl;clear hcl;subst hA;have hcall:=IH.out ⟨xo,xm,xu,xs,xA,xc,xl⟩ wr HX.out;obtain ⟨t,ht⟩ : ∃ t,okE k ⟨xo,xm,xu,xs,xA,xc,xl⟩=t:=⟨_,rfl⟩;rw [ht] at hcall HSTEP HBAD;simp only [PT.v] at hcall;clear ht;go_wp2_with fail;refine hcall.mono ?_;clear hcall;rintro e w2 ⟨rfl,hb2⟩;have HB2 : Hid (Below w1.heap.size w1 w2):=Zh (hbel.trans (hb2.mono hbel.size));have HBW:=Zt HBR hb2;clear g0 g1 g2 g3 g4 a0 a1 a2 a3 a4 af az hb2 hbel HT;rcases t
      ·have HV:=Zh (HBAD.out rfl);clear HSTEP HBAD;go_wp2_with fail;go_ret;exact ⟨ret_bool HV.out,HBW.out⟩
      ·have HT2:=Zh (HSTEP.out rfl);clear HSTEP HBAD;go_wp2_with fail;go_roundw
       case rel=>exact ⟨j+1,by omega,by go_num,HB2.out,HT2⟩
       case measure=>simp [intOf]; omega
     ·have HV : Hid (s.toList.isEmpty=V):=Zh (by
       have h:=HT.out;rw [List.take_of_length_le Zo] at h;rw [← HN2.out,h,Bool.and_true]; rfl)
      clear HT HN2;go_wp2_with fail;go_ret;exact ⟨ret_bool HV.out,HBR.out⟩
   ·have hnb : (n == 0)=false:=beq_eq_false_iff_ne.2 hn;have hnc : (n != 0)=true:=bne_iff_ne.2 hn;have HV : Hid (false=V):=Zh (by rw [← HN.out]; exact both_no1 hn);clear HN HE IH;go_enter Tryz.func73,Tryz.ntmps73;go_wp2_with fail;go_ret;exact ⟨ret_bool HV.out,qbl⟩
  ·have hub : (u == 0)=false:=beq_eq_false_iff_ne.2 hu;have huc : (u != 0)=true:=bne_iff_ne.2 hu;have HV : Hid (false=V):=Zh (by rw [← HN.out]; exact both_no2 hu);clear HN HE IH;go_enter Tryz.func73,Tryz.ntmps73;go_wp2_with fail;go_ret;exact ⟨ret_bool HV.out,qbl⟩
 ·have HV : Hid (false=V):=Zh (by rw [← hVV]; exact okE_len (by rw [HOP.out]; omega));have hlb : ((l.length : Int) == 2)=false:=beq_eq_false_iff_ne.2 Zo;clear hVV HOP HE IH;go_enter Tryz.func73,Tryz.ntmps73;go_wp2_with fail;go_ret;exact ⟨ret_bool HV.out,qbl⟩
end Go.Proofs.YtcgocdhhneckhaaGreat
