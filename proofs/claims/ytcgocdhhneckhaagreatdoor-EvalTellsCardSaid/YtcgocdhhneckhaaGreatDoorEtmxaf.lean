/- Walks of the finder of tonneauref32: value at two operands. -/
import Derived.Test.YtcgocdhhneckhaaGreatDoorEtmxab
import Derived.Test.YtcgocdhhneckhaaGreatDoorEtmxae
import Derived.Deep.Cut
import Derived.Test.YtcgocdhhneckhaaGreatDoorEvbxaf
import Derived.Test.YtcgocdhhneckhaaGreatDoorEvbxat
set_option linter.unusedSimpArgs false
set_option linter.unusedVariables false
set_option maxRecDepth 100000
set_option maxHeartbeats 6400000
namespace Go.Proofs.YtcgocdhhneckhaaGreatDoor
open Go.RowKit
theorem RG.gal {F : Nat→Prop} {w : World} {f : Frc} {p q : Int} (h : RG F w f p q) (hF : ∀ b,F b→b<w.heap.size) (o : Obj) : RG F (w.alloc o) f p q:=h.keep (fun b hb=>Below.heap_alloc w o b (hF b hb))
section
variable (g m : Nat) (L : Sl LT) (T M : Sl FT) (n k : Nat)
theorem k_val_two (ih : ValK g m L T M n k) (o a u : Int) (s : ByteArray) (A : Option Addr) (c : Nat) (l : List PT) (x y : PT) (hl : l=[x,y]) (hx : okE k x=true) (hy : okE k y=true) (X : Nat→Prop) (N : List NT) (w : World) (h0 : ¬ o=0) (h1 : ¬ o=1) (h2 : ¬ o=2) (h3 : ¬ o=3) (h12 : ¬ o=12) (h13 : ¬ o=13) (h14 : ¬ o=14) (h15 : ¬ o=15) (he : PT.At (Nm X w) w ⟨o,a,u,s,A,c,l⟩) (hs : FkSt g m L T M X N w) : Calls Tryz.prog 38 #[.pointer (some ⟨g,0,none⟩),PT.v ⟨o,a,u,s,A,c,l⟩,.int .i64 n] w fun r w'=>FkP g m L T M X w w' (evN T.l M.l L.l n (k+1) ⟨o,a,u,s,A,c,l⟩) r:=by
 (have hv : evN T.l M.l L.l n (k+1) ⟨o,a,u,s,A,c,l⟩=twoF o (evN T.l M.l L.l n k x) (evN T.l M.l L.l n k y):=by rw [hl]; exact evN_two h0 h1 h2 h3 h13 h14);have HI:=Zh (fun Y N W=>ih x Y N W hx);have HJ:=Zh (fun N Y W=>ih y Y N W hy);obtain ⟨V,hV⟩ : ∃ V,evN T.l M.l L.l n k x=V:=⟨_,rfl⟩;obtain ⟨U,hU⟩ : ∃ U,evN T.l M.l L.l n k y=U:=⟨_,rfl⟩;rw [hv];rw [hV] at HI ⊢;rw [hU] at HJ ⊢;(have h0l : 0<l.length:=by rw [hl]; simp);(have h1l : 1<l.length:=by rw [hl]; simp);have HX0 : Hid (l[0]? = some x):=Zh (by rw [hl]; rfl);have HX1 : Hid (l[1]? = some y):=Zh (by rw [hl]; rfl);clear hV hU ih hv hl hx hy;obtain ⟨b,q,rfl,_⟩:=arg_at 0 he HX0.out;obtain ⟨xo,xm,xu,xs,xA,xc,xl⟩:=x;obtain ⟨yo,ym,yu,ys,yA,yc,yl⟩:=y;simp only [PT.v] at HI HJ;have HVS:=Zh (vk_make hs he);clear hs he;simp only [PT.v,PT.enc] at HVS ⊢;obtain ⟨Y,hvs⟩:=HVS.out;have HV1:=Zh hvs;clear HVS hvs;have hargs:=arg_more 0 HV1.out.ex HX0.out;obtain ⟨pb,pc⟩:=hargs;obtain ⟨p0,p1,p2,p3,p4⟩:=Cells.c5 pc;simp only [Nat.zero_mul,Nat.add_zero,Nat.reduceMul] at p0 p1 p2 p3 p4;have pl:=pb.1;clear pb pc;go_enter Tryz.func38,Tryz.ntmps38;go_wp2_with fail;generalize ((w.alloc (.cells #[.int .i64 o,.int .i64 a,.int .i64 u,.string s,.slice (some ⟨b,q,none⟩) l.length c] 25)).alloc (.cells Zf 36))=w1 at *;refine (HI.out Y N w1 (arg_in HV1.out.ex HX0.out) HV1.out.st).mono ?_;rintro e w2 ⟨⟨f,rfl,hf⟩,⟨N2,hst⟩,hg⟩;have HV2:=Zh (HV1.out.next hst hg);have HF:=Zh hf;clear hst hg hf p0 p1 p2 p3 p4 pl;simp only [Frc.v];have HV3 : Hid (VK g m L T M X Y N2 w (w2.alloc (.cells (Zc f) 36)) _):=Zh (HV2.out.later qbl);by_cases hv0 : V.e=0
 ·have HV0:=Zh hv0;have HF3 : Hid (RG (Nm Y (w2.alloc (.cells (Zc f) 36))) (w2.alloc (.cells (Zc f) 36)) f V.p V.q):=Zh ((HF.out hv0).more qbl (Mor.refl _ _ _));have HY3:=Zh (Blk.new w2 36 (Zc f));(have hm7 : w2.heap.size≠m:=by have:=HV2.out.st.mw; omega);rw [hv0];clear hv0 HF;obtain ⟨a0,a1,a2,a3,a4,af,az⟩:=HV2.out.bE.b5;(have ly : w.heap.size<w2.heap.size+1:=by omega);have hargs:=arg_more 1 HV2.out.ex HX1.out;obtain ⟨pb,pc⟩:=hargs;obtain ⟨p0,p1,p2,p3,p4⟩:=Cells.c5 pc;simp only [Nat.zero_mul,Nat.add_zero,Nat.reduceMul] at p0 p1 p2 p3 p4;have pl:=pb.1;clear pb pc;(have pl2 : b<w2.heap.size+1:=by omega);go_wp2_with fail;refine (HJ.out N2 Y _ (arg_in HV3.out.ex HX1.out) HV3.out.st).mono ?_;rintro e w3 ⟨⟨f2,rfl,hf2⟩,⟨N3,hst⟩,hg⟩;have HV4:=Zh (HV3.out.next hst hg);have HF4:=Zh (HF3.out.grow HV3.out.st.xm hg);have HY4:=Zh (HY3.out.gm hg hm7);have HG4:=Zh hf2;clear hst hg hf2 p0 p1 p2 p3 p4 pl pl2 a0 a1 a2 a3 a4 af az ly HV3 HV2 HF3 HY3 hm7;generalize w2.heap.size=ay at *;simp only [Frc.v];by_cases hu : U.e=0
  ·have HU0:=Zh hu;have HV5 : Hid (VK g m L T M X Y N3 w (w3.alloc (.cells (Zc f2) 36)) _):=Zh (HV4.out.later qbl);have HF5 : Hid (RG (Nm Y (w3.alloc (.cells (Zc f2) 36))) (w3.alloc (.cells (Zc f2) 36)) f V.p V.q):=Zh (HF4.out.more qbl (Mor.refl _ _ _));have HG5 : Hid (RG (Nm Y (w3.alloc (.cells (Zc f2) 36))) (w3.alloc (.cells (Zc f2) 36)) f2 U.p U.q):=Zh ((HG4.out hu).more qbl (Mor.refl _ _ _));have HY5:=Zh (HY4.out.alloc (.cells (Zc f2) 36));have HZ5:=Zh (Blk.new w3 36 (Zc f2));have HR:=Zh (twoF_ok (o:=o) HV0.out HU0.out);rw [hu];clear hu HV4 HF4 HG4 HY4;go_upto_if 88 with fail;generalize w3.alloc (.cells _ 36)=w5 at *;generalize w3.heap.size=az at *;obtain ⟨y0,y1,y2,y3,yf,yz⟩:=HY5.out.b4;obtain ⟨z0,z1,z2,z3,zf,zz⟩:=HZ5.out.b4;go_wp2_with fail;refine (r05_cmp f f2 V.p V.q U.p U.q w5 (HF5.out.rf nm_lt) (HG5.out.rf nm_lt)).mono ?_;rintro e w6 ⟨rfl,hb6⟩;have HV6:=Zh (HV5.out.later hb6);have HF6:=Zh (HF5.out.more hb6 (Mor.refl _ _ _));have HG6:=Zh (HG5.out.more hb6 (Mor.refl _ _ _));have HY6:=Zh (HY5.out.later hb6);have HZ6:=Zh (HZ5.out.later hb6);clear hb6 y0 y1 y2 y3 yf yz z0 z1 z2 z3 zf zz HV5 HF5 HG5 HY5 HZ5;obtain ⟨y0,y1,y2,y3,yf,yz⟩:=HY6.out.b4;obtain ⟨z0,z1,z2,z3,zf,zz⟩:=HZ6.out.b4;obtain ⟨a0,a1,a2,a3,a4,af,az0⟩:=HV6.out.bE.b5;obtain ⟨C,hC⟩ : ∃ C,cmpI V.p V.q U.p U.q=C:=⟨_,rfl⟩;rw [hC];have HCM:=Zh hC;clear hC;by_cases h4 : o=4
   ·subst h4;go_wp2_with fail;refine (r05_Add f f2 V.p V.q U.p U.q w6 (HF6.out.rf nm_lt) (HG6.out.rf nm_lt)).mono ?_;rintro e w7 hp;have hap:=HR.out;rw [appF_4] at hap;simp only at hap;rw [← hap] at hp;obtain ⟨f3,rfl,hf3,hb7⟩:=hp.gen (fun h=>by rw [hap] at h ⊢; exact (addF_OK HF6.out.ok HG6.out.ok).yes h);obtain ⟨R,hR⟩ : ∃ R,twoF 4 V U=R:=⟨_,rfl⟩;rw [hR] at hf3 ⊢;have HV7:=Zh (HV6.out.later hb7);have HF7:=Zh (fun h0=>HV6.out.ofNew (hf3 h0));clear HR;have HR:=Zh hR;clear hf3 hb7 hp hap hR y0 y1 y2 y3 yf yz z0 z1 z2 z3 zf zz a0 a1 a2 a3 a4 af az0 HCM;obtain ⟨r0,r1,r2,r3,rf,rz⟩:=HV7.out.bR.b4;simp only [Frc.v];go_wp2_with fail;refine bodyPost_ret (v:=.tuple #[.agg #[.int .i64 f3.p.s,.slice f3.p.l.A f3.p.l.l.length f3.p.l.c,.int .i64 f3.q.s,.slice f3.q.l.A f3.q.l.l.length f3.q.l.c],.int .i64 R.e]) ?_ rfl (FkP.cast HR.out (HV7.out.fin HF7.out));simp [results,Tryz.results38,go_sem,r0,r1,r2,r3,rz]
   by_cases h5 : o=5
   ·subst h5;go_wp2_with fail;refine (r05_Sub f f2 V.p V.q U.p U.q w6 (HF6.out.rf nm_lt) (HG6.out.rf nm_lt)).mono ?_;rintro e w7 hp;have hap:=HR.out;rw [appF_5] at hap;simp only at hap;rw [← hap] at hp;obtain ⟨f3,rfl,hf3,hb7⟩:=hp.gen (fun h=>by rw [hap] at h ⊢; exact (subF_OK HF6.out.ok HG6.out.ok).yes h);obtain ⟨R,hR⟩ : ∃ R,twoF 5 V U=R:=⟨_,rfl⟩;rw [hR] at hf3 ⊢;have HV7:=Zh (HV6.out.later hb7);have HF7:=Zh (fun h0=>HV6.out.ofNew (hf3 h0));clear HR;have HR:=Zh hR;clear hf3 hb7 hp hap hR y0 y1 y2 y3 yf yz z0 z1 z2 z3 zf zz a0 a1 a2 a3 a4 af az0 HCM;obtain ⟨r0,r1,r2,r3,rf,rz⟩:=HV7.out.bR.b4;simp only [Frc.v];go_wp2_with fail;refine bodyPost_ret (v:=.tuple #[.agg #[.int .i64 f3.p.s,.slice f3.p.l.A f3.p.l.l.length f3.p.l.c,.int .i64 f3.q.s,.slice f3.q.l.A f3.q.l.l.length f3.q.l.c],.int .i64 R.e]) ?_ rfl (FkP.cast HR.out (HV7.out.fin HF7.out));simp [results,Tryz.results38,go_sem,r0,r1,r2,r3,rz]
   by_cases h6 : o=6
   ·subst h6;go_wp2_with fail;refine (r05_Mul f f2 V.p V.q U.p U.q w6 (HF6.out.rf nm_lt) (HG6.out.rf nm_lt)).mono ?_;rintro e w7 hp;have hap:=HR.out;rw [appF_6] at hap;simp only at hap;rw [← hap] at hp;obtain ⟨f3,rfl,hf3,hb7⟩:=hp.gen (fun h=>by rw [hap] at h ⊢; exact (mulF_OK HF6.out.ok HG6.out.ok).yes h);obtain ⟨R,hR⟩ : ∃ R,twoF 6 V U=R:=⟨_,rfl⟩;rw [hR] at hf3 ⊢;have HV7:=Zh (HV6.out.later hb7);have HF7:=Zh (fun h0=>HV6.out.ofNew (hf3 h0));clear HR;have HR:=Zh hR;clear hf3 hb7 hp hap hR y0 y1 y2 y3 yf yz z0 z1 z2 z3 zf zz a0 a1 a2 a3 a4 af az0 HCM;obtain ⟨r0,r1,r2,r3,rf,rz⟩:=HV7.out.bR.b4;simp only [Frc.v];go_wp2_with fail;refine bodyPost_ret (v:=.tuple #[.agg #[.int .i64 f3.p.s,.slice f3.p.l.A f3.p.l.l.length f3.p.l.c,.int .i64 f3.q.s,.slice f3.q.l.A f3.q.l.l.length f3.q.l.c],.int .i64 R.e]) ?_ rfl (FkP.cast HR.out (HV7.out.fin HF7.out));simp [results,Tryz.results38,go_sem,r0,r1,r2,r3,rz]
   by_cases h7 : o=7
   ·subst h7;go_wp2_with fail;refine (r05_Div f f2 V.p V.q U.p U.q w6 (HF6.out.rf nm_lt) (HG6.out.rf nm_lt)).mono ?_;rintro e w7 hp;have hap:=HR.out;rw [appF_7] at hap;simp only at hap;rw [← hap] at hp;obtain ⟨f3,rfl,hf3,hb7⟩:=hp.gen (fun h=>by rw [hap] at h ⊢; exact (divF_OK HF6.out.ok HG6.out.ok).yes h);obtain ⟨R,hR⟩ : ∃ R,twoF 7 V U=R:=⟨_,rfl⟩;rw [hR] at hf3 ⊢;have HV7:=Zh (HV6.out.later hb7);have HF7:=Zh (fun h0=>HV6.out.ofNew (hf3 h0));clear HR;have HR:=Zh hR;clear hf3 hb7 hp hap hR y0 y1 y2 y3 yf yz z0 z1 z2 z3 zf zz a0 a1 a2 a3 a4 af az0 HCM;obtain ⟨r0,r1,r2,r3,rf,rz⟩:=HV7.out.bR.b4;simp only [Frc.v];go_wp2_with fail;refine bodyPost_ret (v:=.tuple #[.agg #[.int .i64 f3.p.s,.slice f3.p.l.A f3.p.l.l.length f3.p.l.c,.int .i64 f3.q.s,.slice f3.q.l.A f3.q.l.l.length f3.q.l.c],.int .i64 R.e]) ?_ rfl (FkP.cast HR.out (HV7.out.fin HF7.out));simp [results,Tryz.results38,go_sem,r0,r1,r2,r3,rz]
   by_cases h10 : o=10
   ·subst h10;have hap:=HR.out;rw [appF_10] at hap;simp only [HCM.out] at hap;have HR2 : Hid (twoF 10 V U=truF (decide (C<0))):=Zh (by rw [hap]; (try congr 1));clear hap HR;have HR:=HR2;clear HR2;go_wp2_with fail;refine (r32_truth (decide (C<0)) _).mono ?_;rintro e w7 ⟨f3,rfl,hf3,hb7⟩;have HV7:=Zh (HV6.out.later hb7);have HF7:=Zh (HV6.out.ofNew hf3);clear hf3 hb7 y0 y1 y2 y3 yf yz z0 z1 z2 z3 zf zz a0 a1 a2 a3 a4 af az0;obtain ⟨r0,r1,r2,r3,rf,rz⟩:=HV7.out.bR.b4;simp only [Frc.v];go_wp2_with fail;refine bodyPost_ret (v:=.tuple #[.agg #[.int .i64 f3.p.s,.slice f3.p.l.A f3.p.l.l.length f3.p.l.c,.int .i64 f3.q.s,.slice f3.q.l.A f3.q.l.l.length f3.q.l.c],.int .i64 0]) ?_ rfl (FkP.cast HR.out (HV7.out.fin (r:=truF (decide (C<0))) (fun _=>HF7.out)));simp [results,Tryz.results38,go_sem,r0,r1,r2,r3,rz]
   by_cases h11 : o=11
   ·subst h11;have hap:=HR.out;rw [appF_11] at hap;simp only [HCM.out] at hap;have HR2 : Hid (twoF 11 V U=truF ((C == 0))):=Zh (by rw [hap]; (try congr 1));clear hap HR;have HR:=HR2;clear HR2;go_wp2_with fail;refine (r32_truth ((C == 0)) _).mono ?_;rintro e w7 ⟨f3,rfl,hf3,hb7⟩;have HV7:=Zh (HV6.out.later hb7);have HF7:=Zh (HV6.out.ofNew hf3);clear hf3 hb7 y0 y1 y2 y3 yf yz z0 z1 z2 z3 zf zz a0 a1 a2 a3 a4 af az0;obtain ⟨r0,r1,r2,r3,rf,rz⟩:=HV7.out.bR.b4;simp only [Frc.v];go_wp2_with fail;refine bodyPost_ret (v:=.tuple #[.agg #[.int .i64 f3.p.s,.slice f3.p.l.A f3.p.l.l.length f3.p.l.c,.int .i64 f3.q.s,.slice f3.q.l.A f3.q.l.l.length f3.q.l.c],.int .i64 0]) ?_ rfl (FkP.cast HR.out (HV7.out.fin (r:=truF ((C == 0))) (fun _=>HF7.out)));simp [results,Tryz.results38,go_sem,r0,r1,r2,r3,rz]
   have hap:=HR.out;rw [appF_m _ _ h4 h5 h6 h7 h10 h11] at hap;simp only [HCM.out] at hap;by_cases h8 : o=8
   ·subst h8;by_cases hc : C > 0
    ·rw [if_pos (by rw [decide_eq_true hc]; rfl)] at hap;replace HR:=Zh hap;clear hap;have hd : decide (0<C)=true:=decide_eq_true hc;obtain ⟨r0,r1,r2,r3,rf,rz⟩:=HV6.out.bR.b4;simp only [Frc.v];go_wp2_with fail;refine bodyPost_ret (v:=.tuple #[.agg #[.int .i64 f2.p.s,.slice f2.p.l.A f2.p.l.l.length f2.p.l.c,.int .i64 f2.q.s,.slice f2.q.l.A f2.q.l.l.length f2.q.l.c],.int .i64 0]) ?_ rfl (FkP.cast HR.out (HV6.out.fin (r:=⟨U.p,U.q,0⟩) (fun _=>HG6.out)));simp [results,Tryz.results38,go_sem,r0,r1,r2,r3,rz]
    ·rw [if_neg (by rw [decide_eq_false hc]; decide)] at hap;replace HR:=Zh hap;clear hap;have hd : decide (0<C)=false:=decide_eq_false hc;obtain ⟨r0,r1,r2,r3,rf,rz⟩:=HV6.out.bR.b4;simp only [Frc.v];go_wp2_with fail;refine bodyPost_ret (v:=.tuple #[.agg #[.int .i64 f.p.s,.slice f.p.l.A f.p.l.l.length f.p.l.c,.int .i64 f.q.s,.slice f.q.l.A f.q.l.l.length f.q.l.c],.int .i64 0]) ?_ rfl (FkP.cast HR.out (HV6.out.fin (r:=⟨V.p,V.q,0⟩) (fun _=>HF6.out)));simp [results,Tryz.results38,go_sem,r0,r1,r2,r3,rz]
   ·by_cases hc : C<0
    ·rw [if_pos (by rw [decide_eq_false (show ¬ C > 0 by omega),decide_eq_false h8])] at hap;replace HR:=Zh hap;clear hap;have hd : decide (C<0)=true:=decide_eq_true hc;obtain ⟨r0,r1,r2,r3,rf,rz⟩:=HV6.out.bR.b4;simp only [Frc.v];go_wp2_with fail;refine bodyPost_ret (v:=.tuple #[.agg #[.int .i64 f2.p.s,.slice f2.p.l.A f2.p.l.l.length f2.p.l.c,.int .i64 f2.q.s,.slice f2.q.l.A f2.q.l.l.length f2.q.l.c],.int .i64 0]) ?_ rfl (FkP.cast HR.out (HV6.out.fin (r:=⟨U.p,U.q,0⟩) (fun _=>HG6.out)));simp [results,Tryz.results38,go_sem,r0,r1,r2,r3,rz]
    ·have hq : twoF o V U=⟨V.p,V.q,0⟩:=by
      by_cases hc0 : C > 0
      ·rw [if_neg (by rw [decide_eq_true hc0,decide_eq_false h8]; decide)] at hap;exact hap
      ·rw [if_pos (by rw [decide_eq_false hc0,decide_eq_false h8])] at hap;obtain ⟨e1,e2⟩:=cmp_zero HF6.out.ok HG6.out.ok (by rw [HCM.out]; omega);rw [hap,e1,e2]
     replace HR:=Zh hq;clear hap hq;have hd : decide (C<0)=false:=decide_eq_false hc;obtain ⟨r0,r1,r2,r3,rf,rz⟩:=HV6.out.bR.b4;simp only [Frc.v];go_wp2_with fail;refine bodyPost_ret (v:=.tuple #[.agg #[.int .i64 f.p.s,.slice f.p.l.A f.p.l.l.length f.p.l.c,.int .i64 f.q.s,.slice f.q.l.A f.q.l.l.length f.q.l.c],.int .i64 0]) ?_ rfl (FkP.cast HR.out (HV6.out.fin (r:=⟨V.p,V.q,0⟩) (fun _=>HF6.out)));simp [results,Tryz.results38,go_sem,r0,r1,r2,r3,rz]
  ·have HR:=Zh (twoF_bad2 (o:=o) HV0.out hu);have hne : (U.e != 0)=true:=bne_iff_ne.2 hu;obtain ⟨r0,r1,r2,r3,rf,rz⟩:=HV4.out.bR.b4;(have lz : w.heap.size+1<w3.heap.size+1:=by omega);clear hu;go_wp2_with fail;refine bodyPost_ret (v:=.tuple #[.agg Zf,.int .i64 U.e]) ?_ rfl (FkP.cast HR.out ((HV4.out.fin (r:=FrR.bad U.e) (f:=Frc.zero) (fun h=>absurd h (bne_iff_ne.1 hne))).alloc _));simp [results,Tryz.results38,go_sem,r0,r1,r2,r3,rz,lz]
 ·have hne : (V.e != 0)=true:=bne_iff_ne.2 hv0;have HR:=Zh (twoF_bad (o:=o) (b:=U) hv0);obtain ⟨r0,r1,r2,r3,rf,rz⟩:=HV2.out.bR.b4;(have lz : w.heap.size+1<w2.heap.size+1:=by omega);clear hv0;go_wp2_with fail;refine bodyPost_ret (v:=.tuple #[.agg Zf,.int .i64 V.e]) ?_ rfl (FkP.cast HR.out ((HV2.out.fin (r:=FrR.bad V.e) (f:=Frc.zero) (fun h=>absurd h (bne_iff_ne.1 hne))).alloc _));simp [results,Tryz.results38,go_sem,r0,r1,r2,r3,rz,lz]
end
theorem r29_letter (c : Int) (w : World) : Calls Tryz.prog 161 #[.int .u8 c] w fun e w'=>e = .returned (.bool (letC c))∧w=w':=by
 by_cases h1 : 97≤c
 ·by_cases h2 : c≤122
  ·go_enter Tryz.func161,Tryz.ntmps161;go_wp2_with fail;go_ret;exact ⟨ret_bool (by simp [letC,h1,h2]),rfl⟩
  ·go_enter Tryz.func161,Tryz.ntmps161;go_wp2_with fail;go_ret;exact ⟨ret_bool (by simp [letC,h1]; omega),rfl⟩
 ·go_enter Tryz.func161,Tryz.ntmps161;go_wp2_with fail;go_ret;exact ⟨ret_bool (by simp [letC]; omega),rfl⟩
theorem r29_digit (c : Int) (w : World) : Calls Tryz.prog 162 #[.int .u8 c] w fun e w'=>e = .returned (.bool (digC c))∧w=w':=by
 by_cases h1 : 48≤c
 ·by_cases h2 : c≤57
  ·go_enter Tryz.func162,Tryz.ntmps162;go_wp2_with fail;go_ret;exact ⟨ret_bool (by simp [digC,h1,h2]),rfl⟩
  ·go_enter Tryz.func162,Tryz.ntmps162;go_wp2_with fail;go_ret;exact ⟨ret_bool (by simp [digC,h1]; omega),rfl⟩
 ·go_enter Tryz.func162,Tryz.ntmps162;go_wp2_with fail;go_ret;exact ⟨ret_bool (by simp [digC]; omega),rfl⟩
theorem r29_Word (s : ByteArray) (w : World) (hs : s.size≤9223372036854775807) : Calls Tryz.prog 124 #[.string s] w fun e w'=>e = .returned (.bool (wordB s))∧w=w':=by
 by_cases h0 : s.size=0
 ·have HV : Hid (false=wordB s):=Zh (by unfold wordB; rw [h0]; simp);go_enter Tryz.func124,Tryz.ntmps124;go_wp2_with fail;go_ret;exact ⟨ret_bool HV.out,rfl⟩
 ·by_cases h20 : s.size≤20
  ·have hp : 0<s.size:=by omega
   have hg : s.data.getD 0 0=s[0]:=by
    show s.data.getD 0 0=s.data[0];have hd : 0<s.data.size:=hp;simp only [Array.getD];rw [dif_pos hd];rfl
   have HW : Hid (wordB s=(letC (s[0].toNat : Int) && (decide (s.size≤20) && s.data.all (fun c=>ldC (c.toNat : Int))))):=Zh (by unfold wordB; rw [hg]; simp [hp]);clear hg;have hb1 : decide ((20 : Int)<(s.size : Int))=false:=decide_eq_false Zo;rcases hl : letC (s[0].toNat : Int)
   ·have HV : Hid (false=wordB s):=Zh (by rw [HW.out,hl]; rfl);go_enter Tryz.func124,Tryz.ntmps124;go_wp2_with fail;refine (r29_letter _ _).mono ?_;rintro e w' ⟨rfl,rfl⟩;rw [hl];clear hl;go_wp2_with fail;go_ret;exact ⟨ret_bool HV.out,rfl⟩
   ·have HL:=Zh hl;go_enter Tryz.func124,Tryz.ntmps124;go_wp2_with fail;refine (r29_letter _ _).mono ?_;rintro e w' ⟨rfl,rfl⟩;rw [hl];clear hl;go_wp2_with fail;go_loopw [3] (fun v wr=>∃ (k : Nat),1≤k∧k≤s.size∧v = .int .i64 k∧Hid (∀ i,(h : i<s.size)→i<k→ldC (s[i].toNat : Int)=true)∧w=wr) (fun v _=>s.size - (intOf v).toNat)
    case atStart=>exact ⟨1,by omega,by omega,rfl,Zh (fun i hi hi1=>by
     (have h0 : i=0:=by omega);subst h0;unfold ldC; rw [HL.out]; rfl),rfl⟩
    case round =>
     obtain ⟨k,hk1,hk,rfl,HP,rfl⟩:=hrel;by_cases hlt : k<s.size
     ·rcases hb : letC (s[k].toNat : Int)
      ·rcases hc : digC (s[k].toNat : Int)
       ·have HV : Hid (false=wordB s):=Zh (by
         rw [HW.out]
         have h1 : s.data.all (fun c=>ldC (c.toNat : Int))=false:=by
          rcases hx : s.data.all (fun c=>ldC (c.toNat : Int))
          ·rfl
          ·have h2:=(ldS_iff s).2 hx k hlt;unfold ldC at h2;rw [hb,hc] at h2;cases h2
         rw [h1]; simp)
        clear HP;go_wp2_with fail;refine (r29_letter _ _).mono ?_;rintro e w' ⟨rfl,rfl⟩;rw [hb];go_wp2_with fail;refine (r29_digit _ _).mono ?_;rintro e w' ⟨rfl,rfl⟩;rw [hc];clear hb hc;go_wp2_with fail;go_ret;exact ⟨ret_bool HV.out,rfl⟩
       ·have HN : Hid (∀ i,(h : i<s.size)→i<k+1→ldC (s[i].toNat : Int)=true):=Zh (fun i hi hik=>by
         by_cases he : i=k
         ·subst he; unfold ldC; rw [hc,Bool.or_true]
         ·exact HP.out i hi Zo)
        clear HP;go_wp2_with fail;refine (r29_letter _ _).mono ?_;rintro e w' ⟨rfl,rfl⟩;rw [hb];go_wp2_with fail;refine (r29_digit _ _).mono ?_;rintro e w' ⟨rfl,rfl⟩;rw [hc];clear hb hc;go_wp2_with fail;go_roundw
        case rel=>exact ⟨k+1,by omega,by omega,by go_num,HN,trivial⟩
        case measure=>simp [intOf]; omega
      ·have HN : Hid (∀ i,(h : i<s.size)→i<k+1→ldC (s[i].toNat : Int)=true):=Zh (fun i hi hik=>by
        by_cases he : i=k
        ·subst he; unfold ldC; rw [hb,Bool.true_or]
        ·exact HP.out i hi Zo)
       clear HP;go_wp2_with fail;refine (r29_letter _ _).mono ?_;rintro e w' ⟨rfl,rfl⟩;rw [hb];clear hb;go_wp2_with fail;go_roundw
       case rel=>exact ⟨k+1,by omega,by omega,by go_num,HN,trivial⟩
       case measure=>simp [intOf]; omega
     ·have HV : Hid (true=wordB s):=Zh (by
       rw [HW.out,HL.out,(ldS_iff s).1 (fun i hi=>HP.out i hi Zo)];simp [h20])
      clear HP;go_wp2_with fail;go_ret;exact ⟨ret_bool HV.out,rfl⟩
  ·have HV : Hid (false=wordB s):=Zh (by unfold wordB; rw [decide_eq_false h20]; simp);go_enter Tryz.func124,Tryz.ntmps124;go_wp2_with fail;go_ret;exact ⟨ret_bool HV.out,rfl⟩
theorem r30_Reserved (w : World) : Calls Tryz.prog 123 #[] w fun e w'=>∃ s : Sl ByteArray,e = .returned (.slice s.A s.l.length s.c)∧s.l=resL∧Rd (· < w'.heap.size) 1 senc w' s∧Below w.heap.size w w':=by
 have hown : Own w.heap.size 9 1 senc (w.alloc (.cells resC 9)) ⟨some ⟨w.heap.size,0,none⟩,23,resL⟩:=Own.lit w resC resL Zl (by decide) resC_is senc_k;have HO:=Zh hown;clear hown;go_enter Tryz.func123,Tryz.ntmps123;go_wp2_with fail;go_ret;exact ⟨⟨some ⟨w.heap.size,0,none⟩,23,resL⟩,rfl,rfl,(HO.out.rd senc_k).mono (fun b hb=>hb.2),qbl⟩
theorem r30_Name (s : ByteArray) (w : World) (hs : s.size≤9223372036854775807) : Calls Tryz.prog 71 #[.string s] w fun e w'=>e = .returned (.bool (nameB s))∧Below w.heap.size w w':=by
 have HWD:=Zh (fun w2=>r29_Word s w2 hs);go_enter Tryz.func71,Tryz.ntmps71;go_wp2_with fail;refine (r30_Reserved _).mono ?_;rintro e w1 ⟨⟨A,c,l⟩,rfl,hl,hr,hb1⟩;simp only at hl;have HLE:=Zh hl;(have hlen : l.length≤23:=by rw [hl]; decide);have HR:=Zh hr;have HB1:=Zh hb1;clear hr hb1 hl;simp only;go_wp2_with fail;go_loopw [4] (fun v wr=>∃ (k : Nat),k≤l.length∧v = .int .i64 k∧Hid (∀ j,(h : j<l.length)→j<k→l[j]≠s)∧Below w1.heap.size w1 wr) (fun v _=>l.length - (intOf v).toNat)
 case atStart=>exact ⟨0,by omega,rfl,Zh (fun j _ hj=>absurd hj (Nat.not_lt_zero _)),Below.refl _ _⟩
 case round =>
  obtain ⟨k,hk,rfl,HP,hbel⟩:=hrel;have HBR:=Zt HB1 hbel;by_cases hkl : k<l.length
  ·obtain ⟨b,o,hA,_,c0⟩:=(HR.out.later hbel).gets hkl;simp only at hA c0;subst hA;by_cases hx : l[k]=s
   ·have HV : Hid (false=nameB s):=Zh (by
     unfold nameB;rw [(inL_iff s resL).2 (by rw [← HLE.out,← hx]; exact List.getElem_mem hkl)]
     simp)
    (have heq : ((l[k]).toList == s.toList)=true:=by rw [bytes_beq]; simpa using hx);generalize l[k]=y at *;clear hx HP;go_wp2_with fail;go_ret;exact ⟨ret_bool HV.out,HBR.out⟩
   ·have HN : Hid (∀ j,(h : j<l.length)→j<k+1→l[j]≠s):=Zh (fun j hj hjk=>by
     by_cases he : j=k
     ·subst he; exact hx
     ·exact HP.out j hj Zo)
    (have heq : ((l[k]).toList == s.toList)=false:=by rw [bytes_beq]; simpa using hx);generalize l[k]=y at *;clear hx HP;go_wp2_with fail;go_roundw
    case rel=>exact ⟨k+1,by omega,by go_num,HN,hbel⟩
    case measure=>simp [intOf]; omega
  ·have hno : s ∉ resL:=fun h=>by
    rw [← HLE.out] at h;obtain ⟨j,hj,hjx⟩:=List.mem_iff_getElem.1 h;exact HP.out j hj Zo hjx
   have HV : Hid (wordB s=nameB s):=Zh (by unfold nameB; rw [inL_no s resL hno]; simp);clear hno HP;go_wp2_with fail;refine (HWD.out _).mono ?_;rintro e w' ⟨rfl,rfl⟩;go_wp2_with fail;go_ret;exact ⟨ret_bool HV.out,HBR.out⟩
theorem r30_within (n a b : Int) (w : World) : Calls Tryz.prog 122 #[.int .i64 n,.int .i64 a,.int .i64 b] w fun e w'=>e = .returned (.bool (inB a b n))∧w=w':=by
 by_cases h1 : a≤n
 ·by_cases h2 : n≤b
  ·have HV : Hid (true=inB a b n):=Zh (by unfold inB; simp [h1,h2]);go_enter Tryz.func122,Tryz.ntmps122;go_wp2_with fail;go_ret;exact ⟨ret_bool HV.out,rfl⟩
  ·have HV : Hid (false=inB a b n):=Zh (by unfold inB; simp [h1]; omega);go_enter Tryz.func122,Tryz.ntmps122;go_wp2_with fail;go_ret;exact ⟨ret_bool HV.out,rfl⟩
 ·have HV : Hid (false=inB a b n):=Zh (by unfold inB; simp; omega);go_enter Tryz.func122,Tryz.ntmps122;go_wp2_with fail;go_ret;exact ⟨ret_bool HV.out,rfl⟩
theorem okR_no1 {x : FT} (h : nameB x.nm=false) : okF x=false:=by unfold okF; rw [h]; rfl
theorem okR_no2 {x : FT} (h : x.v < -1000000000000000) : okF x=false:=by unfold okF; rw [decide_eq_false (show ¬ -1000000000000000≤x.v by omega)]; simp
theorem okR_no3 {x : FT} (h : 1000000000000000<x.v) : okF x=false:=by unfold okF; rw [decide_eq_false (show ¬ x.v≤1000000000000000 by omega)]; simp
theorem okR_yes {x : FT} (h : nameB x.nm=true) (h1 : ¬ x.v < -1000000000000000) (h2 : ¬ 1000000000000000<x.v) : okF x=true:=by unfold okF; rw [h,decide_eq_true (show -1000000000000000≤x.v by omega),decide_eq_true (show x.v≤1000000000000000 by omega)]; rfl
theorem r32_Facts (l : Sl FT) (w : World) (hl : FactsAt (· < w.heap.size) w l) : Calls Tryz.prog 37 #[.slice l.A l.l.length l.c] w fun r w'=>r = .returned (.bool (factsB l.l))∧Below w.heap.size w w':=by
 have hn:=hl.rd.len;have HL:=Zh hl;have HI:=Zh (factsB_is l.l);clear hl;obtain ⟨A,c,l⟩:=l;simp only at hn HI;simp only;obtain ⟨V,hV⟩ : ∃ V,factsB l=V:=⟨_,rfl⟩;rw [hV] at HI ⊢;clear hV;by_cases h40 : 40<l.length
 ·have hd : decide (40<(l.length : Int))=true:=decide_eq_true Zo;have HF : Hid (false=V):=Zh (by rw [HI.out,decide_eq_false Zo]; rfl);go_enter Tryz.func37,Tryz.ntmps37;go_wp2_with fail;go_ret;exact ⟨ret_bool HF.out,Below.refl _ _⟩
 have hd : decide (40<(l.length : Int))=false:=decide_eq_false Zo;have HI2 : Hid (l.all okF=V):=Zh (by rw [HI.out,decide_eq_true Zo]; rfl);clear HI;go_enter Tryz.func37,Tryz.ntmps37;go_wp2_with fail;go_loopw [3] (fun i wr=>∃ (j : Nat),j≤l.length∧i = .int .i64 j∧Below w.heap.size w wr∧Hid ((l.take j).all okF=true)) (fun i _=>l.length - (intOf i).toNat)
 case atStart=>exact ⟨0,by omega,rfl,Below.refl _ _,Zh rfl⟩
 case round =>
  obtain ⟨j,hj,rfl,hbel,HG⟩:=hrel;by_cases hlt : j<l.length
  ·have hLW:=HL.out.later hbel;obtain ⟨b,q,hA,hbl,hcl⟩:=hLW.rd.at1 hlt;have HS:=Zh (hLW.all _ (List.getElem_mem hlt));have HNO : Hid (okF l[j]=false→false=V):=Zh (fun h=>by rw [← HI2.out]; exact (List.all_eq_false.2 ⟨l[j],List.getElem_mem hlt,by simp [h]⟩).symm);simp only at hA hcl HS;subst hA;have HT : Hid (l.take (j+1)=l.take j ++ [l[j]]):=Zh (by rw [List.take_succ_eq_append_getElem hlt]);clear hLW;generalize l[j]=x at *;obtain ⟨xn,xv⟩:=x;obtain ⟨g0,g1⟩:=hcl.c2;clear hcl;simp only at HS;go_wp2_with fail;refine (r30_Name xn _ HS.out).mono ?_;rintro e w2 ⟨rfl,hb2⟩;have HB2 : Hid (Below w.heap.size w w2):=Zh (hbel.trans (hb2.mono hbel.size));have k1 : w2.cell? ⟨b,q+j * 2+1,none⟩=some (.int .i64 xv):=(hb2.cell hbl).trans g1;clear hb2 g0 g1 hbel;obtain ⟨r,hr⟩ : ∃ r,nameB xn=r:=⟨_,rfl⟩;rw [hr];rcases r
   ·have HF:=Zh (HNO.out (okR_no1 hr));clear hr;go_wp2_with fail;go_ret;exact ⟨ret_bool HF.out,HB2.out⟩
   ·have HR:=Zh hr;clear hr;by_cases h1 : xv < -1000000000000000
    ·have HF:=Zh (HNO.out (okR_no2 h1));have hd1 : decide (xv < -1000000000000000)=true:=decide_eq_true h1;clear h1;go_wp2_with fail;go_ret;exact ⟨ret_bool HF.out,HB2.out⟩
    have hd1 : decide (xv < -1000000000000000)=false:=decide_eq_false h1;by_cases h2 : 1000000000000000<xv
    ·have HF:=Zh (HNO.out (okR_no3 h2));have hd2 : decide (1000000000000000<xv)=true:=decide_eq_true h2;clear h1 h2;go_wp2_with fail;go_ret;exact ⟨ret_bool HF.out,HB2.out⟩
    have hd2 : decide (1000000000000000<xv)=false:=decide_eq_false h2;have HG2 : Hid ((l.take (j+1)).all okF=true):=Zh (by rw [HT.out,List.all_append,HG.out]; simp [okR_yes (x:=⟨xn,xv⟩) HR.out h1 h2]);clear h1 h2;go_wp2_with fail;go_roundw
    case rel=>exact ⟨j+1,by omega,by go_num,HB2.out,HG2⟩
    case measure=>simp [intOf]; omega
  ·have HF : Hid (true=V):=Zh (by rw [← HI2.out,← HG.out,List.take_of_length_le Zo]);go_wp2_with fail;go_ret;exact ⟨ret_bool HF.out,hbel⟩
def RxP (k : Nat) : Prop:=∀ (e : PT) (w : World),PT.At (· < w.heap.size) w e→Calls Tryz.prog 70 #[e.v,.int .i64 k] w fun r w'=>r = .returned (.bool (okE k e))∧Below w.heap.size w w'
theorem r30_right0 : RxP 0:=by
 rintro ⟨o,n,u,s,A,c,l⟩ w he;simp only [PT.v];have hlen:=he.rd.len;simp only [PT.a] at hlen;have h0 : ((0 : Nat) : Int)=0:=rfl;rw [h0];clear he;go_enter Tryz.func70,Tryz.ntmps70;go_wp2_with fail;go_ret;exact ⟨rfl,qbl⟩
theorem empB_iff {s : ByteArray} : empB s=s.toList.isEmpty:=rfl
theorem opsN_out {o : Int} (h : o<0∨16≤o) : opsN o = -1:=by
 unfold opsN;rw [if_neg Zo,if_neg Zo,if_neg Zo,if_neg Zo,if_neg Zo,if_neg Zo];rcases h with h | h
 ·rw [if_pos h]
 ·rw [if_neg Zo,if_pos h]
theorem opsN_bin {o : Int} (h : 4≤o) (h1 : o<16) (h2 : o≠12) (h3 : o≠15) : opsN o=2:=by
 unfold opsN;rw [if_neg Zo,if_neg Zo,if_neg Zo,if_neg Zo,if_neg Zo,if_neg Zo,if_neg Zo,if_neg Zo]
theorem okE_numv {k : Nat} {n u : Int} {s : ByteArray} {A : Option Addr} {c : Nat} {l : List PT} (h : l.length=0) {b1 b2 b3 b4 : Bool} (h1 : empB s=b1) (h2 : inB 0 3 u=b2) (h3 : inB 0 1000000000000000 n=b3) (h4 : (decide (u≠3) || decide (n≤1))=b4) : (b1 && b2 && b3 && b4)=okE (k+1) ⟨0,n,u,s,A,c,l⟩:=by
 rw [← okE_num (k:=k) (by rw [h]; rfl),← h1,← h2,← h3,← h4];unfold inB;by_cases hu : u=3
 ·subst hu;rw [if_pos rfl];by_cases hn : n≤1
  ·(have : n≤1000000000000000:=by omega);simp [hn,this]
  ·simp [hn]
 ·rw [if_neg hu];simp [hu,Bool.and_assoc]
theorem r30_right_num (k : Nat) (n u : Int) (s : ByteArray) (A : Option Addr) (c : Nat) (l : List PT) (w : World) (he : PT.At (· < w.heap.size) w ⟨0,n,u,s,A,c,l⟩) : Calls Tryz.prog 70 #[PT.v ⟨0,n,u,s,A,c,l⟩,.int .i64 ((k : Int)+1)] w fun r w'=>r = .returned (.bool (okE (k+1) ⟨0,n,u,s,A,c,l⟩))∧Below w.heap.size w w':=by
 have hlen:=he.rd.len;simp only [PT.a] at hlen;simp only [PT.v];clear he;by_cases hl : l.length=0
 ·have HV:=Zh (fun b1 b2 b3 b4 h1 h2 h3 h4=>okE_numv (k:=k) (n:=n) (u:=u) (s:=s) (A:=A) (c:=c) (b1:=b1) (b2:=b2) (b3:=b3) (b4:=b4) hl h1 h2 h3 h4);obtain ⟨V,hVV⟩ : ∃ V,okE (k+1) ⟨0,n,u,s,A,c,l⟩=V:=⟨_,rfl⟩;rw [hVV] at HV ⊢;clear hVV;have hlb : ((l.length : Int) == 0)=true:=beq_iff_eq.2 Zo;rcases h1 : empB s
  ·have hse : s.toList.isEmpty=false:=h1;go_enter Tryz.func70,Tryz.ntmps70;go_wp2_with fail;go_ret;exact ⟨ret_bool (by rw [← HV.out false _ _ _ h1 rfl rfl rfl]; rfl),qbl⟩
  ·have hse : s.toList.isEmpty=true:=h1;have H1:=Zh h1;clear h1;rcases h2 : inB 0 3 u
   ·have H2:=Zh h2;go_enter Tryz.func70,Tryz.ntmps70;go_wp2_with fail;refine (r30_within _ _ _ _).mono ?_;rintro e w' ⟨rfl,rfl⟩;rw [h2];clear h2;go_wp2_with fail;go_ret;exact ⟨ret_bool (by rw [← HV.out true false _ _ H1.out H2.out rfl rfl]; rfl),qbl⟩
   ·have H2:=Zh h2;rcases h3 : inB 0 1000000000000000 n
    ·have H3:=Zh h3;go_enter Tryz.func70,Tryz.ntmps70;go_wp2_with fail;refine (r30_within _ _ _ _).mono ?_;rintro e w' ⟨rfl,rfl⟩;rw [h2];clear h2;go_wp2_with fail;refine (r30_within _ _ _ _).mono ?_;rintro e w' ⟨rfl,rfl⟩;rw [h3];clear h3;go_wp2_with fail;go_ret;exact ⟨ret_bool (by rw [← HV.out true true false _ H1.out H2.out H3.out rfl]; rfl),qbl⟩
    ·have H3:=Zh h3;by_cases hu : u=3
     ·have hub : (u == 3)=true:=beq_iff_eq.2 hu;have HU:=Zh hu;clear hu;go_enter Tryz.func70,Tryz.ntmps70;go_wp2_with fail;refine (r30_within _ _ _ _).mono ?_;rintro e w' ⟨rfl,rfl⟩;rw [h2];clear h2;go_wp2_with fail;refine (r30_within _ _ _ _).mono ?_;rintro e w' ⟨rfl,rfl⟩;rw [h3];clear h3;go_wp2_with fail;go_ret;exact ⟨ret_bool (by rw [← HV.out true true true (decide (n≤1)) H1.out H2.out H3.out (by rw [HU.out]; simp)]; rfl),qbl⟩
     ·have hub : (u == 3)=false:=beq_eq_false_iff_ne.2 hu;have HU:=Zh hu;clear hu;go_enter Tryz.func70,Tryz.ntmps70;go_wp2_with fail;refine (r30_within _ _ _ _).mono ?_;rintro e w' ⟨rfl,rfl⟩;rw [h2];clear h2;go_wp2_with fail;refine (r30_within _ _ _ _).mono ?_;rintro e w' ⟨rfl,rfl⟩;rw [h3];clear h3;go_wp2_with fail;go_ret;exact ⟨ret_bool (by rw [← HV.out true true true true H1.out H2.out H3.out (by simp [HU.out])]; rfl),qbl⟩
 ·have HV : Hid (false=okE (k+1) ⟨0,n,u,s,A,c,l⟩):=Zh (okE_len (by rw [show opsN 0=0 from rfl]; omega));have hlb : ((l.length : Int) == 0)=false:=beq_eq_false_iff_ne.2 Zo;obtain ⟨V,hVV⟩ : ∃ V,okE (k+1) ⟨0,n,u,s,A,c,l⟩=V:=⟨_,rfl⟩;rw [hVV] at HV ⊢;clear hVV;go_enter Tryz.func70,Tryz.ntmps70;go_wp2_with fail;go_ret;exact ⟨ret_bool HV.out,qbl⟩
theorem op_tests {o : Int} (h4 : 4≤o) (h16 : o<16) (h12 : ¬ o=12) (h15 : ¬ o=15) : (o == 0)=false∧(o == 1)=false∧(o == 2)=false∧(o == 3)=false∧(o == 12)=false∧(o == 15)=false∧decide (o<0)=false∧decide (16≤o)=false∧(o != 0)=true :=
 ⟨beq_eq_false_iff_ne.2 Zo,beq_eq_false_iff_ne.2 Zo,beq_eq_false_iff_ne.2 Zo,beq_eq_false_iff_ne.2 Zo,beq_eq_false_iff_ne.2 h12,beq_eq_false_iff_ne.2 h15,decide_eq_false Zo,decide_eq_false Zo,bne_iff_ne.2 Zo⟩
theorem r30_right_nm1 (k : Nat) (n u : Int) (s : ByteArray) (A : Option Addr) (c : Nat) (l : List PT) (w : World) (he : PT.At (· < w.heap.size) w ⟨1,n,u,s,A,c,l⟩) : Calls Tryz.prog 70 #[PT.v ⟨1,n,u,s,A,c,l⟩,.int .i64 ((k : Int)+1)] w fun r w'=>r = .returned (.bool (okE (k+1) ⟨1,n,u,s,A,c,l⟩))∧Below w.heap.size w w':=by
 have hlen:=he.rd.len;have hstr:=he.str;simp only [PT.a,PT.s] at hlen hstr;simp only [PT.v];have hkd : decide ((k : Int)+1<1)=false:=decide_eq_false Zo;clear he;obtain ⟨V,hVV⟩ : ∃ V,okE (k+1) ⟨1,n,u,s,A,c,l⟩=V:=⟨_,rfl⟩;rw [hVV];by_cases hl : l.length=0
 ·have hlb : ((l.length : Int) == 0)=true:=beq_iff_eq.2 Zo;have HN : Hid ((bothZ n u && nameB s)=V):=Zh (by rw [← hVV]; exact okE_name (by rw [hl]; rfl) (by decide) (by decide));clear hVV;by_cases hu : u=0
  ·have hub : (u == 0)=true:=beq_iff_eq.2 hu;by_cases hn : n=0
   ·have hnb : (n == 0)=true:=beq_iff_eq.2 hn;have HV : Hid (nameB s=V):=Zh (by rw [← HN.out,hu,hn]; rfl);have HNM:=Zh (fun w2=>r30_Name s w2 hstr);clear HN hub hnb;subst hu;subst hn;go_enter Tryz.func70,Tryz.ntmps70;go_wp2_with fail;refine (HNM.out _).mono ?_;rintro e w' ⟨rfl,hb⟩;have HB : Hid (Below w.heap.size w w'):=Zh qbv;clear hb;obtain ⟨r,hr⟩ : ∃ r,nameB s=r:=⟨_,rfl⟩;rw [hr] at HV ⊢;clear hr;go_wp2_with fail;go_ret;exact ⟨ret_bool HV.out,HB.out⟩
   ·have hnb : (n == 0)=false:=beq_eq_false_iff_ne.2 hn;have HV : Hid (false=V):=Zh (by rw [← HN.out]; exact both_no1 hn);clear HN;go_enter Tryz.func70,Tryz.ntmps70;go_wp2_with fail;go_ret;exact ⟨ret_bool HV.out,qbl⟩
  ·have hub : (u == 0)=false:=beq_eq_false_iff_ne.2 hu;have HV : Hid (false=V):=Zh (by rw [← HN.out]; exact both_no2 hu);clear HN;go_enter Tryz.func70,Tryz.ntmps70;go_wp2_with fail;go_ret;exact ⟨ret_bool HV.out,qbl⟩
 ·have HV : Hid (false=V):=Zh (by rw [← hVV]; exact okE_len (by rw [show opsN 1=0 from rfl]; omega));have hlb : ((l.length : Int) == 0)=false:=beq_eq_false_iff_ne.2 Zo;clear hVV;go_enter Tryz.func70,Tryz.ntmps70;go_wp2_with fail;go_ret;exact ⟨ret_bool HV.out,qbl⟩
theorem r30_right_nm2 (k : Nat) (n u : Int) (s : ByteArray) (A : Option Addr) (c : Nat) (l : List PT) (w : World) (he : PT.At (· < w.heap.size) w ⟨2,n,u,s,A,c,l⟩) : Calls Tryz.prog 70 #[PT.v ⟨2,n,u,s,A,c,l⟩,.int .i64 ((k : Int)+1)] w fun r w'=>r = .returned (.bool (okE (k+1) ⟨2,n,u,s,A,c,l⟩))∧Below w.heap.size w w':=by
 have hlen:=he.rd.len;have hstr:=he.str;simp only [PT.a,PT.s] at hlen hstr;simp only [PT.v];have hkd : decide ((k : Int)+1<1)=false:=decide_eq_false Zo;clear he;obtain ⟨V,hVV⟩ : ∃ V,okE (k+1) ⟨2,n,u,s,A,c,l⟩=V:=⟨_,rfl⟩;rw [hVV];by_cases hl : l.length=0
 ·have hlb : ((l.length : Int) == 0)=true:=beq_iff_eq.2 Zo;have HN : Hid ((bothZ n u && nameB s)=V):=Zh (by rw [← hVV]; exact okE_name (by rw [hl]; rfl) (by decide) (by decide));clear hVV;by_cases hu : u=0
  ·have hub : (u == 0)=true:=beq_iff_eq.2 hu;by_cases hn : n=0
   ·have hnb : (n == 0)=true:=beq_iff_eq.2 hn;have HV : Hid (nameB s=V):=Zh (by rw [← HN.out,hu,hn]; rfl);have HNM:=Zh (fun w2=>r30_Name s w2 hstr);clear HN hub hnb;subst hu;subst hn;go_enter Tryz.func70,Tryz.ntmps70;go_wp2_with fail;refine (HNM.out _).mono ?_;rintro e w' ⟨rfl,hb⟩;have HB : Hid (Below w.heap.size w w'):=Zh qbv;clear hb;obtain ⟨r,hr⟩ : ∃ r,nameB s=r:=⟨_,rfl⟩;rw [hr] at HV ⊢;clear hr;go_wp2_with fail;go_ret;exact ⟨ret_bool HV.out,HB.out⟩
   ·have hnb : (n == 0)=false:=beq_eq_false_iff_ne.2 hn;have HV : Hid (false=V):=Zh (by rw [← HN.out]; exact both_no1 hn);clear HN;go_enter Tryz.func70,Tryz.ntmps70;go_wp2_with fail;go_ret;exact ⟨ret_bool HV.out,qbl⟩
  ·have hub : (u == 0)=false:=beq_eq_false_iff_ne.2 hu;have HV : Hid (false=V):=Zh (by rw [← HN.out]; exact both_no2 hu);clear HN;go_enter Tryz.func70,Tryz.ntmps70;go_wp2_with fail;go_ret;exact ⟨ret_bool HV.out,qbl⟩
 ·have HV : Hid (false=V):=Zh (by rw [← hVV]; exact okE_len (by rw [show opsN 2=0 from rfl]; omega));have hlb : ((l.length : Int) == 0)=false:=beq_eq_false_iff_ne.2 Zo;clear hVV;go_enter Tryz.func70,Tryz.ntmps70;go_wp2_with fail;go_ret;exact ⟨ret_bool HV.out,qbl⟩
theorem r30_right_nm3 (k : Nat) (n u : Int) (s : ByteArray) (A : Option Addr) (c : Nat) (l : List PT) (w : World) (he : PT.At (· < w.heap.size) w ⟨3,n,u,s,A,c,l⟩) : Calls Tryz.prog 70 #[PT.v ⟨3,n,u,s,A,c,l⟩,.int .i64 ((k : Int)+1)] w fun r w'=>r = .returned (.bool (okE (k+1) ⟨3,n,u,s,A,c,l⟩))∧Below w.heap.size w w':=by
 have hlen:=he.rd.len;have hstr:=he.str;simp only [PT.a,PT.s] at hlen hstr;simp only [PT.v];have hkd : decide ((k : Int)+1<1)=false:=decide_eq_false Zo;clear he;obtain ⟨V,hVV⟩ : ∃ V,okE (k+1) ⟨3,n,u,s,A,c,l⟩=V:=⟨_,rfl⟩;rw [hVV];by_cases hl : l.length=0
 ·have hlb : ((l.length : Int) == 0)=true:=beq_iff_eq.2 Zo;have HN : Hid ((bothZ n u && nameB s)=V):=Zh (by rw [← hVV]; exact okE_name (by rw [hl]; rfl) (by decide) (by decide));clear hVV;by_cases hu : u=0
  ·have hub : (u == 0)=true:=beq_iff_eq.2 hu;by_cases hn : n=0
   ·have hnb : (n == 0)=true:=beq_iff_eq.2 hn;have HV : Hid (nameB s=V):=Zh (by rw [← HN.out,hu,hn]; rfl);have HNM:=Zh (fun w2=>r30_Name s w2 hstr);clear HN hub hnb;subst hu;subst hn;go_enter Tryz.func70,Tryz.ntmps70;go_wp2_with fail;refine (HNM.out _).mono ?_;rintro e w' ⟨rfl,hb⟩;have HB : Hid (Below w.heap.size w w'):=Zh qbv;clear hb;obtain ⟨r,hr⟩ : ∃ r,nameB s=r:=⟨_,rfl⟩;rw [hr] at HV ⊢;clear hr;go_wp2_with fail;go_ret;exact ⟨ret_bool HV.out,HB.out⟩
   ·have hnb : (n == 0)=false:=beq_eq_false_iff_ne.2 hn;have HV : Hid (false=V):=Zh (by rw [← HN.out]; exact both_no1 hn);clear HN;go_enter Tryz.func70,Tryz.ntmps70;go_wp2_with fail;go_ret;exact ⟨ret_bool HV.out,qbl⟩
  ·have hub : (u == 0)=false:=beq_eq_false_iff_ne.2 hu;have HV : Hid (false=V):=Zh (by rw [← HN.out]; exact both_no2 hu);clear HN;go_enter Tryz.func70,Tryz.ntmps70;go_wp2_with fail;go_ret;exact ⟨ret_bool HV.out,qbl⟩
 ·have HV : Hid (false=V):=Zh (by rw [← hVV]; exact okE_len (by rw [show opsN 3=0 from rfl]; omega));have hlb : ((l.length : Int) == 0)=false:=beq_eq_false_iff_ne.2 Zo;clear hVV;go_enter Tryz.func70,Tryz.ntmps70;go_wp2_with fail;go_ret;exact ⟨ret_bool HV.out,qbl⟩
theorem r30_right_op12 (k : Nat) (hk : k≤1000) (ih : RxP k)  (n u : Int) (s : ByteArray) (A : Option Addr) (c : Nat) (l : List PT) (w : World) (he : PT.At (· < w.heap.size) w ⟨12,n,u,s,A,c,l⟩) : Calls Tryz.prog 70 #[PT.v ⟨12,n,u,s,A,c,l⟩,.int .i64 ((k : Int)+1)] w fun r w'=>r = .returned (.bool (okE (k+1) ⟨12,n,u,s,A,c,l⟩))∧Below w.heap.size w w':=by
 have hlen:=he.rd.len;simp only [PT.a] at hlen;have HE:=Zh he;have IH:=Zh ih;simp only [PT.v];have hkd : decide ((k : Int)+1<1)=false:=decide_eq_false Zo;skip;clear he ih;obtain ⟨V,hVV⟩ : ∃ V,okE (k+1) ⟨12,n,u,s,A,c,l⟩=V:=⟨_,rfl⟩;rw [hVV];have HOP : Hid (opsN 12=1):=Zh ((rfl : opsN 12=1));by_cases hl : l.length=1
 ·have hlb : ((l.length : Int) == 1)=true:=beq_iff_eq.2 Zo;have HN : Hid ((bothZ n u && (empB s && l.all (okE k)))=V):=Zh (by rw [← hVV]; exact okE_rest (by rw [HOP.out,hl]; rfl) (by decide) (by decide));clear hVV HOP;by_cases hu : u=0
  ·have hub : (u == 0)=true:=beq_iff_eq.2 hu;by_cases hn : n=0
   ·have hnb : (n == 0)=true:=beq_iff_eq.2 hn;have HN2 : Hid ((empB s && l.all (okE k))=V):=Zh (by rw [← HN.out,hu,hn]; rfl);have HLE:=Zh hl;(have hw : IntKind.i64.wrap ((k : Int)+1 - 1)=(k : Int):=by rw [IntKind.wrap_i64]; omega);have HB1 : Hid (Below w.heap.size w (w.alloc (.cells #[.int .i64 12,.int .i64 n,.int .i64 u,.string s,.slice A l.length c] 25))):=Zh qbl;have HX1:=Zh (Blk.new w 25 #[.int .i64 12,.int .i64 n,.int .i64 u,.string s,.slice A l.length c]);clear HN hub hnb;subst hu;subst hn;have HW2 : Hid (w.alloc (.cells #[.int .i64 12,.int .i64 0,.int .i64 0,.string s,.slice A 1 c] 25)=w.alloc (.cells #[.int .i64 12,.int .i64 0,.int .i64 0,.string s,.slice A l.length c] 25)):=Zh (by rw [hl]);go_enter Tryz.func70,Tryz.ntmps70;go_wp2_with fail;rw [HW2.out];clear hl HW2;generalize w.alloc (.cells _ 25)=w1 at *;go_loopw [7] (fun i wr=>∃ (j : Nat),j≤l.length∧i = .int .i64 j∧Below w1.heap.size w1 wr∧Hid ((l.take j).all (okE k)=true)) (fun i _=>l.length - (intOf i).toNat)
    case atStart=>exact ⟨0,by omega,rfl,Below.refl _ _,Zh Zs⟩
    case round =>
     obtain ⟨j,hj,rfl,hbel,HT⟩:=hrel;have HBR:=Zt HB1 hbel;have HXR:=Zh (HX1.out.later hbel);obtain ⟨a0,a1,a2,a3,a4,af,az⟩:=HXR.out.b5;by_cases hlt : j<l.length
     ·have hEW:=HE.out.later HBR.out;obtain ⟨b,q,hA,hbl,hcl⟩:=hEW.rd.at1 hlt;have HX:=Zh (hEW.all _ (List.getElem_mem hlt))
      have HSTEP : Hid (okE k l[j]=true→(l.take (j+1)).all (okE k)=true):=Zh (fun h=>by
       rw [List.take_succ_eq_append_getElem hlt,List.all_append,HT.out]; simp [h])
      have HBAD : Hid (okE k l[j]=false→false=V):=Zh (fun h=>by
       rw [← HN2.out]
       have h1 : l.all (okE k)=false:=by
        rcases hx : l.all (okE k)
        ·rfl
        ·have:=List.all_eq_true.1 hx _ (List.getElem_mem hlt);rw [h] at this; cases this
       rw [h1,Bool.and_false])
      simp only [PT.a] at hA hcl HX;clear hEW;generalize l[j]=y at *;obtain ⟨xo,xm,xu,xs,xA,xc,xl⟩:=y;obtain ⟨g0,g1,g2,g3,g4⟩:=Cells.c5 hcl;clear hcl;subst hA;have hcall:=IH.out ⟨xo,xm,xu,xs,xA,xc,xl⟩ wr HX.out;obtain ⟨t,ht⟩ : ∃ t,okE k ⟨xo,xm,xu,xs,xA,xc,xl⟩=t:=⟨_,rfl⟩;rw [ht] at hcall HSTEP HBAD;simp only [PT.v] at hcall;clear ht;go_wp2_with fail;refine hcall.mono ?_;clear hcall;rintro e w2 ⟨rfl,hb2⟩;have HB2 : Hid (Below w1.heap.size w1 w2):=Zh (hbel.trans (hb2.mono hbel.size));have HBW:=Zt HBR hb2;clear g0 g1 g2 g3 g4 a0 a1 a2 a3 a4 af az hb2 hbel HT;rcases t
      ·have HV:=Zh (HBAD.out rfl);clear HSTEP HBAD;go_wp2_with fail;go_ret;exact ⟨ret_bool HV.out,HBW.out⟩
      ·have HT2:=Zh (HSTEP.out rfl);clear HSTEP HBAD;go_wp2_with fail;go_roundw
       case rel=>exact ⟨j+1,by omega,by go_num,HB2.out,HT2⟩
       case measure=>simp [intOf]; omega
     ·have HV : Hid (s.toList.isEmpty=V):=Zh (by
       have h:=HT.out;rw [List.take_of_length_le Zo] at h;rw [← HN2.out,h,Bool.and_true]; rfl)
      clear HT HN2;go_wp2_with fail;go_ret;exact ⟨ret_bool HV.out,HBR.out⟩
   ·have hnb : (n == 0)=false:=beq_eq_false_iff_ne.2 hn;have hnc : (n != 0)=true:=bne_iff_ne.2 hn;have HV : Hid (false=V):=Zh (by rw [← HN.out]; exact both_no1 hn);clear HN HE IH;go_enter Tryz.func70,Tryz.ntmps70;go_wp2_with fail;go_ret;exact ⟨ret_bool HV.out,qbl⟩
  ·have hub : (u == 0)=false:=beq_eq_false_iff_ne.2 hu;have huc : (u != 0)=true:=bne_iff_ne.2 hu;have HV : Hid (false=V):=Zh (by rw [← HN.out]; exact both_no2 hu);clear HN HE IH;go_enter Tryz.func70,Tryz.ntmps70;go_wp2_with fail;go_ret;exact ⟨ret_bool HV.out,qbl⟩
 ·have HV : Hid (false=V):=Zh (by rw [← hVV]; exact okE_len (by rw [HOP.out]; omega));have hlb : ((l.length : Int) == 1)=false:=beq_eq_false_iff_ne.2 Zo;clear hVV HOP HE IH;go_enter Tryz.func70,Tryz.ntmps70;go_wp2_with fail;go_ret;exact ⟨ret_bool HV.out,qbl⟩
theorem r30_right_op15 (k : Nat) (hk : k≤1000) (ih : RxP k)  (n u : Int) (s : ByteArray) (A : Option Addr) (c : Nat) (l : List PT) (w : World) (he : PT.At (· < w.heap.size) w ⟨15,n,u,s,A,c,l⟩) : Calls Tryz.prog 70 #[PT.v ⟨15,n,u,s,A,c,l⟩,.int .i64 ((k : Int)+1)] w fun r w'=>r = .returned (.bool (okE (k+1) ⟨15,n,u,s,A,c,l⟩))∧Below w.heap.size w w':=by
 have hlen:=he.rd.len;simp only [PT.a] at hlen;have HE:=Zh he;have IH:=Zh ih;simp only [PT.v];have hkd : decide ((k : Int)+1<1)=false:=decide_eq_false Zo;skip;clear he ih;obtain ⟨V,hVV⟩ : ∃ V,okE (k+1) ⟨15,n,u,s,A,c,l⟩=V:=⟨_,rfl⟩;rw [hVV];have HOP : Hid (opsN 15=3):=Zh ((rfl : opsN 15=3));by_cases hl : l.length=3
 ·have hlb : ((l.length : Int) == 3)=true:=beq_iff_eq.2 Zo;have HN : Hid ((bothZ n u && (empB s && l.all (okE k)))=V):=Zh (by rw [← hVV]; exact okE_rest (by rw [HOP.out,hl]; rfl) (by decide) (by decide));clear hVV HOP;by_cases hu : u=0
  ·have hub : (u == 0)=true:=beq_iff_eq.2 hu;by_cases hn : n=0
   ·have hnb : (n == 0)=true:=beq_iff_eq.2 hn;have HN2 : Hid ((empB s && l.all (okE k))=V):=Zh (by rw [← HN.out,hu,hn]; rfl);have HLE:=Zh hl;(have hw : IntKind.i64.wrap ((k : Int)+1 - 1)=(k : Int):=by rw [IntKind.wrap_i64]; omega);have HB1 : Hid (Below w.heap.size w (w.alloc (.cells #[.int .i64 15,.int .i64 n,.int .i64 u,.string s,.slice A l.length c] 25))):=Zh qbl;have HX1:=Zh (Blk.new w 25 #[.int .i64 15,.int .i64 n,.int .i64 u,.string s,.slice A l.length c]);clear HN hub hnb;subst hu;subst hn;have HW2 : Hid (w.alloc (.cells #[.int .i64 15,.int .i64 0,.int .i64 0,.string s,.slice A 3 c] 25)=w.alloc (.cells #[.int .i64 15,.int .i64 0,.int .i64 0,.string s,.slice A l.length c] 25)):=Zh (by rw [hl]);go_enter Tryz.func70,Tryz.ntmps70;go_wp2_with fail;rw [HW2.out];clear hl HW2;generalize w.alloc (.cells _ 25)=w1 at *;go_loopw [7] (fun i wr=>∃ (j : Nat),j≤l.length∧i = .int .i64 j∧Below w1.heap.size w1 wr∧Hid ((l.take j).all (okE k)=true)) (fun i _=>l.length - (intOf i).toNat)
    case atStart=>exact ⟨0,by omega,rfl,Below.refl _ _,Zh Zs⟩
    case round =>
     obtain ⟨j,hj,rfl,hbel,HT⟩:=hrel;have HBR:=Zt HB1 hbel;have HXR:=Zh (HX1.out.later hbel);obtain ⟨a0,a1,a2,a3,a4,af,az⟩:=HXR.out.b5;by_cases hlt : j<l.length
     ·have hEW:=HE.out.later HBR.out;obtain ⟨b,q,hA,hbl,hcl⟩:=hEW.rd.at1 hlt;have HX:=Zh (hEW.all _ (List.getElem_mem hlt))
      have HSTEP : Hid (okE k l[j]=true→(l.take (j+1)).all (okE k)=true):=Zh (fun h=>by
       rw [List.take_succ_eq_append_getElem hlt,List.all_append,HT.out]; simp [h])
      have HBAD : Hid (okE k l[j]=false→false=V):=Zh (fun h=>by
       rw [← HN2.out]
       have h1 : l.all (okE k)=false:=by
        rcases hx : l.all (okE k)
        ·rfl
        ·have:=List.all_eq_true.1 hx _ (List.getElem_mem hlt);rw [h] at this; cases this
       rw [h1,Bool.and_false])
      simp only [PT.a] at hA hcl HX;clear hEW;generalize l[j]=y at *;obtain ⟨xo,xm,xu,xs,xA,xc,xl⟩:=y;obtain ⟨g0,g1,g2,g3,g4⟩:=Cells.c5 hcl;clear hcl;subst hA;have hcall:=IH.out ⟨xo,xm,xu,xs,xA,xc,xl⟩ wr HX.out;obtain ⟨t,ht⟩ : ∃ t,okE k ⟨xo,xm,xu,xs,xA,xc,xl⟩=t:=⟨_,rfl⟩;rw [ht] at hcall HSTEP HBAD;simp only [PT.v] at hcall;clear ht;go_wp2_with fail;refine hcall.mono ?_;clear hcall;rintro e w2 ⟨rfl,hb2⟩;have HB2 : Hid (Below w1.heap.size w1 w2):=Zh (hbel.trans (hb2.mono hbel.size));have HBW:=Zt HBR hb2;clear g0 g1 g2 g3 g4 a0 a1 a2 a3 a4 af az hb2 hbel HT;rcases t
      ·have HV:=Zh (HBAD.out rfl);clear HSTEP HBAD;go_wp2_with fail;go_ret;exact ⟨ret_bool HV.out,HBW.out⟩
      ·have HT2:=Zh (HSTEP.out rfl);clear HSTEP HBAD;go_wp2_with fail;go_roundw
       case rel=>exact ⟨j+1,by omega,by go_num,HB2.out,HT2⟩
       case measure=>simp [intOf]; omega
     ·have HV : Hid (s.toList.isEmpty=V):=Zh (by
       have h:=HT.out;rw [List.take_of_length_le Zo] at h;rw [← HN2.out,h,Bool.and_true]; rfl)
      clear HT HN2;go_wp2_with fail;go_ret;exact ⟨ret_bool HV.out,HBR.out⟩
   ·have hnb : (n == 0)=false:=beq_eq_false_iff_ne.2 hn;have hnc : (n != 0)=true:=bne_iff_ne.2 hn;have HV : Hid (false=V):=Zh (by rw [← HN.out]; exact both_no1 hn);clear HN HE IH;go_enter Tryz.func70,Tryz.ntmps70;go_wp2_with fail;go_ret;exact ⟨ret_bool HV.out,qbl⟩
  ·have hub : (u == 0)=false:=beq_eq_false_iff_ne.2 hu;have huc : (u != 0)=true:=bne_iff_ne.2 hu;have HV : Hid (false=V):=Zh (by rw [← HN.out]; exact both_no2 hu);clear HN HE IH;go_enter Tryz.func70,Tryz.ntmps70;go_wp2_with fail;go_ret;exact ⟨ret_bool HV.out,qbl⟩
 ·have HV : Hid (false=V):=Zh (by rw [← hVV]; exact okE_len (by rw [HOP.out]; omega));have hlb : ((l.length : Int) == 3)=false:=beq_eq_false_iff_ne.2 Zo;clear hVV HOP HE IH;go_enter Tryz.func70,Tryz.ntmps70;go_wp2_with fail;go_ret;exact ⟨ret_bool HV.out,qbl⟩
theorem r30_right_opel (k : Nat) (hk : k≤1000) (ih : RxP k) (o : Int) (h4 : 4≤o) (h16 : o<16) (h12 : ¬ o=12) (h15 : ¬ o=15) (n u : Int) (s : ByteArray) (A : Option Addr) (c : Nat) (l : List PT) (w : World) (he : PT.At (· < w.heap.size) w ⟨o,n,u,s,A,c,l⟩) : Calls Tryz.prog 70 #[PT.v ⟨o,n,u,s,A,c,l⟩,.int .i64 ((k : Int)+1)] w fun r w'=>r = .returned (.bool (okE (k+1) ⟨o,n,u,s,A,c,l⟩))∧Below w.heap.size w w':=by
 have hlen:=he.rd.len;simp only [PT.a] at hlen;have HE:=Zh he;have IH:=Zh ih;simp only [PT.v];have hkd : decide ((k : Int)+1<1)=false:=decide_eq_false Zo;obtain ⟨e0,e1,e2,e3,e12,e15,el,eg,eb⟩:=op_tests h4 h16 h12 h15;clear he ih;obtain ⟨V,hVV⟩ : ∃ V,okE (k+1) ⟨o,n,u,s,A,c,l⟩=V:=⟨_,rfl⟩;rw [hVV];have HOP : Hid (opsN o=2):=Zh (opsN_bin h4 h16 h12 h15);by_cases hl : l.length=2
 ·have hlb : ((l.length : Int) == 2)=true:=beq_iff_eq.2 Zo;have HN : Hid ((bothZ n u && (empB s && l.all (okE k)))=V):=Zh (by rw [← hVV]; exact okE_rest (by rw [HOP.out,hl]; rfl) Zo Zo);clear hVV HOP;by_cases hu : u=0
  ·have hub : (u == 0)=true:=beq_iff_eq.2 hu;by_cases hn : n=0
   ·have hnb : (n == 0)=true:=beq_iff_eq.2 hn;have HN2 : Hid ((empB s && l.all (okE k))=V):=Zh (by rw [← HN.out,hu,hn]; rfl);have HLE:=Zh hl;(have hw : IntKind.i64.wrap ((k : Int)+1 - 1)=(k : Int):=by rw [IntKind.wrap_i64]; omega);have HB1 : Hid (Below w.heap.size w (w.alloc (.cells #[.int .i64 o,.int .i64 n,.int .i64 u,.string s,.slice A l.length c] 25))):=Zh qbl;have HX1:=Zh (Blk.new w 25 #[.int .i64 o,.int .i64 n,.int .i64 u,.string s,.slice A l.length c]);clear HN hub hnb;subst hu;subst hn;have HW2 : Hid (w.alloc (.cells #[.int .i64 o,.int .i64 0,.int .i64 0,.string s,.slice A 2 c] 25)=w.alloc (.cells #[.int .i64 o,.int .i64 0,.int .i64 0,.string s,.slice A l.length c] 25)):=Zh (by rw [hl]);go_enter Tryz.func70,Tryz.ntmps70;go_wp2_with fail;rw [HW2.out];clear hl HW2;generalize w.alloc (.cells _ 25)=w1 at *;go_loopw [7] (fun i wr=>∃ (j : Nat),j≤l.length∧i = .int .i64 j∧Below w1.heap.size w1 wr∧Hid ((l.take j).all (okE k)=true)) (fun i _=>l.length - (intOf i).toNat)
    case atStart=>exact ⟨0,by omega,rfl,Below.refl _ _,Zh Zs⟩
    case round =>
     obtain ⟨j,hj,rfl,hbel,HT⟩:=hrel;have HBR:=Zt HB1 hbel;have HXR:=Zh (HX1.out.later hbel);obtain ⟨a0,a1,a2,a3,a4,af,az⟩:=HXR.out.b5;by_cases hlt : j<l.length
     ·have hEW:=HE.out.later HBR.out;obtain ⟨b,q,hA,hbl,hcl⟩:=hEW.rd.at1 hlt;have HX:=Zh (hEW.all _ (List.getElem_mem hlt))
      have HSTEP : Hid (okE k l[j]=true→(l.take (j+1)).all (okE k)=true):=Zh (fun h=>by
       rw [List.take_succ_eq_append_getElem hlt,List.all_append,HT.out]; simp [h])
      have HBAD : Hid (okE k l[j]=false→false=V):=Zh (fun h=>by
       rw [← HN2.out]
       have h1 : l.all (okE k)=false:=by
        rcases hx : l.all (okE k)
        ·rfl
        ·have:=List.all_eq_true.1 hx _ (List.getElem_mem hlt);rw [h] at this; cases this
       rw [h1,Bool.and_false])
      simp only [PT.a] at hA hcl HX;clear hEW;generalize l[j]=y at *;obtain ⟨xo,xm,xu,xs,xA,xc,xl⟩:=y;obtain ⟨g0,g1,g2,g3,g4⟩:=Cells.c5 hcl;clear hcl;subst hA;have hcall:=IH.out ⟨xo,xm,xu,xs,xA,xc,xl⟩ wr HX.out;obtain ⟨t,ht⟩ : ∃ t,okE k ⟨xo,xm,xu,xs,xA,xc,xl⟩=t:=⟨_,rfl⟩;rw [ht] at hcall HSTEP HBAD;simp only [PT.v] at hcall;clear ht;go_wp2_with fail;refine hcall.mono ?_;clear hcall;rintro e w2 ⟨rfl,hb2⟩;have HB2 : Hid (Below w1.heap.size w1 w2):=Zh (hbel.trans (hb2.mono hbel.size));have HBW:=Zt HBR hb2;clear g0 g1 g2 g3 g4 a0 a1 a2 a3 a4 af az hb2 hbel HT;rcases t
      ·have HV:=Zh (HBAD.out rfl);clear HSTEP HBAD;go_wp2_with fail;go_ret;exact ⟨ret_bool HV.out,HBW.out⟩
      ·have HT2:=Zh (HSTEP.out rfl);clear HSTEP HBAD;go_wp2_with fail;go_roundw
       case rel=>exact ⟨j+1,by omega,by go_num,HB2.out,HT2⟩
       case measure=>simp [intOf]; omega
     ·have HV : Hid (s.toList.isEmpty=V):=Zh (by
       have h:=HT.out;rw [List.take_of_length_le Zo] at h;rw [← HN2.out,h,Bool.and_true]; rfl)
      clear HT HN2;go_wp2_with fail;go_ret;exact ⟨ret_bool HV.out,HBR.out⟩
   ·have hnb : (n == 0)=false:=beq_eq_false_iff_ne.2 hn;have hnc : (n != 0)=true:=bne_iff_ne.2 hn;have HV : Hid (false=V):=Zh (by rw [← HN.out]; exact both_no1 hn);clear HN HE IH;go_enter Tryz.func70,Tryz.ntmps70;go_wp2_with fail;go_ret;exact ⟨ret_bool HV.out,qbl⟩
  ·have hub : (u == 0)=false:=beq_eq_false_iff_ne.2 hu;have huc : (u != 0)=true:=bne_iff_ne.2 hu;have HV : Hid (false=V):=Zh (by rw [← HN.out]; exact both_no2 hu);clear HN HE IH;go_enter Tryz.func70,Tryz.ntmps70;go_wp2_with fail;go_ret;exact ⟨ret_bool HV.out,qbl⟩
 ·have HV : Hid (false=V):=Zh (by rw [← hVV]; exact okE_len (by rw [HOP.out]; omega));have hlb : ((l.length : Int) == 2)=false:=beq_eq_false_iff_ne.2 Zo;clear hVV HOP HE IH;go_enter Tryz.func70,Tryz.ntmps70;go_wp2_with fail;go_ret;exact ⟨ret_bool HV.out,qbl⟩
end Go.Proofs.YtcgocdhhneckhaaGreatDoor
