/- Walks: the finder's value: if, two operands; value at every right expression. -/
import Derived.Test.YtmomlipmpgcheaaGreatDoorWbxbb
import Derived.Recover
set_option linter.unusedSimpArgs false
set_option linter.unusedVariables false
set_option maxRecDepth 100000
set_option maxHeartbeats 6400000
namespace Go.Proofs.YtmomlipmpgcheaaGreatDoor
open Go.RowKit
theorem iteF_bad {a b c : FrR} (h : a.e≠0) : iteF a b c=FrR.bad a.e:=by unfold iteF; rw [if_pos h]
theorem iteF_true {a b c : FrR} (h : a.e=0) (hb : isF a=true) : iteF a b c=b:=by unfold iteF; rw [if_neg (fun h'=>h' h),if_pos hb]
theorem iteF_false {a b c : FrR} (h : a.e=0) (hb : isF a=false) : iteF a b c=c:=by unfold iteF; rw [if_neg (fun h'=>h' h),if_neg (by rw [hb]; simp)]
theorem twoF_bad {o : Int} {a b : FrR} (h : a.e≠0) : twoF o a b=FrR.bad a.e:=by unfold twoF; rw [if_pos h]
theorem twoF_bad2 {o : Int} {a b : FrR} (h : a.e=0) (h2 : b.e≠0) : twoF o a b=FrR.bad b.e:=by unfold twoF; rw [if_neg (fun h'=>h' h),if_pos h2]
theorem twoF_ok {o : Int} {a b : FrR} (h : a.e=0) (h2 : b.e=0) : twoF o a b=appF o ⟨a.p,a.q,0⟩ ⟨b.p,b.q,0⟩:=by
 unfold twoF;rw [if_neg (fun h'=>h' h),if_neg (fun h'=>h' h2)];obtain ⟨p,q,e⟩:=a;obtain ⟨r,s,f⟩:=b;simp only at h h2;subst h h2;rfl
theorem bad_e {a : FrR} (h : a.e≠0) : (FrR.bad a.e).e≠0:=h
section
variable (g m : Nat) (L : Sl LT) (T M : Sl FT) (n k : Nat)
theorem ev_val_ite (ih : ValIH g m L T M n k) (a u : Int) (s : ByteArray) (A : Option Addr) (c : Nat) (l : List PT) (x y z : PT) (hl : l=[x,y,z]) (hx : okE k x=true) (hy : okE k y=true) (hz : okE k z=true) (X : Nat→Prop) (E : List (Int × Value)) (w : World) (he : PT.At (Nm X w) w ⟨15,a,u,s,A,c,l⟩) (hs : FnSt g m L T M X E w) : Calls Tryz.prog 101 #[.pointer (some ⟨g,0,none⟩),PT.v ⟨15,a,u,s,A,c,l⟩,.int .i64 n] w fun r w'=>FnP g m L T M X E n w w' (evN T.l M.l L.l n (k+1) ⟨15,a,u,s,A,c,l⟩) r:=by
 (have hv : evN T.l M.l L.l n (k+1) ⟨15,a,u,s,A,c,l⟩=iteF (evN T.l M.l L.l n k x) (evN T.l M.l L.l n k y) (evN T.l M.l L.l n k z):=by rw [hl]; exact evN_ite);have HI:=Zh (fun Y W=>ev_is g m L T M n k ih x Y E W hx);have HJ:=Zh (fun E Y W=>ih y Y E W hy);have HK:=Zh (fun E Y W=>ih z Y E W hz);obtain ⟨V,hV⟩ : ∃ V,evN T.l M.l L.l n k x=V:=⟨_,rfl⟩;obtain ⟨U,hU⟩ : ∃ U,evN T.l M.l L.l n k y=U:=⟨_,rfl⟩;obtain ⟨Z,hZ⟩ : ∃ Z,evN T.l M.l L.l n k z=Z:=⟨_,rfl⟩;rw [hv];rw [hV] at HI ⊢;rw [hU] at HJ ⊢;rw [hZ] at HK ⊢;(have h0l : 0<l.length:=by rw [hl]; simp);(have h1l : 1<l.length:=by rw [hl]; simp);(have h2l : 2<l.length:=by rw [hl]; simp);have HX0 : Hid (l[0]? = some x):=Zh (by rw [hl]; rfl);have HX1 : Hid (l[1]? = some y):=Zh (by rw [hl]; rfl);have HX2 : Hid (l[2]? = some z):=Zh (by rw [hl]; rfl);clear hV hU hZ ih hv hl hx hy hz;obtain ⟨b,q,rfl,_⟩:=arg_at 0 he HX0.out;obtain ⟨xo,xm,xu,xs,xA,xc,xl⟩:=x;obtain ⟨yo,ym,yu,ys,yA,yc,yl⟩:=y;obtain ⟨zo,zm,zu,zs,zA,zc,zl⟩:=z;simp only [PT.v] at HJ HK;have HVS:=Zh (vs_make hs he);clear hs he;simp only [PT.v,PT.enc] at HVS HI ⊢;obtain ⟨Y,hvs⟩:=HVS.out;have HV1:=Zh hvs;clear HVS hvs;have hargs:=arg_more 0 HV1.out.ex HX0.out;obtain ⟨pb,pc⟩:=hargs;obtain ⟨p0,p1,p2,p3,p4⟩:=Cells.c5 pc;simp only [Nat.zero_mul,Nat.add_zero,Nat.reduceMul] at p0 p1 p2 p3 p4;have pl:=pb.1;clear pb pc;go_enter Tryz.func101,Tryz.ntmps101;go_wp2_with fail;generalize ((w.alloc (.cells #[.int .i64 15,.int .i64 a,.int .i64 u,.string s,.slice (some ⟨b,q,none⟩) l.length c] 25)).alloc (.cells Zf 94))=w1 at *;refine (HI.out Y w1 (arg_in HV1.out.ex HX0.out) HV1.out.st).mono ?_;rintro e w2 ⟨hr,⟨E2,hst,hne⟩,hg⟩;have HV2:=Zh (HV1.out.next hst hg);have HNE:=Zh hne;clear hst hg hne p0 p1 p2 p3 p4 pl;rcases hr with ⟨h0,rfl⟩ | ⟨h0,he⟩
 ·have H0:=Zh h0;obtain ⟨B,hB⟩ : ∃ B,isF V=B:=⟨_,rfl⟩;rw [hB];have HBB:=Zh hB;clear hB h0;obtain ⟨a0,a1,a2,a3,a4,af,az⟩:=HV2.out.bE.b5;rcases B
  ·have HR:=Zh (iteF_false (b:=U) (c:=Z) H0.out HBB.out);have hargs:=arg_more 2 HV2.out.ex HX2.out;obtain ⟨pb,pc⟩:=hargs;obtain ⟨p0,p1,p2,p3,p4⟩:=Cells.c5 pc;simp only [Nat.zero_mul,Nat.add_zero,Nat.reduceMul] at p0 p1 p2 p3 p4;have pl:=pb.1;clear pb pc;go_wp2_with fail;refine (HK.out E2 Y w2 (arg_in HV2.out.ex HX2.out) HV2.out.st).mono ?_;rintro e w3 ⟨hr,⟨E3,hst,hne⟩,hg⟩;have HV3:=Zh (HV2.out.next hst hg);have HNE3:=Zh (HNE.out.trans hne);clear hst hg hne p0 p1 p2 p3 p4 pl a0 a1 a2 a3 a4 af az H0;rcases hr with ⟨h0,f,rfl,hf⟩ | ⟨h0,he⟩
   ·skip;obtain ⟨r0,r1,r2,r3,rf,rz⟩:=HV3.out.bR.b4;have HF:=Zh hf;have H0:=Zh h0;clear hf h0;simp only [Frc.v];go_wp2_with fail;refine bodyPost_ret (v:=.agg #[.int .i64 f.p.s,.slice f.p.l.A f.p.l.l.length f.p.l.c,.int .i64 f.q.s,.slice f.q.l.A f.q.l.l.length f.q.l.c]) ?_ rfl (FnP.cast HR.out (HV3.out.fin H0.out HF.out HNE3.out));simp [results,Tryz.results101,go_sem,r0,r1,r2,r3,rz]
   ·skip;unfold ErrV at he;subst he;have H0:=Zh h0;clear h0;go_wp2_with fail;exact ⟨rfl,FnP.cast (HR.out) (HV3.out.bad H0.out HNE3.out)⟩
  ·have HR:=Zh (iteF_true (b:=U) (c:=Z) H0.out HBB.out);have hargs:=arg_more 1 HV2.out.ex HX1.out;obtain ⟨pb,pc⟩:=hargs;obtain ⟨p0,p1,p2,p3,p4⟩:=Cells.c5 pc;simp only [Nat.zero_mul,Nat.add_zero,Nat.reduceMul] at p0 p1 p2 p3 p4;have pl:=pb.1;clear pb pc;go_wp2_with fail;refine (HJ.out E2 Y w2 (arg_in HV2.out.ex HX1.out) HV2.out.st).mono ?_;rintro e w3 ⟨hr,⟨E3,hst,hne⟩,hg⟩;have HV3:=Zh (HV2.out.next hst hg);have HNE3:=Zh (HNE.out.trans hne);clear hst hg hne p0 p1 p2 p3 p4 pl a0 a1 a2 a3 a4 af az H0;rcases hr with ⟨h0,f,rfl,hf⟩ | ⟨h0,he⟩
   ·skip;obtain ⟨r0,r1,r2,r3,rf,rz⟩:=HV3.out.bR.b4;have HF:=Zh hf;have H0:=Zh h0;clear hf h0;simp only [Frc.v];go_wp2_with fail;refine bodyPost_ret (v:=.agg #[.int .i64 f.p.s,.slice f.p.l.A f.p.l.l.length f.p.l.c,.int .i64 f.q.s,.slice f.q.l.A f.q.l.l.length f.q.l.c]) ?_ rfl (FnP.cast HR.out (HV3.out.fin H0.out HF.out HNE3.out));simp [results,Tryz.results101,go_sem,r0,r1,r2,r3,rz]
   ·skip;unfold ErrV at he;subst he;have H0:=Zh h0;clear h0;go_wp2_with fail;exact ⟨rfl,FnP.cast (HR.out) (HV3.out.bad H0.out HNE3.out)⟩
 ·have HR:=Zh (iteF_bad (b:=U) (c:=Z) h0);unfold ErrV at he;subst he;have H0:=Zh h0;clear h0;go_wp2_with fail;exact ⟨rfl,FnP.cast (HR.out) (HV2.out.bad H0.out HNE.out)⟩
theorem ev_val_two (ih : ValIH g m L T M n k) (o a u : Int) (s : ByteArray) (A : Option Addr) (c : Nat) (l : List PT) (x y : PT) (hl : l=[x,y]) (hx : okE k x=true) (hy : okE k y=true) (X : Nat→Prop) (E : List (Int × Value)) (w : World) (h0 : ¬ o=0) (h1 : ¬ o=1) (h2 : ¬ o=2) (h3 : ¬ o=3) (h12 : ¬ o=12) (h13 : ¬ o=13) (h14 : ¬ o=14) (h15 : ¬ o=15) (he : PT.At (Nm X w) w ⟨o,a,u,s,A,c,l⟩) (hs : FnSt g m L T M X E w) : Calls Tryz.prog 101 #[.pointer (some ⟨g,0,none⟩),PT.v ⟨o,a,u,s,A,c,l⟩,.int .i64 n] w fun r w'=>FnP g m L T M X E n w w' (evN T.l M.l L.l n (k+1) ⟨o,a,u,s,A,c,l⟩) r:=by
 (have hv : evN T.l M.l L.l n (k+1) ⟨o,a,u,s,A,c,l⟩=twoF o (evN T.l M.l L.l n k x) (evN T.l M.l L.l n k y):=by rw [hl]; exact evN_two h0 h1 h2 h3 h13 h14);have HI:=Zh (fun Y W=>ih x Y E W hx);have HJ:=Zh (fun E Y W=>ih y Y E W hy);obtain ⟨V,hV⟩ : ∃ V,evN T.l M.l L.l n k x=V:=⟨_,rfl⟩;obtain ⟨U,hU⟩ : ∃ U,evN T.l M.l L.l n k y=U:=⟨_,rfl⟩;rw [hv];rw [hV] at HI ⊢;rw [hU] at HJ ⊢;(have h0l : 0<l.length:=by rw [hl]; simp);(have h1l : 1<l.length:=by rw [hl]; simp);have HX0 : Hid (l[0]? = some x):=Zh (by rw [hl]; rfl);have HX1 : Hid (l[1]? = some y):=Zh (by rw [hl]; rfl);clear hV hU ih hv hl hx hy;obtain ⟨b,q,rfl,_⟩:=arg_at 0 he HX0.out;obtain ⟨xo,xm,xu,xs,xA,xc,xl⟩:=x;obtain ⟨yo,ym,yu,ys,yA,yc,yl⟩:=y;simp only [PT.v] at HJ;have HVS:=Zh (vs_make hs he);clear hs he;simp only [PT.v,PT.enc] at HVS HI ⊢;obtain ⟨Y,hvs⟩:=HVS.out;have HV1:=Zh hvs;clear HVS hvs;have hargs:=arg_more 0 HV1.out.ex HX0.out;obtain ⟨pb,pc⟩:=hargs;obtain ⟨p0,p1,p2,p3,p4⟩:=Cells.c5 pc;simp only [Nat.zero_mul,Nat.add_zero,Nat.reduceMul] at p0 p1 p2 p3 p4;have pl:=pb.1;clear pb pc;go_enter Tryz.func101,Tryz.ntmps101;go_wp2_with fail;generalize ((w.alloc (.cells #[.int .i64 o,.int .i64 a,.int .i64 u,.string s,.slice (some ⟨b,q,none⟩) l.length c] 25)).alloc (.cells Zf 94))=w1 at *;refine (HI.out Y w1 (arg_in HV1.out.ex HX0.out) HV1.out.st).mono ?_;rintro e w2 ⟨hr,⟨E2,hst,hne⟩,hg⟩;have HV2:=Zh (HV1.out.next hst hg);have HNE:=Zh hne;clear hst hg hne p0 p1 p2 p3 p4 pl;rcases hr with ⟨hv0,f,rfl,hf⟩ | ⟨hv0,he⟩
 ·have HV0:=Zh hv0;have HF:=Zh hf;clear hf hv0;simp only [Frc.v];go_wp2_with fail;have HV3 : Hid (VS g m L T M X Y E2 w (w2.alloc (.cells (Zc f) 94)) ⟨o,a,u,s,some ⟨b,q,none⟩,c,l⟩):=Zh (HV2.out.later qbl);have HF3 : Hid (RG (Nm Y (w2.alloc (.cells (Zc f) 94))) (w2.alloc (.cells (Zc f) 94)) f V.p V.q):=Zh (HF.out.more qbl (Mor.refl _ _ _));have H73:=Zh (Blk.new w2 94 (Zc f));(have hm7 : w2.heap.size≠m:=by have:=HV2.out.st.mw; omega);generalize w2.alloc (.cells _ 94)=w3 at *;generalize w2.heap.size=a7 at *;obtain ⟨a0,a1,a2,a3,a4,af,az⟩:=HV3.out.bE.b5;obtain ⟨t0,t1,t2,t3,tf,tz⟩:=H73.out.b4;have hargs:=arg_more 1 HV3.out.ex HX1.out;obtain ⟨pb,pc⟩:=hargs;obtain ⟨p0,p1,p2,p3,p4⟩:=Cells.c5 pc;simp only [Nat.zero_mul,Nat.add_zero,Nat.reduceMul] at p0 p1 p2 p3 p4;have pl:=pb.1;clear pb pc;(have h1i : (1 : Int)<(l.length : Int):=by omega);refine wp_region_T (fun W=>W.cell? ⟨w.heap.size,0,none⟩=some (.int .i64 o)∧W.cell? ⟨w.heap.size,4,none⟩=some (.slice (some ⟨b,q,none⟩) l.length c)∧W.cell? ⟨a7,0,none⟩=some (.int .i64 f.p.s)∧W.cell? ⟨a7,1,none⟩=some (.slice f.p.l.A f.p.l.l.length f.p.l.c)∧W.cell? ⟨a7,2,none⟩=some (.int .i64 f.q.s)∧W.cell? ⟨a7,3,none⟩=some (.slice f.q.l.A f.q.l.l.length f.q.l.c)∧W.cell? ⟨b,q+5,none⟩=some (.int .i64 yo)∧W.cell? ⟨b,q+5+1,none⟩=some (.int .i64 ym)∧W.cell? ⟨b,q+5+2,none⟩=some (.int .i64 yu)∧W.cell? ⟨b,q+5+3,none⟩=some (.string ys)∧W.cell? ⟨b,q+5+4,none⟩=some (.slice yA yl.length yc)) (fun i=>11≤i) Zy ⟨a0,a4,t0,t1,t2,t3,p0,p1,p2,p3,p4⟩ (fun hHeld=>?_);refine Zr 0 ?_;refine Zr 1 ?_;refine Zr 2 ?_;refine Zr 3 ?_;refine Zr 4 ?_;refine Zr 5 ?_;refine Zr 6 ?_;refine Zr 7 ?_;refine Zr 8 ?_;clear hHeld;clear p0 p1 p2 p3 p4 pl a0 a1 a2 a3 a4 af az t0 t1 t2 t3 tf tz;have HV4 : Hid (VS g m L T M X Y E2 w w3.drew ⟨o,a,u,s,some ⟨b,q,none⟩,c,l⟩):=Zh (HV3.out.later (Below.drew Zz));have HF4 : Hid (RG (Nm Y w3.drew) w3.drew f V.p V.q):=Zh (HF3.out.more (Below.drew Zz) (Mor.refl _ _ _));have H74 : Hid (Blk w3.drew a7 94 (Zc f)):=Zh H73.out.drew;clear HV3 HF3 H73;generalize w3.drew=w4 at *;refine Zn 9 ?_;go_wp2_with fail;refine (HJ.out E2 Y w4 (arg_in HV4.out.ex HX1.out) HV4.out.st).mono ?_;rintro e w5 ⟨hr,⟨E5,hst,hne⟩,hg⟩;have HV5:=Zh (HV4.out.next hst hg);have HNE5:=Zh (HNE.out.trans hne);have HF5:=Zh (HF4.out.grow HV4.out.st.xm hg);have H75:=Zh (H74.out.gm hg hm7);clear hst hg hne;rcases hr with ⟨hu0,f2,rfl,hf2⟩ | ⟨hu0,he⟩
  ·have HR:=Zh (twoF_ok (o:=o) HV0.out hu0);have HF2:=Zh hf2;clear hu0 hf2;simp only [Frc.v];obtain ⟨a0,a1,a2,a3,a4,af,az⟩:=HV5.out.bE.b5;obtain ⟨t0,t1,t2,t3,tf,tz⟩:=H75.out.b4;have hargs:=arg_more 1 HV5.out.ex HX1.out;obtain ⟨pb,pc⟩:=hargs;obtain ⟨p0,p1,p2,p3,p4⟩:=Cells.c5 pc;simp only [Nat.zero_mul,Nat.add_zero,Nat.reduceMul] at p0 p1 p2 p3 p4;have pl:=pb.1;clear pb pc;go_wp2_with fail;refine And.intro (by first | exact fun _=>⟨a0,a4,t0,t1,t2,t3,p0,p1,p2,p3,p4⟩ | exact ⟨a0,a4,t0,t1,t2,t3,p0,p1,p2,p3,p4⟩) ?_;clear p0 p1 p2 p3 p4 pl a0 a1 a2 a3 a4 af az t0 t1 t2 t3 tf tz;refine Zn 10 ?_;go_wp2_with fail;refine (ev_apply Y o f f2 V.p V.q U.p U.q w5 HV5.out.st.xlt HF5.out HF2.out).mono ?_;rintro e w6 ⟨hr,hb6⟩;have HV6:=Zh (HV5.out.later hb6);have H76:=Zh (H75.out.later hb6);obtain ⟨R,hR⟩ : ∃ R,appF o ⟨V.p,V.q,0⟩ ⟨U.p,U.q,0⟩=R:=⟨_,rfl⟩;rw [hR] at hr HR;clear hR hb6;obtain ⟨a0,a1,a2,a3,a4,af,az⟩:=HV6.out.bE.b5;obtain ⟨t0,t1,t2,t3,tf,tz⟩:=H76.out.b4;have hargs:=arg_more 1 HV6.out.ex HX1.out;obtain ⟨pb,pc⟩:=hargs;obtain ⟨p0,p1,p2,p3,p4⟩:=Cells.c5 pc;simp only [Nat.zero_mul,Nat.add_zero,Nat.reduceMul] at p0 p1 p2 p3 p4;have pl:=pb.1;clear pb pc;obtain ⟨r0,r1,r2,r3,rf,rz⟩:=HV6.out.bR.b4;rcases hr with ⟨hr0,f3,rfl,hf3⟩ | ⟨hr0,he⟩
   ·have HR0:=Zh hr0;have HF6:=Zh hf3;clear hr0 hf3;simp only [Frc.v];go_wp2_with fail;refine And.intro (by first | exact fun _=>⟨a0,a4,t0,t1,t2,t3,p0,p1,p2,p3,p4⟩ | exact ⟨a0,a4,t0,t1,t2,t3,p0,p1,p2,p3,p4⟩) ?_;refine Zn 11 ?_;go_wp2_with fail;(try simp only [QT]);(try (with_reducible refine And.intro (fun h=>by simp at h) ?_));refine Ze ?_;go_wp2_with fail;refine bodyPost_ret (v:=.agg #[.int .i64 f3.p.s,.slice f3.p.l.A f3.p.l.l.length f3.p.l.c,.int .i64 f3.q.s,.slice f3.q.l.A f3.q.l.l.length f3.q.l.c]) ?_ rfl (FnP.cast HR.out (HV6.out.fin HR0.out HF6.out HNE5.out));simp [results,Tryz.results101,go_sem,r0,r1,r2,r3,rz]
   ·unfold ErrV at he;subst he;have H0:=Zh hr0;clear hr0;go_wp2_with fail;exact ⟨rfl,FnP.cast HR.out (HV6.out.bad H0.out HNE5.out)⟩
  ·have HR:=Zh (twoF_bad2 (o:=o) HV0.out hu0);unfold ErrV at he;subst he;have H0:=Zh hu0;clear hu0;go_wp2_with fail;exact ⟨rfl,FnP.cast HR.out (HV5.out.bad (r:=FrR.bad U.e) H0.out HNE5.out)⟩
 ·have HR:=Zh (twoF_bad (o:=o) (b:=U) hv0);unfold ErrV at he;subst he;have H0:=Zh hv0;clear hv0;go_wp2_with fail;exact ⟨rfl,FnP.cast HR.out (HV2.out.bad (r:=FrR.bad V.e) H0.out HNE.out)⟩
end
theorem okE_numb {k : Nat} {n u : Int} {s : ByteArray} {A : Option Addr} {c : Nat} {l : List PT} (h : okE (k+1) ⟨0,n,u,s,A,c,l⟩=true) : -9223372036854775808≤n∧n≤9223372036854775807:=by
 rw [← okE_num (okE_is h)] at h;simp only [Bool.and_eq_true,inB,decide_eq_true_eq] at h;obtain ⟨_,_,h1,h2⟩:=h;split at h2 <;> omega
theorem len_one {l : List PT} (h : l.length=1) : ∃ x,l=[x]:=by
 match l,h with
 | [x],_=>exact ⟨x,rfl⟩
theorem len_two {l : List PT} (h : l.length=2) : ∃ x y,l=[x,y]:=by
 match l,h with
 | [x,y],_=>exact ⟨x,y,rfl⟩
theorem len_three {l : List PT} (h : l.length=3) : ∃ x y z,l=[x,y,z]:=by
 match l,h with
 | [x,y,z],_=>exact ⟨x,y,z,rfl⟩
theorem opsN_two {o : Int} {n : Nat} (h : (n : Int)=opsN o) (h0 : ¬ o=0) (h1 : ¬ o=1) (h2 : ¬ o=2) (h3 : ¬ o=3) (h12 : ¬ o=12) (h15 : ¬ o=15) : n=2:=by
 unfold opsN at h;rw [if_neg h0,if_neg h1,if_neg h2,if_neg h3,if_neg h12,if_neg h15] at h;split at h
 ·omega
 ·split at h <;> omega
theorem ev_value (g m : Nat) (L : Sl LT) (T M : Sl FT) (hok : ∀ x,x ∈ L.l→okE 12 x.b=true) (hT : ∀ x,x ∈ T.l→-9223372036854775808≤x.v∧x.v≤9223372036854775807) (hM : ∀ x,x ∈ M.l→-9223372036854775808≤x.v∧x.v≤9223372036854775807) : ∀ n,n≤L.l.length→∀ k,ValIH g m L T M n k:=by
 intro n
 induction n using Nat.strongRecOn with
 | ind n ihn =>
  intro hn k
  induction k with
  | zero=>intro e X E W hk; unfold okE at hk; cases hk
  | succ k ih =>
   rintro ⟨o,a,u,s,A,c,l⟩ X E W hk he hs;by_cases h0 : o=0
   ·subst h0;exact ev_val_num g m L T M n k a u s A c l X E W (okE_numb hk).1 (okE_numb hk).2 he hs
   by_cases h1 : o=1
   ·subst h1;exact ev_val_name g m L T M n k hn (fun j hj=>ihn j hj Zo 12) hok a u s A c l X E W he hs
   by_cases h2 : o=2
   ·subst h2;exact ev_val_trip g m L T M n k a u s A c l X E W hT he hs
   by_cases h3 : o=3
   ·subst h3;exact ev_val_memb g m L T M n k a u s A c l X E W hM he hs
   have hall:=okE_all hk h0 h1 h2 h3;have hlen:=okE_is hk;by_cases h12 : o=12
   ·subst h12;obtain ⟨x,rfl⟩:=len_one (l:=l) (by have h : opsN 12=1:=(by decide); omega);exact ev_val_not g m L T M n k ih a u s A c _ x rfl (hall x Zs) X E W he hs
   by_cases h15 : o=15
   ·subst h15;obtain ⟨x,y,z,rfl⟩:=len_three (l:=l) (by have h : opsN 15=3:=(by decide); omega);exact ev_val_ite g m L T M n k ih a u s A c _ x y z rfl (hall x Zs) (hall y Zs) (hall z Zs) X E W he hs
   obtain ⟨x,y,rfl⟩:=len_two (l:=l) (opsN_two hlen h0 h1 h2 h3 h12 h15);have hx:=hall x Zs;have hy:=hall y Zs;by_cases h13 : o=13
   ·subst h13;exact ev_val_and g m L T M n k ih a u s A c _ x y rfl hx hy X E W he hs
   by_cases h14 : o=14
   ·subst h14;exact ev_val_or g m L T M n k ih a u s A c _ x y rfl hx hy X E W he hs
   exact ev_val_two g m L T M n k ih o a u s A c _ x y rfl hx hy X E W h0 h1 h2 h3 h12 h13 h14 h15 he hs
def ernV (en : Int) : Value:=.iface 31 (.int .i64 en)
theorem ev_catch_idle (p q : Addr) (w : World) : CallsD Tryz.prog 100 #[.pointer (some p),.pointer (some q)] .returning w fun e u' w'=>e = .returned (.tuple #[])∧u' = .returning∧w'=w:=by
 refine callsD_of_wpS Tryz.func100 rfl fun c₀ cs hu=>?_;apply wpS_seq;apply wpS_region;simp [wpOpsS,go_sem,recoverD,hu,Tryz.ntmps100,Exit.thenS];refine wpS_of_wp ?_;generalize htm : (#[Value.pointer (some p),Value.pointer (some q)] ++ ((Array.replicate 16 undef).setIfInBounds 3 Value.nilIface).setIfInBounds 0 Value.nilIface)=tm;(have htm2 : tm = #[.pointer (some p),.pointer (some q),.nilIface,undef,undef,.nilIface,undef,undef,undef,undef,undef,undef,undef,undef,undef,undef,undef,undef]:=by rw [← htm]; rfl);subst htm2;clear htm;go_wp2_with fail;exact ⟨rfl,.returning,by rw [← hu],_,by simp [results,Tryz.results100,go_sem],rfl,rfl,rfl⟩
theorem ev_catch (p q : Nat) (hpq : p≠q) (B : Nat) (hBp : B≤p) (hBq : B≤q) (en : Int) (older : List PanicEntry) (w : World) (x0 x1 x2 x3 y : Value) (hp : Blk w p 94 #[x0,x1,x2,x3]) (hq : Blk w q 31 #[y]) : CallsD Tryz.prog 100 #[.pointer (some ⟨p,0,none⟩),.pointer (some ⟨q,0,none⟩)] (.panicking ({ v:=ernV en,recovered:=false } :: older)) w fun e u' w' =>
 e = .returned (.tuple #[])∧u' = .panicking ({ v:=ernV en,recovered:=true } :: older)∧Blk w' p 94 Zf∧Blk w' q 31 #[.int .i64 en]∧Below B w w':=by
 unfold ernV
 refine callsD_of_wpS Tryz.func100 rfl fun c₀ cs hu=>?_
 apply wpS_seq
 apply wpS_region
 simp [wpOpsS,go_sem,recoverD,hu,Tryz.ntmps100,Exit.thenS]
 refine wpS_of_wp ?_
 generalize htm : (#[Value.pointer (some ⟨p,0,none⟩),Value.pointer (some ⟨q,0,none⟩)] ++ ((Array.replicate 16 undef).setIfInBounds 3 (Value.iface 31 (Value.int IntKind.i64 en))).setIfInBounds 0 (Value.iface 31 (Value.int IntKind.i64 en)))=tm
 have htm2 : tm = #[.pointer (some ⟨p,0,none⟩),.pointer (some ⟨q,0,none⟩),(Value.iface 31 (Value.int IntKind.i64 en)),undef,undef,(Value.iface 31 (Value.int IntKind.i64 en)),undef,undef,undef,undef,undef,undef,undef,undef,undef,undef,undef,undef]:=by rw [← htm]; rfl
 subst htm2
 clear htm
 have HP:=Zh hp
 have HQ:=Zh hq
 obtain ⟨p0,p1,p2,p3,pf,pz⟩:=hp.b4
 obtain ⟨q0,qf,qz⟩:=hq.b1
 clear hp hq hu
 have hta : ∀ (w : World),(Instr.typeAssert (Value.iface 31 (Value.int IntKind.i64 en)) 20 31 true).run Tryz.prog w = .ok (.tuple #[.int .i64 en,.bool true]) w:=fun _=>by kernel_rfl
 go_wp2_with fail
 refine ⟨rfl,_,rfl,_,by simp [results,Tryz.results100,go_sem],rfl,rfl, ?_, ?_, ?_⟩
 ·exact (by simpa using ((((HP.out.set_ 0 (.int .i64 0)).set_ 1 (.slice none 0 0)).set_ 2 (.int .i64 0)).set_ 3 (.slice none 0 0)).far hpq (.int .i64 en))
 ·exact (by simpa using ((((HQ.out.far (Ne.symm hpq) (.int .i64 0)).far (Ne.symm hpq) (.slice none 0 0)).far (Ne.symm hpq) (.int .i64 0)).far (Ne.symm hpq) (.slice none 0 0)).set_ 0 (.int .i64 en))
 ·exact (below_st4 (Below.refl B w) hBp).setCell hBq _
end Go.Proofs.YtmomlipmpgcheaaGreatDoor
