/- Walks: tonneauref05.Same, Of; law 32's is, small. -/
import Derived.Test.YtcgocdhhneckhaaGreatDoorEvbxbl
import Derived.Test.YtcgocdhhneckhaaGreatDoorEvbxbp
import Derived.Test.YtcgocdhhneckhaaGreatDoorEvbxay
set_option linter.unusedSimpArgs false
set_option linter.unusedVariables false
set_option maxRecDepth 100000
set_option maxHeartbeats 6400000
namespace Go.Proofs.YtcgocdhhneckhaaGreatDoor
open Go.RowKit
structure FB (w : World) (f : Frc) (p q : Int) : Prop where
  P : RB w f.p p
  Q : RB w f.q q
theorem FB.later {w w' : World} {f : Frc} {p q : Int} (h : FB w f p q) (hb : Below w.heap.size w w') : FB w' f p q:=⟨h.P.later hb,h.Q.later hb⟩
theorem fits_zero : Fits 0:=fits_i64 Zo Zo
theorem FB.zero (w : World) : FB w Frc.zero 0 0:=⟨⟨Rd.nil _ _ _ _,rfl,digs_zero.symm,fits_zero⟩,⟨Rd.nil _ _ _ _,rfl,digs_zero.symm,fits_zero⟩⟩
def pF (r : FrR) : Int:=if r.e=0 then r.p else 0
def qF (r : FrR) : Int:=if r.e=0 then r.q else 0
theorem FB.val {w : World} {f : Frc} {r : FrR} (hok : r.e=0→RG (· < w.heap.size) w f r.p r.q) (hno : r.e≠0→f=Frc.zero) : FB w f (pF r) (qF r):=by
 unfold pF qF;by_cases h : r.e=0
 ·rw [if_pos h,if_pos h];have hg:=hok h;exact ⟨⟨hg.P,hg.dp.1,hg.dp.2,hg.ok.fp⟩,⟨hg.Q,hg.dq.1,hg.dq.2,hg.ok.fq⟩⟩
 ·rw [if_neg h,if_neg h,hno h];exact FB.zero w
theorem FrP.fb {w w' : World} {r : FrR} {e : Ending} (h : FrP w w' r e) (h0 : r.e=0) (hp : Fits r.p) (hq : Fits r.q) : ∃ f : Frc,e = .returned (.tuple #[f.v,.int .i64 0])∧FB w' f r.p r.q∧Below w.heap.size w w':=by
 obtain ⟨f,rfl,hok,_,hP,hQ,hb⟩:=h;obtain ⟨h1,h2⟩:=hok h0;exact ⟨f,by rw [h0],⟨RB.mk' (hP.mono fun b hb=>hb.2) h1 hp,RB.mk' (hQ.mono fun b hb=>hb.2) h2 hq⟩,hb⟩
theorem r05_Same (f g : Frc) (p q r s : Int) (w : World) (hf : FB w f p q) (hg : FB w g r s) : Calls Tryz.prog 16 #[f.v,g.v] w fun e w'=>e = .returned (.bool (decide (p=r) && decide (q=s)))∧Below w.heap.size w w':=by
 have hb0 : Below w.heap.size w ((w.alloc (.cells (Zc f) 36)).alloc (.cells (Zc g) 36)):=qbl;have hc:=r05_SameBig f.p g.p p r _ (hf.P.later hb0) (hg.P.later hb0);have HC2:=Zh (fun W (hW : Below w.heap.size w W)=>r05_SameBig f.q g.q q s W (hf.Q.later hW) (hg.Q.later hW));have HB0:=Zh hb0;have HF0 : Hid (Blk ((w.alloc (.cells (Zc f) 36)).alloc (.cells (Zc g) 36)) w.heap.size 36 (Zc f)):=Zh ((Blk.new _ _ _).alloc _);have HG0 : Hid (Blk ((w.alloc (.cells (Zc f) 36)).alloc (.cells (Zc g) 36)) (w.heap.size+1) 36 (Zc g)):=Zh (Blk.new' Zs);clear hf hg hb0;obtain ⟨D,hD⟩ : ∃ D,decide (p=r)=D:=⟨_,rfl⟩;rw [hD] at hc ⊢;clear hD;simp only [Frc.v,Big.v] at hc HC2 ⊢;go_enter Tryz.func16,Tryz.ntmps16;rcases D
 ·go_wp2_with fail;refine hc.mono ?_;clear hc;rintro e w1 ⟨rfl,hb1⟩;have HB1:=Zt HB0 hb1;clear hb1;go_wp2_with fail;go_ret;exact ⟨rfl,HB1.out⟩
 ·go_wp2_with fail;refine hc.mono ?_;clear hc;rintro e w1 ⟨rfl,hb1⟩;have HB1:=Zt HB0 hb1;obtain ⟨x0,x1,x2,x3,xf,xz⟩:=(HF0.out.later hb1).b4;obtain ⟨y0,y1,y2,y3,yf,yz⟩:=(HG0.out.later hb1).b4;clear hb1;go_wp2_with fail;refine (HC2.out _ HB1.out).mono ?_;rintro e w2 ⟨rfl,hb2⟩;go_wp2_with fail;go_ret;exact ⟨by simp,HB1.out.trans (hb2.mono HB1.out.size)⟩
theorem r05_OfQ (n q : Int) (w : World) (hq : 0<q) (h0 : -9223372036854775808≤n) (h1 : n≤9223372036854775807) (hq1 : q≤9223372036854775807) : Calls Tryz.prog 20 #[.int .i64 n,.int .i64 q] w fun e w'=>FrP w w' (newI n q) e:=by
 have hq0 : (newI n q).e=0:=(newI_ok Zo (fits_i64 h0 h1) (fits_i64 Zo hq1)).1;obtain ⟨NV,hNV⟩ : ∃ v,newI n q=v:=⟨_,rfl⟩;have HNV:=Zh hNV;(have hne0 : NV.e=0:=by rw [← hNV]; exact hq0);have HE0:=Zh hne0;rw [hNV];clear hNV hq0 hne0;go_enter Tryz.func20,Tryz.ntmps20;go_wp2_with fail;refine (r04_Of n _ h0 h1).mono ?_;rintro e w1 hp;obtain ⟨a,rfl,ha,hb1⟩:=hp.rb (fits_i64 h0 h1);obtain ⟨B_r,r0,r1,r2,r3,rf,rz⟩:=Zb4 (Zk1 (g:=w.heap.size) (t:=36) (cs:=Zf) hb1);have hB1 : Below w.heap.size w w1:=qbv;have HA:=Zh ha;clear ha hb1 hp;simp only [Big.v];go_wp2_with fail;refine (r04_Of q _ Zo hq1).mono ?_;rintro e w2 hp;obtain ⟨b,rfl,hb,hb2⟩:=hp.rb (fits_i64 Zo hq1);clear r0 r1 r2 r3 rf rz;obtain ⟨B_r,r0,r1,r2,r3,rf,rz⟩:=Zb4 (Zks B_r hb2);have hB2 : Below w.heap.size w w2:=qbv;have HB:=Zh hb;have HA2:=Zh (HA.out.later hb2);clear hb hb2 hp HA;simp only [Big.v];go_wp2_with fail;refine (r05_new_pos a b n q _ HA2.out HB.out hq).mono ?_;rintro e w3 ⟨⟨⟨ps,pl⟩,⟨qs,ql⟩⟩,rfl,hok,hno,hpr,hqr,hb3⟩;have hz2 : w.heap.size<w2.heap.size:=rz;clear r0 r1 r2 r3 rf rz;obtain ⟨B_r,r0,r1,r2,r3,rf,rz⟩:=Zb4 (Zks B_r hb3);have hB3 : Below w.heap.size w w3:=qbv;rw [HNV.out] at hok hno;have HOK:=Zh hok;have HNO:=Zh hno;have HPR:=Zh hpr;have HQR:=Zh hqr;have hnw:=HNV.out;rw [hnw];clear hok hno hpr hqr hb3 hnw;simp only [Frc.v];go_wp2_with fail;(have hne : ∀ b,w2.heap.size≤b→b≠w.heap.size:=fun b hb=>by omega);refine bodyPost_ret (v:=.tuple #[.agg #[.int .i64 ps,.slice pl.A pl.l.length pl.c,.int .i64 qs,.slice ql.A ql.l.length ql.c],.int .i64 NV.e]) ?_ rfl ⟨⟨⟨ps,pl⟩,⟨qs,ql⟩⟩,rfl,HOK.out,HNO.out,rd_st4 HPR.out hne Zo,rd_st4 HQR.out hne Zo,below_st4 hB3⟩;simp [results,Tryz.results20,go_sem,r0,r1,r2,r3]
theorem law_isT (s : ByteArray) (t0 : PT) (V : FrR) (n q : Int) (hpar : parseE s.data.toList = .ok (shp t0)) (hval : evalF baseL t0 docT docM=V) (hn : newI n q=V) (h0 : V.e=0) (hp : Fits V.p) (hq2 : Fits V.q) (hq : 0<q) (hn0 : -9223372036854775808≤n) (hn1 : n≤9223372036854775807) (hq1 : q≤9223372036854775807) (w : World) (hs : s.size≤9223372036854775807) (hg : SigW w) : Calls Tryz.prog 28 #[.string s,.int .i64 n,.int .i64 q] w fun r w'=>r = .returned (.bool true)∧Below w.heap.size w w':=by
 have hc:=law_ofT s t0 V hpar hval w hs hg;have HO:=Zh (fun W=>r05_OfQ n q W hq hn0 hn1 hq1);rw [hn] at HO;have HH:=Zh (And.intro h0 (And.intro hp hq2));clear hpar hval hn h0 hp hq2 hq hn0 hn1 hq1 hg;go_enter Tryz.func28,Tryz.ntmps28;go_wp2_with fail;refine hc.mono ?_;clear hc;rintro r w1 ⟨f,rfl,hok,hno,hb1⟩;have hf:=FB.val hok hno;have hpf : pF V=V.p:=if_pos HH.out.1;have hqf : qF V=V.q:=if_pos HH.out.1;rw [hpf,hqf] at hf;have HB1:=Zh hb1;have HF:=Zh hf;have hve:=HH.out.1;rw [hve];clear hok hno hb1 hf hpf hqf hve;simp only [Frc.v];go_wp2_with fail;have HB2 : Hid (Below w.heap.size w (w1.alloc (.cells (Zc f) 36))):=Zh (HB1.out.alloc HB1.out.size _);have HF2 : Hid (FB (w1.alloc (.cells (Zc f) 36)) f V.p V.q):=Zh (HF.out.later qbl);have HX2:=Zh (Blk.new w1 36 (Zc f));clear HB1 HF;generalize w1.alloc (.cells _ 36)=w2 at *;generalize w1.heap.size=g2 at *;refine (HO.out w2).mono ?_;clear HO;rintro r w3 hp;obtain ⟨g,rfl,hg,hb3⟩:=hp.fb HH.out.1 HH.out.2.1 HH.out.2.2;have HB3:=Zt HB2 hb3;have HF3:=Zh (HF2.out.later hb3);have HX3:=Zh (HX2.out.later hb3);have HG3:=Zh hg;clear hp hb3 hg HB2 HF2 HX2;simp only [Frc.v];(iterate 15 (first | go_values | go_skip | go_guarded | go_step | go_upon | go_back));have HB4 : Hid (Below w.heap.size w (w3.alloc (.cells (Zc g) 36))):=Zh (HB3.out.alloc HB3.out.size _);have hal : Below w3.heap.size w3 (w3.alloc (.cells (Zc g) 36)):=Zz.alloc Zl _;have HF4:=Zh (HF3.out.later hal);have HG4:=Zh (HG3.out.later hal);have HX4:=Zh (HX3.out.later hal);have HY4:=Zh (Blk.new w3 36 (Zc g));clear HB3 HF3 HG3 HX3 hal;generalize w3.alloc (.cells _ 36)=w4 at *;generalize w3.heap.size=g4 at *;obtain ⟨x0,x1,x2,x3,xf,xz⟩:=HX4.out.b4;obtain ⟨y0,y1,y2,y3,yf,yz⟩:=HY4.out.b4;have hcl:=r05_Same f g V.p V.q V.p V.q w4 HF4.out HG4.out;simp only [Frc.v] at hcl;go_wp2_with fail;refine hcl.mono ?_;clear hcl;rintro r w5 ⟨rfl,hb5⟩;simp only [decide_true,Bool.and_self];go_wp2_with fail;go_ret;exact ⟨rfl,HB4.out.trans (hb5.mono HB4.out.size)⟩
theorem new106 : newI 106 1=⟨106,1,0⟩:=by kernel_rfl
theorem new15 : newI 15 2=⟨15,2,0⟩:=by kernel_rfl
theorem new0 : newI 0 1=⟨0,1,0⟩:=by kernel_rfl
theorem new100 : newI 100 1=⟨100,1,0⟩:=by kernel_rfl
theorem factsN {F : Nat→Prop} {w : World} : FactsAt F w ⟨none,0,[]⟩:=⟨Rd.nil _ _ _ _,fun x hx=>by cases hx⟩
theorem letsN {F : Nat→Prop} {w : World} : LetsAt F w ⟨none,0,[]⟩:=⟨Rd.nil _ _ _ _,fun x hx=>by cases hx⟩
def byl0 : Byl:=bylO ⟨none,0,[]⟩
theorem wh_seven : whF (evalF [] (nd2 7 (lfP 0 30 0 empS) (lfP 0 4 0 empS)) [] [])=(7,0):=by kernel_rfl
theorem tr_one : trF (evalF [] (lfP 0 1 3 empS) [] [])=true:=by kernel_rfl
theorem tr_onee : (evalF [] (lfP 0 1 3 empS) [] []).e=0:=by kernel_rfl
theorem pt_lit {w : World} {o n u : Int} {s : ByteArray} {cs : Array Value} {l : List PT} {k : Nat} (hk : l.length=k) (hs : s.size≤9223372036854775807) (hm : l.length≤maxLen) (hc : cs.toList=l.flatMap PT.enc) (hl : ∀ x,x ∈ l→PT.At (· < w.heap.size) w x) : PT.At (· < (w.alloc (.cells cs 25)).heap.size) (w.alloc (.cells cs 25)) ⟨o,n,u,s,some ⟨w.heap.size,0,none⟩,k,l⟩:=by
 subst hk;exact .mk hs (((Own.lit (base:=w.heap.size) (e:=25) w cs l Zl hm hc PT.enc_k).rd PT.enc_k).mono (fun b hb=>hb.2)) (fun x hx=>(hl x hx).later (Zz.alloc Zl _))
theorem lf_at {F : Nat→Prop} {w : World} {o n u : Int} : PT.At F w (lfP o n u empS):=pt_leafD _ _ _ _ _ _ (by show (ByteArray.size ⟨#[]⟩)≤_; decide)
theorem law32_small (w : World) (hg : SigW w) : Calls Tryz.prog 8 #[] w fun e w'=>e = .returned (.bool true)∧Below w.heap.size w w':=by
 have HG:=Zh hg;have hc:=law_ofT st1 tx1 _ par_1 val_1 w (by show (ByteArray.size st1)≤_; decide) hg;clear hg;unfold st1 at hc;go_enter Tryz.func8,Tryz.ntmps8;go_wp2_with fail;refine hc.mono ?_;clear hc;rintro r w1 ⟨f1,rfl, -, -,hb1⟩;have HB1:=Zh hb1;clear hb1;simp only [Frc.v];go_wp2_with fail;have HBa : Hid (Below w.heap.size w (w1.alloc (.cells (Zc f1) 36))):=Zh (HB1.out.alloc HB1.out.size _);clear HB1;generalize w1.alloc (.cells _ 36)=wa at *;have hc:=law_ofT st2 tx2 _ par_2 val_2 wa (by show (ByteArray.size st2)≤_; decide) (HG.out.later HBa.out);unfold st2 at hc;refine hc.mono ?_;clear hc;rintro r w2 ⟨f2,rfl, -, -,hb2⟩;have HB2:=Zt HBa hb2;clear hb2 HBa;simp only [Frc.v];go_wp2_with fail;(have hz : w2.heap.size+1=(w2.alloc (.cells (Zc f2) 36)).heap.size:=by simp);have HBb : Hid (Below w.heap.size w (w2.alloc (.cells (Zc f2) 36))):=Zh (HB2.out.alloc HB2.out.size _);rw [hz];clear hz HB2;generalize w2.alloc (.cells _ 36)=wb at *;have hat : PT.At (· < (wb.alloc (.cells #[.int .i64 0,.int .i64 30,.int .i64 0,.string ⟨#[]⟩,.slice none 0 0,.int .i64 0,.int .i64 4,.int .i64 0,.string ⟨#[]⟩,.slice none 0 0] 25)).heap.size) (wb.alloc (.cells #[.int .i64 0,.int .i64 30,.int .i64 0,.string ⟨#[]⟩,.slice none 0 0,.int .i64 0,.int .i64 4,.int .i64 0,.string ⟨#[]⟩,.slice none 0 0] 25)) ⟨7,0,0,⟨#[]⟩,some ⟨wb.heap.size,0,none⟩,2,[lfP 0 30 0 empS,lfP 0 4 0 empS]⟩:=pt_lit rfl (by decide) (by simp [maxLen]) rfl (fun y hy=>two_mem hy lf_at lf_at);have hc:=ev_Whole byl0 ⟨7,0,0,⟨#[]⟩,some ⟨wb.heap.size,0,none⟩,2,[lfP 0 30 0 empS,lfP 0 4 0 empS]⟩ ⟨none,0,[]⟩ ⟨none,0,[]⟩ _ (bylO_at letsN) hat factsN factsN
 have hv : whF (evalF byl0.lets.l ⟨7,0,0,⟨#[]⟩,some ⟨wb.heap.size,0,none⟩,2,[lfP 0 30 0 empS,lfP 0 4 0 empS]⟩ [] [])=(7,0):=by
  have hs : shp ⟨7,0,0,⟨#[]⟩,some ⟨wb.heap.size,0,none⟩,2,[lfP 0 30 0 empS,lfP 0 4 0 empS]⟩=shp (nd2 7 (lfP 0 30 0 empS) (lfP 0 4 0 empS)):=(shp_mk _ _ _ _ _ _ _).trans (shp_mk _ _ _ _ _ _ _).symm;rw [evalF_shp hs];exact wh_seven
 simp only at hc;rw [hv] at hc;clear hv hat;refine hc.mono ?_;clear hc;rintro r w3 ⟨rfl,hb3⟩;have HB3:=Zh (HBb.out.trans ((below_via hb3 ((Below.refl wb.heap.size wb).alloc Zl _)).mono HBb.out.size));clear hb3 HBb;go_wp2_with fail;have hc:=ev_Truth byl0 (lfP 0 1 3 empS) ⟨none,0,[]⟩ ⟨none,0,[]⟩ w3 (bylO_at letsN) lf_at factsN factsN;have hv : trF (evalF byl0.lets.l (lfP 0 1 3 empS) [] [])=true:=tr_one;have hv2 : (evalF byl0.lets.l (lfP 0 1 3 empS) [] []).e=0:=tr_onee;simp only at hc;rw [hv,hv2] at hc;clear hv hv2;refine hc.mono ?_;clear hc;rintro r w4 ⟨rfl,hb4⟩;have HB:=Zt HB3 hb4;clear hb4 HB3;go_wp2_with fail;have hc:=law_isT st3 tx3 _ 106 1 par_3 val_3 new106 rfl (fits_i64 (by decide) (by decide)) (fits_i64 (by decide) (by decide)) (by decide) (by decide) (by decide) (by decide) _ (by show (ByteArray.size st3)≤_; decide) (HG.out.later HB.out);unfold st3 at hc;refine hc.mono ?_;clear hc;rintro r wn ⟨rfl,hbn⟩;have HBN:=Zt HB hbn;clear hbn HB;have HB:=HBN;clear HBN;go_wp2_with fail;have hc:=law_isT st4 tx4 _ 15 2 par_4 val_4 new15 rfl (fits_i64 (by decide) (by decide)) (fits_i64 (by decide) (by decide)) (by decide) (by decide) (by decide) (by decide) _ (by show (ByteArray.size st4)≤_; decide) (HG.out.later HB.out);unfold st4 at hc;refine hc.mono ?_;clear hc;rintro r wn ⟨rfl,hbn⟩;have HBN:=Zt HB hbn;clear hbn HB;have HB:=HBN;clear HBN;go_wp2_with fail;have hc:=law_isT st5 tx5 _ 0 1 par_5 val_5 new0 rfl (fits_i64 (by decide) (by decide)) (fits_i64 (by decide) (by decide)) (by decide) (by decide) (by decide) (by decide) _ (by show (ByteArray.size st5)≤_; decide) (HG.out.later HB.out);unfold st5 at hc;refine hc.mono ?_;clear hc;rintro r wn ⟨rfl,hbn⟩;have HBN:=Zt HB hbn;clear hbn HB;have HB:=HBN;clear HBN;go_wp2_with fail;have hc:=law_isT st6 tx6 _ 100 1 par_6 val_6 new100 rfl (fits_i64 (by decide) (by decide)) (fits_i64 (by decide) (by decide)) (by decide) (by decide) (by decide) (by decide) _ (by show (ByteArray.size st6)≤_; decide) (HG.out.later HB.out);unfold st6 at hc;refine hc.mono ?_;clear hc;rintro r wn ⟨rfl,hbn⟩;have HBN:=Zt HB hbn;clear hbn HB;have HB:=HBN;clear HBN;go_wp2_with fail;go_ret;exact ⟨rfl,HB.out⟩
def AnyP (w w' : World) (r : Ending) : Prop:=∃ t,r = .returned (.bool t)∧Below w.heap.size w w'
def NodP (w w' : World) (m : Int) (r : Ending) : Prop:=∃ k : Int,r = .returned (.int .i64 k)∧1≤k∧k≤m+1∧Below w.heap.size w w'
def NodIH (d : Nat) : Prop:=∀ (e : PT) (m : Int) (W : World),0≤m→m≤60→PT.At (· < W.heap.size) W e→Calls Tryz.prog 30 #[e.v,.int .i64 m,.int .i64 d] W fun r w'=>NodP W w' m r
theorem nodes_deep : NodIH 0:=by
 rintro ⟨o,a,u,s,A,c,l⟩ m w h0 h1 he;simp only [PT.v];go_enter Tryz.func30,Tryz.ntmps30;go_wp2_with fail;go_ret;exact ⟨m+1,rfl,by omega,by omega,qbl⟩
theorem nodes_more (d : Nat) (hd : d≤15) (ih : NodIH d) : NodIH (d+1):=by
 rintro ⟨o,a,u,s,A,c,l⟩ m w h0 h1 he;have HE:=Zh he;have hsz:=he.str;have hln:=he.rd.len;simp only [PT.s,PT.a] at hsz hln;clear he;simp only [PT.v];(have hd0 : ((d+1 : Nat) : Int)=(d : Int)+1:=by omega);rw [hd0];clear hd0;by_cases hs : (40 : Int)<(s.size : Int)
 ·go_enter Tryz.func30,Tryz.ntmps30;go_wp2_with fail;go_ret;exact ⟨m+1,rfl,by omega,by omega,qbl⟩
 ·go_enter Tryz.func30,Tryz.ntmps30;go_wp2_with fail;have HB1 : Hid (Below w.heap.size w (w.alloc (.cells #[.int .i64 o,.int .i64 a,.int .i64 u,.string s,.slice A l.length c] 25))):=Zh qbl;have HX1:=Zh (Blk.new w 25 #[.int .i64 o,.int .i64 a,.int .i64 u,.string s,.slice A l.length c]);generalize w.alloc (.cells _ 25)=w1 at *;go_loopw [7,8] (fun n i wr=>∃ (j : Nat) (k : Int),j≤l.length∧i = .int .i64 j∧n = .int .i64 k∧1≤k∧k≤m+1∧Below w1.heap.size w1 wr) (fun _ i _=>l.length - (intOf i).toNat)
  case atStart=>exact ⟨0,1,by omega,rfl,rfl,by omega,by omega,Below.refl _ _⟩
  case round =>
   obtain ⟨j,k,hj,rfl,rfl,hk0,hk1,hbel⟩:=hrel;have HBR:=Zt HB1 hbel;have HXR:=Zh (HX1.out.later hbel);obtain ⟨a0,a1,a2,a3,a4,af,az⟩:=HXR.out.b5;by_cases hlt : j<l.length
   ·by_cases hkm : k≤m
    ·have hEW:=HE.out.later HBR.out;obtain ⟨b,q,hA,hbl,hcl⟩:=hEW.rd.at1 hlt;have HX:=Zh (hEW.all _ (List.getElem_mem hlt));simp only [PT.a] at hA hcl HX;clear hEW;generalize l[j]=x at *;obtain ⟨xo,xm,xu,xs,xA,xc,xl⟩:=x;obtain ⟨g0,g1,g2,g3,g4⟩:=Cells.c5 hcl;clear hcl;subst hA;have hcall:=ih ⟨xo,xm,xu,xs,xA,xc,xl⟩ (m - k) wr Zo Zo HX.out;simp only [PT.v] at hcall;go_wp2_with fail;refine hcall.mono ?_;clear hcall;rintro e w2 ⟨k2,rfl,hk20,hk21,hb2⟩;have HB2 : Hid (Below w1.heap.size w1 w2):=Zh (hbel.trans (hb2.mono hbel.size));clear hb2 g0 g1 g2 g3 g4 a0 a1 a2 a3 a4 af az;go_wp2_with fail;go_roundw
     case rel=>exact ⟨j+1,k+k2,by omega,by go_num,rfl,by omega,by omega,HB2.out⟩
     case measure=>simp [intOf]; omega
    ·go_wp2_with fail;go_ret;exact ⟨k,rfl,hk0,hk1,HBR.out⟩
   ·go_wp2_with fail;go_ret;exact ⟨k,rfl,hk0,hk1,HBR.out⟩
theorem nodes_any : ∀ d : Nat,d≤16→NodIH d
 | 0,_=>nodes_deep
 | d+1,h=>nodes_more d Zo (nodes_any d Zo)
theorem few_exp (e : PT) (w : World) (he : PT.At (· < w.heap.size) w e) : Calls Tryz.prog 10 #[e.v] w fun r w'=>AnyP w w' r:=by
 have hb : Below w.heap.size w (w.alloc (.cells e.enc.toArray 25)):=qbl;have hcall:=nodes_any 16 Zl e 60 _ Zo Zo (he.later hb);have HB:=Zh hb;clear hb he;obtain ⟨o,a,u,s,A,c,l⟩:=e;simp only [PT.v,PT.enc] at hcall HB ⊢;go_enter Tryz.func10,Tryz.ntmps10;go_wp2_with fail;refine hcall.mono ?_;clear hcall;rintro e w2 ⟨k,rfl,_,_,hb2⟩;have HB2:=Zt HB hb2;clear hb2;go_wp2_with fail;go_ret;exact ⟨_,rfl,HB2.out⟩
theorem few_names (l : Sl FT) (w : World) (hl : FactsAt (· < w.heap.size) w l) : Calls Tryz.prog 29 #[.slice l.A l.l.length l.c] w fun r w'=>AnyP w w' r:=by
 have hn:=hl.rd.len;have HR:=Zh hl;clear hl;obtain ⟨A,c,l⟩:=l;simp only at hn;simp only;go_enter Tryz.func29,Tryz.ntmps29;go_wp2_with fail;go_loopw [3] (fun i wr=>∃ (k : Nat),k≤l.length∧i = .int .i64 k∧Below w.heap.size w wr) (fun i _=>l.length - (intOf i).toNat)
 case atStart=>exact ⟨0,by omega,rfl,qbl⟩
 case round =>
  obtain ⟨k,hk,rfl,hbel⟩:=hrel;by_cases hlt : k<l.length
  ·obtain ⟨b,o,hA,hb,hcl⟩:=(HR.out.later hbel).rd.at1 hlt;have hsz:=HR.out.all _ (List.getElem_mem hlt);simp only at hA hcl hsz;subst hA;generalize l[k]=x at *;obtain ⟨xn,xv⟩:=x;obtain ⟨g0,g1⟩:=Cells.c2 hcl;simp only at hsz;clear hcl;by_cases h40 : (40 : Int)<(xn.size : Int)
   ·go_wp2_with fail;go_ret;exact ⟨_,rfl,hbel⟩
   ·go_wp2_with fail;go_roundw
    case rel=>exact ⟨k+1,by omega,by go_num,hbel⟩
    case measure=>simp [intOf]; omega
  ·go_wp2_with fail;go_ret;exact ⟨_,rfl,hbel⟩
def FewP (w w' : World) (P : Prop) (r : Ending) : Prop:=∃ t,r = .returned (.bool t)∧(t=true→P)∧Below w.heap.size w w'
theorem few32 (L : Sl LT) (T M : Sl FT) (w : World) (hL : LetsAt (· < w.heap.size) w L) (hT : FactsAt (· < w.heap.size) w T) (hM : FactsAt (· < w.heap.size) w M) : Calls Tryz.prog 9 #[.slice L.A L.l.length L.c,.slice T.A T.l.length T.c,.slice M.A M.l.length M.c] w fun r w'=>FewP w w' (L.l.length≤6∧T.l.length≤20∧M.l.length≤20) r:=by
 have hn:=hL.rd.len;have hnT:=hT.rd.len;have hnM:=hM.rd.len;have HL:=Zh hL;have HT:=Zh hT;have HM:=Zh hM;clear hL hT hM;obtain ⟨A,c,L⟩:=L;simp only at hn;simp only;by_cases h6 : (6 : Int)<(L.length : Int)
 ·go_enter Tryz.func9,Tryz.ntmps9;go_wp2_with fail;go_ret;exact ⟨false,rfl,by simp,Below.refl _ _⟩
 by_cases hT20 : (20 : Int)<(T.l.length : Int)
 ·go_enter Tryz.func9,Tryz.ntmps9;go_wp2_with fail;go_ret;exact ⟨false,rfl,by simp,Below.refl _ _⟩
 by_cases hM20 : (20 : Int)<(M.l.length : Int)
 ·go_enter Tryz.func9,Tryz.ntmps9;go_wp2_with fail;go_ret;exact ⟨false,rfl,by simp,Below.refl _ _⟩
 have HLE : Hid (L.length≤6∧T.l.length≤20∧M.l.length≤20):=Zh Zo;go_enter Tryz.func9,Tryz.ntmps9;go_wp2_with fail;go_loopw [7] (fun i wr=>∃ (k : Nat),k≤L.length∧i = .int .i64 k∧Below w.heap.size w wr) (fun i _=>L.length - (intOf i).toNat)
 case atStart=>exact ⟨0,by omega,rfl,qbl⟩
 case round =>
  obtain ⟨k,hk,rfl,hbel⟩:=hrel;have hhe : w.heap.size≤wr.heap.size:=hbel.size;by_cases hlt : k<L.length
  ·have hLW:=HL.out.later hbel;obtain ⟨b,o,hA,hb,hcl⟩:=hLW.rd.at1 hlt;have HX:=Zh (hLW.all _ (List.getElem_mem hlt));simp only at hA hcl HX;subst hA;clear hLW;generalize L[k]=x at *;obtain ⟨xn,xo,xm,xu,xs,xA,xc,xl⟩:=x;have hsz:=HX.out.nm;simp only at hsz;obtain ⟨g0,g1,g2,g3,g4,g5⟩:=Cells.c6 hcl;clear hcl;by_cases h40 : (40 : Int)<(xn.size : Int)
   ·go_wp2_with fail;go_ret;exact ⟨false,rfl,by simp,hbel⟩
   ·go_wp2_with fail;refine (few_exp ⟨xo,xm,xu,xs,xA,xc,xl⟩ wr HX.out.b).mono ?_;rintro e w2 ⟨t,rfl,hb2⟩;have HB2 : Hid (Below w.heap.size w w2):=Zh (hbel.trans (hb2.mono hhe));clear hb2 g0 g1 g2 g3 g4 g5;rcases t
    ·go_wp2_with fail;go_ret;exact ⟨false,rfl,by simp,HB2.out⟩
    ·go_wp2_with fail;go_roundw
     case rel=>exact ⟨k+1,by omega,by go_num,HB2.out⟩
     case measure=>simp [intOf]; omega
  ·go_wp2_with fail;refine (few_names T wr (HT.out.later hbel)).mono ?_;rintro e w2 ⟨t,rfl,hb2⟩;have HB2 : Hid (Below w.heap.size w w2):=Zh (hbel.trans (hb2.mono hhe));clear hb2;rcases t
   ·go_wp2_with fail;go_ret;exact ⟨false,rfl,by simp,HB2.out⟩
   ·go_wp2_with fail;refine (few_names M w2 (HM.out.later HB2.out)).mono ?_;rintro e w3 ⟨t,rfl,hb3⟩;have HB3:=Zt HB2 hb3;clear hb3;go_wp2_with fail;go_ret;exact ⟨t,rfl,fun _=>HLE.out,HB3.out⟩
end Go.Proofs.YtcgocdhhneckhaaGreatDoor
