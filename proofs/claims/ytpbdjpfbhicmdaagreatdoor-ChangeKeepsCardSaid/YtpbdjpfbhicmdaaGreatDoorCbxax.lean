/- Walks: eval.Truth, Whole. -/
import Derived.Test.YtpbdjpfbhicmdaaGreatDoorCbxaw
set_option linter.unusedSimpArgs false
set_option linter.unusedVariables false
set_option maxRecDepth 100000
set_option maxHeartbeats 6400000
namespace Go.Proofs.YtpbdjpfbhicmdaaGreatDoor
open Go.RowKit
theorem RG.lat {w w' : World} {f : Frc} {p q : Int} (h : RG (· < w.heap.size) w f p q) (hb : Below w.heap.size w w') : RG (· < w'.heap.size) w' f p q:=(h.keep fun b hb'=>hb.block b hb').mono fun _ hb'=>Nat.lt_of_lt_of_le hb' hb.size
def trF (r : FrR) : Bool:=decide (r.e=0) && isF r
def whF (r : FrR) : Int × Int:=if r.e≠0 then (0,r.e) else if r.p<0 then (0,0) else if 1000000000000001 * r.q≤r.p then (0,3) else (r.p / r.q,0)
theorem ev_Truth (b : Byl) (e : PT) (T M : Sl FT) (w : World) (hb : Byl.At (· < w.heap.size) w b) (he : PT.At (· < w.heap.size) w e) (hT : FactsAt (· < w.heap.size) w T) (hM : FactsAt (· < w.heap.size) w M) : Calls Tryz.prog 41 #[b.v,e.v,.slice T.A T.l.length T.c,.slice M.A M.l.length M.c] w fun r w'=>r = .returned (.tuple #[.bool (trF (evalF b.lets.l e T.l M.l)),.int .i64 (evalF b.lets.l e T.l M.l).e])∧Below w.heap.size w w':=by
 obtain ⟨nm,⟨LA,Lc,L⟩,⟨o,n,u,s,A,c,l⟩,⟨oB,nB,uB,sB,AB,cB,lB⟩,⟨oC,nC,uC,sC,AC,cC,lC⟩,⟨oD,nD,uD,sD,AD,cD,lD⟩,q,sh,ch⟩:=b;obtain ⟨xo,xm,xu,xs,xA,xc,xl⟩:=e;have hmf : True:=trivial;have hbb : Below w.heap.size w ((w.alloc (.cells #[.string nm,.slice LA L.length Lc,.int .i64 o,.int .i64 n,.int .i64 u,.string s,.slice A l.length c,.int .i64 oB,.int .i64 nB,.int .i64 uB,.string sB,.slice AB lB.length cB,.int .i64 oC,.int .i64 nC,.int .i64 uC,.string sC,.slice AC lC.length cC,.int .i64 oD,.int .i64 nD,.int .i64 uD,.string sD,.slice AD lD.length cD,.int .i64 q,.int .i64 sh,.int .i64 ch] 28)).alloc (.cells #[.int .i64 xo,.int .i64 xm,.int .i64 xu,.string xs,.slice xA xl.length xc] 26)):=qbl;have hcall:=ev_Value ⟨nm,⟨LA,Lc,L⟩,⟨o,n,u,s,A,c,l⟩,⟨oB,nB,uB,sB,AB,cB,lB⟩,⟨oC,nC,uC,sC,AC,cC,lC⟩,⟨oD,nD,uD,sD,AD,cD,lD⟩,q,sh,ch⟩ ⟨xo,xm,xu,xs,xA,xc,xl⟩ T M _ (hb.later hbb) (he.later hbb) (hT.later hbb) (hM.later hbb);simp only at hcall;obtain ⟨V,hV⟩ : ∃ V,evalF L ⟨xo,xm,xu,xs,xA,xc,xl⟩ T.l M.l=V:=⟨_,rfl⟩;rw [hV] at hcall ⊢;have HBB:=Zh hbb;clear hb he hT hM hV hbb hmf;simp only [Byl.v,PT.v] at hcall ⊢;have HBX:=Zh (show Blk ((w.alloc (.cells #[.string nm,.slice LA L.length Lc,.int .i64 o,.int .i64 n,.int .i64 u,.string s,.slice A l.length c,.int .i64 oB,.int .i64 nB,.int .i64 uB,.string sB,.slice AB lB.length cB,.int .i64 oC,.int .i64 nC,.int .i64 uC,.string sC,.slice AC lC.length cC,.int .i64 oD,.int .i64 nD,.int .i64 uD,.string sD,.slice AD lD.length cD,.int .i64 q,.int .i64 sh,.int .i64 ch] 28)).alloc (.cells #[.int .i64 xo,.int .i64 xm,.int .i64 xu,.string xs,.slice xA xl.length xc] 26)) w.heap.size 28 #[.string nm,.slice LA L.length Lc,.int .i64 o,.int .i64 n,.int .i64 u,.string s,.slice A l.length c,.int .i64 oB,.int .i64 nB,.int .i64 uB,.string sB,.slice AB lB.length cB,.int .i64 oC,.int .i64 nC,.int .i64 uC,.string sC,.slice AC lC.length cC,.int .i64 oD,.int .i64 nD,.int .i64 uD,.string sD,.slice AD lD.length cD,.int .i64 q,.int .i64 sh,.int .i64 ch] from (Blk.new _ _ _).alloc _);go_enter Tryz.func41,Tryz.ntmps41;go_wp2_with (refine wpList_load_row rfl 28 (.tmp 4) rfl _ rfl 28 _ (0,0) _ HBX.out Tryz.underlying28 rfl Zy ?_);clear HBX;refine hcall.mono ?_;clear hcall;rintro e w2 ⟨f,rfl,hok,hno,hb2⟩;have HB2:=Zt HBB hb2;clear hb2 HBB;simp only [Frc.v];by_cases h0 : V.e=0
 ·have HF:=Zh (isF_sign (f:=f) (r:=V) (hok h0).dp.1);have HTR : Hid (trF V=isF V):=Zh (by unfold trF; rw [h0]; simp);have H0:=Zh h0;rw [h0];clear hok hno h0;go_wp2_with fail;refine bodyPost_ret (v:=.tuple #[.bool (f.p.s != 0),.int .i64 0]) ?_ rfl ⟨by rw [HTR.out,← HF.out,H0.out],HB2.out.alloc HB2.out.size _⟩;simp [results,Tryz.results41,go_sem,]
 ·have HTR : Hid (trF V=false):=Zh (by unfold trF; rw [decide_eq_false h0]; rfl);clear hok hno;go_wp2_with fail;refine bodyPost_ret (v:=.tuple #[.bool false,.int .i64 V.e]) ?_ rfl ⟨by rw [HTR.out],HB2.out.alloc HB2.out.size _⟩;simp [results,Tryz.results41,go_sem,]
theorem whF_err {r : FrR} (h : r.e≠0) : whF r=(0,r.e):=by unfold whF; rw [if_pos h]
theorem whF_neg {r : FrR} (h : r.e=0) (h1 : r.p<0) : whF r=(0,0):=by unfold whF; rw [if_neg (fun h'=>h' h),if_pos h1]
theorem whF_big {r : FrR} (h : r.e=0) (h1 : 0≤r.p) (h2 : 1000000000000001 * r.q≤r.p) : whF r=(0,3):=by unfold whF; rw [if_neg (fun h'=>h' h),if_neg Zo,if_pos h2]
theorem whF_ok {r : FrR} (h : r.e=0) (h1 : 0≤r.p) (h2 : ¬ 1000000000000001 * r.q≤r.p) : whF r=(r.p / r.q,0):=by unfold whF; rw [if_neg (fun h'=>h' h),if_neg Zo,if_neg h2]
theorem cmp_most {r : FrR} (hq : 0<r.q) : (0≤cmpI r.p r.q 1000000000000001 1)↔1000000000000001 * r.q≤r.p:=by
 rw [cmpI_sign hq (by decide),Int.mul_one];constructor
 ·intro h;rcases Int.lt_or_le (r.p - 1000000000000001 * r.q) 0 with h0 | h0
  ·rw [Int.sign_eq_neg_one_of_neg h0] at h; omega
  ·omega
 ·intro h;rcases Int.lt_or_le 0 (r.p - 1000000000000001 * r.q) with h0 | h0
  ·rw [Int.sign_eq_one_of_pos h0]; omega
  ·(have : r.p - 1000000000000001 * r.q=0:=by omega);rw [this]; simp
theorem val_step {d : List Int} {k : Nat} (hk : k<d.length) : val (d.drop k)=d[k]+1048576 * val (d.drop (k+1)):=by
 rw [List.drop_eq_getElem_cons hk]; rfl
theorem val_drop_le {d : List Int} (h : DigOK d) (k : Nat) : val (d.drop k)≤val d:=by
 have h1 : d=d.take k ++ d.drop k:=(List.take_append_drop k d).symm;(have hd : DigOK (d.take k)∧DigOK (d.drop k):=by rw [← digOK_app,List.take_append_drop]; exact h);have h2:=val_app (d.take k) (d.drop k);rw [List.take_append_drop] at h2;have h3:=val_nn hd.1;have h4:=val_nn hd.2;have h5:=pw_pos (d.take k).length;have h6 : 1 * val (d.drop k)≤pw (d.take k).length * val (d.drop k):=Int.mul_le_mul_of_nonneg_right Zo h4;omega
theorem ev_Whole (b : Byl) (e : PT) (T M : Sl FT) (w : World) (hb : Byl.At (· < w.heap.size) w b) (he : PT.At (· < w.heap.size) w e) (hT : FactsAt (· < w.heap.size) w T) (hM : FactsAt (· < w.heap.size) w M) : Calls Tryz.prog 70 #[b.v,e.v,.slice T.A T.l.length T.c,.slice M.A M.l.length M.c] w fun r w'=>r = .returned (.tuple #[.int .i64 (whF (evalF b.lets.l e T.l M.l)).1,.int .i64 (whF (evalF b.lets.l e T.l M.l)).2])∧Below w.heap.size w w':=by
 obtain ⟨nm,⟨LA,Lc,L⟩,⟨o,n,u,s,A,c,l⟩,⟨oB,nB,uB,sB,AB,cB,lB⟩,⟨oC,nC,uC,sC,AC,cC,lC⟩,⟨oD,nD,uD,sD,AD,cD,lD⟩,q,sh,ch⟩:=b;obtain ⟨xo,xm,xu,xs,xA,xc,xl⟩:=e;have hmf : True:=trivial;have hbb : Below w.heap.size w ((w.alloc (.cells #[.string nm,.slice LA L.length Lc,.int .i64 o,.int .i64 n,.int .i64 u,.string s,.slice A l.length c,.int .i64 oB,.int .i64 nB,.int .i64 uB,.string sB,.slice AB lB.length cB,.int .i64 oC,.int .i64 nC,.int .i64 uC,.string sC,.slice AC lC.length cC,.int .i64 oD,.int .i64 nD,.int .i64 uD,.string sD,.slice AD lD.length cD,.int .i64 q,.int .i64 sh,.int .i64 ch] 28)).alloc (.cells #[.int .i64 xo,.int .i64 xm,.int .i64 xu,.string xs,.slice xA xl.length xc] 26)):=qbl;have hcall:=ev_Value ⟨nm,⟨LA,Lc,L⟩,⟨o,n,u,s,A,c,l⟩,⟨oB,nB,uB,sB,AB,cB,lB⟩,⟨oC,nC,uC,sC,AC,cC,lC⟩,⟨oD,nD,uD,sD,AD,cD,lD⟩,q,sh,ch⟩ ⟨xo,xm,xu,xs,xA,xc,xl⟩ T M _ (hb.later hbb) (he.later hbb) (hT.later hbb) (hM.later hbb);simp only at hcall;obtain ⟨V,hV⟩ : ∃ V,evalF L ⟨xo,xm,xu,xs,xA,xc,xl⟩ T.l M.l=V:=⟨_,rfl⟩;rw [hV] at hcall ⊢;have HBB:=Zh hbb;clear hb he hT hM hV hbb hmf;simp only [Byl.v,PT.v] at hcall ⊢;have HBX:=Zh (show Blk ((w.alloc (.cells #[.string nm,.slice LA L.length Lc,.int .i64 o,.int .i64 n,.int .i64 u,.string s,.slice A l.length c,.int .i64 oB,.int .i64 nB,.int .i64 uB,.string sB,.slice AB lB.length cB,.int .i64 oC,.int .i64 nC,.int .i64 uC,.string sC,.slice AC lC.length cC,.int .i64 oD,.int .i64 nD,.int .i64 uD,.string sD,.slice AD lD.length cD,.int .i64 q,.int .i64 sh,.int .i64 ch] 28)).alloc (.cells #[.int .i64 xo,.int .i64 xm,.int .i64 xu,.string xs,.slice xA xl.length xc] 26)) w.heap.size 28 #[.string nm,.slice LA L.length Lc,.int .i64 o,.int .i64 n,.int .i64 u,.string s,.slice A l.length c,.int .i64 oB,.int .i64 nB,.int .i64 uB,.string sB,.slice AB lB.length cB,.int .i64 oC,.int .i64 nC,.int .i64 uC,.string sC,.slice AC lC.length cC,.int .i64 oD,.int .i64 nD,.int .i64 uD,.string sD,.slice AD lD.length cD,.int .i64 q,.int .i64 sh,.int .i64 ch] from (Blk.new _ _ _).alloc _);go_enter Tryz.func70,Tryz.ntmps70;go_wp2_with (refine wpList_load_row rfl 28 (.tmp 4) rfl _ rfl 28 _ (0,0) _ HBX.out Tryz.underlying28 rfl Zy ?_);clear HBX;refine hcall.mono ?_;clear hcall;rintro e w2 ⟨f,rfl,hok,hno,hb2⟩;have HB2:=Zt HBB hb2;clear hb2 HBB;simp only [Frc.v];by_cases h0 : V.e=0
 ·have HF:=Zh (hok h0);have H0:=Zh h0;rw [h0];clear hok hno h0;have hsg:=HF.out.dp.1;by_cases hneg : V.p<0
  ·have HW:=Zh (whF_neg H0.out hneg);(have hs1 : f.p.s<0:=by rw [hsg,Int.sign_eq_neg_one_of_neg hneg]; decide);clear hsg;go_wp2_with fail;refine bodyPost_ret (v:=.tuple #[.int .i64 0,.int .i64 0]) ?_ rfl ⟨by rw [HW.out],HB2.out.alloc HB2.out.size _⟩;simp [results,Tryz.results70,go_sem,]
  ·have hs1 : ¬ f.p.s<0:=by
    rw [hsg];rcases Int.lt_or_le 0 V.p with h | h
    ·rw [Int.sign_eq_one_of_pos h]; decide
    ·(have : V.p=0:=by omega);rw [this]; decide
   have HNG:=Zh hneg;clear hsg hneg;go_wp2_with fail;have HB3 : Hid (Below w.heap.size w (w2.alloc (.cells (Zc f) 134))):=Zh (HB2.out.alloc HB2.out.size _);have HF3 : Hid (RG (· < (w2.alloc (.cells (Zc f) 134)).heap.size) (w2.alloc (.cells (Zc f) 134)) f V.p V.q):=Zh (HF.out.lat qbl);have HBF:=Zh (Blk.new w2 134 (Zc f));have hw2:=HB2.out.size;generalize w2.alloc (.cells _ 134)=w3 at *;generalize w2.heap.size=gf at *;obtain ⟨g0,g1,g2,g3,gg,gz⟩:=HBF.out.b4;refine wp_region_T (fun W=>W.cell? ⟨gf,0,none⟩=some (.int .i64 f.p.s)∧W.cell? ⟨gf,1,none⟩=some (.slice f.p.l.A f.p.l.l.length f.p.l.c)∧W.cell? ⟨gf,2,none⟩=some (.int .i64 f.q.s)∧W.cell? ⟨gf,3,none⟩=some (.slice f.q.l.A f.q.l.l.length f.q.l.c)) (fun _=>false) Zy ⟨g0,g1,g2,g3⟩ (fun hHeld=>?_);refine Zr 0 ?_;clear hHeld;refine Zn 1 ?_;go_wp2_with fail;refine (ev_whole 1000000000000001 _ Zo Zo).mono ?_;rintro e w4 ⟨f2,rfl,hf2,hb4⟩;have hb34 : Below w3.heap.size w3 w4:=Below.trans (Below.drew Zz) hb4;have HB4:=Zt HB3 hb34;have HF4:=Zh (HF3.out.lat hb34);have HG4 : Hid (RG (· < w4.heap.size) w4 f2 1000000000000001 1):=Zh (hf2.mono fun b hb=>hb.2);have HBF4:=Zh (HBF.out.later hb34);clear g0 g1 g2 g3 gg gz hf2 hb4 hb34 HB3 HF3 HBF;obtain ⟨g0,g1,g2,g3,gg,gz⟩:=HBF4.out.b4;simp only [Frc.v];go_wp2_with fail;refine And.intro (by first | exact fun _=>⟨g0,g1,g2,g3⟩ | exact ⟨g0,g1,g2,g3⟩) ?_;refine Zn 2 ?_;go_wp2_with fail;refine (frac_cmp f f2 V.p V.q 1000000000000001 1 w4 (HF4.out.rf (fun _ h=>h)) (HG4.out.rf (fun _ h=>h))).mono ?_;rintro e w5 ⟨rfl,hb5⟩;have HB5:=Zt HB4 hb5;have HF5:=Zh (HF4.out.lat hb5);have HBF5:=Zh (HBF4.out.later hb5);clear g0 g1 g2 g3 gg gz hb5 HB4 HF4 HBF4 HG4;obtain ⟨g0,g1,g2,g3,gg,gz⟩:=HBF5.out.b4;have hcm:=cmp_most (r:=V) HF5.out.ok.pos;obtain ⟨C,hC⟩ : ∃ C,cmpI V.p V.q 1000000000000001 1=C:=⟨_,rfl⟩;rw [hC] at hcm ⊢;have HCM:=Zh hcm;clear hcm hC;go_wp2_with fail;refine And.intro (by first | exact fun _=>⟨g0,g1,g2,g3⟩ | exact ⟨g0,g1,g2,g3⟩) ?_;have hHeld:=(⟨g0,g1,g2,g3⟩ : w5.cell? ⟨gf,0,none⟩=some (.int .i64 f.p.s)∧w5.cell? ⟨gf,1,none⟩=some (.slice f.p.l.A f.p.l.l.length f.p.l.c)∧w5.cell? ⟨gf,2,none⟩=some (.int .i64 f.q.s)∧w5.cell? ⟨gf,3,none⟩=some (.slice f.q.l.A f.q.l.l.length f.q.l.c));by_cases hc : 0≤C
   ·have HW:=Zh (whF_big H0.out (by have:=HNG.out; omega) (HCM.out.1 hc));refine wpAnyT_take2 (i:=3) (v:=.bool true) rfl rfl Zy Zy Zy Zy (fun _ _ _ h=>h) (Or.inl ⟨by rfl, ?_⟩) (by first | assumption | trivial) ?_
    ·(intro w hSw; (try dsimp only at hSw); go_simp) <;> (first | (with_reducible rfl) | assumption | (simp; done) | (simp [*]; done) | (simp; omega))
    simp only [qsa,qsb,qsc];refine Ze ?_;clear hHeld;go_wp2_with fail;refine bodyPost_ret (v:=.tuple #[.int .i64 0,.int .i64 3]) ?_ rfl ⟨by rw [HW.out],HB5.out⟩;simp [results,Tryz.results70,go_sem,]
   ·have HW:=Zh (whF_ok H0.out (by have:=HNG.out; omega) (fun h=>hc (HCM.out.2 h)));have HLT : Hid (V.p<1000000000000001 * V.q):=Zh (Int.not_le.1 (fun h=>hc (HCM.out.2 h)));refine wpAnyT_take2 (i:=3) (v:=.bool false) rfl rfl Zy Zy Zy Zy (fun _ _ _ h=>h) (Or.inl ⟨by rfl, ?_⟩) (by first | assumption | trivial) ?_
    ·(intro w hSw; (try dsimp only at hSw); go_simp) <;> (first | (with_reducible rfl) | assumption | (simp; done) | (simp [*]; done) | (simp; omega))
    simp only [qsa,qsb,qsc];refine Ze ?_;clear hHeld hc;go_wp2_with fail;refine (frac_Floor f V.p V.q w5 (HF5.out.rf (fun _ h=>h))).mono ?_;rintro e w6 ⟨⟨bs,⟨bA,bc,bl⟩⟩,rfl,hd,hr6,hb6⟩;have HB6:=Zt HB5 hb6;have HD6 : Hid (Rd (· < w6.heap.size) 1 ienc w6 ⟨bA,bc,bl⟩):=Zh (hr6.mono fun b hb=>hb.2)
    have hbl : bl=digs (V.p / V.q).natAbs:=by
     unfold Big.d bigD at hd;injection hd
    have hq0:=HF5.out.ok.pos;have hz0 : 0≤V.p / V.q:=Int.ediv_nonneg (by have:=HNG.out; omega) Zo
    have hz1 : V.p / V.q≤1000000000000000:=by
     have:=Int.ediv_lt_of_lt_mul hq0 HLT.out;omega
    (have hval : val bl=V.p / V.q:=by rw [hbl,digs_val]; omega);(have hok : DigOK bl:=by rw [hbl]; exact (digs_norm _).1);have hln:=HD6.out.len;obtain ⟨Z,hZ⟩ : ∃ Z,V.p / V.q=Z:=⟨_,rfl⟩;rw [hZ] at HW hval hz0 hz1;have HVL:=Zh hval;have HOK:=Zh hok;(have hfl : ∀ w : World,(Instr.field 132 (Value.agg #[.int .i64 bs,.slice bA bl.length bc]) 1).run Tryz.prog w = .ok (.slice bA bl.length bc) w:=fun _=>by kernel_rfl);simp only at hln;clear hd hr6 hb6 hbl hval hok hZ hq0 g0 g1 g2 g3 gg gz;simp only [Big.v];go_wp2_with fail;go_loopw [12,14] (fun n i wr=>∃ (j : Nat),j≤bl.length∧n = .int .i64 (val (bl.drop j))∧i = .int .i64 ((j : Int) - 1)∧Below w6.heap.size w6 wr) (fun n i _=>(intOf i+1).toNat)
    case atStart=>exact ⟨bl.length,Nat.le_refl _,by rw [List.drop_length]; rfl,rfl,Below.refl _ _⟩
    case round =>
     obtain ⟨j,hj,rfl,rfl,hbel⟩:=hrel;rcases j with _ | k
     ·have hv0 : val (bl.drop 0)=Z:=HVL.out;rw [hv0,show (((0 : Nat) : Int) - 1) = -1 by omega];clear hv0;go_wp2_with fail;refine bodyPost_ret (v:=.tuple #[.int .i64 Z,.int .i64 0]) ?_ rfl ⟨by rw [HW.out],HB6.out.trans (hbel.mono HB6.out.size)⟩;simp [results,Tryz.results70,go_sem,]
     ·(have hkl : k<bl.length:=by omega);have hst:=val_step hkl;have hle:=val_drop_le HOK.out k;have hdk:=HOK.out bl[k] (List.getElem_mem hkl);have hnn:=val_nn (l:=bl.drop (k+1)) (fun d hd=>HOK.out d (List.mem_of_mem_drop hd));rw [HVL.out] at hle;obtain ⟨b,o,hA,_,c0⟩:=(HD6.out.later hbel).geti hkl;simp only at hA c0;subst hA;rw [show (((k+1 : Nat) : Int) - 1)=(k : Int) by omega];obtain ⟨N,hN⟩ : ∃ N,val (bl.drop (k+1))=N:=⟨_,rfl⟩;obtain ⟨D,hD⟩ : ∃ D,bl[k]=D:=⟨_,rfl⟩;obtain ⟨N2,hN2⟩ : ∃ N2,val (bl.drop k)=N2:=⟨_,rfl⟩;rw [hN] at hst hnn ⊢;rw [hD] at hst hdk c0;rw [hN2] at hst hle;have HN2:=Zh hN2;clear hN hD hN2;go_wp2_with fail;refine ⟨⟨k,by omega,by rw [HN2.out,hst]; congr 1; omega,rfl,hbel⟩,by simp [intOf]⟩
 ·have HW:=Zh (whF_err h0);clear hok hno;go_wp2_with fail;refine bodyPost_ret (v:=.tuple #[.int .i64 0,.int .i64 V.e]) ?_ rfl ⟨by rw [HW.out],HB2.out.alloc HB2.out.size _⟩;simp [results,Tryz.results70,go_sem,]
def bs (l : List UInt8) : ByteArray:=⟨l.toArray⟩
theorem bs_list (s : ByteArray) : bs s.data.toList=s:=by cases s; simp [bs]
structure TK where
  k : Int
  t : ByteArray
  n : Int
  p : Int
def TK.enc (x : TK) : List Value:=[.int .i64 x.k,.string x.t,.int .i64 x.n,.int .i64 x.p]
theorem TK.enc_k (x : TK) : x.enc.length=4:=rfl
def TK.v (x : TK) : Value:=.agg #[.int .i64 x.k,.string x.t,.int .i64 x.n,.int .i64 x.p]
def TK.zero : TK:=⟨0,⟨#[]⟩,0,0⟩
def blankC (c : Int) : Bool:=decide (c=32) || (decide (c=9) || decide (c=10))
def spanL (f : Int→Bool) : List UInt8→Nat
  | []=>0
  | c :: r=>if f (c.toNat : Int)=true then spanL f r+1 else 0
def digitsN : Int→List UInt8→Int
  | n,[]=>n
  | n,c :: r=>digitsN (10 * n+((c.toNat : Int) - 48)) r
def numL (l : List UInt8) : Int × Bool :=
  if l=[] then (0,false)
  else if spanL digC l≠l.length then (0,false)
  else if l.head? = some 48∧l≠[48] then (0,false)
  else if 16<l.length then (0,false)
  else if 1000000000000000<digitsN 0 l then (0,false)
  else (digitsN 0 l,true)
def signsL : List (List UInt8):=[[61,61],[59],[44],[61],[60],[43],[45],[42],[47],[40],[41]]
def preL : List UInt8→List UInt8→Bool
  | _,[]=>true
  | [],_ :: _=>false
  | x :: a,y :: b=>x == y && preL a b
def nextL (l : List UInt8) : TK × Int :=
  match l with
  | []=>(TK.zero,10)
  | c :: _ =>
    if letC (c.toNat : Int)=true then
      let t:=l.take (spanL ldC l)
      if wordB (bs t)=true then (⟨0,bs t,0,0⟩,0) else (TK.zero,11)
    else if digC (c.toNat : Int)=true then
      let t:=l.take (spanL digC l)
      if (numL t).2=true then (⟨1,bs t,(numL t).1,0⟩,0) else (TK.zero,3)
    else match signsL.find? (fun x=>preL l x) with
      | some x=>(⟨2,bs x,0,0⟩,0)
      | none=>(TK.zero,10)
def lexL : Nat→Nat→List UInt8→List TK × Int × Int
  | 0,_,_=>([],0,1)
  | f+1,at_,l =>
    let b:=spanL blankC l
    let m:=l.drop b
    if m=[] then ([⟨3,⟨#[]⟩,0,((at_+b : Nat) : Int)⟩],0,0)
    else if (nextL m).2≠0 then ([],((at_+b : Nat) : Int),(nextL m).2)
    else
      let t:=(nextL m).1
      let r:=lexL f (at_+b+t.t.size) (m.drop t.t.size)
      if r.2.2≠0 then ([],r.2) else ({ t with p:=((at_+b : Nat) : Int) } :: r.1,0,0)
def lexT (l : List UInt8) : List TK × Int × Int:=if 4000<l.length then ([],0,6) else lexL (l.length+1) 0 l
inductive PS where
  | mk (o n u : Int) (s : ByteArray) (l : List PS) : PS
inductive PX (α : Type) where
  | ok (a : α) (r : List TK) : PX α
  | stop (p e : Int) : PX α
def posT : List TK→Int
  | t :: _=>t.p
  | []=>0
def isT (s : ByteArray) : List TK→Bool
  | t :: _=>!decide (t.k=3) && (t.t.toList == s.toList)
  | []=>false
def wantT (s : ByteArray) (r : List TK) : PX Unit:=if isT s r=true then .ok () r.tail else .stop (posT r) 12
def namedT : List TK→Bool
  | t :: _=>decide (t.k=0) && nameB t.t
  | []=>false
def textT : List TK→ByteArray
  | t :: _=>t.t
  | []=>⟨#[]⟩
def nameT (r : List TK) : PX ByteArray:=if namedT r=true then .ok (textT r) r.tail else .stop (posT r) 12
def unitT (r : List TK) : Int × List TK:=if isT ⟨#[99,101,110,116,115]⟩ r=true then (1,r.tail) else if isT ⟨#[109,105,110,117,116,101,115]⟩ r=true then (2,r.tail) else (0,r)
def opsL : List (ByteArray × Int × Int):=[(⟨#[111,114]⟩,14,1),(⟨#[97,110,100]⟩,13,2),(⟨#[61,61]⟩,11,4),(⟨#[60]⟩,10,4),(⟨#[43]⟩,4,5),(⟨#[45]⟩,5,5),(⟨#[42]⟩,6,6),(⟨#[47]⟩,7,6)]
def opT (r : List TK) : Option (Int × Int):=(opsL.find? (fun o=>isT o.1 r)).map (·.2)
def PX.bind {α β : Type} : PX α→(α→List TK→PX β)→PX β
  | .ok a r,f=>f a r
  | .stop p e,_=>.stop p e
def empS : ByteArray:=⟨#[]⟩
inductive Tg where
  | exp (form : Int) : Tg
  | pre (form : Int) : Tg
  | prim : Tg
  | loop (form own : Int) (e : PS) : Tg
def pR : Nat→Tg→List TK→PX (PS × Int)
  | 0,_,r=>.stop (posT r) 1
  | f+1,.exp form,r=>(pR f (.pre form) r).bind fun x r=>pR f (.loop form x.2 x.1) r
  | f+1,.pre form,r =>
    if form=0∧isT ⟨#[105,102]⟩ r=true then
      (pR f (.exp 0) r.tail).bind fun a r=>(wantT ⟨#[116,104,101,110]⟩ r).bind fun _ r =>
      (pR f (.exp 0) r).bind fun b r=>(wantT ⟨#[101,108,115,101]⟩ r).bind fun _ r =>
      (pR f (.exp 0) r).bind fun c r=>.ok (.mk 15 0 0 empS [a.1,b.1,c.1],0) r
    else if form≤3∧isT ⟨#[110,111,116]⟩ r=true then
      (pR f (.exp 3) r.tail).bind fun a r=>.ok (.mk 12 0 0 empS [a.1],3) r
    else (pR f .prim r).bind fun a r=>.ok (a.1,7) r
  | f+1,.prim,r =>
    match r with
    | []=>.stop 0 12
    | t :: r' =>
      if t.k=1 then .ok (.mk 0 t.n (unitT r').1 empS [],7) (unitT r').2
      else if isT ⟨#[116,114,117,101]⟩ r=true then .ok (.mk 0 1 3 empS [],7) r.tail
      else if isT ⟨#[102,97,108,115,101]⟩ r=true then .ok (.mk 0 0 3 empS [],7) r.tail
      else if isT ⟨#[116,114,105,112]⟩ r=true then (nameT r.tail).bind fun s r=>.ok (.mk 2 0 0 s [],7) r
      else if isT ⟨#[109,101,109,98,101,114]⟩ r=true then (nameT r.tail).bind fun s r=>.ok (.mk 3 0 0 s [],7) r
      else if isT ⟨#[109,105,110]⟩ r=true∨isT ⟨#[109,97,120]⟩ r=true then
        (wantT ⟨#[40]⟩ r.tail).bind fun _ q=>(pR f (.exp 0) q).bind fun a q=>(wantT ⟨#[44]⟩ q).bind fun _ q=>(pR f (.exp 0) q).bind fun b q=>(wantT ⟨#[41]⟩ q).bind fun _ q =>
        .ok (.mk (if isT ⟨#[109,97,120]⟩ r=true then 9 else 8) 0 0 empS [a.1,b.1],7) q
      else if isT ⟨#[40]⟩ r=true then (pR f (.exp 0) r.tail).bind fun a q=>(wantT ⟨#[41]⟩ q).bind fun _ q=>.ok (a.1,7) q
      else (nameT r).bind fun s q=>.ok (.mk 1 0 0 s [],7) q
  | f+1,.loop form own e,r =>
    match opT r with
    | none=>.ok (e,own) r
    | some (op,fm) =>
      if fm<form∨own<fm∨(own=4∧fm=4) then .ok (e,own) r
      else (pR f (.exp (fm+1)) r.tail).bind fun b q=>pR f (.loop form fm (.mk op 0 0 empS [e,b.1])) q
noncomputable def levL : PS→Nat:=PS.rec (motive_1:=fun _=>Nat) (motive_2:=fun _=>Nat) (fun _ _ _ _ _ ih=>ih+1) 0 (fun _ _ a b=>max a b)
def maxL : List Nat→Nat
  | []=>0
  | a :: l=>max a (maxL l)
theorem levL_mk (o n u : Int) (s : ByteArray) (l : List PS) : levL (.mk o n u s l)=maxL (l.map levL)+1:=by
 show PS.rec_1 (motive_1:=fun _=>Nat) (motive_2:=fun _=>Nat) (fun _ _ _ _ _ ih=>ih+1) 0 (fun _ _ a b=>max a b) l+1=maxL (l.map levL)+1;congr 1
 induction l with
 | nil=>rfl
 | cons x l ih=>exact congrArg (max (levL x)) ih
noncomputable def shp : PT→PS:=PT.rec (motive_1:=fun _=>PS) (motive_2:=fun _=>List PS) (fun o n u s _ _ _ ih=>.mk o n u s ih) [] (fun _ _ a b=>a :: b)
theorem shp_mk (o n u : Int) (s : ByteArray) (A : Option Addr) (c : Nat) (l : List PT) : shp ⟨o,n,u,s,A,c,l⟩ = .mk o n u s (l.map shp):=by
 show PS.mk o n u s (PT.rec_1 (motive_1:=fun _=>PS) (motive_2:=fun _=>List PS) (fun o n u s _ _ _ ih=>.mk o n u s ih) [] (fun _ _ a b=>a :: b) l)=_;congr 1
 induction l with
 | nil=>rfl
 | cons x l ih=>exact congrArg (shp x :: ·) ih
inductive PE where
  | ok (e : PS) : PE
  | no (p e : Int) : PE
noncomputable def parseE (l : List UInt8) : PE :=
  if (lexT l).2.2≠0 then .no (lexT l).2.1 (lexT l).2.2
  else match pR (5 * (lexT l).1.length+5) (.exp 0) (lexT l).1 with
    | .stop p e=>.no p e
    | .ok x r=>if (match r with | t :: _=>decide (t.k=3) | []=>false)=true then (if levL x.1≤12 then .ok x.1 else .no (posT r) 6) else .no (posT r) 12
section
def sE1 : List UInt8:=[98,97,115,101,32,43,32,51,32,99,101,110,116,115,32,42,32,116,114,105,112,32,115,101,97,116,115]
example : parseE sE1 = .ok (.mk 4 0 0 empS [.mk 1 0 0 ⟨#[98,97,115,101]⟩ [],.mk 6 0 0 empS [.mk 0 3 1 empS [],.mk 2 0 0 ⟨#[115,101,97,116,115]⟩ []]]):=by kernel_rfl
end
theorem lex_blank (c : Int) (w : World) : Calls Tryz.prog 80 #[.int .u8 c] w fun e w'=>e = .returned (.bool (blankC c))∧w=w':=by
 by_cases h1 : c=32
 ·subst h1;go_enter Tryz.func80,Tryz.ntmps80;go_wp2_with fail;go_ret;exact ⟨rfl,rfl⟩
 by_cases h2 : c=9
 ·subst h2;go_enter Tryz.func80,Tryz.ntmps80;go_wp2_with fail;go_ret;exact ⟨rfl,rfl⟩
 by_cases h3 : c=10
 ·subst h3;go_enter Tryz.func80,Tryz.ntmps80;go_wp2_with fail;go_ret;exact ⟨rfl,rfl⟩
 go_enter Tryz.func80,Tryz.ntmps80;go_wp2_with fail;go_ret;exact ⟨ret_bool (by unfold blankC; simp [h1,h2,h3]),rfl⟩
theorem lex_ld2 (c : Int) (w : World) : Calls Tryz.prog 125 #[.int .u8 c] w fun e w'=>e = .returned (.bool (ldC c))∧w=w':=by
 unfold ldC;rcases h : letC c
 ·go_enter Tryz.func125,Tryz.ntmps125;go_wp2_with fail;refine (lex_letter c _).mono ?_;rintro e w' ⟨rfl,rfl⟩;rw [h];go_wp2_with fail;refine (lex_digit c _).mono ?_;rintro e w' ⟨rfl,rfl⟩;go_wp2_with fail;go_ret;exact ⟨ret_bool Zs,rfl⟩
 ·go_enter Tryz.func125,Tryz.ntmps125;go_wp2_with fail;refine (lex_letter c _).mono ?_;rintro e w' ⟨rfl,rfl⟩;rw [h];go_wp2_with fail;go_ret;exact ⟨ret_bool Zs,rfl⟩
theorem byte_drop {s : ByteArray} {k : Nat} (h : k<s.size) : s.data.toList.drop k=s[k] :: s.data.toList.drop (k+1):=by
 (have h' : k<s.data.toList.length:=by simpa using h);rw [List.drop_eq_getElem_cons h'];rfl
theorem byte_len (s : ByteArray) : s.data.toList.length=s.size:=Array.length_toList
theorem spanL_hit {f : Int→Bool} {c : UInt8} {r : List UInt8} (h : f (c.toNat : Int)=true) : spanL f (c :: r)=spanL f r+1:=by rw [spanL,if_pos h]
theorem spanL_no {f : Int→Bool} {c : UInt8} {r : List UInt8} (h : f (c.toNat : Int)=false) : spanL f (c :: r)=0:=by rw [spanL,if_neg (by rw [h]; decide)]
theorem spanL_le (f : Int→Bool) : ∀ l : List UInt8,spanL f l≤l.length
 | []=>Nat.le_refl _
 | c :: r=>by
  cases h : f (c.toNat : Int)
  ·rw [spanL_no h]; exact Nat.zero_le _
  ·rw [spanL_hit h]; simpa using spanL_le f r
theorem span_blank (s : ByteArray) (w : World) (hs : s.size≤9223372036854775807) : Calls Tryz.prog 79 #[.string s,.func (.func 80) #[] #[]] w fun e w'=>e = .returned (.int .i64 (spanL blankC s.data.toList))∧w=w':=by
 obtain ⟨V,hV⟩ : ∃ V,spanL blankC s.data.toList=V:=⟨_,rfl⟩;rw [hV];have HV:=Zh hV;clear hV;go_enter Tryz.func79,Tryz.ntmps79;go_wp2_with fail;go_loopw [5] (fun v wr=>∃ (k : Nat),k≤s.size∧v = .int .i64 k∧Hid (V=k+spanL blankC (s.data.toList.drop k))∧w=wr) (fun v _=>s.size - (intOf v).toNat)
 case atStart=>exact ⟨0,by omega,rfl,Zh (by rw [← HV.out]; simp),rfl⟩
 case round =>
  obtain ⟨k,hk,rfl,HP,rfl⟩:=hrel;by_cases hlt : k<s.size
  ·have HD:=Zh (byte_drop hlt);go_wp2_with fail;refine (lex_blank _ _).mono ?_;rintro e w' ⟨rfl,rfl⟩;rcases hb : blankC (s[k].toNat : Int)
   ·have HVK : Hid ((k : Int)=(V : Int)):=Zh (by rw [HP.out,HD.out,spanL_no hb]; rfl);clear hb HP HD;go_wp2_with fail;go_ret;exact ⟨ret_int HVK.out,rfl⟩
   ·have HN : Hid (V=(k+1)+spanL blankC (s.data.toList.drop (k+1))):=Zh (by rw [HP.out,HD.out,spanL_hit hb]; omega);clear hb HP HD;go_wp2_with fail;go_roundw
    case rel=>exact ⟨k+1,by omega,by go_num,HN,trivial⟩
    case measure=>simp [intOf]; omega
  ·have HVK : Hid ((k : Int)=(V : Int)):=Zh (by rw [HP.out,List.drop_eq_nil_of_le (by rw [byte_len]; omega)]; rfl);clear HP;go_wp2_with fail;go_ret;exact ⟨ret_int HVK.out,rfl⟩
theorem span_ld (s : ByteArray) (w : World) (hs : s.size≤9223372036854775807) : Calls Tryz.prog 79 #[.string s,.func (.func 125) #[] #[]] w fun e w'=>e = .returned (.int .i64 (spanL ldC s.data.toList))∧w=w':=by
 obtain ⟨V,hV⟩ : ∃ V,spanL ldC s.data.toList=V:=⟨_,rfl⟩;rw [hV];have HV:=Zh hV;clear hV;go_enter Tryz.func79,Tryz.ntmps79;go_wp2_with fail;go_loopw [5] (fun v wr=>∃ (k : Nat),k≤s.size∧v = .int .i64 k∧Hid (V=k+spanL ldC (s.data.toList.drop k))∧w=wr) (fun v _=>s.size - (intOf v).toNat)
 case atStart=>exact ⟨0,by omega,rfl,Zh (by rw [← HV.out]; simp),rfl⟩
 case round =>
  obtain ⟨k,hk,rfl,HP,rfl⟩:=hrel;by_cases hlt : k<s.size
  ·have HD:=Zh (byte_drop hlt);go_wp2_with fail;refine (lex_ld2 _ _).mono ?_;rintro e w' ⟨rfl,rfl⟩;rcases hb : ldC (s[k].toNat : Int)
   ·have HVK : Hid ((k : Int)=(V : Int)):=Zh (by rw [HP.out,HD.out,spanL_no hb]; rfl);clear hb HP HD;go_wp2_with fail;go_ret;exact ⟨ret_int HVK.out,rfl⟩
   ·have HN : Hid (V=(k+1)+spanL ldC (s.data.toList.drop (k+1))):=Zh (by rw [HP.out,HD.out,spanL_hit hb]; omega);clear hb HP HD;go_wp2_with fail;go_roundw
    case rel=>exact ⟨k+1,by omega,by go_num,HN,trivial⟩
    case measure=>simp [intOf]; omega
  ·have HVK : Hid ((k : Int)=(V : Int)):=Zh (by rw [HP.out,List.drop_eq_nil_of_le (by rw [byte_len]; omega)]; rfl);clear HP;go_wp2_with fail;go_ret;exact ⟨ret_int HVK.out,rfl⟩
theorem span_dig (s : ByteArray) (w : World) (hs : s.size≤9223372036854775807) : Calls Tryz.prog 79 #[.string s,.func (.func 126) #[] #[]] w fun e w'=>e = .returned (.int .i64 (spanL digC s.data.toList))∧w=w':=by
 obtain ⟨V,hV⟩ : ∃ V,spanL digC s.data.toList=V:=⟨_,rfl⟩;rw [hV];have HV:=Zh hV;clear hV;go_enter Tryz.func79,Tryz.ntmps79;go_wp2_with fail;go_loopw [5] (fun v wr=>∃ (k : Nat),k≤s.size∧v = .int .i64 k∧Hid (V=k+spanL digC (s.data.toList.drop k))∧w=wr) (fun v _=>s.size - (intOf v).toNat)
 case atStart=>exact ⟨0,by omega,rfl,Zh (by rw [← HV.out]; simp),rfl⟩
 case round =>
  obtain ⟨k,hk,rfl,HP,rfl⟩:=hrel;by_cases hlt : k<s.size
  ·have HD:=Zh (byte_drop hlt);go_wp2_with fail;refine (lex_digit _ _).mono ?_;rintro e w' ⟨rfl,rfl⟩;rcases hb : digC (s[k].toNat : Int)
   ·have HVK : Hid ((k : Int)=(V : Int)):=Zh (by rw [HP.out,HD.out,spanL_no hb]; rfl);clear hb HP HD;go_wp2_with fail;go_ret;exact ⟨ret_int HVK.out,rfl⟩
   ·have HN : Hid (V=(k+1)+spanL digC (s.data.toList.drop (k+1))):=Zh (by rw [HP.out,HD.out,spanL_hit hb]; omega);clear hb HP HD;go_wp2_with fail;go_roundw
    case rel=>exact ⟨k+1,by omega,by go_num,HN,trivial⟩
    case measure=>simp [intOf]; omega
  ·have HVK : Hid ((k : Int)=(V : Int)):=Zh (by rw [HP.out,List.drop_eq_nil_of_le (by rw [byte_len]; omega)]; rfl);clear HP;go_wp2_with fail;go_ret;exact ⟨ret_int HVK.out,rfl⟩
end Go.Proofs.YtpbdjpfbhicmdaaGreatDoor
