/- For EvalLazy, EvalWhole, EvalSound: operations on two or more expressions. -/
import Derived.Test.YtcgocdhhneckhaaGreatDoorEvbxbq
import Derived.Test.YtcgocdhhneckhaaGreatDoorEvbxaz
import Derived.Test.YtcgocdhhneckhaaGreatDoorEvbxar
import Derived.Test.YtcgocdhhneckhaaGreatDoorEvbxbp
import Derived.Test.YtcgocdhhneckhaaGreatDoorEvbxat
import Derived.Test.YtcgocdhhneckhaaGreatDoorEvbxay
set_option linter.unusedSimpArgs false
set_option linter.unusedVariables false
set_option maxRecDepth 100000
set_option maxHeartbeats 6400000
namespace Go.Proofs.YtcgocdhhneckhaaGreatDoor
open Go.RowKit
structure EW (w W : World) (a b : PT) : Prop where
  bel : Below w.heap.size w W
  bA : Blk W w.heap.size 25 a.enc.toArray
  bB : Blk W (w.heap.size+1) 25 b.enc.toArray
theorem EW.later {w W W' : World} {a b : PT} (h : EW w W a b) (hb : Below W.heap.size W W') : EW w W' a b:=⟨h.bel.trans (hb.mono h.bel.size),h.bA.later hb,h.bB.later hb⟩
theorem FB.rf {w : World} {f : Frc} {p q : Int} (h : FB w f p q) (ho : FracOK p q) : RF w f p q:=⟨h.P,h.Q,ho⟩
theorem FrP.fz {w w' : World} {r : FrR} {e : Ending} (h : FrP w w' r e) (ho : r.OK) : ∃ f : Frc,e = .returned (.tuple #[f.v,.int .i64 r.e])∧FB w' f (pF r) (qF r)∧Below w.heap.size w w':=by
 obtain ⟨f,rfl,hok,hno,hP,hQ,hb⟩:=h;refine ⟨f,rfl, ?_,hb⟩;unfold pF qF;by_cases h0 : r.e=0
 ·obtain ⟨h1,h2⟩:=hok h0;rw [if_pos h0,if_pos h0];exact ⟨RB.mk' (hP.mono fun b hb=>hb.2) h1 (ho.yes h0).fp,RB.mk' (hQ.mono fun b hb=>hb.2) h2 (ho.yes h0).fq⟩
 ·obtain ⟨h1,h2⟩:=hno h0;rw [if_neg h0,if_neg h0];exact ⟨RB.mk' (hP.mono fun b hb=>hb.2) (h1.trans Zy) fits_zero,RB.mk' (hQ.mono fun b hb=>hb.2) (h2.trans Zy) fits_zero⟩
def CondF (L : List LT) (T M : List FT) : Prop:=(L.length : Int)≤20∧L.all (fun x=>rexp x.b)=true∧factsB T=true∧factsB M=true
theorem cond_of {L : List LT} {e : PT} {T M : List FT} (h : (evalF L e T M).e=0) : CondF L T M:=by
 by_cases hc : CondF L T M
 ·exact hc
 ·rw [evalF_bad hc] at h;exact absurd h (by decide)
theorem okE_of {k : Nat} {o : Int} {A : Option Addr} {c : Nat} {l : List PT} (hl : (l.length : Int)=opsN o) (h0 : ¬ o=0) (h1 : ¬ (o=1∨o=2∨o=3)) (h : okE (k+1) ⟨o,0,0,empS,A,c,l⟩=true) : ∀ x,x ∈ l→okE k x=true:=by
 rw [← okE_rest hl h0 h1] at h;simp only [Bool.and_eq_true] at h;exact List.all_eq_true.1 h.2.2
theorem evalF_two {L : List LT} {T M : List FT} {o : Int} {A : Option Addr} {c : Nat} {a b : PT} {x y : FrR} (hl : opsN o=2) (h0 : ¬ o=0) (h1 : ¬ (o=1∨o=2∨o=3)) (ha : okE 11 a=true) (hb : okE 11 b=true) (hc : CondF L T M) (hx : evalF L a T M=x) (hy : evalF L b T M=y) : evalF L ⟨o,0,0,empS,A,c,[a,b]⟩ T M=opF o [x,y]:=by
 rw [evalF_op (by rw [hl]; rfl) h0 h1 (fun z hz=>by rcases List.mem_cons.1 hz with rfl | hz; exact ha; rw [List.mem_singleton.1 hz]; exact hb) hc,List.map_cons,List.map_cons,List.map_nil,hx,hy]
theorem r05_int (n : Int) (w : World) (h0 : -9223372036854775808≤n) (h1 : n≤9223372036854775807) : Calls Tryz.prog 20 #[.int .i64 n,.int .i64 1] w fun e w'=>∃ f : Frc,e = .returned (.tuple #[f.v,.int .i64 0])∧FB w' f n 1∧Below w.heap.size w w' :=
 (r05_whole n w h0 h1).mono fun e w' h=>h.fz ⟨.inl rfl,fun _=>ok_whole h0 h1,fun h=>absurd rfl h⟩
structure BX (W : World) (g : Nat) (f : Frc) (p q : Int) : Prop where
  b : Blk W g 36 #[.int .i64 f.p.s,.slice f.p.l.A f.p.l.l.length f.p.l.c,.int .i64 f.q.s,.slice f.q.l.A f.q.l.l.length f.q.l.c]
  v : FB W f p q
theorem BX.later {W W' : World} {g : Nat} {f : Frc} {p q : Int} (h : BX W g f p q) (hb : Below W.heap.size W W') : BX W' g f p q:=⟨h.b.later hb,h.v.later hb⟩
theorem BX.new {W : World} {f : Frc} {p q : Int} (h : FB W f p q) : BX (W.alloc (.cells #[.int .i64 f.p.s,.slice f.p.l.A f.p.l.l.length f.p.l.c,.int .i64 f.q.s,.slice f.q.l.A f.q.l.l.length f.q.l.c] 36)) W.heap.size f p q:=⟨Blk.new _ _ _,h.later (Zz.alloc Zl _)⟩
theorem opF_mul {V U : FrR} (h : V.e=0) (g : U.e=0) : opF 6 [V,U]=mulF V.p V.q U.p U.q:=by
 show (if (6 : Int)=13 then andF V U else if (6 : Int)=14 then orF V U else twoF 6 V U)=_;rw [if_neg (by decide),if_neg (by decide)];unfold twoF;rw [if_neg (fun h'=>h' h),if_neg (fun h'=>h' g)];unfold appF;rw [if_neg (by decide),if_neg (by decide),if_pos rfl]
theorem opF_sub {V U : FrR} (h : V.e=0) (g : U.e=0) : opF 5 [V,U]=subF V.p V.q U.p U.q:=by
 show (if (5 : Int)=13 then andF V U else if (5 : Int)=14 then orF V U else twoF 5 V U)=_;rw [if_neg (by decide),if_neg (by decide)];unfold twoF;rw [if_neg (fun h'=>h' h),if_neg (fun h'=>h' g)];unfold appF;rw [if_neg (by decide),if_pos rfl]
theorem whF_fits {r : FrR} (ho : r.e=0→FracOK r.p r.q) : 0≤(whF r).1∧(whF r).1≤1000000000000000:=by
 unfold whF;split
 ·simp
 ·rename_i h;have hq:=(ho Zo).pos;split
  ·simp
  ·split
   ·simp
   ·rename_i h1 h2;refine ⟨Int.ediv_nonneg Zo Zo, ?_⟩;show r.p / r.q≤1000000000000000;have : r.p / r.q<1000000000000001:=Int.ediv_lt_of_lt_mul hq Zo;omega
theorem cmp_low {p q : Int} (hq : 0<q) : cmpI (p / q) 1 p q≤0:=by
 rw [cmpI_sign (by decide) hq];have h:=Int.mul_ediv_add_emod p q;have h2:=Int.emod_nonneg p (by omega : q≠0);have h3 : p / q * q=q * (p / q):=Int.mul_comm _ _;rw [Int.mul_one,h3];rcases Int.lt_trichotomy (q * (p / q) - p) 0 with h4 | h4 | h4
 ·rw [Int.sign_eq_neg_one_of_neg h4]; decide
 ·rw [h4]; decide
 ·omega
theorem cmp_high {p q : Int} (hq : 0<q) : cmpI p q (p / q+1) 1<0:=by
 rw [cmpI_sign hq (by decide)];have h:=Int.mul_ediv_add_emod p q;have h2:=Int.emod_lt_of_pos p hq;(have h3 : (p / q+1) * q=q * (p / q)+q:=by rw [Int.add_mul,Int.one_mul,Int.mul_comm]);rw [Int.mul_one,h3];(have h4 : p - (q * (p / q)+q)<0:=by omega);rw [Int.sign_eq_neg_one_of_neg h4]; decide
theorem whF_cases {r : FrR} (h0 : r.e=0) (ho : FracOK r.p r.q) : (r.p<0∧whF r=(0,0)∧cmpI r.p r.q 1000000000000001 1<0)∨(0≤r.p∧whF r=(0,3)∧0≤cmpI r.p r.q 1000000000000001 1)∨(0≤r.p∧whF r=(r.p / r.q,0)∧cmpI r.p r.q 1000000000000001 1<0):=by
 have hm:=cmp_most (r:=r) ho.pos;have hq:=ho.pos;by_cases h1 : r.p<0
 ·(have : ¬ 1000000000000001 * r.q≤r.p:=by omega);exact .inl ⟨h1,whF_neg h0 h1,by omega⟩
 ·by_cases h2 : 1000000000000001 * r.q≤r.p
  ·exact .inr (.inl ⟨by omega,whF_big h0 Zo h2,hm.2 h2⟩)
  ·exact .inr (.inr ⟨by omega,whF_ok h0 Zo h2,by omega⟩)
theorem frac_store {w w5 : World} {f : Frc} {p q : Int} (hg : RG (· < w5.heap.size) w5 f p q) (hr : Blk w5 w.heap.size 36 Zf) (hb : Below w.heap.size w w5) (v0 v1 v2 v3 : Value) : FB ((((w5.setCell ⟨w.heap.size,0,none⟩ v0).setCell ⟨w.heap.size,1,none⟩ v1).setCell ⟨w.heap.size,2,none⟩ v2).setCell ⟨w.heap.size,3,none⟩ v3) f p q∧Below w.heap.size w ((((w5.setCell ⟨w.heap.size,0,none⟩ v0).setCell ⟨w.heap.size,1,none⟩ v1).setCell ⟨w.heap.size,2,none⟩ v2).setCell ⟨w.heap.size,3,none⟩ v3):=by
 have h : RG (· < ((((w5.setCell ⟨w.heap.size,0,none⟩ v0).setCell ⟨w.heap.size,1,none⟩ v1).setCell ⟨w.heap.size,2,none⟩ v2).setCell ⟨w.heap.size,3,none⟩ v3).heap.size) ((((w5.setCell ⟨w.heap.size,0,none⟩ v0).setCell ⟨w.heap.size,1,none⟩ v1).setCell ⟨w.heap.size,2,none⟩ v2).setCell ⟨w.heap.size,3,none⟩ v3) f p q:=((hg.off hr).st4x (fun b hb=>hb.2)).mono (fun b hb=>by simpa using hb.1);exact ⟨⟨⟨h.P,h.dp.1,h.dp.2,h.ok.fp⟩,⟨h.Q,h.dq.1,h.dq.2,h.ok.fq⟩⟩,below_st4 hb Zl⟩
theorem law_truth (b : Bool) (w : World) : Calls Tryz.prog 19 #[.bool b] w fun e w'=>∃ f : Frc,e = .returned f.v∧FB w' f (if b then 1 else 0) 1∧Below w.heap.size w w':=by
 have HB0 : Hid (Below w.heap.size w (w.alloc (.cells Zf 36))):=Zh qbl;have HR0:=Zh (Blk.new w 36 Zf);go_enter Tryz.func19,Tryz.ntmps19;rcases b
 ·go_wp2_with fail;refine (r05_whole 0 _ (by decide) (by decide)).mono ?_;rintro r w1 hp;obtain ⟨f,rfl,hg,hb1⟩:=hp.yes rfl (ok_whole (by decide) (by decide));have HR1:=Zh (HR0.out.later hb1);have HB1:=Zt HB0 hb1;have HG1:=Zh (hg.mono (fun b hb=>hb.2) : RG (· < w1.heap.size) w1 f 0 1);clear hp hg hb1 HR0 HB0;simp only [Frc.v];(iterate 17 (first | go_values | go_skip | go_guarded | go_step | go_upon | go_back));have hal : Below w1.heap.size w1 (w1.alloc (.cells (Zc f) 36)):=Zz.alloc Zl _;have HX2:=Zh (Blk.new w1 36 (Zc f));have HR2:=Zh (HR1.out.later hal);have HB2:=Zt HB1 hal;have HG2:=Zh (HG1.out.lat hal);clear hal HR1 HB1 HG1;generalize w1.alloc (.cells _ 36)=w2 at *;generalize w1.heap.size=g2 at *;have HP:=Zh (fun v0 v1 v2 v3=>frac_store HG2.out HR2.out HB2.out v0 v1 v2 v3);obtain ⟨x0,x1,x2,x3,xf,xz⟩:=HX2.out.b4;obtain ⟨r0,r1,r2,r3,rf,rz⟩:=HR2.out.b4;go_wp2_with fail;refine bodyPost_ret (v:=.agg #[.int .i64 f.p.s,.slice f.p.l.A f.p.l.l.length f.p.l.c,.int .i64 f.q.s,.slice f.q.l.A f.q.l.l.length f.q.l.c]) ?_ rfl ⟨f,rfl,HP.out _ _ _ _⟩;simp [results,Tryz.results19,go_sem,r0,r1,r2,r3,rz]
 ·go_wp2_with fail;refine (r05_whole 1 _ (by decide) (by decide)).mono ?_;rintro r w1 hp;obtain ⟨f,rfl,hg,hb1⟩:=hp.yes rfl (ok_whole (by decide) (by decide));have HR1:=Zh (HR0.out.later hb1);have HB1:=Zt HB0 hb1;have HG1:=Zh (hg.mono (fun b hb=>hb.2) : RG (· < w1.heap.size) w1 f 1 1);clear hp hg hb1 HR0 HB0;simp only [Frc.v];(iterate 17 (first | go_values | go_skip | go_guarded | go_step | go_upon | go_back));have hal : Below w1.heap.size w1 (w1.alloc (.cells (Zc f) 36)):=Zz.alloc Zl _;have HX2:=Zh (Blk.new w1 36 (Zc f));have HR2:=Zh (HR1.out.later hal);have HB2:=Zt HB1 hal;have HG2:=Zh (HG1.out.lat hal);clear hal HR1 HB1 HG1;generalize w1.alloc (.cells _ 36)=w2 at *;generalize w1.heap.size=g2 at *;have HP:=Zh (fun v0 v1 v2 v3=>frac_store HG2.out HR2.out HB2.out v0 v1 v2 v3);obtain ⟨x0,x1,x2,x3,xf,xz⟩:=HX2.out.b4;obtain ⟨r0,r1,r2,r3,rf,rz⟩:=HR2.out.b4;go_wp2_with fail;refine bodyPost_ret (v:=.agg #[.int .i64 f.p.s,.slice f.p.l.A f.p.l.l.length f.p.l.c,.int .i64 f.q.s,.slice f.q.l.A f.q.l.l.length f.q.l.c]) ?_ rfl ⟨f,rfl,HP.out _ _ _ _⟩;simp [results,Tryz.results19,go_sem,r0,r1,r2,r3,rz]
instance condF_dec (L : List LT) (T M : List FT) : Decidable (CondF L T M):=by unfold CondF; infer_instance
structure LZ (V U A O C N : FrR) : Prop where
  bad : V.e≠0→A.e=V.e∧O.e=V.e∧C.e=V.e∧N.e=V.e
  twice : V.e=0→N=truF (isF V)
  no : V.e=0→isF V=false→A=truF false∧C=V∧O.e=U.e∧(U.e=0→O=truF (isF U))
  yes : V.e=0→isF V=true→O=truF true∧C=U∧A.e=U.e∧(U.e=0→A=truF (isF U))
theorem isF_truF : ∀ b,isF (truF b)=b
 | true=>by kernel_rfl
 | false=>by kernel_rfl
theorem truF_e (b : Bool) : (truF b).e=0:=rfl
theorem lz_cond (V U : FrR) : LZ V U (andF V U) (orF V U) (iteF V U V) (notF (notF V)):=by
 constructor
 ·intro h;(have hn : notF V=FrR.bad V.e:=by unfold notF; rw [if_pos h]);refine ⟨?_, ?_, ?_, ?_⟩
  ·unfold andF; rw [if_pos h]; rfl
  ·unfold orF; rw [if_pos h]; rfl
  ·unfold iteF; rw [if_pos h]; rfl
  ·rw [hn]; unfold notF; rw [if_pos (show (FrR.bad V.e).e≠0 from h)]; rfl
 ·intro h;(have hn : notF V=truF (!isF V):=by unfold notF; rw [if_neg (fun h'=>h' h)]);rw [hn]; unfold notF; rw [if_neg (fun h'=>h' (truF_e _)),isF_truF,Bool.not_not]
 ·intro h h1;refine ⟨?_, ?_, ?_, ?_⟩
  ·unfold andF; rw [if_neg (fun h'=>h' h),if_pos h1]
  ·unfold iteF; rw [if_neg (fun h'=>h' h),if_neg (by rw [h1]; decide)]
  ·unfold orF; rw [if_neg (fun h'=>h' h),if_neg (by rw [h1]; decide)];split
   ·rfl
   ·rename_i hu; rw [truF_e]; omega
  ·intro hu; unfold orF; rw [if_neg (fun h'=>h' h),if_neg (by rw [h1]; decide),if_neg (fun h'=>h' hu)]
 ·intro h h1;refine ⟨?_, ?_, ?_, ?_⟩
  ·unfold orF; rw [if_neg (fun h'=>h' h),if_pos h1]
  ·unfold iteF; rw [if_neg (fun h'=>h' h),if_pos h1]
  ·unfold andF; rw [if_neg (fun h'=>h' h),if_neg (by rw [h1]; decide)];split
   ·rfl
   ·rename_i hu; rw [truF_e]; omega
  ·intro hu; unfold andF; rw [if_neg (fun h'=>h' h),if_neg (by rw [h1]; decide),if_neg (fun h'=>h' hu)]
theorem opF_and (V U : FrR) : opF 13 [V,U]=andF V U:=by
 show (if (13 : Int)=13 then andF V U else if (13 : Int)=14 then orF V U else twoF 13 V U)=_;rw [if_pos rfl]
theorem opF_or (V U : FrR) : opF 14 [V,U]=orF V U:=by
 show (if (14 : Int)=13 then andF V U else if (14 : Int)=14 then orF V U else twoF 14 V U)=_;rw [if_neg (by decide),if_pos rfl]
theorem lz_bad : LZ (FrR.bad 1) (FrR.bad 1) (FrR.bad 1) (FrR.bad 1) (FrR.bad 1) (FrR.bad 1) :=
 ⟨fun _=>⟨rfl,rfl,rfl,rfl⟩,fun h=>absurd h (by decide),fun h=>absurd h (by decide),fun h=>absurd h (by decide)⟩
theorem lazy_of {L : List LT} {T M : List FT} {a b : PT} (ha : okE 10 a=true) (hb : okE 10 b=true) : ∃ A O C N,(∀ Ad c,evalF L ⟨13,0,0,empS,Ad,c,[a,b]⟩ T M=A)∧(∀ Ad c,evalF L ⟨14,0,0,empS,Ad,c,[a,b]⟩ T M=O)∧(∀ Ad c,evalF L ⟨15,0,0,empS,Ad,c,[a,b,a]⟩ T M=C)∧(∀ Ad c Ae d,evalF L ⟨12,0,0,empS,Ad,c,[⟨12,0,0,empS,Ae,d,[a]⟩]⟩ T M=N)∧LZ (evalF L a T M) (evalF L b T M) A O C N:=by
 by_cases hc : CondF L T M
 ·have ha1:=okE_mono ha (by decide : 10≤11);have hb1:=okE_mono hb (by decide : 10≤11);refine ⟨_,_,_,_,fun Ad c=>?_,fun Ad c=>?_,fun Ad c=>?_,fun Ad c Ae d=>?_,lz_cond _ _⟩
  ·rw [evalF_two Zy (by decide) (by decide) ha1 hb1 hc rfl rfl];exact opF_and _ _
  ·rw [evalF_two Zy (by decide) (by decide) ha1 hb1 hc rfl rfl];exact opF_or _ _
  ·rw [evalF_op Zy (by decide) (by decide) (fun x hx=>by
    rcases List.mem_cons.1 hx with rfl | hx
    ·exact ha1
    ·rcases List.mem_cons.1 hx with rfl | hx
     ·exact hb1
     ·rw [List.mem_singleton.1 hx];exact ha1) hc]
   rfl
  ·have hi : ∀ x,x ∈ [(⟨12,0,0,empS,Ae,d,[a]⟩ : PT)]→okE 11 x=true:=fun x hx=>by
    rw [List.mem_singleton.1 hx];exact okE_op Zy (by decide) (by decide) (fun y hy=>by rw [List.mem_singleton.1 hy]; exact ha)
   rw [evalF_op Zy (by decide) (by decide) hi hc,List.map_cons,List.map_nil,evalF_op Zy (by decide) (by decide) (fun y hy=>by rw [List.mem_singleton.1 hy]; exact ha1) hc];rfl
 ·refine ⟨_,_,_,_,fun Ad c=>evalF_bad hc,fun Ad c=>evalF_bad hc,fun Ad c=>evalF_bad hc,fun Ad c Ae d=>evalF_bad hc, ?_⟩;rw [evalF_bad hc,evalF_bad hc];exact lz_bad
structure LW (w W : World) (a b : PT) (g : Nat) (Y : Array Value) (l : List (Nat × Frc × Int × Int)) : Prop where
  e : EW w W a b
  y : Blk W g 31 Y
  x : ∀ z ∈ l,BX W z.1 z.2.1 z.2.2.1 z.2.2.2
theorem LW.later {w W W' : World} {a b : PT} {g : Nat} {Y : Array Value} {l : List (Nat × Frc × Int × Int)} (h : LW w W a b g Y l) (hb : Below W.heap.size W W') : LW w W' a b g Y l:=⟨h.e.later hb,h.y.later hb,fun z hz=>(h.x z hz).later hb⟩
theorem LW.push {w W : World} {a b : PT} {g : Nat} {Y : Array Value} {l : List (Nat × Frc × Int × Int)} {f : Frc} {p q : Int} (h : LW w W a b g Y l) (hf : FB W f p q) : LW w (W.alloc (.cells #[.int .i64 f.p.s,.slice f.p.l.A f.p.l.l.length f.p.l.c,.int .i64 f.q.s,.slice f.q.l.A f.q.l.l.length f.q.l.c] 36)) a b g Y ((W.heap.size,f,p,q) :: l):=by
 have h2:=h.later ((Below.refl W.heap.size W).alloc Zl (.cells (Zc f) 36));refine ⟨h2.e,h2.y,fun z hz=>?_⟩;rcases List.mem_cons.1 hz with rfl | hz
 ·exact BX.new hf
 ·exact h2.x z hz
theorem sign_isF {s : Int} {U : FrR} (h : s=U.p.sign) : (!decide (s=0))=isF U:=by
 unfold isF;by_cases h0 : U.p=0
 ·rw [h,h0]; rfl
 ·(have h1 : ¬ s=0:=by rw [h]; exact fun h2=>h0 (Int.sign_eq_zero_iff_zero.1 h2));rw [decide_eq_false h0,decide_eq_false h1]
theorem pF_truF : ∀ b : Bool,pF (truF b)=(if b=true then 1 else 0)
 | true=>by kernel_rfl
 | false=>by kernel_rfl
theorem qF_truF : ∀ b : Bool,qF (truF b)=1
 | true=>by kernel_rfl
 | false=>by kernel_rfl
theorem BX.c {W : World} {g : Nat} {f : Frc} {p q : Int} (h : BX W g f p q) : W.cell? ⟨g,0,none⟩=some (.int .i64 f.p.s)∧W.cell? ⟨g,1,none⟩=some (.slice f.p.l.A f.p.l.l.length f.p.l.c)∧W.cell? ⟨g,2,none⟩=some (.int .i64 f.q.s)∧W.cell? ⟨g,3,none⟩=some (.slice f.q.l.A f.q.l.l.length f.q.l.c):=by
 obtain ⟨x0,x1,x2,x3,_,_⟩:=h.b.b4;exact ⟨x0,x1,x2,x3⟩
section
variable {w W : World} {a b : PT} {g g1 g2 g3 g4 gx g6 : Nat} {Y : Array Value} {f1 f2 f3 f4 f5 f6 : Frc} {p1 p2 p3 p4 p5 p6 q1 q2 q3 q4 q5 q6 : Int}
theorem LW.x1 (h : LW w W a b g Y [(g6,f6,p6,q6),(gx,f5,p5,q5),(g4,f4,p4,q4),(g3,f3,p3,q3),(g2,f2,p2,q2),(g1,f1,p1,q1)]) : BX W g1 f1 p1 q1:=h.x (g1,f1,p1,q1) (List.mem_cons_of_mem _ (List.mem_cons_of_mem _ (List.mem_cons_of_mem _ (List.mem_cons_of_mem _ (List.mem_cons_of_mem _ (List.mem_cons_self ..))))))
theorem LW.x2 (h : LW w W a b g Y [(g6,f6,p6,q6),(gx,f5,p5,q5),(g4,f4,p4,q4),(g3,f3,p3,q3),(g2,f2,p2,q2),(g1,f1,p1,q1)]) : BX W g2 f2 p2 q2:=h.x (g2,f2,p2,q2) (List.mem_cons_of_mem _ (List.mem_cons_of_mem _ (List.mem_cons_of_mem _ (List.mem_cons_of_mem _ (List.mem_cons_self ..)))))
theorem LW.x3 (h : LW w W a b g Y [(g6,f6,p6,q6),(gx,f5,p5,q5),(g4,f4,p4,q4),(g3,f3,p3,q3),(g2,f2,p2,q2),(g1,f1,p1,q1)]) : BX W g3 f3 p3 q3:=h.x (g3,f3,p3,q3) (List.mem_cons_of_mem _ (List.mem_cons_of_mem _ (List.mem_cons_of_mem _ (List.mem_cons_self ..))))
theorem LW.x4 (h : LW w W a b g Y [(g6,f6,p6,q6),(gx,f5,p5,q5),(g4,f4,p4,q4),(g3,f3,p3,q3),(g2,f2,p2,q2),(g1,f1,p1,q1)]) : BX W g4 f4 p4 q4:=h.x (g4,f4,p4,q4) (List.mem_cons_of_mem _ (List.mem_cons_of_mem _ (List.mem_cons_self ..)))
theorem LW.x5 (h : LW w W a b g Y [(g6,f6,p6,q6),(gx,f5,p5,q5),(g4,f4,p4,q4),(g3,f3,p3,q3),(g2,f2,p2,q2),(g1,f1,p1,q1)]) : BX W gx f5 p5 q5:=h.x (gx,f5,p5,q5) (List.mem_cons_of_mem _ (List.mem_cons_self ..))
theorem LW.x6 (h : LW w W a b g Y [(g6,f6,p6,q6),(gx,f5,p5,q5),(g4,f4,p4,q4),(g3,f3,p3,q3),(g2,f2,p2,q2),(g1,f1,p1,q1)]) : BX W g6 f6 p6 q6:=h.x (g6,f6,p6,q6) (List.mem_cons_self ..)
theorem LW.cells (h : LW w W a b g Y [(g6,f6,p6,q6),(gx,f5,p5,q5),(g4,f4,p4,q4),(g3,f3,p3,q3),(g2,f2,p2,q2),(g1,f1,p1,q1)]) : (W.cell? ⟨g3,0,none⟩=some (.int .i64 f3.p.s)∧W.cell? ⟨g3,1,none⟩=some (.slice f3.p.l.A f3.p.l.l.length f3.p.l.c)∧W.cell? ⟨g3,2,none⟩=some (.int .i64 f3.q.s)∧W.cell? ⟨g3,3,none⟩=some (.slice f3.q.l.A f3.q.l.l.length f3.q.l.c))∧(W.cell? ⟨g4,0,none⟩=some (.int .i64 f4.p.s)∧W.cell? ⟨g4,1,none⟩=some (.slice f4.p.l.A f4.p.l.l.length f4.p.l.c)∧W.cell? ⟨g4,2,none⟩=some (.int .i64 f4.q.s)∧W.cell? ⟨g4,3,none⟩=some (.slice f4.q.l.A f4.q.l.l.length f4.q.l.c))∧(W.cell? ⟨gx,0,none⟩=some (.int .i64 f5.p.s)∧W.cell? ⟨gx,1,none⟩=some (.slice f5.p.l.A f5.p.l.l.length f5.p.l.c)∧W.cell? ⟨gx,2,none⟩=some (.int .i64 f5.q.s)∧W.cell? ⟨gx,3,none⟩=some (.slice f5.q.l.A f5.q.l.l.length f5.q.l.c))∧(W.cell? ⟨g1,0,none⟩=some (.int .i64 f1.p.s)∧W.cell? ⟨g1,1,none⟩=some (.slice f1.p.l.A f1.p.l.l.length f1.p.l.c)∧W.cell? ⟨g1,2,none⟩=some (.int .i64 f1.q.s)∧W.cell? ⟨g1,3,none⟩=some (.slice f1.q.l.A f1.q.l.l.length f1.q.l.c))∧(W.cell? ⟨g2,0,none⟩=some (.int .i64 f2.p.s)∧W.cell? ⟨g2,1,none⟩=some (.slice f2.p.l.A f2.p.l.l.length f2.p.l.c)∧W.cell? ⟨g2,2,none⟩=some (.int .i64 f2.q.s)∧W.cell? ⟨g2,3,none⟩=some (.slice f2.q.l.A f2.q.l.l.length f2.q.l.c))∧(W.cell? ⟨g6,0,none⟩=some (.int .i64 f6.p.s)∧W.cell? ⟨g6,1,none⟩=some (.slice f6.p.l.A f6.p.l.l.length f6.p.l.c)∧W.cell? ⟨g6,2,none⟩=some (.int .i64 f6.q.s)∧W.cell? ⟨g6,3,none⟩=some (.slice f6.q.l.A f6.q.l.l.length f6.q.l.c)) :=
 ⟨h.x3.c,h.x4.c,h.x5.c,h.x1.c,h.x2.c,h.x6.c⟩
end
theorem r32_truth_true (w : World) : Calls Tryz.prog 80 #[.bool true] w fun e w'=>GotF w w' 1 1 e:=by
 go_enter Tryz.func80,Tryz.ntmps80;go_wp2_with fail;refine (r05_whole 1 _ Zo Zo).mono ?_;rintro e w1 hp;obtain ⟨f,rfl,hf,hb1⟩:=hp.yes rfl (ok_whole (n:=1) Zo Zo);obtain ⟨B_r,r0,r1,r2,r3,rf,rz⟩:=Zb4 (Zk1 (g:=w.heap.size) (t:=36) (cs:=Zf) hb1);have HF : Hid (RG (Nw (w.heap.size+1) w1) w1 f 1 1):=Zh (hf.mono fun b hb=>hb.mono Zs Zl);have HB : Hid (Below w.heap.size w w1):=Zh qbv;clear hf hb1 hp;simp only [Frc.v];have HF2 : Hid (RG (Nw (w.heap.size+1) (w1.alloc (.cells (Zc f) 36))) (w1.alloc (.cells (Zc f) 36)) f 1 1):=Zh (HF.out.nw Zl (Below.alloc Zz Zl _));have HB2 : Hid (Below w.heap.size w (w1.alloc (.cells (Zc f) 36))):=Zh (HB.out.alloc HB.out.size _);have HR2 : Hid (Blk (w1.alloc (.cells (Zc f) 36)) w.heap.size 36 Zf):=Zh (B_r.alloc _);have HZ2:=Zh (Blk.new w1 36 (Zc f));(iterate 25 (first | go_values | go_skip | go_guarded | go_step | go_upon | go_back));clear r0 r1 r2 r3 rf rz B_r;generalize w1.alloc (.cells _ 36)=w2 at *;generalize w1.heap.size=gz at *;obtain ⟨r0,r1,r2,r3,rf,rz⟩:=HR2.out.b4;obtain ⟨z0,z1,z2,z3,zf,zz⟩:=HZ2.out.b4;clear HF HB;go_wp2_with fail;(have hne : ∀ b,w.heap.size+1≤b→b≠w.heap.size:=fun b hb=>by omega);refine bodyPost_ret (v:=.agg #[.int .i64 f.p.s,.slice f.p.l.A f.p.l.l.length f.p.l.c,.int .i64 f.q.s,.slice f.q.l.A f.q.l.l.length f.q.l.c]) ?_ rfl ⟨f,rfl,HF2.out.st4 hne Zo,below_st4 HB2.out⟩;simp [results,Tryz.results80,go_sem,r0,r1,r2,r3]
theorem r32_truth_false (w : World) : Calls Tryz.prog 80 #[.bool false] w fun e w'=>GotF w w' 0 1 e:=by
 go_enter Tryz.func80,Tryz.ntmps80;go_wp2_with fail;refine (r05_whole 0 _ Zo Zo).mono ?_;rintro e w1 hp;obtain ⟨f,rfl,hf,hb1⟩:=hp.yes rfl (ok_whole (n:=0) Zo Zo);obtain ⟨B_r,r0,r1,r2,r3,rf,rz⟩:=Zb4 (Zk1 (g:=w.heap.size) (t:=36) (cs:=Zf) hb1);have HF : Hid (RG (Nw (w.heap.size+1) w1) w1 f 0 1):=Zh (hf.mono fun b hb=>hb.mono Zs Zl);have HB : Hid (Below w.heap.size w w1):=Zh qbv;clear hf hb1 hp;simp only [Frc.v];have HF2 : Hid (RG (Nw (w.heap.size+1) (w1.alloc (.cells (Zc f) 36))) (w1.alloc (.cells (Zc f) 36)) f 0 1):=Zh (HF.out.nw Zl (Below.alloc Zz Zl _));have HB2 : Hid (Below w.heap.size w (w1.alloc (.cells (Zc f) 36))):=Zh (HB.out.alloc HB.out.size _);have HR2 : Hid (Blk (w1.alloc (.cells (Zc f) 36)) w.heap.size 36 Zf):=Zh (B_r.alloc _);have HZ2:=Zh (Blk.new w1 36 (Zc f));(iterate 25 (first | go_values | go_skip | go_guarded | go_step | go_upon | go_back));clear r0 r1 r2 r3 rf rz B_r;generalize w1.alloc (.cells _ 36)=w2 at *;generalize w1.heap.size=gz at *;obtain ⟨r0,r1,r2,r3,rf,rz⟩:=HR2.out.b4;obtain ⟨z0,z1,z2,z3,zf,zz⟩:=HZ2.out.b4;clear HF HB;go_wp2_with fail;(have hne : ∀ b,w.heap.size+1≤b→b≠w.heap.size:=fun b hb=>by omega);refine bodyPost_ret (v:=.agg #[.int .i64 f.p.s,.slice f.p.l.A f.p.l.l.length f.p.l.c,.int .i64 f.q.s,.slice f.q.l.A f.q.l.l.length f.q.l.c]) ?_ rfl ⟨f,rfl,HF2.out.st4 hne Zo,below_st4 HB2.out⟩;simp [results,Tryz.results80,go_sem,r0,r1,r2,r3]
theorem r32_truth (b : Bool) (w : World) : Calls Tryz.prog 80 #[.bool b] w fun e w'=>GotF w w' (truF b).p (truF b).q e:=by
 cases b
 ·exact r32_truth_false w
 ·exact r32_truth_true w
def FtP (w w' : World) (r : FrR) (e : Ending) : Prop:=∃ f : Frc,e = .returned (.tuple #[f.v,.int .i64 r.e])∧(r.e=0→RG (Nw w.heap.size w') w' f r.p r.q)∧(r.e≠0→f=Frc.zero)∧Below w.heap.size w w'
theorem factF_hit {s : ByteArray} {l : List FT} {j : Nat} {x : FT} {r : List FT} (hd : l.drop j=x :: r) (h : (x.nm.toList == s.toList)=true) : factF s (l.drop j)=wholeF x.v:=by
 rw [hd]; unfold factF; rw [if_pos (by unfold sameB; exact h)]
theorem factF_on {s : ByteArray} {l : List FT} {j : Nat} {x : FT} {r : List FT} (hd : l.drop j=x :: r) (h : (x.nm.toList == s.toList)=false) : factF s (l.drop j)=factF s r:=by
 (rw [hd]; conv=>lhs; unfold factF);rw [if_neg (by unfold sameB; rw [h]; decide)]
theorem r32_fact (l : Sl FT) (s : ByteArray) (w : World) (hl : FactsAt (· < w.heap.size) w l) (hv : ∀ x,x ∈ l.l→-9223372036854775808≤x.v∧x.v≤9223372036854775807) : Calls Tryz.prog 73 #[.slice l.A l.l.length l.c,.string s] w fun e w'=>FtP w w' (factF s l.l) e:=by
 have hn:=hl.rd.len;have HL:=Zh hl;have HVV:=Zh hv;clear hl hv;obtain ⟨A,c,l⟩:=l;simp only at hn HVV;simp only;obtain ⟨V,hV⟩ : ∃ V,factF s l=V:=⟨_,rfl⟩;rw [hV];have HV:=Zh hV;clear hV;have HB0 : Hid (Below w.heap.size w (w.alloc (.cells Zf 36))):=Zh qbl;have HR0:=Zh (Blk.new w 36 Zf);go_enter Tryz.func73,Tryz.ntmps73;go_wp2_with fail;generalize w.alloc (.cells _ 36)=w1 at *;go_loopw [6] (fun i wr=>∃ (j : Nat),j≤l.length∧i = .int .i64 j∧Below w1.heap.size w1 wr∧Hid (factF s (l.drop j)=V)) (fun i _=>l.length - (intOf i).toNat)
 case atStart=>exact ⟨0,by omega,rfl,Below.refl _ _,HV⟩
 case round =>
  obtain ⟨j,hj,rfl,hbel,HG⟩:=hrel;have HBR:=Zt HB0 hbel;have HBEL:=Zh hbel;by_cases hlt : j<l.length
  ·obtain ⟨b,q,hA,hbl,hcl⟩:=(HL.out.later HBR.out).rd.at1 hlt;have HX:=Zh (HVV.out _ (List.getElem_mem hlt));have HD:=Zh (List.drop_eq_getElem_cons hlt);simp only at hA hcl;subst hA;generalize l[j]=x at *;obtain ⟨xn,xv⟩:=x;obtain ⟨g0,g1⟩:=hcl.c2;clear hcl;by_cases hy : xn=s
   ·(have heq : (xn.toList == s.toList)=true:=by rw [bytes_beq]; simpa using hy);have HVW:=Zh (HG.out.symm.trans (factF_hit HD.out heq));clear hy HG HD HV;go_wp2_with fail;refine (r05_whole xv _ HX.out.1 HX.out.2).mono ?_;rintro e w3 hp;obtain ⟨f,rfl,hf,hb1⟩:=hp.yes rfl (ok_whole (n:=xv) HX.out.1 HX.out.2);have HF:=Zh hf;have HB3:=Zt HBR hb1;have HR3:=Zh (HR0.out.later (HBEL.out.trans (hb1.mono HBEL.out.size)));have hwr : w.heap.size<wr.heap.size:=(HR0.out.later HBEL.out).lt;clear hf hb1 hp g0 g1 hbel hbl;simp only [Frc.v];have HF2 : Hid (RG (Nw wr.heap.size (w3.alloc (.cells (Zc f) 36))) (w3.alloc (.cells (Zc f) 36)) f xv 1):=Zh (HF.out.nw Zl (Below.alloc Zz Zl _));have HB4 : Hid (Below w.heap.size w (w3.alloc (.cells (Zc f) 36))):=Zh (HB3.out.alloc HB3.out.size _);have HR4 : Hid (Blk (w3.alloc (.cells (Zc f) 36)) w.heap.size 36 Zf):=Zh (HR3.out.alloc _);have HZ4:=Zh (Blk.new w3 36 (Zc f));(iterate 25 (first | go_values | go_skip | go_guarded | go_step | go_upon | go_back));generalize w3.alloc (.cells _ 36)=w4 at *;generalize w3.heap.size=gz at *;obtain ⟨r0,r1,r2,r3,rf,rz⟩:=HR4.out.b4;obtain ⟨z0,z1,z2,z3,zf,zz⟩:=HZ4.out.b4;clear HF HB3 HR3;go_wp2_with fail;(have hne : ∀ b,wr.heap.size≤b→b≠w.heap.size:=fun b hb=>by omega);rw [HVW.out];refine bodyPost_ret (v:=.tuple #[.agg #[.int .i64 f.p.s,.slice f.p.l.A f.p.l.l.length f.p.l.c,.int .i64 f.q.s,.slice f.q.l.A f.q.l.l.length f.q.l.c],.int .i64 0]) ?_ rfl ⟨f,rfl,fun _=>HF2.out.st4 hne (Nat.le_of_lt hwr),fun h=>absurd rfl h,below_st4 HB4.out⟩;simp [results,Tryz.results73,go_sem,r0,r1,r2,r3]
   ·(have heq : (xn.toList == s.toList)=false:=by rw [bytes_beq]; simpa using hy);have HG2:=Zh ((factF_on HD.out heq).symm.trans HG.out);clear hy HG HD;go_wp2_with fail;go_roundw
    case rel=>exact ⟨j+1,by omega,by go_num,hbel,HG2⟩
    case measure=>simp [intOf]; omega
  ·have HVN : Hid (V=FrR.bad 14):=Zh (by rw [← HG.out,List.drop_eq_nil_of_le Zo]; rfl);obtain ⟨r0,r1,r2,r3,rf,rz⟩:=(HR0.out.later hbel).b4;clear HG HV;go_wp2_with fail;rw [HVN.out];refine bodyPost_ret (v:=.tuple #[.agg Zf,.int .i64 14]) ?_ rfl ⟨Frc.zero,rfl,(fun h=>absurd h (by decide)),(fun _=>rfl),below_st4 HBR.out⟩;simp [results,Tryz.results73,go_sem,r0,r1,r2,r3]
structure NT where
  k : Bool
  f : Frc
  e : Int
def NT.enc (x : NT) : List Value:=[.bool x.k,.int .i64 x.f.p.s,.slice x.f.p.l.A x.f.p.l.l.length x.f.p.l.c,.int .i64 x.f.q.s,.slice x.f.q.l.A x.f.q.l.l.length x.f.q.l.c,.int .i64 x.e]
theorem NT.enc_k (x : NT) : x.enc.length=6:=rfl
def NT.zero : NT:=⟨false,Frc.zero,0⟩
def NtB (w : World) (m : Nat) (N : List NT) : Prop:=Blk w m 150 (N.flatMap NT.enc).toArray
theorem NtB.cell {w : World} {m : Nat} {N : List NT} (h : NtB w m N) {j i : Nat} {x : NT} (hx : N[j]? = some x) (hi : i<6) : w.cell? ⟨m,j * 6+i,none⟩=x.enc[i]?:=by
 unfold NtB at h;rw [h.cell];simp only [List.getElem?_toArray];exact flat_get NT.enc_k N j i x hx hi
theorem NtB.frozen {w : World} {m : Nat} {N : List NT} (h : NtB w m N) (i : Nat) : w.frozen? ⟨m,i,none⟩=false:=Blk.frozen h i
theorem NtB.set1 {w : World} {m : Nat} {N : List NT} (h : NtB w m N) {j i : Nat} {x y : NT} {u : Value} (hx : N[j]? = some x) (hi : i<6) (he : y.enc=x.enc.set i u) : NtB (w.setCell ⟨m,j * 6+i,none⟩ u) m (N.set j y):=by
 unfold NtB at h ⊢;have h1:=h.set_ (j * 6+i) u;rw [List.setIfInBounds_toArray] at h1;rw [flat_set NT.enc_k N j i x y u hx hi he];exact h1
theorem NtB.at_ {w : World} {m : Nat} {N : List NT} (h : NtB w m N) {j : Nat} {x : NT} (hx : N[j]? = some x) : w.cell? ⟨m,j * 6,none⟩=some (.bool x.k)∧w.cell? ⟨m,j * 6+1,none⟩=some (.int .i64 x.f.p.s)∧w.cell? ⟨m,j * 6+2,none⟩=some (.slice x.f.p.l.A x.f.p.l.l.length x.f.p.l.c)∧w.cell? ⟨m,j * 6+3,none⟩=some (.int .i64 x.f.q.s)∧w.cell? ⟨m,j * 6+4,none⟩=some (.slice x.f.q.l.A x.f.q.l.l.length x.f.q.l.c)∧w.cell? ⟨m,j * 6+5,none⟩=some (.int .i64 x.e)∧(∀ o,w.frozen? ⟨m,o,none⟩=false)∧m<w.heap.size :=
 ⟨h.cell hx (i:=0) (by decide),h.cell hx (i:=1) (by decide),h.cell hx (i:=2) (by decide),h.cell hx (i:=3) (by decide),h.cell hx (i:=4) (by decide),h.cell hx (i:=5) (by decide),h.frozen,Blk.lt h⟩
theorem NtB.store {w : World} {m : Nat} {N : List NT} (h : NtB w m N) {j : Nat} (hj : j<N.length) (f : Frc) (e : Int) : NtB ((((((w.setCell ⟨m,j * 6,none⟩ (.bool true)).setCell ⟨m,j * 6+1,none⟩ (.int .i64 f.p.s)).setCell ⟨m,j * 6+2,none⟩ (.slice f.p.l.A f.p.l.l.length f.p.l.c)).setCell ⟨m,j * 6+3,none⟩ (.int .i64 f.q.s)).setCell ⟨m,j * 6+4,none⟩ (.slice f.q.l.A f.q.l.l.length f.q.l.c)).setCell ⟨m,j * 6+5,none⟩ (.int .i64 e)) m (N.set j ⟨true,f,e⟩):=by
 obtain ⟨x,hx⟩ : ∃ x,N[j]? = some x:=⟨_,List.getElem?_eq_getElem hj⟩;obtain ⟨xk,⟨⟨xs,xl⟩,⟨ys,yl⟩⟩,xe⟩:=x;obtain ⟨⟨fs,fl⟩,⟨gs,gl⟩⟩:=f;(have hs : ∀ {M : List NT} {y : NT},M=N.set j y→M[j]? = some y:=fun h=>by rw [h,List.getElem?_set_self hj]);have h1:=h.set1 (i:=0) (y:=⟨true,⟨⟨xs,xl⟩,⟨ys,yl⟩⟩,xe⟩) (u:=.bool true) hx (by decide) rfl;have h2:=h1.set1 (i:=1) (y:=⟨true,⟨⟨fs,xl⟩,⟨ys,yl⟩⟩,xe⟩) (u:=.int .i64 fs) (hs rfl) (by decide) rfl;rw [List.set_set] at h2;have h3:=h2.set1 (i:=2) (y:=⟨true,⟨⟨fs,fl⟩,⟨ys,yl⟩⟩,xe⟩) (u:=.slice fl.A fl.l.length fl.c) (hs rfl) (by decide) rfl;rw [List.set_set] at h3;have h4:=h3.set1 (i:=3) (y:=⟨true,⟨⟨fs,fl⟩,⟨gs,yl⟩⟩,xe⟩) (u:=.int .i64 gs) (hs rfl) (by decide) rfl;rw [List.set_set] at h4;have h5:=h4.set1 (i:=4) (y:=⟨true,⟨⟨fs,fl⟩,⟨gs,gl⟩⟩,xe⟩) (u:=.slice gl.A gl.l.length gl.c) (hs rfl) (by decide) rfl;rw [List.set_set] at h5;have h6:=h5.set1 (i:=5) (y:=⟨true,⟨⟨fs,fl⟩,⟨gs,gl⟩⟩,e⟩) (u:=.int .i64 e) (hs rfl) (by decide) rfl;rw [List.set_set] at h6;exact h6
theorem NtB.keep {w w' : World} {m : Nat} {N : List NT} (h : NtB w m N) (hk : w'.heap[m]? = w.heap[m]?) : NtB w' m N:=by
 unfold NtB Blk at h ⊢;exact hk.trans h
structure FkSt (g m : Nat) (L : Sl LT) (T M : Sl FT) (X : Nat→Prop) (N : List NT) (w : World) : Prop where
  blk : Blk w g 79 #[.slice L.A L.l.length L.c,.slice (some ⟨m,0,none⟩) L.l.length L.l.length,.slice T.A T.l.length T.c,.slice M.A M.l.length M.c]
  row : NtB w m N
  len : N.length=L.l.length
  lets : LetsAt (Nm X w) w L
  trip : FactsAt (Nm X w) w T
  memb : FactsAt (Nm X w) w M
  memo : ∀ j x,N[j]? = some x→x.k=true→x.e=(evOf L.l T.l M.l j).e∧(x.e=0→RG (Nm X w) w x.f (evOf L.l T.l M.l j).p (evOf L.l T.l M.l j).q)
  gm : g≠m
  xm : X m
  xlt : ∀ b,X b→b<w.heap.size
section
variable {g m : Nat} {L : Sl LT} {T M : Sl FT} {X : Nat→Prop} {N : List NT} {w w' : World}
theorem FkSt.mw (h : FkSt g m L T M X N w) : m<w.heap.size:=h.xlt m h.xm
theorem FkSt.more {Y : Nat→Prop} (h : FkSt g m L T M X N w) (hb : Below w.heap.size w w') (hY : Mor X Y w w') : FkSt g m L T M Y N w' :=
 ⟨h.blk.later hb,h.row.keep (hb.block m h.mw),h.len,h.lets.keep (fun b hb'=>hb.block b hb'.1) (fun _ hb'=>hY.nm hb hb'),h.trip.keep (fun b hb'=>hb.block b hb'.1) (fun _ hb'=>hY.nm hb hb'),h.memb.keep (fun b hb'=>hb.block b hb'.1) (fun _ hb'=>hY.nm hb hb'),fun j x hx hk=>by
  obtain ⟨h1,h2⟩:=h.memo j x hx hk
  exact ⟨h1,fun h0=>(h2 h0).more hb hY⟩,h.gm,hY.1 m h.xm,fun b hy=>by
  rcases hY.2 b hy with hx | hx
  ·exact Nat.lt_of_lt_of_le (h.xlt b hx) hb.size
  ·exact hx.2⟩
theorem FkSt.later (h : FkSt g m L T M X N w) (hb : Below w.heap.size w w') : FkSt g m L T M X N w':=h.more hb (Mor.refl _ _ _)
theorem FkSt.less {Y : Nat→Prop} (h : FkSt g m L T M Y N w) (hXY : ∀ b,X b→Y b) (hm : X m) : FkSt g m L T M X N w :=
 ⟨h.blk,h.row,h.len,h.lets.mono fun _ hb=>hb.less hXY,h.trip.mono fun _ hb=>hb.less hXY,h.memb.mono fun _ hb=>hb.less hXY,fun j x hx hk=>by
  obtain ⟨h1,h2⟩:=h.memo j x hx hk;exact ⟨h1,fun h0=>(h2 h0).mono fun _ hb=>hb.less hXY⟩,h.gm,hm,fun b hx=>h.xlt b (hXY b hx)⟩
theorem FkSt.set_ (h : FkSt g m L T M X N w) {a : Addr} (ha : X a.block) (hg : g≠a.block) (hm : m≠a.block) (u : Value) : FkSt g m L T M X N (w.setCell a u):=by
 have hk : ∀ b,Nm X w b→(w.setCell a u).heap[b]? = w.heap[b]?:=fun b hb=>Below.heap_setCell w a u b (fun e=>hb.2 (by rw [e]; exact ha));have hn : ∀ b,Nm X w b→Nm X (w.setCell a u) b:=fun b hb=>⟨by simpa using hb.1,hb.2⟩
 exact ⟨h.blk.far hg u,h.row.keep (Below.heap_setCell w a u m hm),h.len,h.lets.keep hk hn,h.trip.keep hk hn,h.memb.keep hk hn,fun j x hx hk'=>by
  obtain ⟨h1,h2⟩:=h.memo j x hx hk';exact ⟨h1,fun h0=>((h2 h0).keep hk).mono hn⟩,h.gm,h.xm,fun b hx=>by simpa using h.xlt b hx⟩
theorem FkSt.stX {Y : Nat→Prop} {a : Nat} {x y z v : Value} (h : FkSt g m L T M Y N w) (h1 : Y a) (hg : g≠a) (hm : m≠a) (hXY : ∀ b,X b→Y b) (hX : X m) : FkSt g m L T M X N ((((w.setCell ⟨a,0,none⟩ x).setCell ⟨a,1,none⟩ y).setCell ⟨a,2,none⟩ z).setCell ⟨a,3,none⟩ v) :=
 ((((h.set_ h1 hg hm x).set_ h1 hg hm y).set_ h1 hg hm z).set_ h1 hg hm v).less hXY hX
theorem FkSt.store (h : FkSt g m L T M X N w) {k : Nat} {f : Frc} (hk : k<L.l.length) (hg : w.grownBy w' (some m)) (hr : NtB w' m (N.set k ⟨true,f,(evOf L.l T.l M.l k).e⟩)) (hf : (evOf L.l T.l M.l k).e=0→RG (Nm X w) w f (evOf L.l T.l M.l k).p (evOf L.l T.l M.l k).q) : FkSt g m L T M X (N.set k ⟨true,f,(evOf L.l T.l M.l k).e⟩) w' :=
 ⟨h.blk.gm hg h.gm,hr,by rw [List.length_set]; exact h.len,h.lets.grow h.xm hg,h.trip.grow h.xm hg,h.memb.grow h.xm hg,fun j x hx hkn=>by
  rw [List.getElem?_set] at hx;by_cases hkj : k=j
  ·subst hkj;rw [if_pos rfl,if_pos (by rw [h.len]; exact hk)] at hx;injection hx with hx;subst hx;exact ⟨rfl,fun h0=>(hf h0).grow h.xm hg⟩
  ·rw [if_neg hkj] at hx;obtain ⟨h1,h2⟩:=h.memo j x hx hkn;exact ⟨h1,fun h0=>(h2 h0).grow h.xm hg⟩,h.gm,h.xm,fun b hx=>Nat.lt_of_lt_of_le (h.xlt b hx) hg.size⟩
def FkP (g m : Nat) (L : Sl LT) (T M : Sl FT) (X : Nat→Prop) (w w' : World) (r : FrR) (e : Ending) : Prop :=
  (∃ f : Frc,e = .returned (.tuple #[f.v,.int .i64 r.e])∧(r.e=0→RG (Nm X w') w' f r.p r.q))∧(∃ N',FkSt g m L T M X N' w')∧w.grownBy w' (some m)
theorem FkP.cast {r r' : FrR} {e : Ending} (h : r=r') (x : FkP g m L T M X w w' r' e) : FkP g m L T M X w w' r e:=by rw [h]; exact x
end
def ValK (g m : Nat) (L : Sl LT) (T M : Sl FT) (n k : Nat) : Prop:=∀ (e : PT) (X : Nat→Prop) (N : List NT) (W : World),okE k e=true→PT.At (Nm X W) W e→FkSt g m L T M X N W →
  Calls Tryz.prog 38 #[.pointer (some ⟨g,0,none⟩),e.v,.int .i64 n] W fun r w'=>FkP g m L T M X W w' (evN T.l M.l L.l n k e) r
theorem cmp_zero {p q r s : Int} (h : FracOK p q) (h' : FracOK r s) (h0 : cmpI p q r s=0) : p=r∧q=s:=by
 rw [cmpI_sign h.pos h'.pos] at h0;exact h.same h' (by have:=Int.sign_eq_zero_iff_zero.1 h0; omega)
theorem setRowN {w : World} {m : Nat} (i : Nat) (u : Value) : w.grownBy (w.setCell ⟨m,i,none⟩ u) (some m) :=
 ⟨rfl,rfl,rfl,by simp,fun j _ hr=>Below.heap_setCell w _ u j (fun e=>hr (by rw [e]))⟩
structure VK (g m : Nat) (L : Sl LT) (T M : Sl FT) (X Y : Nat→Prop) (N : List NT) (w w1 : World) (e : PT) : Prop where
  gr : w.grownBy w1 (some m)
  st : FkSt g m L T M Y N w1
  ex : PT.At (Nm Y w1) w1 e
  bE : Blk w1 w.heap.size 25 e.enc.toArray
  bR : Blk w1 (w.heap.size+1) 36 Zf
  xy : ∀ b,X b→Y b
  xm : X m
  yr : Y (w.heap.size+1)
  gw : g<w.heap.size
  mw : m<w.heap.size
section
variable {g m : Nat} {L : Sl LT} {T M : Sl FT} {X Y : Nat→Prop} {N N' : List NT} {w w1 w2 : World} {e : PT}
theorem vk_make (hs : FkSt g m L T M X N w) (he : PT.At (Nm X w) w e) : ∃ Y,VK g m L T M X Y N w ((w.alloc (.cells e.enc.toArray 25)).alloc (.cells Zf 36)) e:=by
 have hb : Below w.heap.size w ((w.alloc (.cells e.enc.toArray 25)).alloc (.cells Zf 36)):=qbl
 have hm : Mor X (fun b=>X b∨b=w.heap.size+1) w ((w.alloc (.cells e.enc.toArray 25)).alloc (.cells Zf 36)):=⟨fun b h=>.inl h,fun b h=>by
  rcases h with h | h
  ·exact .inl h
  ·right; simp; omega⟩
 exact ⟨fun b=>X b∨b=w.heap.size+1,below_by hb _,hs.more hb hm,he.more hb hm,(Blk.new _ _ _).alloc _,Blk.new' Zs,fun b h=>.inl h,hs.xm,.inr rfl,hs.blk.lt,hs.mw⟩
theorem VK.next (h : VK g m L T M X Y N w w1 e) (hst : FkSt g m L T M Y N' w2) (hg : w1.grownBy w2 (some m)) : VK g m L T M X Y N' w w2 e :=
 ⟨grown_trans h.gr hg,hst,h.ex.grow h.st.xm hg,h.bE.gm hg (by have:=h.mw; omega),h.bR.gm hg (by have:=h.mw; omega),h.xy,h.xm,h.yr,h.gw,h.mw⟩
theorem VK.later (h : VK g m L T M X Y N w w1 e) (hb : Below w1.heap.size w1 w2) : VK g m L T M X Y N w w2 e:=h.next (h.st.later hb) (below_by hb _)
theorem VK.fin {r : FrR} {f : Frc} {x y z v : Value} (h : VK g m L T M X Y N w w1 e) (hf : r.e=0→RG (Nm Y w1) w1 f r.p r.q) : FkP g m L T M X w ((((w1.setCell ⟨w.heap.size+1,0,none⟩ x).setCell ⟨w.heap.size+1,1,none⟩ y).setCell ⟨w.heap.size+1,2,none⟩ z).setCell ⟨w.heap.size+1,3,none⟩ v) r (.returned (.tuple #[f.v,.int .i64 r.e])) :=
 ⟨⟨f,rfl,fun h0=>(hf h0).stX h.yr h.xy⟩,⟨N,h.st.stX h.yr (by have:=h.gw; omega) (by have:=h.mw; omega) h.xy h.xm⟩,grown_st4 h.gr (Nat.le_succ _)⟩
theorem FkP.alloc {r : FrR} {e : Ending} (h : FkP g m L T M X w w1 r e) (o : Obj) : FkP g m L T M X w (w1.alloc o) r e:=by
 obtain ⟨⟨f,he,hf⟩,⟨N,hs⟩,hg⟩:=h;have hb : Below w1.heap.size w1 (w1.alloc o):=Zz.alloc Zl o;exact ⟨⟨f,he,fun h0=>(hf h0).more hb (Mor.refl _ _ _)⟩,⟨N,hs.later hb⟩,grown_trans hg (below_by hb _)⟩
theorem VK.ofNew {f : Frc} {p q : Int} (hs : VK g m L T M X Y N w w1 e) (h : RG (Nw w1.heap.size w2) w2 f p q) : RG (Nm Y w2) w2 f p q:=h.mono fun b hb=>⟨hb.2,fun hy=>by have:=hs.st.xlt b hy; have:=hb.1; omega⟩
end
section
variable (g m : Nat) (L : Sl LT) (T M : Sl FT) (n k : Nat)
theorem lg_not (ih : ValK g m L T M n k) (a u : Int) (s : ByteArray) (A : Option Addr) (c : Nat) (l : List PT) (x : PT) (hl : l=[x]) (hx : okE k x=true) (X : Nat→Prop) (N : List NT) (w : World) (he : PT.At (Nm X w) w ⟨12,a,u,s,A,c,l⟩) (hs : FkSt g m L T M X N w) : Calls Tryz.prog 74 #[.pointer (some ⟨g,0,none⟩),PT.v ⟨12,a,u,s,A,c,l⟩,.int .i64 n] w fun r w'=>FkP g m L T M X w w' (notF (evN T.l M.l L.l n k x)) r:=by
 have HI:=Zh (fun Y N W=>ih x Y N W hx);obtain ⟨V,hV⟩ : ∃ V,evN T.l M.l L.l n k x=V:=⟨_,rfl⟩;rw [hV] at HI ⊢;(have h0l : 0<l.length:=by rw [hl]; exact Nat.zero_lt_one);have HX0 : Hid (l[0]? = some x):=Zh (by rw [hl]; rfl);clear hV ih hl hx;obtain ⟨b,q,rfl,_⟩:=arg_at 0 he HX0.out;obtain ⟨xo,xm,xu,xs,xA,xc,xl⟩:=x;have HVS:=Zh (vk_make hs he);clear hs he;simp only [PT.v,PT.enc] at HVS HI ⊢;obtain ⟨Y,hvs⟩:=HVS.out;have HV1:=Zh hvs;clear HVS hvs;have hargs:=arg_more 0 HV1.out.ex HX0.out;obtain ⟨pb,pc⟩:=hargs;obtain ⟨p0,p1,p2,p3,p4⟩:=Cells.c5 pc;simp only [Nat.zero_mul,Nat.add_zero,Nat.reduceMul] at p0 p1 p2 p3 p4;have pl:=pb.1;clear pb pc;go_enter Tryz.func74,Tryz.ntmps74;go_wp2_with fail;generalize ((w.alloc (.cells #[.int .i64 12,.int .i64 a,.int .i64 u,.string s,.slice (some ⟨b,q,none⟩) l.length c] 25)).alloc (.cells Zf 36))=w1 at *;refine (HI.out Y N w1 (arg_in HV1.out.ex HX0.out) HV1.out.st).mono ?_;rintro e w2 ⟨⟨f,rfl,hf⟩,⟨N2,hst⟩,hg⟩;have HV2:=Zh (HV1.out.next hst hg);have HF:=Zh hf;clear hst hg hf p0 p1 p2 p3 p4 pl;simp only [Frc.v];have HV3 : Hid (VK g m L T M X Y N2 w (w2.alloc (.cells (Zc f) 36)) _):=Zh (HV2.out.later qbl);obtain ⟨r0,r1,r2,r3,rf,rz⟩:=HV2.out.bR.b4;(have lz : w.heap.size+1<w2.heap.size+1:=by omega);obtain ⟨a0,a1,a2,a3,a4,af,az⟩:=HV2.out.bE.b5;(have ly : w.heap.size<w2.heap.size+1:=by omega);by_cases h0 : V.e=0
 ·have HR:=Zh (notF_ok h0);have hsg:=isF_sign (f:=f) (r:=V) (HF.out h0).dp.1;obtain ⟨B,hB⟩ : ∃ B,isF V=B:=⟨_,rfl⟩;rw [hB] at HR hsg;rw [h0];clear hB h0;go_wp2_with fail;refine (r32_truth (!B) _).mono ?_;rintro e wt ⟨fx,rfl,hfx,hbt⟩;have HVT:=Zh (HV3.out.later hbt);have HFX:=Zh (HV3.out.ofNew hfx);clear hfx hbt r0 r1 r2 r3 rf rz;obtain ⟨r0,r1,r2,r3,rf,rz⟩:=HVT.out.bR.b4;simp only [Frc.v];go_wp2_with fail;refine bodyPost_ret (v:=.tuple #[.agg #[.int .i64 fx.p.s,.slice fx.p.l.A fx.p.l.l.length fx.p.l.c,.int .i64 fx.q.s,.slice fx.q.l.A fx.q.l.l.length fx.q.l.c],.int .i64 0]) ?_ rfl (FkP.cast HR.out (HVT.out.fin (r:=truF (!B)) (fun _=>HFX.out)));simp [results,Tryz.results74,go_sem,r0,r1,r2,r3,rz]
 ·skip;have hne : (V.e != 0)=true:=bne_iff_ne.2 h0;have HR:=Zh (notF_bad h0);clear h0;go_wp2_with fail;refine bodyPost_ret (v:=.tuple #[.agg Zf,.int .i64 V.e]) ?_ rfl (FkP.cast HR.out ((HV2.out.fin (r:=FrR.bad V.e) (f:=Frc.zero) (fun h=>absurd h (bne_iff_ne.1 hne))).alloc _));simp [results,Tryz.results74,go_sem,r0,r1,r2,r3,rz,lz]
theorem lg_and (ih : ValK g m L T M n k) (a u : Int) (s : ByteArray) (A : Option Addr) (c : Nat) (l : List PT) (x y : PT) (hl : l=[x,y]) (hx : okE k x=true) (hy : okE k y=true) (X : Nat→Prop) (N : List NT) (w : World) (he : PT.At (Nm X w) w ⟨13,a,u,s,A,c,l⟩) (hs : FkSt g m L T M X N w) : Calls Tryz.prog 74 #[.pointer (some ⟨g,0,none⟩),PT.v ⟨13,a,u,s,A,c,l⟩,.int .i64 n] w fun r w'=>FkP g m L T M X w w' (andF (evN T.l M.l L.l n k x) (evN T.l M.l L.l n k y)) r:=by
 have HI:=Zh (fun Y N W=>ih x Y N W hx);have HJ:=Zh (fun N Y W=>ih y Y N W hy);obtain ⟨V,hV⟩ : ∃ V,evN T.l M.l L.l n k x=V:=⟨_,rfl⟩;obtain ⟨U,hU⟩ : ∃ U,evN T.l M.l L.l n k y=U:=⟨_,rfl⟩;rw [hV] at HI ⊢;rw [hU] at HJ ⊢;(have h0l : 0<l.length:=by rw [hl]; simp);(have h1l : 1<l.length:=by rw [hl]; simp);have HX0 : Hid (l[0]? = some x):=Zh (by rw [hl]; rfl);have HX1 : Hid (l[1]? = some y):=Zh (by rw [hl]; rfl);clear hV hU ih hl hx hy;obtain ⟨b,q,rfl,_⟩:=arg_at 0 he HX0.out;obtain ⟨xo,xm,xu,xs,xA,xc,xl⟩:=x;obtain ⟨yo,ym,yu,ys,yA,yc,yl⟩:=y;simp only [PT.v] at HJ;have HVS:=Zh (vk_make hs he);clear hs he;simp only [PT.v,PT.enc] at HVS HI ⊢;obtain ⟨Y,hvs⟩:=HVS.out;have HV1:=Zh hvs;clear HVS hvs;have hargs:=arg_more 0 HV1.out.ex HX0.out;obtain ⟨pb,pc⟩:=hargs;obtain ⟨p0,p1,p2,p3,p4⟩:=Cells.c5 pc;simp only [Nat.zero_mul,Nat.add_zero,Nat.reduceMul] at p0 p1 p2 p3 p4;have pl:=pb.1;clear pb pc;go_enter Tryz.func74,Tryz.ntmps74;go_wp2_with fail;generalize ((w.alloc (.cells #[.int .i64 13,.int .i64 a,.int .i64 u,.string s,.slice (some ⟨b,q,none⟩) l.length c] 25)).alloc (.cells Zf 36))=w1 at *;refine (HI.out Y N w1 (arg_in HV1.out.ex HX0.out) HV1.out.st).mono ?_;rintro e w2 ⟨⟨f,rfl,hf⟩,⟨N2,hst⟩,hg⟩;have HV2:=Zh (HV1.out.next hst hg);have HF:=Zh hf;clear hst hg hf p0 p1 p2 p3 p4 pl;simp only [Frc.v];have HV3 : Hid (VK g m L T M X Y N2 w (w2.alloc (.cells (Zc f) 36)) _):=Zh (HV2.out.later qbl);obtain ⟨r0,r1,r2,r3,rf,rz⟩:=HV2.out.bR.b4;(have lz : w.heap.size+1<w2.heap.size+1:=by omega);obtain ⟨a0,a1,a2,a3,a4,af,az⟩:=HV2.out.bE.b5;(have ly : w.heap.size<w2.heap.size+1:=by omega);by_cases h0 : V.e=0
 ·have H0:=Zh h0;have hsg:=isF_sign (f:=f) (r:=V) (HF.out h0).dp.1;obtain ⟨B,hB⟩ : ∃ B,isF V=B:=⟨_,rfl⟩;rw [hB] at hsg;have HBB:=Zh hB;rw [h0];clear hB h0;by_cases hbt : B=false
  ·subst hbt;have HR:=Zh (andF_one (b:=U) H0.out HBB.out);go_wp2_with fail;refine (r32_truth (false) _).mono ?_;rintro e wt ⟨fx,rfl,hfx,hbt⟩;have HVT:=Zh (HV3.out.later hbt);have HFX:=Zh (HV3.out.ofNew hfx);clear hfx hbt r0 r1 r2 r3 rf rz;obtain ⟨r0,r1,r2,r3,rf,rz⟩:=HVT.out.bR.b4;simp only [Frc.v];go_wp2_with fail;refine bodyPost_ret (v:=.tuple #[.agg #[.int .i64 fx.p.s,.slice fx.p.l.A fx.p.l.l.length fx.p.l.c,.int .i64 fx.q.s,.slice fx.q.l.A fx.q.l.l.length fx.q.l.c],.int .i64 0]) ?_ rfl (FkP.cast HR.out (HVT.out.fin (r:=truF (false)) (fun _=>HFX.out)));simp [results,Tryz.results74,go_sem,r0,r1,r2,r3,rz]
  ·(have hbf : B=true:=by cases B <;> simp at hbt ⊢);clear hbt;subst hbf;have hargs:=arg_more 1 HV2.out.ex HX1.out;obtain ⟨pb,pc⟩:=hargs;obtain ⟨p0,p1,p2,p3,p4⟩:=Cells.c5 pc;simp only [Nat.zero_mul,Nat.add_zero,Nat.reduceMul] at p0 p1 p2 p3 p4;have pl:=pb.1;clear pb pc;(have pl2 : b<w2.heap.size+1:=by omega);go_wp2_with fail;refine (HJ.out N2 Y _ (arg_in HV3.out.ex HX1.out) HV3.out.st).mono ?_;rintro e w3 ⟨⟨f2,rfl,hf2⟩,⟨N3,hst⟩,hg⟩;have HV4:=Zh (HV3.out.next hst hg);have HF2:=Zh hf2;clear hst hg hf2 p0 p1 p2 p3 p4 pl pl2 a0 a1 a2 a3 a4 af az ly lz r0 r1 r2 r3 rf rz HV3;simp only [Frc.v];by_cases hu : U.e=0
   ·have HR:=Zh (andF_two H0.out HBB.out hu);have hsg2:=isF_sign (f:=f2) (r:=U) (HF2.out hu).dp.1;obtain ⟨C,hC⟩ : ∃ C,isF U=C:=⟨_,rfl⟩;rw [hC] at HR hsg2;rw [hu];have HV5 : Hid (VK g m L T M X Y N3 w (w3.alloc (.cells (Zc f2) 36)) _):=Zh (HV4.out.later qbl);clear hC hu;go_wp2_with fail;have r0:=True.intro;have r1:=True.intro;have r2:=True.intro;have r3:=True.intro;have rf:=True.intro;have rz:=True.intro;refine (r32_truth (C) _).mono ?_;rintro e wt ⟨fx,rfl,hfx,hbt⟩;have HVT:=Zh (HV5.out.later hbt);have HFX:=Zh (HV5.out.ofNew hfx);clear hfx hbt r0 r1 r2 r3 rf rz;obtain ⟨r0,r1,r2,r3,rf,rz⟩:=HVT.out.bR.b4;simp only [Frc.v];go_wp2_with fail;refine bodyPost_ret (v:=.tuple #[.agg #[.int .i64 fx.p.s,.slice fx.p.l.A fx.p.l.l.length fx.p.l.c,.int .i64 fx.q.s,.slice fx.q.l.A fx.q.l.l.length fx.q.l.c],.int .i64 0]) ?_ rfl (FkP.cast HR.out (HVT.out.fin (r:=truF (C)) (fun _=>HFX.out)));simp [results,Tryz.results74,go_sem,r0,r1,r2,r3,rz]
   ·have HR:=Zh (andF_bad2 H0.out HBB.out hu);have hne : (U.e != 0)=true:=bne_iff_ne.2 hu;obtain ⟨r0,r1,r2,r3,rf,rz⟩:=HV4.out.bR.b4;(have lz : w.heap.size+1<w3.heap.size+1:=by omega);clear hu;go_wp2_with fail;refine bodyPost_ret (v:=.tuple #[.agg Zf,.int .i64 U.e]) ?_ rfl (FkP.cast HR.out ((HV4.out.fin (r:=FrR.bad U.e) (f:=Frc.zero) (fun h=>absurd h (bne_iff_ne.1 hne))).alloc _));simp [results,Tryz.results74,go_sem,r0,r1,r2,r3,rz,lz]
 ·skip;have hne : (V.e != 0)=true:=bne_iff_ne.2 h0;have HR:=Zh (andF_bad (b:=U) h0);clear h0;go_wp2_with fail;refine bodyPost_ret (v:=.tuple #[.agg Zf,.int .i64 V.e]) ?_ rfl (FkP.cast HR.out ((HV2.out.fin (r:=FrR.bad V.e) (f:=Frc.zero) (fun h=>absurd h (bne_iff_ne.1 hne))).alloc _));simp [results,Tryz.results74,go_sem,r0,r1,r2,r3,rz,lz]
theorem lg_or (ih : ValK g m L T M n k) (a u : Int) (s : ByteArray) (A : Option Addr) (c : Nat) (l : List PT) (x y : PT) (hl : l=[x,y]) (hx : okE k x=true) (hy : okE k y=true) (X : Nat→Prop) (N : List NT) (w : World) (he : PT.At (Nm X w) w ⟨14,a,u,s,A,c,l⟩) (hs : FkSt g m L T M X N w) : Calls Tryz.prog 74 #[.pointer (some ⟨g,0,none⟩),PT.v ⟨14,a,u,s,A,c,l⟩,.int .i64 n] w fun r w'=>FkP g m L T M X w w' (orF (evN T.l M.l L.l n k x) (evN T.l M.l L.l n k y)) r:=by
 have HI:=Zh (fun Y N W=>ih x Y N W hx);have HJ:=Zh (fun N Y W=>ih y Y N W hy);obtain ⟨V,hV⟩ : ∃ V,evN T.l M.l L.l n k x=V:=⟨_,rfl⟩;obtain ⟨U,hU⟩ : ∃ U,evN T.l M.l L.l n k y=U:=⟨_,rfl⟩;rw [hV] at HI ⊢;rw [hU] at HJ ⊢;(have h0l : 0<l.length:=by rw [hl]; simp);(have h1l : 1<l.length:=by rw [hl]; simp);have HX0 : Hid (l[0]? = some x):=Zh (by rw [hl]; rfl);have HX1 : Hid (l[1]? = some y):=Zh (by rw [hl]; rfl);clear hV hU ih hl hx hy;obtain ⟨b,q,rfl,_⟩:=arg_at 0 he HX0.out;obtain ⟨xo,xm,xu,xs,xA,xc,xl⟩:=x;obtain ⟨yo,ym,yu,ys,yA,yc,yl⟩:=y;simp only [PT.v] at HJ;have HVS:=Zh (vk_make hs he);clear hs he;simp only [PT.v,PT.enc] at HVS HI ⊢;obtain ⟨Y,hvs⟩:=HVS.out;have HV1:=Zh hvs;clear HVS hvs;have hargs:=arg_more 0 HV1.out.ex HX0.out;obtain ⟨pb,pc⟩:=hargs;obtain ⟨p0,p1,p2,p3,p4⟩:=Cells.c5 pc;simp only [Nat.zero_mul,Nat.add_zero,Nat.reduceMul] at p0 p1 p2 p3 p4;have pl:=pb.1;clear pb pc;go_enter Tryz.func74,Tryz.ntmps74;go_wp2_with fail;generalize ((w.alloc (.cells #[.int .i64 14,.int .i64 a,.int .i64 u,.string s,.slice (some ⟨b,q,none⟩) l.length c] 25)).alloc (.cells Zf 36))=w1 at *;refine (HI.out Y N w1 (arg_in HV1.out.ex HX0.out) HV1.out.st).mono ?_;rintro e w2 ⟨⟨f,rfl,hf⟩,⟨N2,hst⟩,hg⟩;have HV2:=Zh (HV1.out.next hst hg);have HF:=Zh hf;clear hst hg hf p0 p1 p2 p3 p4 pl;simp only [Frc.v];have HV3 : Hid (VK g m L T M X Y N2 w (w2.alloc (.cells (Zc f) 36)) _):=Zh (HV2.out.later qbl);obtain ⟨r0,r1,r2,r3,rf,rz⟩:=HV2.out.bR.b4;(have lz : w.heap.size+1<w2.heap.size+1:=by omega);obtain ⟨a0,a1,a2,a3,a4,af,az⟩:=HV2.out.bE.b5;(have ly : w.heap.size<w2.heap.size+1:=by omega);by_cases h0 : V.e=0
 ·have H0:=Zh h0;have hsg:=isF_sign (f:=f) (r:=V) (HF.out h0).dp.1;obtain ⟨B,hB⟩ : ∃ B,isF V=B:=⟨_,rfl⟩;rw [hB] at hsg;have HBB:=Zh hB;rw [h0];clear hB h0;by_cases hbt : B=true
  ·subst hbt;have HR:=Zh (orF_one (b:=U) H0.out HBB.out);go_wp2_with fail;refine (r32_truth (true) _).mono ?_;rintro e wt ⟨fx,rfl,hfx,hbt⟩;have HVT:=Zh (HV3.out.later hbt);have HFX:=Zh (HV3.out.ofNew hfx);clear hfx hbt r0 r1 r2 r3 rf rz;obtain ⟨r0,r1,r2,r3,rf,rz⟩:=HVT.out.bR.b4;simp only [Frc.v];go_wp2_with fail;refine bodyPost_ret (v:=.tuple #[.agg #[.int .i64 fx.p.s,.slice fx.p.l.A fx.p.l.l.length fx.p.l.c,.int .i64 fx.q.s,.slice fx.q.l.A fx.q.l.l.length fx.q.l.c],.int .i64 0]) ?_ rfl (FkP.cast HR.out (HVT.out.fin (r:=truF (true)) (fun _=>HFX.out)));simp [results,Tryz.results74,go_sem,r0,r1,r2,r3,rz]
  ·(have hbf : B=false:=by cases B <;> simp at hbt ⊢);clear hbt;subst hbf;have hargs:=arg_more 1 HV2.out.ex HX1.out;obtain ⟨pb,pc⟩:=hargs;obtain ⟨p0,p1,p2,p3,p4⟩:=Cells.c5 pc;simp only [Nat.zero_mul,Nat.add_zero,Nat.reduceMul] at p0 p1 p2 p3 p4;have pl:=pb.1;clear pb pc;(have pl2 : b<w2.heap.size+1:=by omega);go_wp2_with fail;refine (HJ.out N2 Y _ (arg_in HV3.out.ex HX1.out) HV3.out.st).mono ?_;rintro e w3 ⟨⟨f2,rfl,hf2⟩,⟨N3,hst⟩,hg⟩;have HV4:=Zh (HV3.out.next hst hg);have HF2:=Zh hf2;clear hst hg hf2 p0 p1 p2 p3 p4 pl pl2 a0 a1 a2 a3 a4 af az ly lz r0 r1 r2 r3 rf rz HV3;simp only [Frc.v];by_cases hu : U.e=0
   ·have HR:=Zh (orF_two H0.out HBB.out hu);have hsg2:=isF_sign (f:=f2) (r:=U) (HF2.out hu).dp.1;obtain ⟨C,hC⟩ : ∃ C,isF U=C:=⟨_,rfl⟩;rw [hC] at HR hsg2;rw [hu];have HV5 : Hid (VK g m L T M X Y N3 w (w3.alloc (.cells (Zc f2) 36)) _):=Zh (HV4.out.later qbl);clear hC hu;go_wp2_with fail;have r0:=True.intro;have r1:=True.intro;have r2:=True.intro;have r3:=True.intro;have rf:=True.intro;have rz:=True.intro;refine (r32_truth (C) _).mono ?_;rintro e wt ⟨fx,rfl,hfx,hbt⟩;have HVT:=Zh (HV5.out.later hbt);have HFX:=Zh (HV5.out.ofNew hfx);clear hfx hbt r0 r1 r2 r3 rf rz;obtain ⟨r0,r1,r2,r3,rf,rz⟩:=HVT.out.bR.b4;simp only [Frc.v];go_wp2_with fail;refine bodyPost_ret (v:=.tuple #[.agg #[.int .i64 fx.p.s,.slice fx.p.l.A fx.p.l.l.length fx.p.l.c,.int .i64 fx.q.s,.slice fx.q.l.A fx.q.l.l.length fx.q.l.c],.int .i64 0]) ?_ rfl (FkP.cast HR.out (HVT.out.fin (r:=truF (C)) (fun _=>HFX.out)));simp [results,Tryz.results74,go_sem,r0,r1,r2,r3,rz]
   ·have HR:=Zh (orF_bad2 H0.out HBB.out hu);have hne : (U.e != 0)=true:=bne_iff_ne.2 hu;obtain ⟨r0,r1,r2,r3,rf,rz⟩:=HV4.out.bR.b4;(have lz : w.heap.size+1<w3.heap.size+1:=by omega);clear hu;go_wp2_with fail;refine bodyPost_ret (v:=.tuple #[.agg Zf,.int .i64 U.e]) ?_ rfl (FkP.cast HR.out ((HV4.out.fin (r:=FrR.bad U.e) (f:=Frc.zero) (fun h=>absurd h (bne_iff_ne.1 hne))).alloc _));simp [results,Tryz.results74,go_sem,r0,r1,r2,r3,rz,lz]
 ·skip;have hne : (V.e != 0)=true:=bne_iff_ne.2 h0;have HR:=Zh (orF_bad (b:=U) h0);clear h0;go_wp2_with fail;refine bodyPost_ret (v:=.tuple #[.agg Zf,.int .i64 V.e]) ?_ rfl (FkP.cast HR.out ((HV2.out.fin (r:=FrR.bad V.e) (f:=Frc.zero) (fun h=>absurd h (bne_iff_ne.1 hne))).alloc _));simp [results,Tryz.results74,go_sem,r0,r1,r2,r3,rz,lz]
theorem lg_ite (ih : ValK g m L T M n k) (a u : Int) (s : ByteArray) (A : Option Addr) (c : Nat) (l : List PT) (x y z : PT) (hl : l=[x,y,z]) (hx : okE k x=true) (hy : okE k y=true) (hz : okE k z=true) (X : Nat→Prop) (N : List NT) (w : World) (he : PT.At (Nm X w) w ⟨15,a,u,s,A,c,l⟩) (hs : FkSt g m L T M X N w) : Calls Tryz.prog 74 #[.pointer (some ⟨g,0,none⟩),PT.v ⟨15,a,u,s,A,c,l⟩,.int .i64 n] w fun r w'=>FkP g m L T M X w w' (iteF (evN T.l M.l L.l n k x) (evN T.l M.l L.l n k y) (evN T.l M.l L.l n k z)) r:=by
 have HI:=Zh (fun Y N W=>ih x Y N W hx);have HJ:=Zh (fun N Y W=>ih y Y N W hy);have HK:=Zh (fun N Y W=>ih z Y N W hz);obtain ⟨V,hV⟩ : ∃ V,evN T.l M.l L.l n k x=V:=⟨_,rfl⟩;obtain ⟨U,hU⟩ : ∃ U,evN T.l M.l L.l n k y=U:=⟨_,rfl⟩;obtain ⟨Z,hZ⟩ : ∃ Z,evN T.l M.l L.l n k z=Z:=⟨_,rfl⟩;rw [hV] at HI ⊢;rw [hU] at HJ ⊢;rw [hZ] at HK ⊢;(have h0l : 0<l.length:=by rw [hl]; simp);(have h1l : 1<l.length:=by rw [hl]; simp);(have h2l : 2<l.length:=by rw [hl]; simp);have HX0 : Hid (l[0]? = some x):=Zh (by rw [hl]; rfl);have HX1 : Hid (l[1]? = some y):=Zh (by rw [hl]; rfl);have HX2 : Hid (l[2]? = some z):=Zh (by rw [hl]; rfl);clear hV hU hZ ih hl hx hy hz;obtain ⟨b,q,rfl,_⟩:=arg_at 0 he HX0.out;obtain ⟨xo,xm,xu,xs,xA,xc,xl⟩:=x;obtain ⟨yo,ym,yu,ys,yA,yc,yl⟩:=y;obtain ⟨zo,zm,zu,zs,zA,zc,zl⟩:=z;simp only [PT.v] at HJ HK;have HVS:=Zh (vk_make hs he);clear hs he;simp only [PT.v,PT.enc] at HVS HI ⊢;obtain ⟨Y,hvs⟩:=HVS.out;have HV1:=Zh hvs;clear HVS hvs;have hargs:=arg_more 0 HV1.out.ex HX0.out;obtain ⟨pb,pc⟩:=hargs;obtain ⟨p0,p1,p2,p3,p4⟩:=Cells.c5 pc;simp only [Nat.zero_mul,Nat.add_zero,Nat.reduceMul] at p0 p1 p2 p3 p4;have pl:=pb.1;clear pb pc;go_enter Tryz.func74,Tryz.ntmps74;go_wp2_with fail;generalize ((w.alloc (.cells #[.int .i64 15,.int .i64 a,.int .i64 u,.string s,.slice (some ⟨b,q,none⟩) l.length c] 25)).alloc (.cells Zf 36))=w1 at *;refine (HI.out Y N w1 (arg_in HV1.out.ex HX0.out) HV1.out.st).mono ?_;rintro e w2 ⟨⟨f,rfl,hf⟩,⟨N2,hst⟩,hg⟩;have HV2:=Zh (HV1.out.next hst hg);have HF:=Zh hf;clear hst hg hf p0 p1 p2 p3 p4 pl;simp only [Frc.v];have HV3 : Hid (VK g m L T M X Y N2 w (w2.alloc (.cells (Zc f) 36)) _):=Zh (HV2.out.later qbl);obtain ⟨r0,r1,r2,r3,rf,rz⟩:=HV2.out.bR.b4;(have lz : w.heap.size+1<w2.heap.size+1:=by omega);obtain ⟨a0,a1,a2,a3,a4,af,az⟩:=HV2.out.bE.b5;(have ly : w.heap.size<w2.heap.size+1:=by omega);by_cases h0 : V.e=0
 ·have H0:=Zh h0;have hsg:=isF_sign (f:=f) (r:=V) (HF.out h0).dp.1;obtain ⟨B,hB⟩ : ∃ B,isF V=B:=⟨_,rfl⟩;rw [hB] at hsg;have HBB:=Zh hB;rw [h0];clear hB h0;rcases B
  ·have HR:=Zh (iteF_false (b:=U) (c:=Z) H0.out HBB.out);have hargs:=arg_more 2 HV2.out.ex HX2.out;obtain ⟨pb,pc⟩:=hargs;obtain ⟨p0,p1,p2,p3,p4⟩:=Cells.c5 pc;simp only [Nat.zero_mul,Nat.add_zero,Nat.reduceMul] at p0 p1 p2 p3 p4;have pl:=pb.1;clear pb pc;(have pl2 : b<w2.heap.size+1:=by omega);go_wp2_with fail;refine (HK.out N2 Y _ (arg_in HV3.out.ex HX2.out) HV3.out.st).mono ?_;rintro e w3 ⟨⟨f2,rfl,hf2⟩,⟨N3,hst⟩,hg⟩;have HV4:=Zh (HV3.out.next hst hg);have HF2:=Zh hf2;clear hst hg hf2 p0 p1 p2 p3 p4 pl pl2 a0 a1 a2 a3 a4 af az ly lz r0 r1 r2 r3 rf rz HV3;simp only [Frc.v];obtain ⟨r0,r1,r2,r3,rf,rz⟩:=HV4.out.bR.b4;go_wp2_with fail;refine bodyPost_ret (v:=.tuple #[.agg #[.int .i64 f2.p.s,.slice f2.p.l.A f2.p.l.l.length f2.p.l.c,.int .i64 f2.q.s,.slice f2.q.l.A f2.q.l.l.length f2.q.l.c],.int .i64 Z.e]) ?_ rfl (FkP.cast HR.out (HV4.out.fin HF2.out));simp [results,Tryz.results74,go_sem,r0,r1,r2,r3,rz]
  ·have HR:=Zh (iteF_true (b:=U) (c:=Z) H0.out HBB.out);have hargs:=arg_more 1 HV2.out.ex HX1.out;obtain ⟨pb,pc⟩:=hargs;obtain ⟨p0,p1,p2,p3,p4⟩:=Cells.c5 pc;simp only [Nat.zero_mul,Nat.add_zero,Nat.reduceMul] at p0 p1 p2 p3 p4;have pl:=pb.1;clear pb pc;(have pl2 : b<w2.heap.size+1:=by omega);go_wp2_with fail;refine (HJ.out N2 Y _ (arg_in HV3.out.ex HX1.out) HV3.out.st).mono ?_;rintro e w3 ⟨⟨f2,rfl,hf2⟩,⟨N3,hst⟩,hg⟩;have HV4:=Zh (HV3.out.next hst hg);have HF2:=Zh hf2;clear hst hg hf2 p0 p1 p2 p3 p4 pl pl2 a0 a1 a2 a3 a4 af az ly lz r0 r1 r2 r3 rf rz HV3;simp only [Frc.v];obtain ⟨r0,r1,r2,r3,rf,rz⟩:=HV4.out.bR.b4;go_wp2_with fail;refine bodyPost_ret (v:=.tuple #[.agg #[.int .i64 f2.p.s,.slice f2.p.l.A f2.p.l.l.length f2.p.l.c,.int .i64 f2.q.s,.slice f2.q.l.A f2.q.l.l.length f2.q.l.c],.int .i64 U.e]) ?_ rfl (FkP.cast HR.out (HV4.out.fin HF2.out));simp [results,Tryz.results74,go_sem,r0,r1,r2,r3,rz]
 ·skip;have hne : (V.e != 0)=true:=bne_iff_ne.2 h0;have HR:=Zh (iteF_bad (b:=U) (c:=Z) h0);clear h0;go_wp2_with fail;refine bodyPost_ret (v:=.tuple #[.agg Zf,.int .i64 V.e]) ?_ rfl (FkP.cast HR.out ((HV2.out.fin (r:=FrR.bad V.e) (f:=Frc.zero) (fun h=>absurd h (bne_iff_ne.1 hne))).alloc _));simp [results,Tryz.results74,go_sem,r0,r1,r2,r3,rz,lz]
end
end Go.Proofs.YtcgocdhhneckhaaGreatDoor
