/- For EvalLazy, EvalWhole, EvalSound: operations on two or more expressions. -/
import Derived.Test.YtcgocdhhneckhaaGreatDoorEvbxbq
import Derived.Test.YtcgocdhhneckhaaGreatDoorEvbxaz
import Derived.Test.YtcgocdhhneckhaaGreatDoorEvbxar
set_option linter.unusedSimpArgs false
set_option linter.unusedVariables false
set_option maxRecDepth 100000
set_option maxHeartbeats 6400000
namespace Go.Proofs.YtcgocdhhneckhaaGreatDoor
open Go.RowKit
structure EW (w W : World) (a b : PT) : Prop where
  bel : Below w.heap.size w W
  bA : Blk W w.heap.size 25 a.enc.toArray
  bB : Blk W (w.heap.size+1) 25 b.enc.toArray
theorem EW.later {w W W' : World} {a b : PT} (h : EW w W a b) (hb : Below W.heap.size W W') : EW w W' a b:=⟨h.bel.trans (hb.mono h.bel.size),h.bA.later hb,h.bB.later hb⟩
theorem FB.rf {w : World} {f : Frc} {p q : Int} (h : FB w f p q) (ho : FracOK p q) : RF w f p q:=⟨h.P,h.Q,ho⟩
theorem FrP.fz {w w' : World} {r : FrR} {e : Ending} (h : FrP w w' r e) (ho : r.OK) : ∃ f : Frc,e = .returned (.tuple #[f.v,.int .i64 r.e])∧FB w' f (pF r) (qF r)∧Below w.heap.size w w':=by
 obtain ⟨f,rfl,hok,hno,hP,hQ,hb⟩:=h;refine ⟨f,rfl, ?_,hb⟩;unfold pF qF;by_cases h0 : r.e=0
 ·obtain ⟨h1,h2⟩:=hok h0;rw [if_pos h0,if_pos h0];exact ⟨RB.mk' (hP.mono fun b hb=>hb.2) h1 (ho.yes h0).fp,RB.mk' (hQ.mono fun b hb=>hb.2) h2 (ho.yes h0).fq⟩
 ·obtain ⟨h1,h2⟩:=hno h0;rw [if_neg h0,if_neg h0];exact ⟨RB.mk' (hP.mono fun b hb=>hb.2) (h1.trans Zy) fits_zero,RB.mk' (hQ.mono fun b hb=>hb.2) (h2.trans Zy) fits_zero⟩
def CondF (L : List LT) (T M : List FT) : Prop:=(L.length : Int)≤20∧L.all (fun x=>rexp x.b)=true∧factsB T=true∧factsB M=true
theorem cond_of {L : List LT} {e : PT} {T M : List FT} (h : (evalF L e T M).e=0) : CondF L T M:=by
 by_cases hc : CondF L T M
 ·exact hc
 ·rw [evalF_bad hc] at h;exact absurd h (by decide)
theorem okE_of {k : Nat} {o : Int} {A : Option Addr} {c : Nat} {l : List PT} (hl : (l.length : Int)=opsN o) (h0 : ¬ o=0) (h1 : ¬ (o=1∨o=2∨o=3)) (h : okE (k+1) ⟨o,0,0,empS,A,c,l⟩=true) : ∀ x,x ∈ l→okE k x=true:=by
 rw [← okE_rest hl h0 h1] at h;simp only [Bool.and_eq_true] at h;exact List.all_eq_true.1 h.2.2
theorem evalF_two {L : List LT} {T M : List FT} {o : Int} {A : Option Addr} {c : Nat} {a b : PT} {x y : FrR} (hl : opsN o=2) (h0 : ¬ o=0) (h1 : ¬ (o=1∨o=2∨o=3)) (ha : okE 11 a=true) (hb : okE 11 b=true) (hc : CondF L T M) (hx : evalF L a T M=x) (hy : evalF L b T M=y) : evalF L ⟨o,0,0,empS,A,c,[a,b]⟩ T M=opF o [x,y]:=by
 rw [evalF_op (by rw [hl]; rfl) h0 h1 (fun z hz=>by rcases List.mem_cons.1 hz with rfl | hz; exact ha; rw [List.mem_singleton.1 hz]; exact hb) hc,List.map_cons,List.map_cons,List.map_nil,hx,hy]
theorem r05_int (n : Int) (w : World) (h0 : -9223372036854775808≤n) (h1 : n≤9223372036854775807) : Calls Tryz.prog 20 #[.int .i64 n,.int .i64 1] w fun e w'=>∃ f : Frc,e = .returned (.tuple #[f.v,.int .i64 0])∧FB w' f n 1∧Below w.heap.size w w' :=
 (r05_whole n w h0 h1).mono fun e w' h=>h.fz ⟨.inl rfl,fun _=>ok_whole h0 h1,fun h=>absurd rfl h⟩
structure BX (W : World) (g : Nat) (f : Frc) (p q : Int) : Prop where
  b : Blk W g 36 #[.int .i64 f.p.s,.slice f.p.l.A f.p.l.l.length f.p.l.c,.int .i64 f.q.s,.slice f.q.l.A f.q.l.l.length f.q.l.c]
  v : FB W f p q
theorem BX.later {W W' : World} {g : Nat} {f : Frc} {p q : Int} (h : BX W g f p q) (hb : Below W.heap.size W W') : BX W' g f p q:=⟨h.b.later hb,h.v.later hb⟩
theorem BX.new {W : World} {f : Frc} {p q : Int} (h : FB W f p q) : BX (W.alloc (.cells #[.int .i64 f.p.s,.slice f.p.l.A f.p.l.l.length f.p.l.c,.int .i64 f.q.s,.slice f.q.l.A f.q.l.l.length f.q.l.c] 36)) W.heap.size f p q:=⟨Blk.new _ _ _,h.later (Zz.alloc Zl _)⟩
theorem opF_mul {V U : FrR} (h : V.e=0) (g : U.e=0) : opF 6 [V,U]=mulF V.p V.q U.p U.q:=by
 show (if (6 : Int)=13 then andF V U else if (6 : Int)=14 then orF V U else twoF 6 V U)=_;rw [if_neg (by decide),if_neg (by decide)];unfold twoF;rw [if_neg (fun h'=>h' h),if_neg (fun h'=>h' g)];unfold appF;rw [if_neg (by decide),if_neg (by decide),if_pos rfl]
theorem opF_sub {V U : FrR} (h : V.e=0) (g : U.e=0) : opF 5 [V,U]=subF V.p V.q U.p U.q:=by
 show (if (5 : Int)=13 then andF V U else if (5 : Int)=14 then orF V U else twoF 5 V U)=_;rw [if_neg (by decide),if_neg (by decide)];unfold twoF;rw [if_neg (fun h'=>h' h),if_neg (fun h'=>h' g)];unfold appF;rw [if_neg (by decide),if_pos rfl]
theorem whF_fits {r : FrR} (ho : r.e=0→FracOK r.p r.q) : 0≤(whF r).1∧(whF r).1≤1000000000000000:=by
 unfold whF;split
 ·simp
 ·rename_i h;have hq:=(ho Zo).pos;split
  ·simp
  ·split
   ·simp
   ·rename_i h1 h2;refine ⟨Int.ediv_nonneg Zo Zo, ?_⟩;show r.p / r.q≤1000000000000000;have : r.p / r.q<1000000000000001:=Int.ediv_lt_of_lt_mul hq Zo;omega
theorem cmp_low {p q : Int} (hq : 0<q) : cmpI (p / q) 1 p q≤0:=by
 rw [cmpI_sign (by decide) hq];have h:=Int.mul_ediv_add_emod p q;have h2:=Int.emod_nonneg p (by omega : q≠0);have h3 : p / q * q=q * (p / q):=Int.mul_comm _ _;rw [Int.mul_one,h3];rcases Int.lt_trichotomy (q * (p / q) - p) 0 with h4 | h4 | h4
 ·rw [Int.sign_eq_neg_one_of_neg h4]; decide
 ·rw [h4]; decide
 ·omega
theorem cmp_high {p q : Int} (hq : 0<q) : cmpI p q (p / q+1) 1<0:=by
 rw [cmpI_sign hq (by decide)];have h:=Int.mul_ediv_add_emod p q;have h2:=Int.emod_lt_of_pos p hq;(have h3 : (p / q+1) * q=q * (p / q)+q:=by rw [Int.add_mul,Int.one_mul,Int.mul_comm]);rw [Int.mul_one,h3];(have h4 : p - (q * (p / q)+q)<0:=by omega);rw [Int.sign_eq_neg_one_of_neg h4]; decide
theorem whF_cases {r : FrR} (h0 : r.e=0) (ho : FracOK r.p r.q) : (r.p<0∧whF r=(0,0)∧cmpI r.p r.q 1000000000000001 1<0)∨(0≤r.p∧whF r=(0,3)∧0≤cmpI r.p r.q 1000000000000001 1)∨(0≤r.p∧whF r=(r.p / r.q,0)∧cmpI r.p r.q 1000000000000001 1<0):=by
 have hm:=cmp_most (r:=r) ho.pos;have hq:=ho.pos;by_cases h1 : r.p<0
 ·(have : ¬ 1000000000000001 * r.q≤r.p:=by omega);exact .inl ⟨h1,whF_neg h0 h1,by omega⟩
 ·by_cases h2 : 1000000000000001 * r.q≤r.p
  ·exact .inr (.inl ⟨by omega,whF_big h0 Zo h2,hm.2 h2⟩)
  ·exact .inr (.inr ⟨by omega,whF_ok h0 Zo h2,by omega⟩)
end Go.Proofs.YtcgocdhhneckhaaGreatDoor
