/- The plain law of EvalSound: what has the unit of a bool is 0 or 1. -/
import Derived.Test.YtcgocdhhneckhaaGreatDoorEqmxac
import Derived.Test.YtcgocdhhneckhaaGreatDoorEvbxbq
import Derived.Test.YtcgocdhhneckhaaGreatDoorEvbxaz
import Derived.Test.YtcgocdhhneckhaaGreatDoorEvbxar
set_option linter.unusedSimpArgs false
set_option linter.unusedVariables false
set_option maxRecDepth 100000
set_option maxHeartbeats 6400000
namespace Go.Proofs.YtcgocdhhneckhaaGreatDoor
open Go.RowKit
def Bol (x : FrR) : Prop:=x.e=0→(x.p=0∨x.p=1)∧x.q=1
theorem bol_tru : ∀ b,Bol (truF b)
 | true=>fun _=>⟨.inr Zy,by kernel_rfl⟩
 | false=>fun _=>⟨.inl Zy,by kernel_rfl⟩
theorem bol_bad {e : Int} (h : e≠0) : Bol (FrR.bad e):=fun h0=>absurd h0 h
theorem bol_not (a : FrR) : Bol (notF a):=by
 unfold notF;split
 ·rename_i h; exact bol_bad h
 ·exact bol_tru _
theorem bol_and (a b : FrR) : Bol (andF a b):=by
 unfold andF;split
 ·rename_i h; exact bol_bad h
 split
 ·exact bol_tru _
 split
 ·rename_i h; exact bol_bad h
 ·exact bol_tru _
theorem bol_or (a b : FrR) : Bol (orF a b):=by
 unfold orF;split
 ·rename_i h; exact bol_bad h
 split
 ·exact bol_tru _
 split
 ·rename_i h; exact bol_bad h
 ·exact bol_tru _
theorem bol_ite {a b c : FrR} (hb : Bol b) (hc : Bol c) : Bol (iteF a b c):=by
 unfold iteF;split
 ·rename_i h; exact bol_bad h
 split
 ·exact hb
 ·exact hc
theorem bol_two {op : Int} {a b : FrR} (h : op=10∨op=11) : Bol (twoF op a b):=by
 unfold twoF;split
 ·rename_i h; exact bol_bad h
 split
 ·rename_i h; exact bol_bad h
 ·rcases h with rfl | rfl
  ·rw [appF_10]; exact bol_tru _
  ·rw [appF_11]; exact bol_tru _
theorem pair_bool {op a b : Int} (h : pairU op a b=3) : op=10∨op=11:=by
 unfold pairU at h;split at h
 ·split at h
  ·rename_i h1; exact absurd h h1.2
  ·omega
 split at h
 ·split at h
  ·rename_i h1; exact absurd h h1.2
  ·split at h
   ·rename_i h1; exact absurd h h1.2
   ·omega
 split at h
 ·split at h
  ·rename_i h1; exact absurd h h1.2
  ·split at h <;> omega
 split at h
 ·rename_i h1; exact .inl h1
 split at h
 ·rename_i h1; exact .inr h1
 ·omega
theorem seqU_fst {α : Type} {f : α→Int × Int} : ∀ {l : List α},(seqU (l.map f)).2=0→(seqU (l.map f)).1=l.map (fun x=>(f x).1)
 | [],_=>rfl
 | y :: l,h=>by
  have hy:=seqU_all h y (List.mem_cons_self ..);rw [List.map_cons] at h ⊢
  have h3 : ∀ z : Int × Int,z.2=0→seqU (z :: l.map f)=(z.1 :: (seqU (l.map f)).1,(seqU (l.map f)).2):=fun z hz=>by
   obtain ⟨a,b⟩:=z;have hz : b=0:=hz;simp [seqU,hz]
  rw [h3 _ hy] at h ⊢;rw [List.map_cons,← seqU_fst h]
theorem evE_bool {lk : ByteArray→FrR} {T M : List FT} {L : List LT} {U : List Int} (hlk : ∀ s,nameU s L U=3→Bol (lk s)) (hT : ∀ s,triU s≠some 3) (hM : ∀ s,memU s≠some 3) : ∀ k e,okE k e=true→(unU L U k e).2=0→(unU L U k e).1=3→Bol (evE lk T M k e)
 | 0,e,hk,_,_=>by unfold okE at hk; cases hk
 | k+1,⟨o,a,u,s,A,c,l⟩,hk,hu,hb=>by
  have ih:=fun x h1 h2 h3=>evE_bool (T:=T) (M:=M) hlk hT hM k x h1 h2 h3;by_cases h0 : o=0
  ·subst h0;unfold unU at hb;rw [if_pos rfl] at hb;have hb : u=3:=hb;unfold evE;rw [if_pos rfl];have hn:=hk;rw [← okE_num (okE_is hk)] at hn;rw [hb,if_pos rfl] at hn;unfold inB at hn;simp only [Bool.and_eq_true,decide_eq_true_eq] at hn;intro _;exact ⟨by show a=0∨a=1; omega,rfl⟩
  by_cases h1 : o=1
  ·subst h1;unfold evE;rw [if_neg (by decide),if_pos rfl];unfold unU at hb;rw [if_neg (by decide),if_neg (by decide),if_neg (by decide),if_pos rfl] at hb;split at hb
   ·have hb : (0 : Int)=3:=hb;omega
   ·exact hlk s hb
  by_cases h2 : o=2
  ·subst h2;unfold unU at hb hu;rw [if_neg (by decide),if_pos rfl] at hb hu;exfalso;cases ht : triU s with
   | none=>rw [ht] at hu; simp [knU] at hu
   | some v=>rw [ht] at hb; exact hT s (by rw [ht]; simp [knU] at hb; rw [hb])
  by_cases h3 : o=3
  ·subst h3;unfold unU at hb hu;rw [if_neg (by decide),if_neg (by decide),if_pos rfl] at hb hu;exfalso;cases ht : memU s with
   | none=>rw [ht] at hu; simp [knU] at hu
   | some v=>rw [ht] at hb; exact hM s (by rw [ht]; simp [knU] at hb; rw [hb])
  have hall:=okE_all hk h0 h1 h2 h3;have hlen:=okE_is hk
  have hsq : (seqU (l.map (unU L U k))).2=0:=by
   rw [unU_op h0 h1 h2 h3] at hu;exact Classical.byContradiction fun hn=>by rw [if_pos hn] at hu; exact hn hu
  have hun:=seqU_all hsq;rw [unU_op h0 h1 h2 h3,if_neg (fun h=>h hsq),seqU_fst hsq] at hb
  have hj : joinU o (l.map fun x=>(unU L U k x).1)=3:=by
   split at hb
   ·have hb : (0 : Int)=3:=hb;omega
   ·exact hb
  unfold evE;rw [if_neg h0,if_neg h1,if_neg h2,if_neg h3];by_cases h12 : o=12
  ·subst h12;obtain ⟨x,rfl⟩:=len_one (l:=l) (by have h : opsN 12=1:=(by decide); omega);exact bol_not _
  by_cases h15 : o=15
  ·subst h15;obtain ⟨x,y,z,rfl⟩:=len_three (l:=l) (by have h : opsN 15=3:=(by decide); omega);simp only [List.map_cons,List.map_nil] at hj;rw [join_if] at hj;split at hj
   ·rename_i hc;exact bol_ite (ih y (hall y Zs) (hun y Zs) hj) (ih z (hall z Zs) (hun z Zs) (by rw [← hc.2]; exact hj))
   ·omega
  obtain ⟨x,y,rfl⟩:=len_two (l:=l) (opsN_two hlen h0 h1 h2 h3 h12 h15);simp only [List.map_cons,List.map_nil] at hj ⊢;by_cases h13 : o=13
  ·subst h13;simp only [opF];rw [if_pos trivial];exact bol_and _ _
  by_cases h14 : o=14
  ·subst h14;simp only [opF];rw [if_neg (by decide),if_pos trivial];exact bol_or _ _
  have hlog : logB o=false:=by
   unfold logB;simp [h12,h13,h14]
  rw [join_two hlog h15] at hj;simp only [opF];rw [if_neg h13,if_neg h14];exact bol_two (pair_bool hj)
theorem evN_bool {T M : List FT} {L : List LT} (hok : ∀ x,x ∈ L→okE 12 x.b=true) (hT : ∀ s,triU s≠some 3) (hM : ∀ s,memU s≠some 3) : ∀ n,n≤L.length→∀ k e,okE k e=true→(unU (L.take n) (scN L n) k e).2=0→(unU (L.take n) (scN L n) k e).1=3→Bol (evN T M L n k e):=by
 intro n
 induction n using Nat.strongRecOn with
 | ind n ih =>
  intro hn k e hk hu hb;refine evE_bool (L:=L.take n) (U:=scN L n) (fun s hs=>?_) hT hM k e hk hu hb;rcases idxP_ge (fun x : LT=>sameB x.nm s) (L.take n) 0 with ⟨_,h2⟩ | ⟨j,x,_,h2,h3,h4⟩
  ·rw [nameU_none h2] at hs;omega
  ·have hjn : j<n:=by
    have:=(List.getElem?_eq_some_iff.1 h2).1;rw [List.length_take] at this;omega
   (have hxj : L[j]? = some x:=by rw [List.getElem?_take,if_pos hjn] at h2; exact h2);have hsc:=scN_at hxj n hjn hn;rw [nameU_at h2 hsc h3 h4] at hs;show Bol (lkF s (L.take n) (lvN T M L n));rw [lk_let T M hn h2 h3 h4];unfold uo at hs;split at hs
   ·rename_i h0;exact ih j hjn Zo 12 x.b (hok x (List.mem_of_getElem? hxj)) h0 hs
   ·omega
structure EW (w W : World) (a b : PT) : Prop where
  bel : Below w.heap.size w W
  bA : Blk W w.heap.size 25 a.enc.toArray
  bB : Blk W (w.heap.size+1) 25 b.enc.toArray
theorem EW.later {w W W' : World} {a b : PT} (h : EW w W a b) (hb : Below W.heap.size W W') : EW w W' a b:=⟨h.bel.trans (hb.mono h.bel.size),h.bA.later hb,h.bB.later hb⟩
theorem FB.rf {w : World} {f : Frc} {p q : Int} (h : FB w f p q) (ho : FracOK p q) : RF w f p q:=⟨h.P,h.Q,ho⟩
theorem FrP.fz {w w' : World} {r : FrR} {e : Ending} (h : FrP w w' r e) (ho : r.OK) : ∃ f : Frc,e = .returned (.tuple #[f.v,.int .i64 r.e])∧FB w' f (pF r) (qF r)∧Below w.heap.size w w':=by
 obtain ⟨f,rfl,hok,hno,hP,hQ,hb⟩:=h;refine ⟨f,rfl, ?_,hb⟩;unfold pF qF;by_cases h0 : r.e=0
 ·obtain ⟨h1,h2⟩:=hok h0;rw [if_pos h0,if_pos h0];exact ⟨RB.mk' (hP.mono fun b hb=>hb.2) h1 (ho.yes h0).fp,RB.mk' (hQ.mono fun b hb=>hb.2) h2 (ho.yes h0).fq⟩
 ·obtain ⟨h1,h2⟩:=hno h0;rw [if_neg h0,if_neg h0];exact ⟨RB.mk' (hP.mono fun b hb=>hb.2) (h1.trans Zy) fits_zero,RB.mk' (hQ.mono fun b hb=>hb.2) (h2.trans Zy) fits_zero⟩
def CondF (L : List LT) (T M : List FT) : Prop:=(L.length : Int)≤20∧L.all (fun x=>rexp x.b)=true∧factsB T=true∧factsB M=true
theorem cond_of {L : List LT} {e : PT} {T M : List FT} (h : (evalF L e T M).e=0) : CondF L T M:=by
 by_cases hc : CondF L T M
 ·exact hc
 ·rw [evalF_bad hc] at h;exact absurd h (by decide)
theorem okE_of {k : Nat} {o : Int} {A : Option Addr} {c : Nat} {l : List PT} (hl : (l.length : Int)=opsN o) (h0 : ¬ o=0) (h1 : ¬ (o=1∨o=2∨o=3)) (h : okE (k+1) ⟨o,0,0,empS,A,c,l⟩=true) : ∀ x,x ∈ l→okE k x=true:=by
 rw [← okE_rest hl h0 h1] at h;simp only [Bool.and_eq_true] at h;exact List.all_eq_true.1 h.2.2
theorem evalF_two {L : List LT} {T M : List FT} {o : Int} {A : Option Addr} {c : Nat} {a b : PT} {x y : FrR} (hl : opsN o=2) (h0 : ¬ o=0) (h1 : ¬ (o=1∨o=2∨o=3)) (ha : okE 11 a=true) (hb : okE 11 b=true) (hc : CondF L T M) (hx : evalF L a T M=x) (hy : evalF L b T M=y) : evalF L ⟨o,0,0,empS,A,c,[a,b]⟩ T M=opF o [x,y]:=by
 rw [evalF_op (by rw [hl]; rfl) h0 h1 (fun z hz=>by rcases List.mem_cons.1 hz with rfl | hz; exact ha; rw [List.mem_singleton.1 hz]; exact hb) hc,List.map_cons,List.map_cons,List.map_nil,hx,hy]
theorem r05_int (n : Int) (w : World) (h0 : -9223372036854775808≤n) (h1 : n≤9223372036854775807) : Calls Tryz.prog 20 #[.int .i64 n,.int .i64 1] w fun e w'=>∃ f : Frc,e = .returned (.tuple #[f.v,.int .i64 0])∧FB w' f n 1∧Below w.heap.size w w' :=
 (r05_whole n w h0 h1).mono fun e w' h=>h.fz ⟨.inl rfl,fun _=>ok_whole h0 h1,fun h=>absurd rfl h⟩
structure BX (W : World) (g : Nat) (f : Frc) (p q : Int) : Prop where
  b : Blk W g 36 #[.int .i64 f.p.s,.slice f.p.l.A f.p.l.l.length f.p.l.c,.int .i64 f.q.s,.slice f.q.l.A f.q.l.l.length f.q.l.c]
  v : FB W f p q
theorem BX.later {W W' : World} {g : Nat} {f : Frc} {p q : Int} (h : BX W g f p q) (hb : Below W.heap.size W W') : BX W' g f p q:=⟨h.b.later hb,h.v.later hb⟩
theorem BX.new {W : World} {f : Frc} {p q : Int} (h : FB W f p q) : BX (W.alloc (.cells #[.int .i64 f.p.s,.slice f.p.l.A f.p.l.l.length f.p.l.c,.int .i64 f.q.s,.slice f.q.l.A f.q.l.l.length f.q.l.c] 36)) W.heap.size f p q:=⟨Blk.new _ _ _,h.later (Zz.alloc Zl _)⟩
theorem opF_mul {V U : FrR} (h : V.e=0) (g : U.e=0) : opF 6 [V,U]=mulF V.p V.q U.p U.q:=by
 show (if (6 : Int)=13 then andF V U else if (6 : Int)=14 then orF V U else twoF 6 V U)=_;rw [if_neg (by decide),if_neg (by decide)];unfold twoF;rw [if_neg (fun h'=>h' h),if_neg (fun h'=>h' g)];unfold appF;rw [if_neg (by decide),if_neg (by decide),if_pos rfl]
theorem opF_sub {V U : FrR} (h : V.e=0) (g : U.e=0) : opF 5 [V,U]=subF V.p V.q U.p U.q:=by
 show (if (5 : Int)=13 then andF V U else if (5 : Int)=14 then orF V U else twoF 5 V U)=_;rw [if_neg (by decide),if_neg (by decide)];unfold twoF;rw [if_neg (fun h'=>h' h),if_neg (fun h'=>h' g)];unfold appF;rw [if_neg (by decide),if_pos rfl]
theorem whF_fits {r : FrR} (ho : r.e=0→FracOK r.p r.q) : 0≤(whF r).1∧(whF r).1≤1000000000000000:=by
 unfold whF;split
 ·simp
 ·rename_i h;have hq:=(ho Zo).pos;split
  ·simp
  ·split
   ·simp
   ·rename_i h1 h2;refine ⟨Int.ediv_nonneg Zo Zo, ?_⟩;show r.p / r.q≤1000000000000000;have : r.p / r.q<1000000000000001:=Int.ediv_lt_of_lt_mul hq Zo;omega
theorem cmp_low {p q : Int} (hq : 0<q) : cmpI (p / q) 1 p q≤0:=by
 rw [cmpI_sign (by decide) hq];have h:=Int.mul_ediv_add_emod p q;have h2:=Int.emod_nonneg p (by omega : q≠0);have h3 : p / q * q=q * (p / q):=Int.mul_comm _ _;rw [Int.mul_one,h3];rcases Int.lt_trichotomy (q * (p / q) - p) 0 with h4 | h4 | h4
 ·rw [Int.sign_eq_neg_one_of_neg h4]; decide
 ·rw [h4]; decide
 ·omega
theorem cmp_high {p q : Int} (hq : 0<q) : cmpI p q (p / q+1) 1<0:=by
 rw [cmpI_sign hq (by decide)];have h:=Int.mul_ediv_add_emod p q;have h2:=Int.emod_lt_of_pos p hq;(have h3 : (p / q+1) * q=q * (p / q)+q:=by rw [Int.add_mul,Int.one_mul,Int.mul_comm]);rw [Int.mul_one,h3];(have h4 : p - (q * (p / q)+q)<0:=by omega);rw [Int.sign_eq_neg_one_of_neg h4]; decide
theorem whF_cases {r : FrR} (h0 : r.e=0) (ho : FracOK r.p r.q) : (r.p<0∧whF r=(0,0)∧cmpI r.p r.q 1000000000000001 1<0)∨(0≤r.p∧whF r=(0,3)∧0≤cmpI r.p r.q 1000000000000001 1)∨(0≤r.p∧whF r=(r.p / r.q,0)∧cmpI r.p r.q 1000000000000001 1<0):=by
 have hm:=cmp_most (r:=r) ho.pos;have hq:=ho.pos;by_cases h1 : r.p<0
 ·(have : ¬ 1000000000000001 * r.q≤r.p:=by omega);exact .inl ⟨h1,whF_neg h0 h1,by omega⟩
 ·by_cases h2 : 1000000000000001 * r.q≤r.p
  ·exact .inr (.inl ⟨by omega,whF_big h0 Zo h2,hm.2 h2⟩)
  ·exact .inr (.inr ⟨by omega,whF_ok h0 Zo h2,by omega⟩)
end Go.Proofs.YtcgocdhhneckhaaGreatDoor
