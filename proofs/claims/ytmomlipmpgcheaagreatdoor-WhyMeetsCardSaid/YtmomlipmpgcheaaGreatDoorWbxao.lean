/- Fractions of integers: shortened; in plain Lean. -/
import Derived.Test.YtmomlipmpgcheaaGreatDoorWbxag
import Derived.Test.YtmomlipmpgcheaaGreatDoorWbxan
import Derived.Deep.LoopGhost
set_option linter.unusedSimpArgs false
set_option linter.unusedVariables false
set_option maxRecDepth 100000
set_option maxHeartbeats 6400000
namespace Go.Proofs.YtmomlipmpgcheaaGreatDoor
open Go.RowKit
structure FracOK (p q : Int) : Prop where
  pos : 0<q
  one : Int.gcd p q=1
  fp : Fits p
  fq : Fits q
theorem fits_le {x y : Int} (h : Fits y) (hx : x.natAbs≤y.natAbs) : Fits x:=by
 unfold Fits at h ⊢;omega
theorem fits_neg {x : Int} (h : Fits x) : Fits (-x):=fits_le h Zo
theorem gcd_pos {p q : Int} (h : q≠0) : 0<Int.gcd p q:=Nat.gcd_pos_of_pos_right _ Zo
def shortI (p q : Int) : Int × Int:=(p / (Int.gcd p q : Int),q / (Int.gcd p q : Int))
theorem ediv_abs {x : Int} {g : Nat} (hg : 0<g) (hd : (g : Int) ∣ x) : (x / (g : Int)).natAbs≤x.natAbs:=by
 obtain ⟨k,rfl⟩:=hd;rw [Int.mul_ediv_cancel_left _ Zo,Int.natAbs_mul,Int.natAbs_natCast];exact Nat.le_mul_of_pos_left _ hg
theorem shortI_ok {p q : Int} (hq : 0<q) (hp : Fits p) (hf : Fits q) : FracOK (shortI p q).1 (shortI p q).2:=by
 have hg:=gcd_pos (p:=p) (show q≠0 by omega);have h1 : ((Int.gcd p q : Nat) : Int) ∣ p:=Int.gcd_dvd_left ..;have h2 : ((Int.gcd p q : Nat) : Int) ∣ q:=Int.gcd_dvd_right ..;refine ⟨?_, ?_,fits_le hp (ediv_abs hg h1),fits_le hf (ediv_abs hg h2)⟩
 ·exact Int.ediv_pos_of_pos_of_dvd hq Zo h2
 ·exact Int.gcd_ediv_gcd_ediv_gcd hg
theorem shortI_eq {p q : Int} (hq : q≠0) : (shortI p q).1 * q=p * (shortI p q).2:=by
 have h1 : ((Int.gcd p q : Nat) : Int) ∣ p:=Int.gcd_dvd_left ..;have h2 : ((Int.gcd p q : Nat) : Int) ∣ q:=Int.gcd_dvd_right ..;have e1:=Int.mul_ediv_cancel' h1;have e2:=Int.mul_ediv_cancel' h2;unfold shortI;simp only;generalize ((Int.gcd p q : Nat) : Int)=g at *;generalize p / g=a at *;generalize q / g=b at *;rw [← e1,← e2,Int.mul_left_comm a g b,Int.mul_assoc]
theorem FracOK.short {p q : Int} (h : FracOK p q) : shortI p q=(p,q):=by
 unfold shortI;rw [h.one];simp
theorem dvd_free {q p s : Int} (h : Int.gcd q p=1) (hd : q ∣ p * s) : q ∣ s:=by
 have h1:=Int.gcd_eq_natAbs_left_iff_dvd.2 hd;have h2 : Int.gcd q (s * p)=Int.gcd q s:=Int.gcd_mul_left_right_of_gcd_eq_one h;rw [Int.mul_comm,h2] at h1;exact Int.gcd_eq_natAbs_left_iff_dvd.1 h1
theorem FracOK.same {p q r s : Int} (h : FracOK p q) (g : FracOK r s) (he : p * s=r * q) : p=r∧q=s:=by
 have h1 : (q : Int) ∣ s:=by
  have : q ∣ p * s:=⟨r,by rw [he,Int.mul_comm]⟩;exact dvd_free (by rw [Int.gcd_comm]; exact h.one) this
 have h2 : (s : Int) ∣ q:=by
  have : s ∣ r * q:=⟨p,by rw [← he,Int.mul_comm]⟩;exact dvd_free (by rw [Int.gcd_comm]; exact g.one) this
 have hq:=h.pos;have hs:=g.pos;have e:=Int.dvd_antisymm Zo Zo h1 h2;subst e;exact ⟨Int.eq_of_mul_eq_mul_right Zo he,rfl⟩
instance (z : Int) : Decidable (Fits z):=inferInstanceAs (Decidable ((z.natAbs : Int)<pw 60))
structure FrR where
  p : Int
  q : Int
  e : Int
def FrR.bad (e : Int) : FrR:=⟨0,0,e⟩
def newI (p q : Int) : FrR:=if q=0 then FrR.bad 15 else if q<0 then ⟨(shortI (-p) (-q)).1,(shortI (-p) (-q)).2,0⟩ else ⟨(shortI p q).1,(shortI p q).2,0⟩
theorem newI_pos {p q : Int} (h : 0<q) : newI p q=⟨(shortI p q).1,(shortI p q).2,0⟩:=by
 unfold newI;rw [if_neg Zo,if_neg Zo]
theorem newI_ok {p q : Int} (hq : q≠0) (hp : Fits p) (hf : Fits q) : (newI p q).e=0∧FracOK (newI p q).p (newI p q).q∧(newI p q).p * q=p * (newI p q).q:=by
 unfold newI;rw [if_neg hq];split
 ·refine ⟨rfl,shortI_ok Zo (fits_neg hp) (fits_neg hf), ?_⟩;have:=shortI_eq (p:=-p) (q:=-q) Zo;simp only [Int.mul_neg,Int.neg_mul] at this ⊢;omega
 ·exact ⟨rfl,shortI_ok Zo hp hf,shortI_eq hq⟩
def addF (p q r s : Int) : FrR:=if Fits (p * s)∧Fits (r * q)∧Fits (q * s)∧Fits (p * s+r * q) then newI (p * s+r * q) (q * s) else FrR.bad 6
def subF (p q r s : Int) : FrR:=addF p q (-r) s
def mulF (p q r s : Int) : FrR:=if Fits (p * r)∧Fits (q * s) then newI (p * r) (q * s) else FrR.bad 6
def divF (p q r s : Int) : FrR:=if r=0 then FrR.bad 15 else if Fits (p * s)∧Fits (q * r) then newI (p * s) (q * r) else FrR.bad 6
theorem fits_negI {x : Int} : Fits (-x)↔Fits x:=⟨fun h=>by have:=fits_neg h; rwa [Int.neg_neg] at this,fits_neg⟩
theorem subF_is (p q r s : Int) : subF p q r s=if Fits (p * s)∧Fits (r * q)∧Fits (q * s)∧Fits (p * s - r * q) then newI (p * s - r * q) (q * s) else FrR.bad 6:=by
 unfold subF addF;simp only [Int.neg_mul,fits_negI,← Int.sub_eq_add_neg]
structure FrR.OK (x : FrR) : Prop where
  err : x.e=0∨x.e=6∨x.e=15
  yes : x.e=0→FracOK x.p x.q
  no : x.e≠0→x.p=0∧x.q=0
theorem bad_OK {e : Int} (h : e=6∨e=15) : (FrR.bad e).OK:=⟨.inr h,fun h0=>by simp only [FrR.bad] at h0; omega,fun _=>⟨rfl,rfl⟩⟩
theorem newI_OK {p q : Int} (hq : q≠0) (hp : Fits p) (hf : Fits q) : (newI p q).OK:=by
 obtain ⟨h1,h2,_⟩:=newI_ok hq hp hf;exact ⟨.inl h1,fun _=>h2,fun h=>absurd h1 h⟩
theorem addF_OK {p q r s : Int} (h : FracOK p q) (g : FracOK r s) : (addF p q r s).OK:=by
 unfold addF;split
 ·rename_i hf;exact newI_OK (Int.ne_of_gt (Int.mul_pos h.pos g.pos)) hf.2.2.2 hf.2.2.1
 ·exact bad_OK (.inl rfl)
theorem FracOK.neg {p q : Int} (h : FracOK p q) : FracOK (-p) q:=⟨h.pos,by rw [Int.neg_gcd]; exact h.one,fits_neg h.fp,h.fq⟩
theorem subF_OK {p q r s : Int} (h : FracOK p q) (g : FracOK r s) : (subF p q r s).OK:=addF_OK h g.neg
theorem mulF_OK {p q r s : Int} (h : FracOK p q) (g : FracOK r s) : (mulF p q r s).OK:=by
 unfold mulF;split
 ·rename_i hf;exact newI_OK (Int.ne_of_gt (Int.mul_pos h.pos g.pos)) hf.1 hf.2
 ·exact bad_OK (.inl rfl)
theorem divF_OK {p q r s : Int} (h : FracOK p q) (g : FracOK r s) : (divF p q r s).OK:=by
 unfold divF;split
 ·exact bad_OK (.inr rfl)
 ·rename_i hr;split
  ·rename_i hf;exact newI_OK (Int.mul_ne_zero (Int.ne_of_gt h.pos) hr) hf.1 hf.2
  ·exact bad_OK (.inl rfl)
theorem big_div (a b : Sl Int) (w : World) (ha : Rd (· < w.heap.size) 1 ienc w a) (hb : Rd (· < w.heap.size) 1 ienc w b) (na : Norm a.l) (nb : Norm b.l) (hla : a.l.length≤150) (hne : b.l≠[]) : Calls Tryz.prog 184 #[a.v,b.v] w fun e w'=>DivP w w' (val a.l) (val b.l) e:=by
 rcases Int.lt_or_le (val a.l) (val b.l) with h | h
 ·exact big_div_less a b w ha hb na nb hla h
 ·have h0 : b.l.length≠0:=fun h0=>hne (List.eq_nil_of_length_eq_zero h0);by_cases h1 : b.l.length=1
  ·exact big_div_one a b w ha hb na nb hla h h1
  ·exact big_div_long a b w ha hb na nb hla h Zo
def opI (z : Int) : BigD × Int:=if Fits z then (bigD z,0) else (⟨0,[]⟩,6)
def OpP (F : Nat→Prop) (w w' : World) (r : BigD × Int) (e : Ending) : Prop:=∃ a : Big,e = .returned (.tuple #[a.v,.int .i64 r.2])∧a.d=r.1∧Rd F 1 ienc w' a.l∧Below w.heap.size w w'
theorem OpP.cast {F : Nat→Prop} {w w' : World} {r r' : BigD × Int} {e : Ending} (h : r=r') (x : OpP F w w' r' e) : OpP F w w' r e:=by rw [h]; exact x
theorem nw_two {m n b : Nat} {w w' : World} (h : Nw n w b) (hm : m≤n) (hs : w.heap.size≤w'.heap.size) : m≤b∧b<w'.heap.size:=⟨Nat.le_trans hm h.1,Nat.lt_of_lt_of_le h.2 hs⟩
theorem big_checked (a : Big) (z : Int) {F : Nat→Prop} (w : World) (hr : Rd F 1 ienc w a.l) (hF : ∀ b,F b→b<w.heap.size) (hd : a.d=bigD z) : Calls Tryz.prog 189 #[.bool true,a.v] w fun e w'=>OpP F w w' (opI z) e:=by
 obtain ⟨s,⟨A,c,l⟩⟩:=a;have hl : l.length≤9223372036854775807:=hr.len;have HR:=Zh hr;have HF:=Zh hF;have HD:=Zh hd
 have hf : Fits z↔l.length≤60:=by
  rw [fits_iff];unfold Big.d bigD at hd;injection hd with h1 h2;simp only at h2;rw [h2]
 clear hr hF hd;simp only [Big.v];by_cases hz : l.length≤60
 ·have HO : Hid (opI z=(bigD z,0)):=Zh (by unfold opI; rw [if_pos (hf.2 hz)]);clear hf;generalize opI z=r at *;go_enter Tryz.func189,Tryz.ntmps189;go_wp2_with fail;refine bodyPost_ret (v:=.tuple #[.agg #[.int .i64 s,.slice A l.length c],.int .i64 0]) ?_ rfl (OpP.cast HO.out ⟨⟨s,⟨A,c,l⟩⟩,rfl,HD.out,HR.out.up HF.out qbl,qbl⟩);simp [results,Tryz.results189,go_sem,]
 ·have HO : Hid (opI z=(⟨0,[]⟩,6)):=Zh (by unfold opI; rw [if_neg (fun h=>hz (hf.1 h))]);clear hf;generalize opI z=r at *;go_enter Tryz.func189,Tryz.ntmps189;go_wp2_with fail;refine bodyPost_ret (v:=.tuple #[.agg Zg,.int .i64 6]) ?_ rfl (OpP.cast HO.out ⟨⟨0,⟨none,0,[]⟩⟩,rfl,rfl,Rd.nil _ _ _ _,qbl⟩);simp [results,Tryz.results189,go_sem,]
theorem below_two {B g : Nat} {a w : World} {x y : Value} (h : Below B a w) (hg : B≤g:=by omega) : Below B a ((w.setCell ⟨g,0,none⟩ x).setCell ⟨g,1,none⟩ y):=(h.setCell hg x).setCell hg y
theorem big_Mul (a b : Big) (x y : Int) (w : World) (ha : RB w a x) (hb : RB w b y) : Calls Tryz.prog 173 #[a.v,b.v] w fun e w'=>OpP (Nw w.heap.size w') w w' (opI (x * y)) e:=by
 obtain ⟨s,⟨A,c,l⟩⟩:=a;obtain ⟨t,⟨B,d,m⟩⟩:=b;have hs:=ha.s;have ht:=hb.s;have hla:=ha.len;have hlb:=hb.len;simp only at hs ht hla hlb;have hsr:=sign_range x;have htr:=sign_range y;rw [← hs] at hsr;rw [← ht] at htr;have HA:=Zh ha;have HB:=Zh hb;have HS:=Zh (And.intro hs ht);clear ha hb hs ht;simp only [Big.v];go_enter Tryz.func173,Tryz.ntmps173;go_wp2_with fail;refine (right_ok ⟨s,⟨A,c,l⟩⟩ x _ (HA.out.later qbl)).mono ?_;rintro e w1 ⟨rfl,hb1⟩;(have l0 : w.heap.size<w.heap.size+1+1:=by omega);obtain ⟨B_a,a0,a1,af,az⟩:=Zb2 (Zk1 (g:=w.heap.size) (t:=92) (cs:=#[.int .i64 s,.slice A l.length c]) hb1);obtain ⟨B_b,b0,b1,bf,bz⟩:=Zb2 (Zk1 (g:=w.heap.size+1) (t:=92) (cs:=#[.int .i64 t,.slice B m.length d]) hb1);obtain ⟨B_r,r0,r1,rf,rz⟩:=Zb2 (Zk1 (g:=w.heap.size+1+1) (t:=92) (cs:=Zg) hb1);skip;have hB1 : Below w.heap.size w w1:=qbv;clear hb1;go_wp2_with fail;refine (right_ok ⟨t,⟨B,d,m⟩⟩ y _ (HB.out.later hB1)).mono ?_;rintro e w2 ⟨rfl,hb2⟩;clear a0 a1 af az b0 b1 bf bz r0 r1 rf rz;obtain ⟨B_a,a0,a1,af,az⟩:=Zb2 (Zks B_a hb2);obtain ⟨B_b,b0,b1,bf,bz⟩:=Zb2 (Zks B_b hb2);obtain ⟨B_r,r0,r1,rf,rz⟩:=Zb2 (Zks B_r hb2);have HB2 : Hid (Below w.heap.size w w2):=Zh qbv;have hz2 : w.heap.size+1+1<w2.heap.size:=rz;have HSS : Hid (∀ W : World,Below w2.heap.size w2 W→W.cell? ⟨w.heap.size,0,none⟩=some (.int .i64 s)∧W.cell? ⟨w.heap.size,1,none⟩=some (.slice A l.length c)∧W.cell? ⟨w.heap.size+1,0,none⟩=some (.int .i64 t)∧W.cell? ⟨w.heap.size+1,1,none⟩=some (.slice B m.length d)):=Zh (fun W hW=>⟨keep_cell hW a0,keep_cell hW a1,keep_cell hW b0,keep_cell hW b1⟩);clear hb2 r0 r1 rf rz;have hst:=mul_small hsr.1 hsr.2 htr.1 htr.2;have hwr : IntKind.i64.wrap (s * t)=s * t:=wr64 Zo Zo;go_wp2_with fail;refine wp_region_T (fun W=>W.cell? ⟨w.heap.size,0,none⟩=some (.int .i64 s)∧W.cell? ⟨w.heap.size,1,none⟩=some (.slice A l.length c)∧W.cell? ⟨w.heap.size+1,0,none⟩=some (.int .i64 t)∧W.cell? ⟨w.heap.size+1,1,none⟩=some (.slice B m.length d)) (fun i=>14≤i) Zy (by exact HSS.out w2 Zz) (fun hHeld=>?_);refine Zr 0 ?_;refine Zr 1 ?_;refine Zr 2 ?_;refine Zr 3 ?_;refine Zr 4 ?_;refine Zr 5 ?_;refine Zr 6 ?_;refine Zr 7 ?_;refine Zr 8 ?_;clear hHeld;refine Zn 9 ?_;go_wp2_with fail
 have HP : Hid (val l * val m=((x * y).natAbs : Nat)):=Zh (by
  have h1:=HA.out.val;have h2:=HB.out.val;simp only at h1 h2;rw [h1,h2,Int.natAbs_mul]
  push_cast; rfl)
 refine (big_mul ⟨A,c,l⟩ ⟨B,d,m⟩ _ (HA.out.later (Below.drew HB2.out)).rd (HB.out.later (Below.drew HB2.out)).rd HA.out.norm.ok HB.out.norm.ok (by simp only; omega) (by simp only; omega) HP.out).mono ?_;rintro e w3 ⟨⟨pA,pc,pl⟩,rfl,hpl,hown,hb3⟩;simp only at hpl;have hfk0 : Below w2.heap.size w2 _:=Below.drew Zz;have FK3 : Hid (Below w2.heap.size w2 w3):=Zh (below_via hb3 hfk0);have HPL:=Zh hpl;have HPN : Hid (Rd (Nw w2.heap.size w3) 1 ienc w3 ⟨pA,pc,pl⟩):=Zh (hown.nw.mono fun b hb=>hb.mono hfk0.size Zl);clear hfk0;clear hpl hown hb3;simp only [Sl.v];go_wp2_with fail;refine Zi (HSS.out _ FK3.out) ?_;have HSG : Hid (signedD (s * t) pl=bigD (x * y)):=Zh (signed_is (by rw [HPL.out]; exact (digs_norm _).ok) (by rw [HPL.out,digs_val]) (fun _=>by rw [HS.out.1,HS.out.2,Int.sign_mul]));refine Zn 10 ?_;go_wp2_with fail;refine (big_signed (s * t) ⟨pA,pc,pl⟩ _ HPN.out (fun _ h=>h.lt)).mono ?_;rintro e w4 ⟨⟨rs,⟨rA,rc,rl⟩⟩,rfl,hrd,hrr,hb4⟩;have FK4:=Zh (below_via hb4 FK3.out);have HRD:=Zh (hrd.trans HSG.out);have HRR:=Zh hrr;have hz4:=hb4.size;clear hrd hrr hb4;simp only [Big.v];go_wp2_with fail;refine Zi (HSS.out _ FK4.out) ?_;refine Zn 11 ?_;go_wp2_with fail;refine (big_checked ⟨rs,⟨rA,rc,rl⟩⟩ (x * y) _ HRR.out (fun _ h=>Nat.lt_of_lt_of_le h.2 hz4) HRD.out).mono ?_;rintro e w5 ⟨⟨qs,⟨qA,qc,ql⟩⟩,rfl,hqd,hqr,hb5⟩;obtain ⟨OZ,hOZ⟩ : ∃ o,o=opI (x * y):=⟨_,rfl⟩;rw [← hOZ] at hqd ⊢;have HOZ:=Zh hOZ.symm;clear hOZ;have FK5:=Zh (below_via hb5 FK4.out);have HQD:=Zh hqd;have HQR:=Zh hqr;have hz5 : w3.heap.size≤w5.heap.size:=Nat.le_trans hz4 hb5.size;have hbz:=Below.mono FK5.out (show w.heap.size≤w2.heap.size by omega);have HBW:=Zh (HB2.out.trans hbz);clear hqd hqr hb5 hbz;obtain ⟨B_r,r0,r1,rf,rz⟩:=Zb2 (Zks B_r FK5.out);simp only [Big.v];go_wp2_with fail;refine Zi (HSS.out _ FK5.out) ?_;have hHeld:=HSS.out _ FK5.out;refine Zr 12 ?_;refine Zr 13 ?_;clear hHeld;refine Zn 14 ?_;go_wp2_with fail;(try simp only [QT]);(try (with_reducible refine And.intro (fun h=>by simp at h) ?_));refine Zn 15 ?_;go_wp2_with fail;(try simp only [QT]);(try (with_reducible refine And.intro (fun h=>by simp at h) ?_));refine Ze ?_;go_wp2_with fail;(have hne : ∀ b,Nw w2.heap.size w3 b→b≠w.heap.size+1+1:=fun b hb=>by have:=hb.1; omega);refine bodyPost_ret (v:=.tuple #[.agg #[.int .i64 qs,.slice qA ql.length qc],.int .i64 OZ.2]) ?_ rfl (OpP.cast HOZ.out ⟨⟨qs,⟨qA,qc,ql⟩⟩,rfl,HQD.out,((HQR.out.far (fun b hb=>hne b hb) _).far (fun b hb=>hne b hb) _).mono (fun b hb=>Nw.of (nw_two hb Zo hz5)),below_two HBW.out⟩);simp [results,Tryz.results173,go_sem,r0,r1]
theorem big_Gcd (a b : Big) (x y : Int) (w : World) (ha : RB w a x) (hb : RB w b y) : Calls Tryz.prog 181 #[a.v,b.v] w fun e w'=>OpP (Nw w.heap.size w') w w' (opI (Int.gcd x y : Nat)) e:=by
 obtain ⟨s,⟨A,c,l⟩⟩:=a;obtain ⟨t,⟨B,d,m⟩⟩:=b;have hs:=ha.s;have ht:=hb.s;have hla:=ha.len;have hlb:=hb.len;simp only at hs ht hla hlb;have hsr:=sign_range x;have htr:=sign_range y;rw [← hs] at hsr;rw [← ht] at htr;have HA:=Zh ha;have HB:=Zh hb;have HS:=Zh (And.intro hs ht);clear ha hb hs ht;simp only [Big.v];go_enter Tryz.func181,Tryz.ntmps181;go_wp2_with fail;refine (right_ok ⟨s,⟨A,c,l⟩⟩ x _ (HA.out.later qbl)).mono ?_;rintro e w1 ⟨rfl,hb1⟩;(have l0 : w.heap.size<w.heap.size+1+1:=by omega);obtain ⟨B_a,a0,a1,af,az⟩:=Zb2 (Zk1 (g:=w.heap.size) (t:=92) (cs:=#[.int .i64 s,.slice A l.length c]) hb1);obtain ⟨B_b,b0,b1,bf,bz⟩:=Zb2 (Zk1 (g:=w.heap.size+1) (t:=92) (cs:=#[.int .i64 t,.slice B m.length d]) hb1);obtain ⟨B_r,r0,r1,rf,rz⟩:=Zb2 (Zk1 (g:=w.heap.size+1+1) (t:=92) (cs:=Zg) hb1);skip;have hB1 : Below w.heap.size w w1:=qbv;clear hb1;go_wp2_with fail;refine (right_ok ⟨t,⟨B,d,m⟩⟩ y _ (HB.out.later hB1)).mono ?_;rintro e w2 ⟨rfl,hb2⟩;clear a0 a1 af az b0 b1 bf bz r0 r1 rf rz;obtain ⟨B_a,a0,a1,af,az⟩:=Zb2 (Zks B_a hb2);obtain ⟨B_b,b0,b1,bf,bz⟩:=Zb2 (Zks B_b hb2);obtain ⟨B_r,r0,r1,rf,rz⟩:=Zb2 (Zks B_r hb2);have HB2 : Hid (Below w.heap.size w w2):=Zh qbv;have hz2 : w.heap.size+1+1<w2.heap.size:=rz;have HSS : Hid (∀ W : World,Below w2.heap.size w2 W→W.cell? ⟨w.heap.size,0,none⟩=some (.int .i64 s)∧W.cell? ⟨w.heap.size,1,none⟩=some (.slice A l.length c)∧W.cell? ⟨w.heap.size+1,0,none⟩=some (.int .i64 t)∧W.cell? ⟨w.heap.size+1,1,none⟩=some (.slice B m.length d)):=Zh (fun W hW=>⟨keep_cell hW a0,keep_cell hW a1,keep_cell hW b0,keep_cell hW b1⟩);clear hb2 r0 r1 rf rz;go_wp2_with fail;refine wp_region_T (fun W=>W.cell? ⟨w.heap.size,0,none⟩=some (.int .i64 s)∧W.cell? ⟨w.heap.size,1,none⟩=some (.slice A l.length c)∧W.cell? ⟨w.heap.size+1,0,none⟩=some (.int .i64 t)∧W.cell? ⟨w.heap.size+1,1,none⟩=some (.slice B m.length d)) (fun i=>7≤i) Zy (by exact HSS.out w2 Zz) (fun hHeld=>?_);refine Zr 0 ?_;refine Zr 1 ?_;refine Zr 3 ?_;refine Zr 4 ?_;clear hHeld;refine Zn 2 ?_;go_wp2_with fail;refine (clone_int ⟨A,c,l⟩ _ (HA.out.later (Below.drew HB2.out)).rd (by simp only; omega)).mono ?_;rintro e w3 ⟨A',c',rfl,hown,hb3⟩;have FK3 : Hid (Below w2.heap.size w2 w3):=Zh (below_via hb3 (Below.drew Zz));have HRX:=Zh (rd_own hown);have HBW:=Zt HB2 FK3.out;clear hown hb3;go_wp2_with fail;refine Zi (HSS.out _ FK3.out) ?_;have hHeld:=HSS.out _ FK3.out;refine Zr 5 ?_;refine Zr 6 ?_;refine Ze ?_;clear hHeld;have HST : Hid (l=digs x.natAbs∧m=digs y.natAbs):=Zh ⟨HA.out.l,HB.out.l⟩;have HRY:=Zh (HB.out.later HBW.out).rd;go_wp2_with fail;go_loopg [6,7] (y.natAbs) (fun k p q wr=>∃ (xA : Option Addr) (xc : Nat) (xl : List Int) (yA : Option Addr) (yc : Nat) (yl : List Int) (X : Nat),p = .slice xA xl.length xc∧q = .slice yA yl.length yc∧xl.length≤60∧yl.length≤60∧Hid (xl=digs X∧yl=digs k∧Nat.gcd X k=Int.gcd x y)∧Hid (Rd (· < wr.heap.size) 1 ienc wr ⟨xA,xc,xl⟩)∧Hid (Rd (· < wr.heap.size) 1 ienc wr ⟨yA,yc,yl⟩)∧Hid (Below w2.heap.size w2 wr))
 case atStart=>exact ⟨A',c',l,B,d,m,x.natAbs,rfl,rfl,hla,hlb,Zh ⟨HST.out.1,HST.out.2,rfl⟩,HRX,HRY,FK3⟩
 case round =>
  obtain ⟨xA,xc,xl,yA,yc,yl,X,rfl,rfl,hx60,hy60,HG,HX,HY,HBK⟩:=hrel;by_cases hy0 : yl.length=0
  ·have hyl : yl=[]:=List.eq_nil_of_length_eq_zero hy0;have hgk : gk=0:=digs_nil.1 (by rw [← HG.out.2.1]; exact hyl);(have hXG : X=Int.gcd x y:=by have:=HG.out.2.2; rw [hgk,Nat.gcd_zero_right] at this; exact this);have HXG : Hid (xl=digs (Int.gcd x y)):=Zh (by rw [HG.out.1,hXG]);clear hyl hXG hgk HG HRX HRY HST HBW FK3;go_wp2_with fail;refine (clone_int ⟨xA,xc,xl⟩ _ HX.out (by simp only; omega)).mono ?_;rintro e w3 ⟨pA,pc,rfl,hown,hb3⟩;have FK3:=Zt HBK hb3;have HPN : Hid (Rd (Nw w2.heap.size w3) 1 ienc w3 ⟨pA,pc,xl⟩):=Zh (hown.nw.mono fun b hb=>hb.mono HBK.out.size Zl);clear hown hb3;go_wp2_with fail;refine (big_signed 1 ⟨pA,pc,xl⟩ _ HPN.out (fun _ h=>h.lt)).mono ?_;rintro e w4 ⟨⟨rs,⟨rA,rc,rl⟩⟩,rfl,hrd,hrr,hb4⟩;have FK4:=Zh (below_via hb4 FK3.out);have HRD:=Zh (hrd.trans (signed_is (z:=(Int.gcd x y : Nat)) (by rw [HXG.out]; exact (digs_norm _).ok) (by rw [HXG.out,digs_val]; simp) (fun h0=>by rw [Int.sign_eq_one_of_pos Zo])));have HRR:=Zh hrr;have hz4:=hb4.size;clear hrd hrr hb4;simp only [Big.v];go_wp2_with fail;refine (big_checked ⟨rs,⟨rA,rc,rl⟩⟩ ((Int.gcd x y : Nat) : Int) _ HRR.out (fun _ h=>Nat.lt_of_lt_of_le h.2 hz4) HRD.out).mono ?_;rintro e w5 ⟨⟨qs,⟨qA,qc,ql⟩⟩,rfl,hqd,hqr,hb5⟩;obtain ⟨OZ,hOZ⟩ : ∃ o,o=opI ((Int.gcd x y : Nat) : Int):=⟨_,rfl⟩;rw [← hOZ] at hqd ⊢;have HOZ:=Zh hOZ.symm;clear hOZ;have FK5:=Zh (below_via hb5 FK4.out);have HQD:=Zh hqd;have HQR:=Zh hqr;have hz5 : w3.heap.size≤w5.heap.size:=Nat.le_trans hz4 hb5.size;have hbz:=Below.mono FK5.out (show w.heap.size≤w2.heap.size by omega);have HBW:=Zh (HB2.out.trans hbz);clear hqd hqr hb5 hbz;obtain ⟨B_r,r0,r1,rf,rz⟩:=Zb2 (Zks B_r FK5.out);simp only [Big.v];go_wp2_with fail;(have hne : ∀ b,Nw w2.heap.size w3 b→b≠w.heap.size+1+1:=fun b hb=>by have:=hb.1; omega);refine bodyPost_ret (v:=.tuple #[.agg #[.int .i64 qs,.slice qA ql.length qc],.int .i64 OZ.2]) ?_ rfl (OpP.cast HOZ.out ⟨⟨qs,⟨qA,qc,ql⟩⟩,rfl,HQD.out,((HQR.out.far (fun b hb=>hne b hb) _).far (fun b hb=>hne b hb) _).mono (fun b hb=>Nw.of (nw_two hb Zo hz5)),below_two HBW.out⟩);simp [results,Tryz.results181,go_sem,r0,r1]
  ·have hyne : yl≠[]:=fun h0=>hy0 (by rw [h0]; rfl)
   have hgk : 0<gk:=by
    rcases Nat.eq_zero_or_pos gk with h0 | h0
    ·exact absurd (by rw [HG.out.2.1,h0,digs_zero]) hyne
    ·exact h0
   have HYN:=Zh hyne;clear hyne;go_wp2_with fail;refine (big_div ⟨xA,xc,xl⟩ ⟨yA,yc,yl⟩ _ HX.out HY.out (by simp only; rw [HG.out.1]; exact digs_norm _) (by simp only; rw [HG.out.2.1]; exact digs_norm _) (by simp only; omega) HYN.out).mono ?_;rintro e w4 ⟨⟨qA,qc,ql⟩,⟨rA,rc,rl⟩,rfl,hql,hrl,hqr,hrr,hb4⟩
   have HG2 : Hid (rl=digs (X % gk)∧Nat.gcd gk (X % gk)=Int.gcd x y):=Zh (by
    refine ⟨?_, ?_⟩
    ·simp only at hrl;rw [hrl,HG.out.1,HG.out.2.1,digs_val,digs_val];congr 1
    ·rw [← HG.out.2.2,Nat.gcd_comm X gk,Nat.gcd_rec gk X,Nat.gcd_comm])
   have HRR:=Zh hrr.nwlt;have HY4:=Zh (HY.out.later hb4);have HBK4:=Zt HBK hb4
   have hrl60 : rl.length≤60:=by
    rw [HG2.out.1];refine Nat.le_trans (digs_mono (Nat.le_of_lt (Nat.mod_lt X hgk))) ?_;rw [← HG.out.2.1]; exact hy60
   clear hql hrl hqr hrr hb4;simp only [Sl.v];go_wp2_with fail
   go_roundg (X % gk)
   case measure=>exact Nat.mod_lt X hgk
   case rel=>exact ⟨yA,yc,yl,rA,rc,rl,gk,rfl,rfl,hy60,hrl60,Zh ⟨HG.out.2.1,HG2.out.1,HG2.out.2⟩,HY4,HRR,HBK4⟩
end Go.Proofs.YtmomlipmpgcheaaGreatDoor
