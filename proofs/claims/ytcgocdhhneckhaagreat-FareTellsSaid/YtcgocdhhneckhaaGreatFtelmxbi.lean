/- Walks of tonneauref05: Of, made. -/
import Derived.Test.YtcgocdhhneckhaaGreatFtelmxbh
import Derived.Test.YtcgocdhhneckhaaGreatFtelmxau
import Derived.Test.YtcgocdhhneckhaaGreatFtelmxay
set_option maxRecDepth 100000
set_option maxHeartbeats 6400000
namespace Go.Proofs.YtcgocdhhneckhaaGreat
open Go.RowKit
theorem r05_whole (n : Int) (w : World) (h0 : -9223372036854775808≤n) (h1 : n≤9223372036854775807) : Calls Tryz.prog 74 #[.int .i64 n,.int .i64 1] w fun e w'=>FrP w w' ⟨n,1,0⟩ e:=by
 go_enter Tryz.func74,Tryz.ntmps74;go_wp2_with fail;refine (r04_Of n _ h0 h1).mono ?_;rintro e w1 hp;obtain ⟨a,rfl,ha,hb1⟩:=hp.rb (fits_i64 h0 h1);obtain ⟨B_r,r0,r1,r2,r3,rf,rz⟩:=Zb4 (Zk1 (g:=w.heap.size) (t:=71) (cs:=Zf) hb1);have hB1 : Below w.heap.size w w1:=qbv;have HA:=Zh ha;clear ha hb1 hp;simp only [Big.v];go_wp2_with fail;refine (r04_Of 1 _ Zo Zo).mono ?_;rintro e w2 hp;obtain ⟨b,rfl,hb,hb2⟩:=hp.rb fits_one;clear r0 r1 r2 r3 rf rz;obtain ⟨B_r,r0,r1,r2,r3,rf,rz⟩:=Zb4 (Zks B_r hb2);have hB2 : Below w.heap.size w w2:=qbv;have HB:=Zh hb;have HA2:=Zh (HA.out.later hb2);clear hb hb2 hp HA;simp only [Big.v];go_wp2_with fail;refine (r05_new_pos a b n 1 _ HA2.out HB.out Zo).mono ?_;rintro e w3 ⟨⟨⟨ps,pl⟩,⟨qs,ql⟩⟩,rfl,hok,hno,hpr,hqr,hb3⟩;have hz2 : w.heap.size<w2.heap.size:=rz;clear r0 r1 r2 r3 rf rz;obtain ⟨B_r,r0,r1,r2,r3,rf,rz⟩:=Zb4 (Zks B_r hb3);have hB3 : Below w.heap.size w w3:=qbv;rw [newI_whole] at hok hno;have HOK:=Zh hok;have HNO:=Zh hno;have HPR:=Zh hpr;have HQR:=Zh hqr;clear hok hno hpr hqr hb3;have hnw : newI n 1=⟨n,1,0⟩:=newI_whole n;rw [hnw];clear hnw;simp only [Frc.v];go_wp2_with fail;(have hne : ∀ b,w2.heap.size≤b→b≠w.heap.size:=fun b hb=>by omega);refine bodyPost_ret (v:=.tuple #[.agg #[.int .i64 ps,.slice pl.A pl.l.length pl.c,.int .i64 qs,.slice ql.A ql.l.length ql.c],.int .i64 0]) ?_ rfl ⟨⟨⟨ps,pl⟩,⟨qs,ql⟩⟩,rfl,fun _=>⟨(HOK.out trivial).1,(HOK.out trivial).2⟩,fun h=>absurd rfl h,rd_st4 HPR.out hne Zo,rd_st4 HQR.out hne Zo,below_st4 hB3⟩;simp [results,Tryz.results74,go_sem,r0,r1,r2,r3]
theorem r05_made_ok (a b : Big) (p q : Int) (w : World) (ha : RB w a p) (hb : RB w b q) (hq : q≠0) : Calls Tryz.prog 118 #[a.v,b.v,.bool false] w fun e w'=>FrP w w' (newI p q) e:=by
 have HA:=Zh ha;have HB:=Zh hb;clear ha hb;simp only [Big.v];go_enter Tryz.func118,Tryz.ntmps118;go_wp2_with fail;refine (r05_new a b p q _ (HA.out.later qbl) (HB.out.later qbl) hq).mono ?_;rintro e w3 ⟨⟨⟨ps,pl⟩,⟨qs,ql⟩⟩,rfl,hok,hno,hpr,hqr,hb3⟩;(have hz2 : w.heap.size+1+1<w3.heap.size:=by have:=hb3.size; simp at this; omega);(have l0 : w.heap.size<w.heap.size+1+1:=by omega);obtain ⟨B_r,r0,r1,r2,r3,rf,rz⟩:=Zb4 (Zk1 (g:=w.heap.size+1+1) (t:=71) (cs:=Zf) hb3);have hB3 : Below w.heap.size w w3:=qbv;have HOK:=Zh hok;have HNO:=Zh hno;have HPR:=Zh hpr;have HQR:=Zh hqr;clear hok hno hpr hqr hb3;obtain ⟨R,hR⟩ : ∃ R,R=newI p q:=⟨_,rfl⟩;rw [← hR] at HOK HNO ⊢;have HRE:=Zh hR.symm;clear hR;simp only [Frc.v];go_wp2_with fail;(have hne : ∀ k,(((w.alloc (.cells #[.int .i64 a.s,.slice a.l.A a.l.l.length a.l.c] 69)).alloc (.cells #[.int .i64 b.s,.slice b.l.A b.l.l.length b.l.c] 69)).alloc (.cells Zf 71)).heap.size≤k→k≠w.heap.size+1+1:=fun k hb=>by simp at hb; omega);(have hmn : w.heap.size≤(((w.alloc (.cells #[.int .i64 a.s,.slice a.l.A a.l.l.length a.l.c] 69)).alloc (.cells #[.int .i64 b.s,.slice b.l.A b.l.l.length b.l.c] 69)).alloc (.cells Zf 71)).heap.size:=by simp; omega);refine bodyPost_ret (v:=.tuple #[.agg #[.int .i64 ps,.slice pl.A pl.l.length pl.c,.int .i64 qs,.slice ql.A ql.l.length ql.c],.int .i64 R.e]) ?_ rfl (FrP.cast HRE.out ⟨⟨⟨ps,pl⟩,⟨qs,ql⟩⟩,rfl,HOK.out,HNO.out,rd_st4 HPR.out hne hmn,rd_st4 HQR.out hne hmn,below_st4 hB3⟩);simp [results,Tryz.results118,go_sem,r0,r1,r2,r3]
theorem r05_made_bad (a b : Big) (w : World) : Calls Tryz.prog 118 #[a.v,b.v,.bool true] w fun e w'=>FrP w w' (FrR.bad 6) e:=by
 simp only [Big.v];go_enter Tryz.func118,Tryz.ntmps118;go_wp2_with fail;refine bodyPost_ret (v:=.tuple #[.agg Zf,.int .i64 6]) ?_ rfl ⟨⟨⟨0,⟨none,0,[]⟩⟩,⟨0,⟨none,0,[]⟩⟩⟩,rfl,fun h=>absurd h (by decide),fun _=>⟨rfl,rfl⟩,Rd.nil _ _ _ _,Rd.nil _ _ _ _,qbl⟩;simp [results,Tryz.results118,go_sem,]
theorem r05_made (a b : Big) (p q : Int) (bad : Bool) (w : World) (ha : bad=false→RB w a p∧RB w b q∧q≠0) : Calls Tryz.prog 118 #[a.v,b.v,.bool bad] w fun e w'=>FrP w w' (if bad=true then FrR.bad 6 else newI p q) e:=by
 cases bad
 ·obtain ⟨h1,h2,h3⟩:=ha rfl;exact r05_made_ok a b p q w h1 h2 h3
 ·exact r05_made_bad a b w
theorem r32_truth_true (w : World) : Calls Tryz.prog 83 #[.bool true] w fun e w'=>GotF w w' 1 1 e:=by
 go_enter Tryz.func83,Tryz.ntmps83;go_wp2_with fail;refine (r05_whole 1 _ Zo Zo).mono ?_;rintro e w1 hp;obtain ⟨f,rfl,hf,hb1⟩:=hp.yes rfl (ok_whole (n:=1) Zo Zo);obtain ⟨B_r,r0,r1,r2,r3,rf,rz⟩:=Zb4 (Zk1 (g:=w.heap.size) (t:=71) (cs:=Zf) hb1);have HF : Hid (RG (Nw (w.heap.size+1) w1) w1 f 1 1):=Zh (hf.mono fun b hb=>hb.mono Zs Zl);have HB : Hid (Below w.heap.size w w1):=Zh qbv;clear hf hb1 hp;simp only [Frc.v];have HF2 : Hid (RG (Nw (w.heap.size+1) (w1.alloc (.cells (Zc f) 71))) (w1.alloc (.cells (Zc f) 71)) f 1 1):=Zh (HF.out.nw Zl (Below.alloc Zz Zl _));have HB2 : Hid (Below w.heap.size w (w1.alloc (.cells (Zc f) 71))):=Zh (HB.out.alloc HB.out.size _);have HR2 : Hid (Blk (w1.alloc (.cells (Zc f) 71)) w.heap.size 71 Zf):=Zh (B_r.alloc _);have HZ2:=Zh (Blk.new w1 71 (Zc f));(iterate 25 (first | go_values | go_skip | go_guarded | go_step | go_upon | go_back));clear r0 r1 r2 r3 rf rz B_r;generalize w1.alloc (.cells _ 71)=w2 at *;generalize w1.heap.size=gz at *;obtain ⟨r0,r1,r2,r3,rf,rz⟩:=HR2.out.b4;obtain ⟨z0,z1,z2,z3,zf,zz⟩:=HZ2.out.b4;clear HF HB;go_wp2_with fail;(have hne : ∀ b,w.heap.size+1≤b→b≠w.heap.size:=fun b hb=>by omega);refine bodyPost_ret (v:=.agg #[.int .i64 f.p.s,.slice f.p.l.A f.p.l.l.length f.p.l.c,.int .i64 f.q.s,.slice f.q.l.A f.q.l.l.length f.q.l.c]) ?_ rfl ⟨f,rfl,HF2.out.st4 hne Zo,below_st4 HB2.out⟩;simp [results,Tryz.results83,go_sem,r0,r1,r2,r3]
theorem r32_truth_false (w : World) : Calls Tryz.prog 83 #[.bool false] w fun e w'=>GotF w w' 0 1 e:=by
 go_enter Tryz.func83,Tryz.ntmps83;go_wp2_with fail;refine (r05_whole 0 _ Zo Zo).mono ?_;rintro e w1 hp;obtain ⟨f,rfl,hf,hb1⟩:=hp.yes rfl (ok_whole (n:=0) Zo Zo);obtain ⟨B_r,r0,r1,r2,r3,rf,rz⟩:=Zb4 (Zk1 (g:=w.heap.size) (t:=71) (cs:=Zf) hb1);have HF : Hid (RG (Nw (w.heap.size+1) w1) w1 f 0 1):=Zh (hf.mono fun b hb=>hb.mono Zs Zl);have HB : Hid (Below w.heap.size w w1):=Zh qbv;clear hf hb1 hp;simp only [Frc.v];have HF2 : Hid (RG (Nw (w.heap.size+1) (w1.alloc (.cells (Zc f) 71))) (w1.alloc (.cells (Zc f) 71)) f 0 1):=Zh (HF.out.nw Zl (Below.alloc Zz Zl _));have HB2 : Hid (Below w.heap.size w (w1.alloc (.cells (Zc f) 71))):=Zh (HB.out.alloc HB.out.size _);have HR2 : Hid (Blk (w1.alloc (.cells (Zc f) 71)) w.heap.size 71 Zf):=Zh (B_r.alloc _);have HZ2:=Zh (Blk.new w1 71 (Zc f));(iterate 25 (first | go_values | go_skip | go_guarded | go_step | go_upon | go_back));clear r0 r1 r2 r3 rf rz B_r;generalize w1.alloc (.cells _ 71)=w2 at *;generalize w1.heap.size=gz at *;obtain ⟨r0,r1,r2,r3,rf,rz⟩:=HR2.out.b4;obtain ⟨z0,z1,z2,z3,zf,zz⟩:=HZ2.out.b4;clear HF HB;go_wp2_with fail;(have hne : ∀ b,w.heap.size+1≤b→b≠w.heap.size:=fun b hb=>by omega);refine bodyPost_ret (v:=.agg #[.int .i64 f.p.s,.slice f.p.l.A f.p.l.l.length f.p.l.c,.int .i64 f.q.s,.slice f.q.l.A f.q.l.l.length f.q.l.c]) ?_ rfl ⟨f,rfl,HF2.out.st4 hne Zo,below_st4 HB2.out⟩;simp [results,Tryz.results83,go_sem,r0,r1,r2,r3]
theorem r32_truth (b : Bool) (w : World) : Calls Tryz.prog 83 #[.bool b] w fun e w'=>GotF w w' (truF b).p (truF b).q e:=by
 cases b
 ·exact r32_truth_false w
 ·exact r32_truth_true w
def FtP (w w' : World) (r : FrR) (e : Ending) : Prop:=∃ f : Frc,e = .returned (.tuple #[f.v,.int .i64 r.e])∧(r.e=0→RG (Nw w.heap.size w') w' f r.p r.q)∧(r.e≠0→f=Frc.zero)∧Below w.heap.size w w'
theorem factF_hit {s : ByteArray} {l : List FT} {j : Nat} {x : FT} {r : List FT} (hd : l.drop j=x :: r) (h : (x.nm.toList == s.toList)=true) : factF s (l.drop j)=wholeF x.v:=by
 rw [hd]; unfold factF; rw [if_pos (by unfold sameB; exact h)]
theorem factF_on {s : ByteArray} {l : List FT} {j : Nat} {x : FT} {r : List FT} (hd : l.drop j=x :: r) (h : (x.nm.toList == s.toList)=false) : factF s (l.drop j)=factF s r:=by
 (rw [hd]; conv=>lhs; unfold factF);rw [if_neg (by unfold sameB; rw [h]; decide)]
theorem r32_fact (l : Sl FT) (s : ByteArray) (w : World) (hl : FactsAt (· < w.heap.size) w l) (hv : ∀ x,x ∈ l.l→-9223372036854775808≤x.v∧x.v≤9223372036854775807) : Calls Tryz.prog 76 #[.slice l.A l.l.length l.c,.string s] w fun e w'=>FtP w w' (factF s l.l) e:=by
 have hn:=hl.rd.len;have HL:=Zh hl;have HVV:=Zh hv;clear hl hv;obtain ⟨A,c,l⟩:=l;simp only at hn HVV;simp only;obtain ⟨V,hV⟩ : ∃ V,factF s l=V:=⟨_,rfl⟩;rw [hV];have HV:=Zh hV;clear hV;have HB0 : Hid (Below w.heap.size w (w.alloc (.cells Zf 71))):=Zh qbl;have HR0:=Zh (Blk.new w 71 Zf);go_enter Tryz.func76,Tryz.ntmps76;go_wp2_with fail;generalize w.alloc (.cells _ 71)=w1 at *;go_loopw [6] (fun i wr=>∃ (j : Nat),j≤l.length∧i = .int .i64 j∧Below w1.heap.size w1 wr∧Hid (factF s (l.drop j)=V)) (fun i _=>l.length - (intOf i).toNat)
 case atStart=>exact ⟨0,by omega,rfl,Below.refl _ _,HV⟩
 case round =>
  obtain ⟨j,hj,rfl,hbel,HG⟩:=hrel;have HBR:=Zt HB0 hbel;have HBEL:=Zh hbel;by_cases hlt : j<l.length
  ·obtain ⟨b,q,hA,hbl,hcl⟩:=(HL.out.later HBR.out).rd.at1 hlt;have HX:=Zh (HVV.out _ (List.getElem_mem hlt));have HD:=Zh (List.drop_eq_getElem_cons hlt);simp only at hA hcl;subst hA;generalize l[j]=x at *;obtain ⟨xn,xv⟩:=x;obtain ⟨g0,g1⟩:=hcl.c2;clear hcl;by_cases hy : xn=s
   ·(have heq : (xn.toList == s.toList)=true:=by rw [bytes_beq]; simpa using hy);have HVW:=Zh (HG.out.symm.trans (factF_hit HD.out heq));clear hy HG HD HV;go_wp2_with fail;refine (r05_whole xv _ HX.out.1 HX.out.2).mono ?_;rintro e w3 hp;obtain ⟨f,rfl,hf,hb1⟩:=hp.yes rfl (ok_whole (n:=xv) HX.out.1 HX.out.2);have HF:=Zh hf;have HB3:=Zt HBR hb1;have HR3:=Zh (HR0.out.later (HBEL.out.trans (hb1.mono HBEL.out.size)));have hwr : w.heap.size<wr.heap.size:=(HR0.out.later HBEL.out).lt;clear hf hb1 hp g0 g1 hbel hbl;simp only [Frc.v];have HF2 : Hid (RG (Nw wr.heap.size (w3.alloc (.cells (Zc f) 71))) (w3.alloc (.cells (Zc f) 71)) f xv 1):=Zh (HF.out.nw Zl (Below.alloc Zz Zl _));have HB4 : Hid (Below w.heap.size w (w3.alloc (.cells (Zc f) 71))):=Zh (HB3.out.alloc HB3.out.size _);have HR4 : Hid (Blk (w3.alloc (.cells (Zc f) 71)) w.heap.size 71 Zf):=Zh (HR3.out.alloc _);have HZ4:=Zh (Blk.new w3 71 (Zc f));(iterate 25 (first | go_values | go_skip | go_guarded | go_step | go_upon | go_back));generalize w3.alloc (.cells _ 71)=w4 at *;generalize w3.heap.size=gz at *;obtain ⟨r0,r1,r2,r3,rf,rz⟩:=HR4.out.b4;obtain ⟨z0,z1,z2,z3,zf,zz⟩:=HZ4.out.b4;clear HF HB3 HR3;go_wp2_with fail;(have hne : ∀ b,wr.heap.size≤b→b≠w.heap.size:=fun b hb=>by omega);rw [HVW.out];refine bodyPost_ret (v:=.tuple #[.agg #[.int .i64 f.p.s,.slice f.p.l.A f.p.l.l.length f.p.l.c,.int .i64 f.q.s,.slice f.q.l.A f.q.l.l.length f.q.l.c],.int .i64 0]) ?_ rfl ⟨f,rfl,fun _=>HF2.out.st4 hne (Nat.le_of_lt hwr),fun h=>absurd rfl h,below_st4 HB4.out⟩;simp [results,Tryz.results76,go_sem,r0,r1,r2,r3]
   ·(have heq : (xn.toList == s.toList)=false:=by rw [bytes_beq]; simpa using hy);have HG2:=Zh ((factF_on HD.out heq).symm.trans HG.out);clear hy HG HD;go_wp2_with fail;go_roundw
    case rel=>exact ⟨j+1,by omega,by go_num,hbel,HG2⟩
    case measure=>simp [intOf]; omega
  ·have HVN : Hid (V=FrR.bad 14):=Zh (by rw [← HG.out,List.drop_eq_nil_of_le Zo]; rfl);obtain ⟨r0,r1,r2,r3,rf,rz⟩:=(HR0.out.later hbel).b4;clear HG HV;go_wp2_with fail;rw [HVN.out];refine bodyPost_ret (v:=.tuple #[.agg Zf,.int .i64 14]) ?_ rfl ⟨Frc.zero,rfl,(fun h=>absurd h (by decide)),(fun _=>rfl),below_st4 HBR.out⟩;simp [results,Tryz.results76,go_sem,r0,r1,r2,r3]
structure NT where
  k : Bool
  f : Frc
  e : Int
def NT.enc (x : NT) : List Value:=[.bool x.k,.int .i64 x.f.p.s,.slice x.f.p.l.A x.f.p.l.l.length x.f.p.l.c,.int .i64 x.f.q.s,.slice x.f.q.l.A x.f.q.l.l.length x.f.q.l.c,.int .i64 x.e]
theorem NT.enc_k (x : NT) : x.enc.length=6:=rfl
def NT.zero : NT:=⟨false,Frc.zero,0⟩
def NtB (w : World) (m : Nat) (N : List NT) : Prop:=Blk w m 147 (N.flatMap NT.enc).toArray
theorem NtB.cell {w : World} {m : Nat} {N : List NT} (h : NtB w m N) {j i : Nat} {x : NT} (hx : N[j]? = some x) (hi : i<6) : w.cell? ⟨m,j * 6+i,none⟩=x.enc[i]?:=by
 unfold NtB at h;rw [h.cell];simp only [List.getElem?_toArray];exact flat_get NT.enc_k N j i x hx hi
theorem NtB.frozen {w : World} {m : Nat} {N : List NT} (h : NtB w m N) (i : Nat) : w.frozen? ⟨m,i,none⟩=false:=Blk.frozen h i
theorem NtB.set1 {w : World} {m : Nat} {N : List NT} (h : NtB w m N) {j i : Nat} {x y : NT} {u : Value} (hx : N[j]? = some x) (hi : i<6) (he : y.enc=x.enc.set i u) : NtB (w.setCell ⟨m,j * 6+i,none⟩ u) m (N.set j y):=by
 unfold NtB at h ⊢;have h1:=h.set_ (j * 6+i) u;rw [List.setIfInBounds_toArray] at h1;rw [flat_set NT.enc_k N j i x y u hx hi he];exact h1
theorem NtB.at_ {w : World} {m : Nat} {N : List NT} (h : NtB w m N) {j : Nat} {x : NT} (hx : N[j]? = some x) : w.cell? ⟨m,j * 6,none⟩=some (.bool x.k)∧w.cell? ⟨m,j * 6+1,none⟩=some (.int .i64 x.f.p.s)∧w.cell? ⟨m,j * 6+2,none⟩=some (.slice x.f.p.l.A x.f.p.l.l.length x.f.p.l.c)∧w.cell? ⟨m,j * 6+3,none⟩=some (.int .i64 x.f.q.s)∧w.cell? ⟨m,j * 6+4,none⟩=some (.slice x.f.q.l.A x.f.q.l.l.length x.f.q.l.c)∧w.cell? ⟨m,j * 6+5,none⟩=some (.int .i64 x.e)∧(∀ o,w.frozen? ⟨m,o,none⟩=false)∧m<w.heap.size :=
 ⟨h.cell hx (i:=0) (by decide),h.cell hx (i:=1) (by decide),h.cell hx (i:=2) (by decide),h.cell hx (i:=3) (by decide),h.cell hx (i:=4) (by decide),h.cell hx (i:=5) (by decide),h.frozen,Blk.lt h⟩
theorem NtB.store {w : World} {m : Nat} {N : List NT} (h : NtB w m N) {j : Nat} (hj : j<N.length) (f : Frc) (e : Int) : NtB ((((((w.setCell ⟨m,j * 6,none⟩ (.bool true)).setCell ⟨m,j * 6+1,none⟩ (.int .i64 f.p.s)).setCell ⟨m,j * 6+2,none⟩ (.slice f.p.l.A f.p.l.l.length f.p.l.c)).setCell ⟨m,j * 6+3,none⟩ (.int .i64 f.q.s)).setCell ⟨m,j * 6+4,none⟩ (.slice f.q.l.A f.q.l.l.length f.q.l.c)).setCell ⟨m,j * 6+5,none⟩ (.int .i64 e)) m (N.set j ⟨true,f,e⟩):=by
 obtain ⟨x,hx⟩ : ∃ x,N[j]? = some x:=⟨_,List.getElem?_eq_getElem hj⟩;obtain ⟨xk,⟨⟨xs,xl⟩,⟨ys,yl⟩⟩,xe⟩:=x;obtain ⟨⟨fs,fl⟩,⟨gs,gl⟩⟩:=f;(have hs : ∀ {M : List NT} {y : NT},M=N.set j y→M[j]? = some y:=fun h=>by rw [h,List.getElem?_set_self hj]);have h1:=h.set1 (i:=0) (y:=⟨true,⟨⟨xs,xl⟩,⟨ys,yl⟩⟩,xe⟩) (u:=.bool true) hx (by decide) rfl;have h2:=h1.set1 (i:=1) (y:=⟨true,⟨⟨fs,xl⟩,⟨ys,yl⟩⟩,xe⟩) (u:=.int .i64 fs) (hs rfl) (by decide) rfl;rw [List.set_set] at h2;have h3:=h2.set1 (i:=2) (y:=⟨true,⟨⟨fs,fl⟩,⟨ys,yl⟩⟩,xe⟩) (u:=.slice fl.A fl.l.length fl.c) (hs rfl) (by decide) rfl;rw [List.set_set] at h3;have h4:=h3.set1 (i:=3) (y:=⟨true,⟨⟨fs,fl⟩,⟨gs,yl⟩⟩,xe⟩) (u:=.int .i64 gs) (hs rfl) (by decide) rfl;rw [List.set_set] at h4;have h5:=h4.set1 (i:=4) (y:=⟨true,⟨⟨fs,fl⟩,⟨gs,gl⟩⟩,xe⟩) (u:=.slice gl.A gl.l.length gl.c) (hs rfl) (by decide) rfl;rw [List.set_set] at h5;have h6:=h5.set1 (i:=5) (y:=⟨true,⟨⟨fs,fl⟩,⟨gs,gl⟩⟩,e⟩) (u:=.int .i64 e) (hs rfl) (by decide) rfl;rw [List.set_set] at h6;exact h6
theorem NtB.keep {w w' : World} {m : Nat} {N : List NT} (h : NtB w m N) (hk : w'.heap[m]? = w.heap[m]?) : NtB w' m N:=by
 unfold NtB Blk at h ⊢;exact hk.trans h
structure FkSt (g m : Nat) (L : Sl LT) (T M : Sl FT) (X : Nat→Prop) (N : List NT) (w : World) : Prop where
  blk : Blk w g 88 #[.slice L.A L.l.length L.c,.slice (some ⟨m,0,none⟩) L.l.length L.l.length,.slice T.A T.l.length T.c,.slice M.A M.l.length M.c]
  row : NtB w m N
  len : N.length=L.l.length
  lets : LetsAt (Nm X w) w L
  trip : FactsAt (Nm X w) w T
  memb : FactsAt (Nm X w) w M
  memo : ∀ j x,N[j]? = some x→x.k=true→x.e=(evOf L.l T.l M.l j).e∧(x.e=0→RG (Nm X w) w x.f (evOf L.l T.l M.l j).p (evOf L.l T.l M.l j).q)
  gm : g≠m
  xm : X m
  xlt : ∀ b,X b→b<w.heap.size
section
variable {g m : Nat} {L : Sl LT} {T M : Sl FT} {X : Nat→Prop} {N : List NT} {w w' : World}
theorem FkSt.mw (h : FkSt g m L T M X N w) : m<w.heap.size:=h.xlt m h.xm
theorem FkSt.more {Y : Nat→Prop} (h : FkSt g m L T M X N w) (hb : Below w.heap.size w w') (hY : Mor X Y w w') : FkSt g m L T M Y N w' :=
 ⟨h.blk.later hb,h.row.keep (hb.block m h.mw),h.len,h.lets.keep (fun b hb'=>hb.block b hb'.1) (fun _ hb'=>hY.nm hb hb'),h.trip.keep (fun b hb'=>hb.block b hb'.1) (fun _ hb'=>hY.nm hb hb'),h.memb.keep (fun b hb'=>hb.block b hb'.1) (fun _ hb'=>hY.nm hb hb'),fun j x hx hk=>by
  obtain ⟨h1,h2⟩:=h.memo j x hx hk
  exact ⟨h1,fun h0=>(h2 h0).more hb hY⟩,h.gm,hY.1 m h.xm,fun b hy=>by
  rcases hY.2 b hy with hx | hx
  ·exact Nat.lt_of_lt_of_le (h.xlt b hx) hb.size
  ·exact hx.2⟩
theorem FkSt.later (h : FkSt g m L T M X N w) (hb : Below w.heap.size w w') : FkSt g m L T M X N w':=h.more hb (Mor.refl _ _ _)
theorem FkSt.less {Y : Nat→Prop} (h : FkSt g m L T M Y N w) (hXY : ∀ b,X b→Y b) (hm : X m) : FkSt g m L T M X N w :=
 ⟨h.blk,h.row,h.len,h.lets.mono fun _ hb=>hb.less hXY,h.trip.mono fun _ hb=>hb.less hXY,h.memb.mono fun _ hb=>hb.less hXY,fun j x hx hk=>by
  obtain ⟨h1,h2⟩:=h.memo j x hx hk;exact ⟨h1,fun h0=>(h2 h0).mono fun _ hb=>hb.less hXY⟩,h.gm,hm,fun b hx=>h.xlt b (hXY b hx)⟩
theorem FkSt.set_ (h : FkSt g m L T M X N w) {a : Addr} (ha : X a.block) (hg : g≠a.block) (hm : m≠a.block) (u : Value) : FkSt g m L T M X N (w.setCell a u):=by
 have hk : ∀ b,Nm X w b→(w.setCell a u).heap[b]? = w.heap[b]?:=fun b hb=>Below.heap_setCell w a u b (fun e=>hb.2 (by rw [e]; exact ha));have hn : ∀ b,Nm X w b→Nm X (w.setCell a u) b:=fun b hb=>⟨by simpa using hb.1,hb.2⟩
 exact ⟨h.blk.far hg u,h.row.keep (Below.heap_setCell w a u m hm),h.len,h.lets.keep hk hn,h.trip.keep hk hn,h.memb.keep hk hn,fun j x hx hk'=>by
  obtain ⟨h1,h2⟩:=h.memo j x hx hk';exact ⟨h1,fun h0=>((h2 h0).keep hk).mono hn⟩,h.gm,h.xm,fun b hx=>by simpa using h.xlt b hx⟩
theorem FkSt.stX {Y : Nat→Prop} {a : Nat} {x y z v : Value} (h : FkSt g m L T M Y N w) (h1 : Y a) (hg : g≠a) (hm : m≠a) (hXY : ∀ b,X b→Y b) (hX : X m) : FkSt g m L T M X N ((((w.setCell ⟨a,0,none⟩ x).setCell ⟨a,1,none⟩ y).setCell ⟨a,2,none⟩ z).setCell ⟨a,3,none⟩ v) :=
 ((((h.set_ h1 hg hm x).set_ h1 hg hm y).set_ h1 hg hm z).set_ h1 hg hm v).less hXY hX
theorem FkSt.store (h : FkSt g m L T M X N w) {k : Nat} {f : Frc} (hk : k<L.l.length) (hg : w.grownBy w' (some m)) (hr : NtB w' m (N.set k ⟨true,f,(evOf L.l T.l M.l k).e⟩)) (hf : (evOf L.l T.l M.l k).e=0→RG (Nm X w) w f (evOf L.l T.l M.l k).p (evOf L.l T.l M.l k).q) : FkSt g m L T M X (N.set k ⟨true,f,(evOf L.l T.l M.l k).e⟩) w' :=
 ⟨h.blk.gm hg h.gm,hr,by rw [List.length_set]; exact h.len,h.lets.grow h.xm hg,h.trip.grow h.xm hg,h.memb.grow h.xm hg,fun j x hx hkn=>by
  rw [List.getElem?_set] at hx;by_cases hkj : k=j
  ·subst hkj;rw [if_pos rfl,if_pos (by rw [h.len]; exact hk)] at hx;injection hx with hx;subst hx;exact ⟨rfl,fun h0=>(hf h0).grow h.xm hg⟩
  ·rw [if_neg hkj] at hx;obtain ⟨h1,h2⟩:=h.memo j x hx hkn;exact ⟨h1,fun h0=>(h2 h0).grow h.xm hg⟩,h.gm,h.xm,fun b hx=>Nat.lt_of_lt_of_le (h.xlt b hx) hg.size⟩
def FkP (g m : Nat) (L : Sl LT) (T M : Sl FT) (X : Nat→Prop) (w w' : World) (r : FrR) (e : Ending) : Prop :=
  (∃ f : Frc,e = .returned (.tuple #[f.v,.int .i64 r.e])∧(r.e=0→RG (Nm X w') w' f r.p r.q))∧(∃ N',FkSt g m L T M X N' w')∧w.grownBy w' (some m)
theorem FkP.cast {r r' : FrR} {e : Ending} (h : r=r') (x : FkP g m L T M X w w' r' e) : FkP g m L T M X w w' r e:=by rw [h]; exact x
end
def ValK (g m : Nat) (L : Sl LT) (T M : Sl FT) (n k : Nat) : Prop:=∀ (e : PT) (X : Nat→Prop) (N : List NT) (W : World),okE k e=true→PT.At (Nm X W) W e→FkSt g m L T M X N W →
  Calls Tryz.prog 50 #[.pointer (some ⟨g,0,none⟩),e.v,.int .i64 n] W fun r w'=>FkP g m L T M X W w' (evN T.l M.l L.l n k e) r
theorem cmp_zero {p q r s : Int} (h : FracOK p q) (h' : FracOK r s) (h0 : cmpI p q r s=0) : p=r∧q=s:=by
 rw [cmpI_sign h.pos h'.pos] at h0;exact h.same h' (by have:=Int.sign_eq_zero_iff_zero.1 h0; omega)
theorem setRowN {w : World} {m : Nat} (i : Nat) (u : Value) : w.grownBy (w.setCell ⟨m,i,none⟩ u) (some m) :=
 ⟨rfl,rfl,rfl,by simp,fun j _ hr=>Below.heap_setCell w _ u j (fun e=>hr (by rw [e]))⟩
end Go.Proofs.YtcgocdhhneckhaaGreat
