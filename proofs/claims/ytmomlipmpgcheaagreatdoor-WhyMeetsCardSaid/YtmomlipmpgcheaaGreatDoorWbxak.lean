/- Walks of package big: Compare, Neg. Right integers in memory. -/
import Derived.Test.YtmomlipmpgcheaaGreatDoorWbxag
import Derived.Laws.Bits128
import Derived.Laws.BitsAllLaws
set_option linter.unusedSimpArgs false
set_option linter.unusedVariables false
set_option maxRecDepth 100000
set_option maxHeartbeats 6400000
namespace Go.Proofs.YtmomlipmpgcheaaGreatDoor
open Go.RowKit
structure RB (w : World) (a : Big) (x : Int) : Prop where
  rd : Rd (· < w.heap.size) 1 ienc w a.l
  s : a.s=x.sign
  l : a.l.l=digs x.natAbs
  fits : Fits x
section
variable {w w' : World} {a : Big} {x : Int}
theorem RB.d (h : RB w a x) : a.d=bigD x:=by unfold Big.d bigD; rw [h.s,h.l]
theorem RB.norm (h : RB w a x) : Norm a.l.l:=by rw [h.l]; exact digs_norm _
theorem RB.val (h : RB w a x) : val a.l.l=x.natAbs:=by rw [h.l,digs_val]
theorem RB.len (h : RB w a x) : a.l.l.length≤60:=by rw [h.l]; exact fits_iff.1 h.fits
theorem RB.later (h : RB w a x) (hb : Below w.heap.size w w') : RB w' a x:=⟨h.rd.later hb,h.s,h.l,h.fits⟩
theorem RB.mk' (hr : Rd (· < w.heap.size) 1 ienc w a.l) (hd : a.d=bigD x) (hf : Fits x) : RB w a x:=by
 unfold Big.d bigD at hd;injection hd with h1 h2;exact ⟨hr,h1,h2,hf⟩
theorem BigP.rb {e : Ending} (h : BigP w w' (bigD x) e) (hf : Fits x) : ∃ a : Big,e = .returned a.v∧RB w' a x∧Below w.heap.size w w':=by
 obtain ⟨a,rfl,hd,hr,hb⟩:=h;exact ⟨a,rfl,RB.mk' hr.nwlt hd hf,hb⟩
end
theorem right_ok (a : Big) (x : Int) (w : World) (ha : RB w a x) : Calls Tryz.prog 180 #[a.v] w fun e w'=>e = .returned (.bool true)∧Below w.heap.size w w':=by
 refine (big_right a w ha.rd).mono ?_;rintro e w' ⟨rfl,hb⟩;exact ⟨by rw [ha.d,bigD_right.2 ha.fits],hb⟩
theorem ucmp_signs {x y : Int} (h : x.sign≠y.sign) : ucmp x.sign y.sign=ucmp x y:=by
 rcases Int.lt_trichotomy x 0 with hx | hx | hx <;> rcases Int.lt_trichotomy y 0 with hy | hy | hy <;>
  first
  | (subst hx; subst hy; exact absurd rfl h)
  | (rw [Int.sign_eq_neg_one_of_neg hx,Int.sign_eq_neg_one_of_neg hy] at h; exact absurd rfl h)
  | (rw [Int.sign_eq_one_of_pos hx,Int.sign_eq_one_of_pos hy] at h; exact absurd rfl h)
  | (rw [Int.sign_eq_neg_one_of_neg hx,Int.sign_eq_one_of_pos hy,ucmp_lt Zo,ucmp_lt Zo])
  | (rw [Int.sign_eq_one_of_pos hx,Int.sign_eq_neg_one_of_neg hy,ucmp_gt Zo,ucmp_gt Zo])
  | (subst hx; rw [Int.sign_eq_one_of_pos hy,Int.sign_zero,ucmp_lt Zo,ucmp_lt Zo])
  | (subst hx; rw [Int.sign_eq_neg_one_of_neg hy,Int.sign_zero,ucmp_gt Zo,ucmp_gt Zo])
  | (subst hy; rw [Int.sign_eq_one_of_pos hx,Int.sign_zero,ucmp_gt Zo,ucmp_gt Zo])
  | (subst hy; rw [Int.sign_eq_neg_one_of_neg hx,Int.sign_zero,ucmp_lt Zo,ucmp_lt Zo])
theorem ucmp_abs {x y : Int} (h : x.sign=y.sign) : x.sign * ucmp (x.natAbs : Int) (y.natAbs : Int)=ucmp x y:=by
 rcases Int.lt_trichotomy x 0 with hx | hx | hx
 ·have hy : y<0:=by
   rw [Int.sign_eq_neg_one_of_neg hx] at h;exact Int.sign_eq_neg_one_iff_neg.1 h.symm
  rw [Int.sign_eq_neg_one_of_neg hx];rcases Int.lt_trichotomy x y with g | g | g
  ·rw [ucmp_lt g,ucmp_gt Zo]; rfl
  ·rw [ucmp_eq g,ucmp_eq Zo]; rfl
  ·rw [ucmp_gt g,ucmp_lt Zo]; rfl
 ·subst hx;rw [Int.sign_zero] at h;have hy : y=0:=Int.sign_eq_zero_iff_zero.1 h.symm;subst hy; rfl
 ·have hy : 0<y:=by
   rw [Int.sign_eq_one_of_pos hx] at h;exact Int.sign_eq_one_iff_pos.1 h.symm
  rw [Int.sign_eq_one_of_pos hx,Int.one_mul,show (x.natAbs : Int)=x by omega,show (y.natAbs : Int)=y by omega]
theorem sign_range (x : Int) : -1≤x.sign∧x.sign≤1:=by
 rcases Int.lt_trichotomy x 0 with h | h | h
 ·rw [Int.sign_eq_neg_one_of_neg h]; omega
 ·rw [h]; simp
 ·rw [Int.sign_eq_one_of_pos h]; omega
theorem ucmp_range (x y : Int) : -1≤ucmp x y∧ucmp x y≤1:=by rw [ucmp_sign]; exact sign_range _
theorem mul_small {a b : Int} (h1 : -1≤a) (h2 : a≤1) (h3 : -1≤b) (h4 : b≤1) : -1≤a * b∧a * b≤1:=by
 rcases (by omega : a = -1∨a=0∨a=1) with rfl | rfl | rfl <;> omega
theorem Nw.of {m b g h : Nat} {w : World} {x y : Value} (hb : m≤b∧b<w.heap.size) : Nw m ((w.setCell ⟨g,0,none⟩ x).setCell ⟨h,1,none⟩ y) b:=⟨hb.1,by simpa using hb.2⟩
theorem wr64 {z : Int} (h1 : -9223372036854775808≤z) (h2 : z≤9223372036854775807) : IntKind.i64.wrap z=z:=by rw [IntKind.wrap_i64]; omega
theorem big_cmp (a b : Big) (x y : Int) (w : World) (ha : RB w a x) (hb : RB w b y) : Calls Tryz.prog 171 #[a.v,b.v] w fun e w'=>e = .returned (.int .i64 (ucmp x y))∧Below w.heap.size w w':=by
 obtain ⟨s,⟨A,c,l⟩⟩:=a;obtain ⟨t,⟨B,d,m⟩⟩:=b;have hs:=ha.s;have ht:=hb.s;simp only at hs ht;have hsr:=sign_range x;have htr:=sign_range y;rw [← hs] at hsr;rw [← ht] at htr;have HA:=Zh ha;have HB:=Zh hb;have HS:=Zh (And.intro hs ht);clear ha hb hs ht;simp only [Big.v];go_enter Tryz.func171,Tryz.ntmps171;go_wp2_with fail;refine (right_ok ⟨s,⟨A,c,l⟩⟩ x _ (HA.out.later qbl)).mono ?_;rintro e w1 ⟨rfl,hb1⟩;obtain ⟨B_a,a0,a1,af,az⟩:=Zb2 (Zk1 (g:=w.heap.size) (t:=92) (cs:=#[.int .i64 s,.slice A l.length c]) hb1);obtain ⟨B_b,b0,b1,bf,bz⟩:=Zb2 (Zk1 (g:=w.heap.size+1) (t:=92) (cs:=#[.int .i64 t,.slice B m.length d]) hb1);have hB1 : Below w.heap.size w w1:=qbv;clear hb1;go_wp2_with fail;refine (right_ok ⟨t,⟨B,d,m⟩⟩ y _ (HB.out.later hB1)).mono ?_;rintro e w2 ⟨rfl,hb2⟩;clear a0 a1 af b0 b1 bf;obtain ⟨B_a,a0,a1,af,az⟩:=Zb2 (Zks B_a hb2);obtain ⟨B_b,b0,b1,bf,bz⟩:=Zb2 (Zks B_b hb2);have hB2 : Below w.heap.size w w2:=qbv;clear hb2;by_cases hst : s=t
 ·subst hst;go_wp2_with fail;refine wp_region_T (fun W=>W.cell? ⟨w.heap.size,0,none⟩=some (.int .i64 s)∧W.cell? ⟨w.heap.size,1,none⟩=some (.slice A l.length c)∧W.cell? ⟨w.heap.size+1,1,none⟩=some (.slice B m.length d)) (fun _=>false) Zy ⟨a0,a1,b1⟩ (fun hHeld=>?_);refine Zr 0 ?_;refine Zr 1 ?_;refine Zr 2 ?_;refine Zr 3 ?_;refine Zr 4 ?_;refine Zr 5 ?_;clear hHeld;refine Zn 6 ?_;go_wp2_with fail;refine (big_compare ⟨A,c,l⟩ ⟨B,d,m⟩ _ (HA.out.later (Below.drew hB2)).rd (HB.out.later (Below.drew hB2)).rd HA.out.norm HB.out.norm).mono ?_;rintro e w3 ⟨rfl,hb3⟩;have hul:=HA.out.val;have hum:=HB.out.val;simp only at hul hum;rw [hul,hum];clear a0 a1 af b0 b1 bf;obtain ⟨B_a,a0,a1,af,az⟩:=Zb2 (Zks B_a hb3);obtain ⟨B_b,b0,b1,bf,bz⟩:=Zb2 (Zk0 (t:=92) (cs:=#[.int .i64 s,.slice B m.length d]) B_b hb3);have hB3 : Below w.heap.size w w3:=qbv;have hu:=ucmp_range x.natAbs y.natAbs;have HU : Hid (s * ucmp x.natAbs y.natAbs=ucmp x y):=Zh (by rw [HS.out.1]; exact ucmp_abs (by rw [← HS.out.1,← HS.out.2]));generalize ucmp (x.natAbs : Int) (y.natAbs : Int)=u at *;have hsu:=mul_small hsr.1 hsr.2 hu.1 hu.2;clear hb3 hul hum;go_wp2_with fail;refine And.intro (by first | exact fun _=>⟨a0,a1,b1⟩ | exact ⟨a0,a1,b1⟩) ?_;have hHeld:=(⟨a0,a1,b1⟩ : w3.cell? ⟨w.heap.size,0,none⟩=some (.int .i64 s)∧w3.cell? ⟨w.heap.size,1,none⟩=some (.slice A l.length c)∧w3.cell? ⟨w.heap.size+1,1,none⟩=some (.slice B m.length d));refine Zr 7 ?_;refine Zr 8 ?_;refine Ze ?_;clear hHeld;go_wp2_with fail;go_ret;exact ⟨ret_int (by rw [wr64 Zo Zo]; exact HU.out),hB3⟩
 ·go_wp2_with fail;refine (cmp_int s t _).mono ?_;rintro e w' ⟨rfl,rfl⟩;go_wp2_with fail;go_ret;exact ⟨ret_int (by rw [HS.out.1,HS.out.2]; exact ucmp_signs (by rw [← HS.out.1,← HS.out.2]; exact hst)),hB2⟩
theorem big_neg (a : Big) (x : Int) (w : World) (ha : RB w a x) : Calls Tryz.prog 175 #[a.v] w fun e w'=>BigP w w' (bigD (-x)) e:=by
 obtain ⟨s,⟨A,c,l⟩⟩:=a;have hs:=ha.s;have hlen:=ha.len;simp only at hs hlen;have hsr:=sign_range x;rw [← hs] at hsr;have HA:=Zh ha;have HS:=Zh hs;clear ha hs;simp only [Big.v];go_enter Tryz.func175,Tryz.ntmps175;go_wp2_with fail;refine (right_ok ⟨s,⟨A,c,l⟩⟩ x _ (HA.out.later qbl)).mono ?_;rintro e w1 ⟨rfl,hb1⟩;obtain ⟨B_a,a0,a1,af,az⟩:=Zb2 (Zk1 (g:=w.heap.size) (t:=92) (cs:=#[.int .i64 s,.slice A l.length c]) hb1);obtain ⟨B_b,b0,b1,bf,bz⟩:=Zb2 (Zk1 (g:=w.heap.size+1) (t:=92) (cs:=Zg) hb1);have hB1 : Below w.heap.size w w1:=qbv;clear hb1;go_wp2_with fail;refine wp_region_T (fun W=>W.cell? ⟨w.heap.size,0,none⟩=some (.int .i64 s)∧W.cell? ⟨w.heap.size,1,none⟩=some (.slice A l.length c)) (fun i=>7≤i) Zy ⟨a0,a1⟩ (fun hHeld=>?_);refine Zr 0 ?_;refine Zr 1 ?_;refine Zr 2 ?_;refine Zr 3 ?_;refine Zr 4 ?_;clear hHeld;refine Zn 5 ?_;go_wp2_with fail;refine (clone_int ⟨A,c,l⟩ _ (HA.out.later (Below.drew hB1)).rd (by simp only; omega)).mono ?_;rintro e w2 ⟨A',c',rfl,hown,hb2⟩;clear a0 a1 af b0 b1 bf;obtain ⟨B_a,a0,a1,af,az⟩:=Zb2 (Zks B_a hb2);obtain ⟨B_b,b0,b1,bf,bz⟩:=Zb2 (Zks B_b hb2);have hB2 : Below w.heap.size w w2:=qbv;have hs1:=hB1.size;have hs2 : w1.heap.size≤w2.heap.size:=hb2.size;have HO : Hid (Rd (Nw w1.heap.size w2) 1 ienc w2 ⟨A',c',l⟩):=Zh (hown.rd ienc_k);clear hb2 hown;go_wp2_with fail;refine And.intro (by first | exact fun _=>⟨a0,a1⟩ | exact ⟨a0,a1⟩) ?_;refine Zn 6 ?_;go_wp2_with fail;refine (big_signed (-s) ⟨A',c',l⟩ _ HO.out (fun _ h=>h.lt)).mono ?_;rintro e w3 ⟨⟨rs,⟨rA,rc,rl⟩⟩,rfl,hrd,hrr,hb3⟩;clear a0 a1 af b0 b1 bf;obtain ⟨B_a,a0,a1,af,az⟩:=Zb2 (Zks B_a hb3);obtain ⟨B_b,b0,b1,bf,bz⟩:=Zb2 (Zks B_b hb3);have hB3 : Below w.heap.size w w3:=qbv;have HRD:=Zh hrd;have HRR:=Zh hrr;have HSZ:=Zh hb3.size;clear hb3 hrd hrr;simp only [Big.v];(have hne : ∀ b,Nw w1.heap.size w2 b→b≠w.heap.size+1:=fun b hb=>by have:=hb.1; omega);have hnw : ∀ b,Nw w1.heap.size w2 b→w.heap.size≤b∧b<w3.heap.size:=fun b hb=>⟨by have:=hb.1; omega,Nat.lt_of_lt_of_le hb.2 HSZ.out⟩;have HSG : Hid (signedD (-s) l=bigD (-x)):=Zh (signed_is HA.out.norm.ok (by rw [Int.natAbs_neg]; exact HA.out.val) (fun _=>by rw [HS.out,Int.sign_neg]));go_wp2_with fail;refine And.intro (by first | exact fun _=>⟨a0,a1⟩ | exact ⟨a0,a1⟩) ?_;refine Zn 7 ?_;go_wp2_with fail;(try simp only [QT]);(try (with_reducible refine And.intro (fun h=>by simp at h) ?_));refine Ze ?_;go_wp2_with fail;refine bodyPost_ret (v:=.agg #[.int .i64 rs,.slice rA rl.length rc]) ?_ rfl ⟨⟨rs,⟨rA,rc,rl⟩⟩,rfl,HRD.out.trans HSG.out,((HRR.out.far (fun b hb=>hne b hb) _).far (fun b hb=>hne b hb) _).mono (fun b hb=>Nw.of (hnw b hb)),qbh⟩;simp [results,Tryz.results175,go_sem,b0,b1]
theorem i64_mask20 (n : Int) : bits .and .i64 n 1048575=n % 1048576:=by
 have h1 : (BitVec.ofInt 64 1048575).toNat=2 ^ 20 - 1:=by decide
 have key : (BitVec.ofInt 64 n &&& BitVec.ofInt 64 1048575).toNat=(n % ((2 ^ 64 : Nat) : Int)).toNat % 2 ^ 20:=by
  rw [BitVec.toNat_and,BitVec.toNat_ofInt,h1,Nat.and_two_pow_sub_one_eq_mod]
 show IntKind.i64.wrap ((BitVec.ofInt 64 n &&& BitVec.ofInt 64 1048575).toNat : Nat)=n % 1048576;rw [key,IntKind.wrap_i64];omega
theorem i64_mask1 (n : Int) : bits .and .i64 n 1=n % 2:=by
 have h1 : (BitVec.ofInt 64 1).toNat=2 ^ 1 - 1:=by decide
 have key : (BitVec.ofInt 64 n &&& BitVec.ofInt 64 1).toNat=(n % ((2 ^ 64 : Nat) : Int)).toNat % 2 ^ 1:=by
  rw [BitVec.toNat_and,BitVec.toNat_ofInt,h1,Nat.and_two_pow_sub_one_eq_mod]
 show IntKind.i64.wrap ((BitVec.ofInt 64 n &&& BitVec.ofInt 64 1).toNat : Nat)=n % 2;rw [key,IntKind.wrap_i64];omega
theorem u64_mask20 {n : Int} (h0 : 0≤n) (h1 : n<18446744073709551616) : bits .and .u64 n 1048575=n % 1048576:=by
 rw [u64_and n 1048575 h0 h1 (by decide) (by decide),show (1048575 : Int).toNat=1048575 from rfl,nat_mask20];omega
theorem i64_join20 {r x : Int} (hr : 0≤r) (hr1 : r<4398046511104) (hx : 0≤x) (hx1 : x<1048576) : bits .or .i64 (r * 1048576) x=r * 1048576+x :=
 bits_join .i64 63 (by decide) (fun n h0 h1=>by rw [IntKind.wrap_i64]; omega) 20 _ _ Zo Zo Zo hx Zo Zo
theorem u64_joinp {u d : Int} {k : Nat} (hu : 0≤u) (hk : u<2 ^ k) (hd : 0≤d) (hs : u+d * 2 ^ k<18446744073709551616) : bits .or .u64 u (d * 2 ^ k)=u+d * 2 ^ k:=by
 have hp : (0 : Int)<2 ^ k:=Int.pow_pos Zo;have hdp : 0≤d * 2 ^ k:=Int.mul_nonneg hd Zo;rw [u64_or u (d * 2 ^ k) hu Zo hdp Zo];obtain ⟨a,rfl⟩:=Int.eq_ofNat_of_zero_le hu;obtain ⟨b,rfl⟩:=Int.eq_ofNat_of_zero_le hd;(have ha : a<2 ^ k:=by exact_mod_cast hk);(have e : ((b : Int) * 2 ^ k)=((b * 2 ^ k : Nat) : Int):=by push_cast; rfl);rw [e,Int.toNat_natCast,Int.toNat_natCast,← Nat.shiftLeft_eq,or_shift ha,Nat.shiftLeft_eq]
 push_cast; rfl
theorem set_mid {done rest : List Int} {z x : Int} : (done ++ z :: rest).set done.length x=done ++ x :: rest:=by
 rw [List.set_append_right _ _ Zl]; simp
structure AddS (a b : List Int) (i : Nat) (c : Int) (dn : List Int) : Prop where
  len : dn.length=i
  eq : addC 0 a b=dn ++ addC c (a.drop i) (b.drop i)
  c0 : 0≤c
  c1 : c≤1
theorem AddS.start (a b : List Int) : AddS a b 0 0 []:=⟨rfl,rfl,by omega,by omega⟩
theorem headD_drop {b : List Int} {i : Nat} : (b.drop i).headD 0=if h : i<b.length then b[i] else 0:=by
 split
 ·rename_i h; rw [List.drop_eq_getElem_cons h]; rfl
 ·rename_i h; rw [List.drop_eq_nil_of_le Zo]; rfl
theorem AddS.next {a b dn : List Int} {i : Nat} {c n : Int} (h : AddS a b i c dn) (ha : DigOK a) (hb : DigOK b) (hi : i<a.length) (hn : n=c+a[i]+(b.drop i).headD 0) : AddS a b (i+1) (n / 1048576) (dn ++ [n % 1048576])∧0≤n∧n<2097152:=by
 have h1:=ha.get hi;have h2:=digOK_head (hb.drop i);have h3:=h.c0;have h4:=h.c1;refine ⟨⟨by rw [List.length_append,h.len]; rfl, ?_,by omega,by omega⟩,by omega,by omega⟩;rw [h.eq,List.drop_eq_getElem_cons hi,addC,← hn,List.tail_drop];simp
theorem AddS.done {a b dn : List Int} {c : Int} (h : AddS a b a.length c dn) : dn ++ [c]=addC 0 a b:=by
 rw [h.eq,List.drop_length]; rfl
theorem AddS.zeros {a b dn : List Int} {i : Nat} {c x : Int} (h : AddS a b i c dn) {n : Nat} : (dn ++ List.replicate (n+1) 0).set i x=(dn ++ [x]) ++ List.replicate n 0:=by
 rw [← h.len,List.replicate_succ,set_mid]; simp
theorem addC_trim {a b : List Int} (ha : DigOK a) (hb : DigOK b) (h : b.length≤a.length) {n : Nat} (hn : val a+val b=n) : trimL (addC 0 a b)=digs n:=by
 rw [trimL_is (addC_ok ha hb Zo Zo),addC_val h];congr 1;omega
theorem trim_oi {B g c : Nat} {L : List Int} (w : World) (h : OI B w g c L) {n : Nat} (hn : n=L.length) : Calls Tryz.prog 192 #[.slice (some ⟨g,0,none⟩) n c] w fun e w'=>e = .returned (.slice (some ⟨g,0,none⟩) (trimL L).length c)∧w=w':=by
 subst hn;exact big_trim ⟨some ⟨g,0,none⟩,c,L⟩ w h.rd
theorem SlP.trim {B g c : Nat} {L : List Int} {w w' : World} (h : OI B w' g c L) (hg : w.heap.size≤B) (hb : Below w.heap.size w w') : SlP w w' (trimL L) (.returned (.slice (some ⟨g,0,none⟩) (trimL L).length c)):=by
 have ho:=Own.takeN h (trimL L).length;rw [← trimL_take] at ho;exact ⟨⟨some ⟨g,0,none⟩,c,trimL L⟩,rfl,rfl,ho.mono hg,hb⟩
theorem big_add1 (a b : Sl Int) (w : World) (ha : Rd (· < w.heap.size) 1 ienc w a) (hb : Rd (· < w.heap.size) 1 ienc w b) (na : DigOK a.l) (nb : DigOK b.l) (hl1 : a.l.length≤200) (hlb : b.l.length≤a.l.length) : Calls Tryz.prog 185 #[a.v,b.v] w fun e w'=>SlP w w' (trimL (addC 0 a.l b.l)) e:=by
 obtain ⟨A,c,l⟩:=a;obtain ⟨B,d,m⟩:=b;have hl:=ha.len;have hm:=hb.len;simp only at hl hm hl1 hlb;have HA:=Zh ha;have HB:=Zh hb;have NA:=Zh na;have NB:=Zh nb;clear ha hb na nb;simp only [Sl.v]
 have hmk : ∀ W : World,(Instr.makeSlice 37 (.int .i64 ((l.length : Int)+1)) (.int .i64 ((l.length : Int)+1))).run Tryz.prog W = .ok (.slice (some ⟨W.heap.size,0,none⟩) (l.length+1) (l.length+1)) (W.alloc (.cells (ints (List.replicate (l.length+1) 0)) 3)):=fun W=>by
  have h:=make_ints (l.length+1) Zo W;rw [show ((l.length+1 : Nat) : Int)=(l.length : Int)+1 by omega] at h;exact h
 go_enter Tryz.func185,Tryz.ntmps185;go_wp2_with fail;clear hmk
 have hO : OI w.heap.size (w.alloc (.cells (ints (List.replicate (l.length+1) 0)) 3)) w.heap.size (l.length+1) (List.replicate (l.length+1) 0):=by
  have h:=OI.new w (List.replicate (l.length+1) 0) (by rw [List.length_replicate]; unfold maxLen; omega)
  rwa [List.length_replicate] at h
 have HO:=Zh hO;clear hO;have HB0 : Hid (Below w.heap.size w (w.alloc (.cells (ints (List.replicate (l.length+1) 0)) 3))):=Zh qbl;generalize w.alloc (.cells (ints (List.replicate (l.length+1) 0)) 3)=w0 at *;go_loopw [22,6] (fun v u wr=>∃ (k : Nat) (cr : Int) (dn : List Int),k≤l.length∧v = .int .i64 k∧u = .int .i64 cr∧0≤cr∧cr≤1∧Hid (AddS l m k cr dn)∧Hid (OI w.heap.size wr w.heap.size (l.length+1) (dn ++ List.replicate (l.length+1 - k) 0))∧Below w.heap.size w wr) (fun v _ _=>l.length - (intOf v).toNat)
 case atStart=>exact ⟨0,0,[],by omega,rfl,rfl,by omega,by omega,Zh (AddS.start l m),HO,HB0.out⟩
 case round =>
  obtain ⟨k,cr,dn,hk,rfl,rfl,hc0,hc1,HS,HP,hbel⟩:=hrel;by_cases hkl : k<l.length
  ·obtain ⟨b1,o1,hA,_,c0⟩:=(HA.out.later hbel).geti hkl;simp only at hA c0;subst hA;have hx:=NA.out.get hkl;have hnx:=fun n hn=>HS.out.next (n:=n) NA.out NB.out hkl hn;rw [headD_drop] at hnx;generalize l[k]=x at *;obtain ⟨q,hq⟩ : ∃ q,q=l.length - k:=⟨_,rfl⟩;have hof:=HP.out.frozen k;have hsz:=HP.out.lt;(have hol : k<(dn ++ List.replicate (l.length+1 - k) 0).length:=by rw [List.length_append,List.length_replicate,HS.out.len]; omega);have hset:=fun x=>HP.out.set hol x;rw [show l.length+1 - k=(l.length - k)+1 by omega] at hset;simp only [HS.out.zeros] at hset;obtain ⟨z,hoc⟩ : ∃ z,wr.cell? ⟨w.heap.size,k,none⟩=some (.int .i64 z):=⟨_,HP.out.cell hol⟩;have HST:=Zh hset;clear hset hol;by_cases hkm : k<m.length
   ·obtain ⟨b2,o2,hB,_,c1⟩:=(HB.out.later hbel).geti hkm;simp only at hB c1;subst hB;have hy:=NB.out.get hkm;rw [dif_pos hkm] at hnx;generalize m[k]=y at *;have HNX:=Zh hnx;clear hnx;have hn:=(HNX.out (cr+x+y) rfl).2;clear HA HB;go_wp2_with fail;go_roundw
    case rel=>exact ⟨k+1,_,_,by omega,by go_num,rfl,by omega,by omega,(HNX.out (cr+x+y) rfl).1 |> Lib.hid,Zh (by rw [i64_mask20,show l.length+1 - (k+1)=l.length - k by omega]; exact HST.out _),qbh⟩
    case measure=>simp [intOf]; omega
   ·rw [dif_neg hkm] at hnx;have HNX:=Zh hnx;clear hnx;have hn:=(HNX.out (cr+x) Zo).2;clear HA HB;go_wp2_with fail;go_roundw
    case rel=>exact ⟨k+1,_,_,by omega,by go_num,rfl,by omega,by omega,(HNX.out (cr+x) Zo).1 |> Lib.hid,Zh (by rw [i64_mask20,show l.length+1 - (k+1)=l.length - k by omega]; exact HST.out _),qbh⟩
    case measure=>simp [intOf]; omega
  ·(obtain rfl : k=l.length:=by omega);have hof:=HP.out.frozen l.length;have hsz:=HP.out.lt;(have hol : l.length<(dn ++ List.replicate (l.length+1 - l.length) 0).length:=by rw [List.length_append,List.length_replicate,HS.out.len]; omega);have hset:=HP.out.set hol cr;rw [show l.length+1 - l.length=0+1 by omega,HS.out.zeros,List.replicate_zero,List.append_nil,HS.out.done] at hset;obtain ⟨z,hoc⟩ : ∃ z,wr.cell? ⟨w.heap.size,l.length,none⟩=some (.int .i64 z):=⟨_,HP.out.cell hol⟩;have HST:=Zh hset;have hcl : (addC 0 l m).length=l.length+1:=addC_len 0 l m;have HCL:=Zh hcl;clear hset hol hcl hkl hk;go_wp2_with fail;refine (trim_oi _ HST.out HCL.out.symm).mono ?_;rintro e w' ⟨rfl,rfl⟩;go_wp2_with fail;go_ret;exact SlP.trim HST.out Zl qbh
theorem big_add2 (a b : Sl Int) (w : World) (ha : Rd (· < w.heap.size) 1 ienc w a) (hb : Rd (· < w.heap.size) 1 ienc w b) (na : DigOK a.l) (nb : DigOK b.l) (hl1 : b.l.length≤200) (hlb : a.l.length<b.l.length) : Calls Tryz.prog 185 #[a.v,b.v] w fun e w'=>SlP w w' (trimL (addC 0 b.l a.l)) e:=by
 obtain ⟨A,c,l⟩:=b;obtain ⟨B,d,m⟩:=a;have hl:=hb.len;have hm:=ha.len;simp only at hl hm hl1 hlb;have HA:=Zh hb;have HB:=Zh ha;have NA:=Zh nb;have NB:=Zh na;clear ha hb na nb;simp only [Sl.v]
 have hmk : ∀ W : World,(Instr.makeSlice 37 (.int .i64 ((l.length : Int)+1)) (.int .i64 ((l.length : Int)+1))).run Tryz.prog W = .ok (.slice (some ⟨W.heap.size,0,none⟩) (l.length+1) (l.length+1)) (W.alloc (.cells (ints (List.replicate (l.length+1) 0)) 3)):=fun W=>by
  have h:=make_ints (l.length+1) Zo W;rw [show ((l.length+1 : Nat) : Int)=(l.length : Int)+1 by omega] at h;exact h
 go_enter Tryz.func185,Tryz.ntmps185;go_wp2_with fail;clear hmk
 have hO : OI w.heap.size (w.alloc (.cells (ints (List.replicate (l.length+1) 0)) 3)) w.heap.size (l.length+1) (List.replicate (l.length+1) 0):=by
  have h:=OI.new w (List.replicate (l.length+1) 0) (by rw [List.length_replicate]; unfold maxLen; omega)
  rwa [List.length_replicate] at h
 have HO:=Zh hO;clear hO;have HB0 : Hid (Below w.heap.size w (w.alloc (.cells (ints (List.replicate (l.length+1) 0)) 3))):=Zh qbl;generalize w.alloc (.cells (ints (List.replicate (l.length+1) 0)) 3)=w0 at *;go_loopw [22,6] (fun v u wr=>∃ (k : Nat) (cr : Int) (dn : List Int),k≤l.length∧v = .int .i64 k∧u = .int .i64 cr∧0≤cr∧cr≤1∧Hid (AddS l m k cr dn)∧Hid (OI w.heap.size wr w.heap.size (l.length+1) (dn ++ List.replicate (l.length+1 - k) 0))∧Below w.heap.size w wr) (fun v _ _=>l.length - (intOf v).toNat)
 case atStart=>exact ⟨0,0,[],by omega,rfl,rfl,by omega,by omega,Zh (AddS.start l m),HO,HB0.out⟩
 case round =>
  obtain ⟨k,cr,dn,hk,rfl,rfl,hc0,hc1,HS,HP,hbel⟩:=hrel;by_cases hkl : k<l.length
  ·obtain ⟨b1,o1,hA,_,c0⟩:=(HA.out.later hbel).geti hkl;simp only at hA c0;subst hA;have hx:=NA.out.get hkl;have hnx:=fun n hn=>HS.out.next (n:=n) NA.out NB.out hkl hn;rw [headD_drop] at hnx;generalize l[k]=x at *;obtain ⟨q,hq⟩ : ∃ q,q=l.length - k:=⟨_,rfl⟩;have hof:=HP.out.frozen k;have hsz:=HP.out.lt;(have hol : k<(dn ++ List.replicate (l.length+1 - k) 0).length:=by rw [List.length_append,List.length_replicate,HS.out.len]; omega);have hset:=fun x=>HP.out.set hol x;rw [show l.length+1 - k=(l.length - k)+1 by omega] at hset;simp only [HS.out.zeros] at hset;obtain ⟨z,hoc⟩ : ∃ z,wr.cell? ⟨w.heap.size,k,none⟩=some (.int .i64 z):=⟨_,HP.out.cell hol⟩;have HST:=Zh hset;clear hset hol;by_cases hkm : k<m.length
   ·obtain ⟨b2,o2,hB,_,c1⟩:=(HB.out.later hbel).geti hkm;simp only at hB c1;subst hB;have hy:=NB.out.get hkm;rw [dif_pos hkm] at hnx;generalize m[k]=y at *;have HNX:=Zh hnx;clear hnx;have hn:=(HNX.out (cr+x+y) rfl).2;clear HA HB;go_wp2_with fail;go_roundw
    case rel=>exact ⟨k+1,_,_,by omega,by go_num,rfl,by omega,by omega,(HNX.out (cr+x+y) rfl).1 |> Lib.hid,Zh (by rw [i64_mask20,show l.length+1 - (k+1)=l.length - k by omega]; exact HST.out _),qbh⟩
    case measure=>simp [intOf]; omega
   ·rw [dif_neg hkm] at hnx;have HNX:=Zh hnx;clear hnx;have hn:=(HNX.out (cr+x) Zo).2;clear HA HB;go_wp2_with fail;go_roundw
    case rel=>exact ⟨k+1,_,_,by omega,by go_num,rfl,by omega,by omega,(HNX.out (cr+x) Zo).1 |> Lib.hid,Zh (by rw [i64_mask20,show l.length+1 - (k+1)=l.length - k by omega]; exact HST.out _),qbh⟩
    case measure=>simp [intOf]; omega
  ·(obtain rfl : k=l.length:=by omega);have hof:=HP.out.frozen l.length;have hsz:=HP.out.lt;(have hol : l.length<(dn ++ List.replicate (l.length+1 - l.length) 0).length:=by rw [List.length_append,List.length_replicate,HS.out.len]; omega);have hset:=HP.out.set hol cr;rw [show l.length+1 - l.length=0+1 by omega,HS.out.zeros,List.replicate_zero,List.append_nil,HS.out.done] at hset;obtain ⟨z,hoc⟩ : ∃ z,wr.cell? ⟨w.heap.size,l.length,none⟩=some (.int .i64 z):=⟨_,HP.out.cell hol⟩;have HST:=Zh hset;have hcl : (addC 0 l m).length=l.length+1:=addC_len 0 l m;have HCL:=Zh hcl;clear hset hol hcl hkl hk;go_wp2_with fail;refine (trim_oi _ HST.out HCL.out.symm).mono ?_;rintro e w' ⟨rfl,rfl⟩;go_wp2_with fail;go_ret;exact SlP.trim HST.out Zl qbh
theorem big_add (a b : Sl Int) (w : World) (ha : Rd (· < w.heap.size) 1 ienc w a) (hb : Rd (· < w.heap.size) 1 ienc w b) (na : DigOK a.l) (nb : DigOK b.l) (hla : a.l.length≤200) (hlb : b.l.length≤200) {n : Nat} (hn : val a.l+val b.l=n) : Calls Tryz.prog 185 #[a.v,b.v] w fun e w'=>SlP w w' (digs n) e:=by
 by_cases h : b.l.length≤a.l.length
 ·refine (big_add1 a b w ha hb na nb hla h).mono fun e w' hp=>hp.cast ?_;rw [addC_trim na nb h hn]
 ·refine (big_add2 a b w ha hb na nb hlb Zo).mono fun e w' hp=>hp.cast ?_;rw [addC_trim nb na Zo (by rw [Int.add_comm]; exact hn)]
end Go.Proofs.YtmomlipmpgcheaaGreatDoor
