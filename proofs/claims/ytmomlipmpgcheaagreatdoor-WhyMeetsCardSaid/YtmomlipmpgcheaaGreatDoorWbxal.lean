/- Walks of package big: sub. -/
import Derived.Test.YtmomlipmpgcheaaGreatDoorWbxak
set_option linter.unusedSimpArgs false
set_option linter.unusedVariables false
set_option maxRecDepth 100000
set_option maxHeartbeats 6400000
namespace Go.Proofs.YtmomlipmpgcheaaGreatDoor
open Go.RowKit
structure SubS (a b : List Int) (i : Nat) (c : Int) (dn : List Int) : Prop where
  len : dn.length=i
  eq : subC 0 a b=dn ++ subC c (a.drop i) (b.drop i)
  c0 : 0≤c
  c1 : c≤1
theorem SubS.start (a b : List Int) : SubS a b 0 0 []:=⟨rfl,rfl,by omega,by omega⟩
theorem SubS.next {a b dn : List Int} {i : Nat} {c n : Int} (h : SubS a b i c dn) (ha : DigOK a) (hb : DigOK b) (hi : i<a.length) (hn : n=a[i] - c - (b.drop i).headD 0) : SubS a b (i+1) (n / 1048576 % 2) (dn ++ [n % 1048576])∧-1048577≤n∧n<1048576:=by
 have h1:=ha.get hi;have h2:=digOK_head (hb.drop i);have h3:=h.c0;have h4:=h.c1;refine ⟨⟨by rw [List.length_append,h.len]; rfl, ?_,by omega,by omega⟩,by omega,by omega⟩;rw [h.eq,List.drop_eq_getElem_cons hi,subC,← hn,List.tail_drop,show n / 1048576 % 2=if n<0 then 1 else 0 by split <;> omega];simp
theorem SubS.done {a b dn : List Int} {c : Int} (h : SubS a b a.length c dn) : dn=subC 0 a b:=by
 rw [h.eq,List.drop_length]; simp [subC]
theorem SubS.set {a b dn : List Int} {i : Nat} {c x : Int} (h : SubS a b i c dn) (hi : i<a.length) : (dn ++ a.drop i).set i x=(dn ++ [x]) ++ a.drop (i+1):=by
 rw [List.drop_eq_getElem_cons hi];have:=set_mid (done:=dn) (rest:=a.drop (i+1)) (z:=a[i]) (x:=x);rw [h.len] at this;rw [this]; simp
theorem subC_trim {a b : List Int} (ha : DigOK a) (hb : DigOK b) (h : b.length≤a.length) (hv : val b≤val a) {n : Nat} (hn : val a - val b=n) : trimL (subC 0 a b)=digs n:=by
 rw [trimL_is (subC_ok 0 a b),subC_exact ha hb h hv];congr 1;omega
theorem big_sub0 (a b : Sl Int) (w : World) (ha : Rd (· < w.heap.size) 1 ienc w a) (hb : Rd (· < w.heap.size) 1 ienc w b) (na : DigOK a.l) (nb : DigOK b.l) (hl1 : a.l.length≤200) : Calls Tryz.prog 186 #[a.v,b.v] w fun e w'=>SlP w w' (trimL (subC 0 a.l b.l)) e:=by
 obtain ⟨A,c,l⟩:=a;obtain ⟨B,d,m⟩:=b;have hl:=ha.len;have hm:=hb.len;simp only at hl hm hl1;have HCP:=clone_int ⟨A,c,l⟩ w ha (by simp only; omega);have HB:=Zh hb;have NA:=Zh na;have NB:=Zh nb;clear ha hb na nb;simp only [Sl.v] at HCP ⊢;go_enter Tryz.func186,Tryz.ntmps186;go_wp2_with fail;refine HCP.mono ?_;rintro e w0 ⟨A',c',rfl,hown,hb0⟩;have HB0:=Zh hb0;clear HCP hb0;rcases hown.form with ⟨hA,hc,hl0⟩ | ⟨g,hA,hg,_⟩
 ·simp only at hA hc hl0;subst hA hc hl0;clear hown;go_wp2_with fail;go_loopw [13,6] (fun v u wr=>v = .int .i64 0∧w0=wr) (fun _ _ _=>0)
  case atStart=>exact ⟨rfl,rfl⟩
  case round =>
   obtain ⟨rfl,rfl⟩:=hrel;go_wp2_with fail;refine (big_trim ⟨none,0,[]⟩ _ (Rd.nil (fun _=>False) _ _ _)).mono ?_;rintro e w' ⟨rfl,rfl⟩;go_wp2_with fail;go_ret;exact ⟨⟨none,0,[]⟩,rfl,rfl,Own.nil _ _ _ _ _,HB0.out⟩
 ·simp only at hA;subst hA;have HO : Hid (OI w.heap.size w0 g c' l):=Zh hown;clear hown;go_wp2_with fail;go_loopw [13,6] (fun v u wr=>∃ (k : Nat) (cr : Int) (dn : List Int),k≤l.length∧v = .int .i64 k∧u = .int .i64 cr∧0≤cr∧cr≤1∧Hid (SubS l m k cr dn)∧Hid (OI w.heap.size wr g c' (dn ++ l.drop k))∧Below w.heap.size w wr) (fun v _ _=>l.length - (intOf v).toNat)
  case atStart=>exact ⟨0,0,[],by omega,rfl,rfl,by omega,by omega,Zh (SubS.start l m),HO,HB0.out⟩
  case round =>
   obtain ⟨k,cr,dn,hk,rfl,rfl,hc0,hc1,HS,HP,hbel⟩:=hrel;by_cases hkl : k<l.length
   ·have hx:=NA.out.get hkl;have hnx:=fun n hn=>HS.out.next (n:=n) NA.out NB.out hkl hn;rw [headD_drop] at hnx;have hof:=HP.out.frozen k;have hsz:=HP.out.lt;(have hol : k<(dn ++ l.drop k).length:=by rw [List.length_append,List.length_drop,HS.out.len]; omega);have hset:=fun x=>HP.out.set hol x;simp only [HS.out.set hkl] at hset;have hoc : wr.cell? ⟨g,k,none⟩=some (.int .i64 l[k]):=HP.out.get (by rw [List.getElem?_append_right (by rw [HS.out.len]; omega),HS.out.len,Nat.sub_self,List.getElem?_drop,Nat.add_zero,List.getElem?_eq_getElem hkl]);have HST:=Zh hset;clear hset hol;generalize l[k]=x at *;by_cases hkm : k<m.length
    ·obtain ⟨b2,o2,hB,_,c1⟩:=(HB.out.later hbel).geti hkm;simp only at hB c1;subst hB;have hy:=NB.out.get hkm;rw [dif_pos hkm] at hnx;generalize m[k]=y at *;have HNX:=Zh hnx;clear hnx;have hn:=(HNX.out (x - cr - y) rfl).2;clear HB;go_wp2_with fail;go_roundw
     case rel=>exact ⟨k+1,_,_,by omega,by go_num,rfl,by rw [i64_mask1]; omega,by rw [i64_mask1]; omega,Zh (by rw [i64_mask1]; exact (HNX.out (x - cr - y) rfl).1),Zh (by rw [i64_mask20]; exact HST.out _),qbh⟩
     case measure=>simp [intOf]; omega
    ·rw [dif_neg hkm] at hnx;have HNX:=Zh hnx;clear hnx;have hn:=(HNX.out (x - cr) Zo).2;clear HB;go_wp2_with fail;go_roundw
     case rel=>exact ⟨k+1,_,_,by omega,by go_num,rfl,by rw [i64_mask1]; omega,by rw [i64_mask1]; omega,Zh (by rw [i64_mask1]; exact (HNX.out (x - cr) Zo).1),Zh (by rw [i64_mask20]; exact HST.out _),qbh⟩
     case measure=>simp [intOf]; omega
   ·(obtain rfl : k=l.length:=by omega);have hdn:=HS.out.done;have HP2:=HP.out;rw [List.drop_length,List.append_nil,hdn] at HP2;have HOP:=Zh HP2;have HCL : Hid ((subC 0 l m).length=l.length):=Zh (subC_len 0 l m);clear HP2 hdn hkl hk HP;go_wp2_with fail;refine (trim_oi _ HOP.out HCL.out.symm).mono ?_;rintro e w' ⟨rfl,rfl⟩;go_wp2_with fail;go_ret;exact SlP.trim HOP.out Zl qbh
theorem big_sub (a b : Sl Int) (w : World) (ha : Rd (· < w.heap.size) 1 ienc w a) (hb : Rd (· < w.heap.size) 1 ienc w b) (na : Norm a.l) (nb : Norm b.l) (hla : a.l.length≤200) (hv : val b.l≤val a.l) {n : Nat} (hn : val a.l - val b.l=n) : Calls Tryz.prog 186 #[a.v,b.v] w fun e w'=>SlP w w' (digs n) e:=by
 refine (big_sub0 a b w ha hb na.ok nb.ok hla).mono fun e w' hp=>hp.cast ?_;rw [subC_trim na.ok nb.ok ?_ hv hn];rcases Nat.lt_or_ge a.l.length b.l.length with h | h
 ·have:=len_lt na.ok nb h;omega
 ·exact h
structure RowS (x : Int) (b o : List Int) (q : Nat) (c : Int) (dn : List Int) : Prop where
  len : dn.length=q
  eq : mulR x 0 b o=dn ++ mulR x c (b.drop q) (o.drop q)
  c0 : 0≤c
  c1 : c<1048576
theorem RowS.start (x : Int) (b o : List Int) : RowS x b o 0 0 []:=⟨rfl,rfl,by omega,by omega⟩
theorem RowS.next {x : Int} {b o dn : List Int} {q : Nat} {c n : Int} (h : RowS x b o q c dn) (hx : 0≤x∧x<1048576) (hb : DigOK b) (ho : DigOK o) (hq : q<b.length) (hl : q<o.length) (hn : n=o[q]+x * b[q]+c) : RowS x b o (q+1) (n / 1048576) (dn ++ [n % 1048576])∧0≤n∧n<1099511627776:=by
 have h1:=hb.get hq;have h2:=ho.get hl;have h3:=h.c0;have h4:=h.c1;have hp0 : 0≤x * b[q]:=Int.mul_nonneg hx.1 h1.1;have hp1 : x * b[q]≤1048575 * 1048575:=Int.mul_le_mul Zo Zo h1.1 Zo;refine ⟨⟨by rw [List.length_append,h.len]; rfl, ?_,by omega,by omega⟩,by omega,by omega⟩;rw [h.eq,List.drop_eq_getElem_cons hq,List.drop_eq_getElem_cons hl,mulR,← hn];simp
theorem RowS.done {x : Int} {b o dn : List Int} {c : Int} (h : RowS x b o b.length c dn) (hl : b.length<o.length) : mulR x 0 b o=dn ++ (o[b.length]+c) :: o.drop (b.length+1):=by
 rw [h.eq,List.drop_length,List.drop_eq_getElem_cons hl]; rfl
def rowL (o : List Int) (i : Nat) (dn : List Int) : List Int:=o.take i ++ dn ++ o.drop (i+dn.length)
theorem rowL_nil (o : List Int) (i : Nat) : rowL o i []=o:=by unfold rowL; simp
theorem rowL_get {o dn : List Int} {i : Nat} (h : i+dn.length<o.length) : (rowL o i dn)[i+dn.length]? = some o[i+dn.length]:=by
 (have hl : (o.take i ++ dn).length=i+dn.length:=by rw [List.length_append,List.length_take]; omega);unfold rowL;rw [List.getElem?_append_right Zo,hl,Nat.sub_self,List.getElem?_drop,Nat.add_zero,List.getElem?_eq_getElem h]
theorem rowL_len {o dn : List Int} {i : Nat} (h : i+dn.length≤o.length) : (rowL o i dn).length=o.length:=by
 unfold rowL; rw [List.length_append,List.length_append,List.length_take,List.length_drop]; omega
theorem rowL_set {o dn : List Int} {i : Nat} {x : Int} (h : i+dn.length<o.length) : (rowL o i dn).set (i+dn.length) x=rowL o i (dn ++ [x]):=by
 (have hl : (o.take i ++ dn).length=i+dn.length:=by rw [List.length_append,List.length_take]; omega);unfold rowL;rw [List.drop_eq_getElem_cons h];have:=set_mid (done:=o.take i ++ dn) (rest:=o.drop (i+dn.length+1)) (z:=o[i+dn.length]) (x:=x);rw [hl] at this;rw [this,List.length_append];simp [Nat.add_assoc]
theorem rowL_end {x : Int} {b o dn : List Int} {c : Int} {i : Nat} (h : RowS x b (o.drop i) b.length c dn) (hl : i+b.length<o.length) (hz : o[i+b.length]? = some 0) : rowL o i (dn ++ [c])=o.take i ++ mulR x 0 b (o.drop i):=by
 have hl2 : b.length<(o.drop i).length:=by rw [List.length_drop]; omega
 have he : (o.drop i)[b.length]=0:=by
  rw [List.getElem_drop];rw [List.getElem?_eq_getElem hl] at hz;injection hz
 rw [h.done hl2,he,Int.zero_add];unfold rowL;rw [List.length_append,h.len,List.drop_drop];simp [Nat.add_assoc]
theorem big_mul (a b : Sl Int) (w : World) (ha : Rd (· < w.heap.size) 1 ienc w a) (hb : Rd (· < w.heap.size) 1 ienc w b) (na : DigOK a.l) (nb : DigOK b.l) (hla : a.l.length≤200) (hlb : b.l.length≤200) {n : Nat} (hn : val a.l * val b.l=n) : Calls Tryz.prog 190 #[a.v,b.v] w fun e w'=>SlP w w' (digs n) e:=by
 obtain ⟨A,c,l⟩:=a;obtain ⟨B,d,m⟩:=b;have hl:=ha.len;have hm:=hb.len;simp only at hl hm hla hlb na nb hn;have HA:=Zh ha;have HB:=Zh hb;have NA:=Zh na;have NB:=Zh nb;have HN:=Zh hn;clear ha hb na nb hn;simp only [Sl.v]
 have hmk : ∀ W : World,(Instr.makeSlice 37 (.int .i64 ((l.length : Int)+(m.length : Int))) (.int .i64 ((l.length : Int)+(m.length : Int)))).run Tryz.prog W = .ok (.slice (some ⟨W.heap.size,0,none⟩) (l.length+m.length) (l.length+m.length)) (W.alloc (.cells (ints (List.replicate (l.length+m.length) 0)) 3)):=fun W=>by
  have h:=make_ints (l.length+m.length) Zo W;rw [show ((l.length+m.length : Nat) : Int)=(l.length : Int)+(m.length : Int) by omega] at h;exact h
 go_enter Tryz.func190,Tryz.ntmps190;go_wp2_with fail;clear hmk
 have hO : OI w.heap.size (w.alloc (.cells (ints (List.replicate (l.length+m.length) 0)) 3)) w.heap.size (l.length+m.length) (List.replicate (l.length+m.length) 0):=by
  have h:=OI.new w (List.replicate (l.length+m.length) 0) (by rw [List.length_replicate]; unfold maxLen; omega)
  rwa [List.length_replicate] at h
 have HO:=Zh hO;clear hO;have HB0 : Hid (Below w.heap.size w (w.alloc (.cells (ints (List.replicate (l.length+m.length) 0)) 3))):=Zh qbl;generalize w.alloc (.cells (ints (List.replicate (l.length+m.length) 0)) 3)=w0 at *;go_loopw [20] (fun v wr=>∃ (k : Nat) (o : List Int),k≤l.length∧v = .int .i64 k∧Hid (MulS l m k o)∧Hid (OI w.heap.size wr w.heap.size (l.length+m.length) o)∧Below w.heap.size w wr) (fun v _=>l.length - (intOf v).toNat)
 case atStart=>exact ⟨0,_,by omega,rfl,Zh MulS.start,HO,HB0.out⟩
 case round =>
  obtain ⟨k,o,hk,rfl,HS,HP,hbel⟩:=hrel;obtain ⟨wo,hwo⟩ : ∃ x,x=wr:=⟨_,rfl⟩;subst hwo;by_cases hkl : k<l.length
  ·obtain ⟨b1,o1,hA,_,c0⟩:=(HA.out.later hbel).geti hkl;simp only at hA c0;subst hA;have hx:=NA.out.get hkl;have HNXT:=Zh (HS.out.next NA.out NB.out hkl);generalize l[k]=x at *;have hol:=HS.out.len;have HOZ:=Zh (HS.out.zero (k+m.length) Zl Zo);have HOK:=Zh (HS.out.ok.drop k);have HOL:=Zh hol;clear hol HS;go_wp2_with fail;have HBO:=Zh hbel;clear c0;go_loopw [27,8] (fun v u wr=>∃ (q : Nat) (cr : Int) (dn : List Int),q≤m.length∧v = .int .i64 q∧u = .int .i64 cr∧0≤cr∧cr<1048576∧Hid (RowS x m (o.drop k) q cr dn)∧Hid (OI w.heap.size wr w.heap.size (l.length+m.length) (rowL o k dn))∧Below w.heap.size w wr) (fun v _ _=>m.length - (intOf v).toNat)
   case atStart=>exact ⟨0,0,[],by omega,rfl,rfl,by omega,by omega,Zh (RowS.start _ _ _),Zh (by rw [rowL_nil]; exact HP.out),hbel⟩
   case round =>
    clear hbel;obtain ⟨q,cr,dn,hq,rfl,rfl,hc0,hc1,HR,HP2,hbel⟩:=hrel;have hdl:=HR.out.len;subst hdl;by_cases hqm : dn.length<m.length
    ·obtain ⟨b2,o2,hB,_,c1⟩:=(HB.out.later hbel).geti hqm;simp only at hB c1;subst hB;have hy:=NB.out.get hqm;(have hql : dn.length<(o.drop k).length:=by rw [List.length_drop,HOL.out]; omega);(have hkq : k+dn.length<o.length:=by rw [HOL.out]; omega);have hnx:=fun n hn=>HR.out.next (n:=n) hx NB.out HOK.out hqm hql hn;rw [List.getElem_drop] at hnx;have hoc:=HP2.out.get (rowL_get hkq);have hof:=HP2.out.frozen (k+dn.length);have hsz:=HP2.out.lt;have hset:=fun z=>HP2.out.set (i:=k+dn.length) (by rw [rowL_len Zo]; exact hkq) z;simp only [rowL_set hkq] at hset;have HST:=Zh hset;have hod:=HOK.out.get hql;rw [List.getElem_drop] at hod;clear hset;generalize o[k+dn.length]=z at *;generalize m[dn.length]=y at *;have HNX:=Zh hnx;clear hnx;have hn:=(HNX.out (z+x * y+cr) rfl).2;have hp0 : 0≤x * y:=Int.mul_nonneg hx.1 hy.1;clear HB HA;go_wp2_with fail;go_roundw
     case rel=>exact ⟨dn.length+1,_,_,by omega,by go_num,rfl,by omega,by omega,Zh (HNX.out (z+x * y+cr) rfl).1,Zh (by rw [i64_mask20]; exact HST.out _),qbh⟩
     case measure=>simp [intOf]; omega
    ·(have hqe : dn.length=m.length:=by omega);(have hkq : k+dn.length<o.length:=by rw [HOL.out]; omega);rw [hqe] at HR;have hend:=rowL_end (HR.out) (by rw [HOL.out]; omega) HOZ.out;have hoc:=HP2.out.get (rowL_get hkq)
     have hz : o[k+dn.length]=0:=by
      have h:=HOZ.out;rw [← hqe,List.getElem?_eq_getElem hkq] at h;injection h
     rw [hz] at hoc;have hof:=HP2.out.frozen (k+dn.length);have hsz:=HP2.out.lt;have hset:=HP2.out.set (i:=k+dn.length) (by rw [rowL_len Zo]; exact hkq) cr;rw [rowL_set hkq,hend] at hset;have HST:=Zh hset;rw [hqe] at hoc hof;rw [hqe] at HST;rw [hqe];have HBL:=Zh hbel;clear hset HR HP2 hend hz hqm hq hkq HB HA HP HBO;clear hqe;go_wp2_with fail;go_roundw
     case rel=>exact ⟨k+1,_,by omega,by go_num,Zh HNXT.out,Zh HST.out,(by repeat (first | (with_reducible exact HBL.out) | (with_reducible exact Below.refl _ _) | ((with_reducible refine below_setr ?_ ?_); focus (first | (simp; done) | (simp; omega) | omega)) | ((with_reducible refine below_allocr ?_ ?_); focus (first | (simp; done) | (simp; omega) | omega)) | (with_reducible refine Below.drew ?_) | (with_reducible refine below_drewN ?_ _)))⟩
     case measure=>simp [intOf]; omega
  ·obtain rfl : k=l.length:=by omega
   have HV : Hid (trimL o=digs n):=Zh (by
    rw [trimL_is HS.out.ok,HS.out.done,HN.out,Int.toNat_natCast])
   have hol:=HS.out.len;have HOL:=Zh hol;clear hkl hk HS hol;go_wp2_with fail;refine (trim_oi _ HP.out HOL.out.symm).mono ?_;rintro e w' ⟨rfl,rfl⟩;go_wp2_with fail;go_ret;exact SlP.cast HV.out.symm (SlP.trim HP.out Zl hbel)
end Go.Proofs.YtmomlipmpgcheaaGreatDoor
