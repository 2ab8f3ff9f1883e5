/- Walks of package big: short. -/
import Derived.Test.YtmomlipmpgcheaaGreatDoorWbxal
set_option linter.unusedSimpArgs false
set_option linter.unusedVariables false
set_option maxRecDepth 100000
set_option maxHeartbeats 6400000
namespace Go.Proofs.YtmomlipmpgcheaaGreatDoor
open Go.RowKit
def SlIP (w w' : World) (l : List Int) (r : Int) (e : Ending) : Prop:=∃ s : Sl Int,e = .returned (.tuple #[s.v,.int .i64 r])∧s.l=l∧Own w.heap.size 3 1 ienc w' s∧Below w.heap.size w w'
theorem SlIP.cast {w w' : World} {l l' : List Int} {r r' : Int} {e : Ending} (hl : l=l') (hr : r=r') (h : SlIP w w' l r e) : SlIP w w' l' r' e:=by subst hl hr; exact h
theorem SlP.tuple {w w' : World} {l : List Int} {v : Value} (h : SlP w w' l (.returned v)) (r : Int) : SlIP w w' l r (.returned (.tuple #[v,.int .i64 r])):=by
 obtain ⟨s,he,h1,h2,h3⟩:=h;injection he with he;subst he;exact ⟨s,rfl,h1,h2,h3⟩
theorem repl_set {j : Nat} {qs : List Int} {x : Int} : (List.replicate (j+1) 0 ++ qs).set j x=List.replicate j 0 ++ x :: qs:=by
 rw [List.replicate_succ',List.append_assoc];have:=set_mid (done:=List.replicate j (0 : Int)) (rest:=qs) (z:=0) (x:=x);rw [List.length_replicate] at this;exact this
theorem big_short (a : Sl Int) (dv : Int) (w : World) (ha : Rd (· < w.heap.size) 1 ienc w a) (na : DigOK a.l) (hla : a.l.length≤200) (hd0 : 0<dv) (hd1 : dv<1048576) : Calls Tryz.prog 194 #[a.v,.int .i64 dv] w fun e w'=>SlIP w w' (digs (val a.l / dv).toNat) (val a.l % dv) e:=by
 obtain ⟨A,c,l⟩:=a;have hl:=ha.len;simp only at hl hla na;have HA:=Zh ha;have NA:=Zh na;clear ha na;simp only [Sl.v];have hmk:=fun W=>make_ints l.length Zo W;go_enter Tryz.func194,Tryz.ntmps194;go_wp2_with fail;clear hmk
 have hO : OI w.heap.size (w.alloc (.cells (ints (List.replicate l.length 0)) 3)) w.heap.size l.length (List.replicate l.length 0 ++ []):=by
  have h:=OI.new w (List.replicate l.length 0) (by rw [List.length_replicate]; unfold maxLen; omega);rw [List.append_nil]
  rwa [List.length_replicate] at h
 have HO:=Zh hO;clear hO;have HB0 : Hid (Below w.heap.size w (w.alloc (.cells (ints (List.replicate l.length 0)) 3))):=Zh qbl;generalize w.alloc (.cells (ints (List.replicate l.length 0)) 3)=w0 at *;go_loopw [8,7] (fun v u wr=>∃ (j : Nat) (r : Int) (qs : List Int),j≤l.length∧v = .int .i64 ((j : Int) - 1)∧u = .int .i64 r∧0≤r∧r<dv∧Hid (ShortS l dv j qs r)∧Hid (OI w.heap.size wr w.heap.size l.length (List.replicate j 0 ++ qs))∧Below w.heap.size w wr) (fun v _ _=>(intOf v+1).toNat)
 case atStart=>exact ⟨l.length,0,[],by omega,rfl,rfl,by omega,by omega,Zh (ShortS.start hd0),HO,HB0.out⟩
 case round =>
  obtain ⟨j,r,qs,hj,rfl,rfl,hr0,hr1,HS,HP,hbel⟩:=hrel;rcases j with _ | j
  ·have hdn:=HS.out.done hd0;have HQ : Hid (trimL qs=digs (val l / dv).toNat):=Zh (by rw [trimL_is HS.out.ok,hdn.1]);have HR:=Zh hdn.2;(have hol : qs.length=l.length:=by have:=HS.out.len; omega);have HOL:=Zh hol;have HP2 : Hid (OI w.heap.size wr w.heap.size l.length qs):=HP;clear hdn hol HS HP;go_wp2_with fail;refine (trim_oi _ HP2.out HOL.out.symm).mono ?_;rintro e w' ⟨rfl,rfl⟩;go_wp2_with fail;refine bodyPost_ret (v:=.tuple #[.slice (some ⟨w.heap.size,0,none⟩) (trimL qs).length l.length,.int .i64 r]) ?_ rfl (SlIP.cast HQ.out HR.out (SlP.tuple (SlP.trim HP2.out Zl hbel) r));simp [results,Tryz.results194,go_sem,]
  ·(have hjl : j<l.length:=by omega);obtain ⟨b1,o1,hA,_,c0⟩:=(HA.out.later hbel).geti hjl;simp only at hA c0;subst hA;have hx:=NA.out.get hjl;have HNX:=Zh (HS.out.next NA.out hjl hd0);generalize l[j]=x at *;have hof:=HP.out.frozen j;have hsz:=HP.out.lt;(have hol : j<(List.replicate (j+1) 0 ++ qs).length:=by rw [List.length_append,List.length_replicate]; omega);obtain ⟨z,hoc⟩ : ∃ z,wr.cell? ⟨w.heap.size,j,none⟩=some (.int .i64 z):=⟨_,HP.out.cell hol⟩;have hset:=fun x=>HP.out.set hol x;simp only [repl_set] at hset;have HST:=Zh hset;have hor:=i64_join20 (r:=r) (x:=x) hr0 Zo hx.1 hx.2;clear hset HS;go_wp2_with fail;go_roundw
   case rel=>exact ⟨j,_,_,by omega,rfl,rfl,HNX.out.r0,HNX.out.rd,Zh HNX.out,Zh (HST.out _),qbh⟩
   case measure=>simp [intOf]
structure SetS (g : Int) (u v : List Int) (q : Nat) (c : Int) (dn : List Int) : Prop where
  len : dn.length=q
  eq : subM g 0 u v=dn ++ subM g c (u.drop q) (v.drop q)
  eqE : subE g 0 u v=subE g c (u.drop q) (v.drop q)
  c0 : 0≤c
  c1 : c≤1048576
theorem SetS.start (g : Int) (u v : List Int) : SetS g u v 0 0 []:=⟨rfl,rfl,rfl,by omega,by omega⟩
theorem SetS.next {g : Int} {u v dn : List Int} {q : Nat} {c n : Int} (h : SetS g u v q c dn) (hg0 : 0≤g) (hg1 : g<1048576) (hu : DigOK u) (hv : DigOK v) (hq : q<u.length) (hn : n=u[q] - c - g * (v.drop q).headD 0) : SetS g u v (q+1) (-(n / 1048576)) (dn ++ [n % 1048576])∧-1099511627776≤n∧n<1048576:=by
 have h1:=hu.get hq;have h2:=digOK_head (hv.drop q);have h3:=h.c0;have h4:=h.c1;have hp0 : 0≤g * (v.drop q).headD 0:=Int.mul_nonneg hg0 h2.1;have hp1 : g * (v.drop q).headD 0≤1048575 * 1048575:=Int.mul_le_mul Zo Zo h2.1 Zo;refine ⟨⟨by rw [List.length_append,h.len]; rfl, ?_, ?_,by omega,by omega⟩,by omega,by omega⟩
 ·rw [h.eq,List.drop_eq_getElem_cons hq,subM,← hn,List.tail_drop]; simp
 ·rw [h.eqE,List.drop_eq_getElem_cons hq,subE,← hn,List.tail_drop]
theorem SetS.done {g : Int} {u v dn : List Int} {c : Int} (h : SetS g u v u.length c dn) : dn=subM g 0 u v∧c=subE g 0 u v:=by
 rw [h.eq,h.eqE,List.drop_length]; simp [subM,subE]
structure GiveS (u v : List Int) (q : Nat) (c : Int) (dn : List Int) : Prop where
  len : dn.length=q
  eq : addM 0 u v=dn ++ addM c (u.drop q) (v.drop q)
  c0 : 0≤c
  c1 : c≤1
theorem GiveS.start (u v : List Int) : GiveS u v 0 0 []:=⟨rfl,rfl,by omega,by omega⟩
theorem GiveS.next {u v dn : List Int} {q : Nat} {c n : Int} (h : GiveS u v q c dn) (hu : DigOK u) (hv : DigOK v) (hq : q<u.length) (hn : n=c+u[q]+(v.drop q).headD 0) : GiveS u v (q+1) (n / 1048576) (dn ++ [n % 1048576])∧0≤n∧n<2097152:=by
 have h1:=hu.get hq;have h2:=digOK_head (hv.drop q);have h3:=h.c0;have h4:=h.c1;refine ⟨⟨by rw [List.length_append,h.len]; rfl, ?_,by omega,by omega⟩,by omega,by omega⟩;rw [h.eq,List.drop_eq_getElem_cons hq,addM,← hn,List.tail_drop]; simp
theorem GiveS.done {u v dn : List Int} {c : Int} (h : GiveS u v u.length c dn) : dn=addM 0 u v:=by
 rw [h.eq,List.drop_length]; simp [addM]
def winL (L : List Int) (i : Nat) (us dn : List Int) : List Int:=L.take i ++ (dn ++ us.drop dn.length) ++ L.drop (i+us.length)
theorem winL_len {L us dn : List Int} {i : Nat} (h : i+us.length≤L.length) (hd : dn.length≤us.length) : (winL L i us dn).length=L.length:=by
 unfold winL; simp only [List.length_append,List.length_take,List.length_drop]; omega
theorem winL_get {L us dn : List Int} {i : Nat} (h : i+us.length≤L.length) (hd : dn.length<us.length) : (winL L i us dn)[i+dn.length]? = some us[dn.length]:=by
 (have hi : (L.take i).length=i:=by rw [List.length_take]; omega);unfold winL;rw [List.append_assoc,List.getElem?_append_right Zo,hi,show i+dn.length - i=dn.length by omega,List.append_assoc,List.getElem?_append_right Zo,Nat.sub_self,List.getElem?_append_left (by rw [List.length_drop]; omega),List.getElem?_drop,Nat.add_zero,List.getElem?_eq_getElem hd]
theorem winL_set {L us dn : List Int} {i : Nat} {x : Int} (h : i+us.length≤L.length) (hd : dn.length<us.length) : (winL L i us dn).set (i+dn.length) x=winL L i us (dn ++ [x]):=by
 (have hi : (L.take i ++ dn).length=i+dn.length:=by rw [List.length_append,List.length_take]; omega);unfold winL;rw [List.drop_eq_getElem_cons hd,← List.append_assoc,List.append_assoc];have:=set_mid (done:=L.take i ++ dn) (rest:=us.drop (dn.length+1) ++ L.drop (i+us.length)) (z:=us[dn.length]) (x:=x);rw [hi] at this;rw [List.cons_append,this];simp
theorem winL_start {L us : List Int} {i : Nat} (hu : us=(L.drop i).take us.length) (h : i+us.length≤L.length) : winL L i us []=L:=by
 unfold winL;simp only [List.length_nil,List.drop_zero,List.nil_append];(conv=>lhs; lhs; rhs; rw [hu]);rw [List.append_assoc,← List.drop_drop,List.take_append_drop,List.take_append_drop]
theorem winL_end {L us dn : List Int} {i : Nat} (hd : dn.length=us.length) : winL L i us dn=L.take i ++ dn ++ L.drop (i+us.length):=by
 unfold winL;rw [hd,List.drop_length,List.append_nil]
theorem winL_again {L us dn : List Int} {i : Nat} (hd : dn.length=us.length) (h : i+us.length≤L.length) : winL (winL L i us dn) i dn []=winL L i us dn:=by
 refine winL_start ?_ (by rw [winL_len h Zo]; omega);rw [winL_end hd];(have hi : (L.take i).length=i:=by rw [List.length_take]; omega);rw [List.append_assoc,List.drop_append_of_le_length Zo,List.drop_eq_nil_of_le Zo,List.nil_append,List.take_append_of_le_length Zl,List.take_length]
theorem winL_over {L us dn ds : List Int} {i : Nat} (hd : dn.length=us.length) (he : ds.length=us.length) (h : i+us.length≤L.length) : winL (winL L i us dn) i dn ds=winL L i us ds:=by
 (have hi : (L.take i).length=i:=by rw [List.length_take]; omega);rw [winL_end Zo,winL_end hd,winL_end he,hd]
 have h1 : (L.take i ++ dn ++ L.drop (i+us.length)).take i=L.take i:=by
  rw [List.append_assoc,List.take_append_of_le_length Zo,List.take_of_length_le Zo]
 have h2 : (L.take i ++ dn ++ L.drop (i+us.length)).drop (i+us.length)=L.drop (i+us.length):=by
  rw [List.drop_append_of_le_length (by simp only [List.length_append]; omega),List.drop_eq_nil_of_le (by simp only [List.length_append]; omega),List.nil_append]
 rw [h1,h2]
theorem settle_less {g : Int} {u v : List Int} (hu : DigOK u) (h : v.length≤u.length) (he : subE g 0 u v≠0) (hg : 0≤g * val v) : val u<g * val v:=by
 refine Decidable.byContradiction fun hn=>he ?_;have h1:=subM_val g (c:=0) h;have h2:=val_nn (subM_ok g 0 u v);have h3:=val_lt (subM_ok g 0 u v);rw [subM_len] at h3;have h4:=val_lt hu;(have h5 : val (subM g 0 u v)=(val u - g * val v)+subE g 0 u v * pw u.length:=by rw [h1]; omega);have h6:=pw_mult h2 h3 Zo Zo h5;rw [h6] at h5;have h7:=pw_pos u.length;rcases Int.lt_trichotomy (subE g 0 u v) 0 with h8 | h8 | h8
 ·have : subE g 0 u v * pw u.length≤-1 * pw u.length:=Int.mul_le_mul_of_nonneg_right Zo Zo;omega
 ·exact h8
 ·have : 1 * pw u.length≤subE g 0 u v * pw u.length:=Int.mul_le_mul_of_nonneg_right Zo Zo;omega
structure SetD (us v us' : List Int) (q : Int) : Prop where
  len : us'.length=us.length
  ok : DigOK us'
  val : val us'=Go.Proofs.YtmomlipmpgcheaaGreatDoor.val us % Go.Proofs.YtmomlipmpgcheaaGreatDoor.val v
  quo : q=Go.Proofs.YtmomlipmpgcheaaGreatDoor.val us / Go.Proofs.YtmomlipmpgcheaaGreatDoor.val v
theorem setD_of {us v us' : List Int} {q : Int} (hV : 0<val v) (h1 : us'.length=us.length) (h2 : DigOK us') (h3 : val us'=val us - q * val v) (hl : q * val v≤val us) (hu : val us<(q+1) * val v) : SetD us v us' q:=by
 have hq:=quo_is hV hl hu;refine ⟨h1,h2, ?_,hq.symm⟩;have:=Int.mul_ediv_add_emod (val us) (val v);rw [hq,Int.mul_comm] at this;omega
theorem setD_yes {g : Int} {us v : List Int} (hu : DigOK us) (h : v.length≤us.length) (hV : 0<val v) (hup : val us<(g+1) * val v) (he : subE g 0 us v=0) : SetD us v (subM g 0 us v) g:=by
 obtain ⟨h1,h2⟩:=settle_yes hu h he;exact setD_of hV (subM_len _ _ _ _) (subM_ok _ _ _ _) h1 h2 hup
theorem setD_no {g : Int} {us v : List Int} (hu : DigOK us) (hv : DigOK v) (h : v.length≤us.length) (hV : 0<val v) (hg : 0≤g) (hlow : (g - 1) * val v≤val us) (he : subE g 0 us v≠0) : SetD us v (addM 0 (subM g 0 us v) v) (g - 1):=by
 have h0 : 0≤g * val v:=Int.mul_nonneg hg Zo;have hl:=settle_less hu h he h0;have hlt:=val_lt hu
 have hg1 : 1≤g:=by
  rcases (by omega : g=0∨1≤g) with rfl | h1
  ·rw [Int.zero_mul] at hl;have:=val_nn hu;omega
  ·exact h1
 have h1 : 0≤(g - 1) * val v:=Int.mul_nonneg Zo Zo;have h3:=settle_no hu hv h he hlow (.inr hg) Zo (fun _=>hg);exact setD_of hV (by rw [addM_len,subM_len]) (addM_ok _ _ _) h3 hlow (by rw [show g - 1+1=g by omega]; exact hl)
theorem grown_set {w wr : World} {g o : Nat} {x : Value} (h : w.grownBy wr (some g)) : w.grownBy (wr.setCell ⟨g,o,none⟩ x) (some g) where
 os:=h.os
 tape:=h.tape
 output:=h.output
 size:=by have:=h.size; simpa using this
 block k hk hne:=by rw [Below.heap_setCell _ _ _ _ (by intro h0; exact hne (by rw [h0]))]; exact h.block k hk hne
theorem Rd.grown {F : Nat→Prop} {w w' : World} {s : Sl Int} {g : Nat} (h : Rd F 1 ienc w s) (hF : ∀ b,F b→b<w.heap.size∧b≠g) (hg : w.grownBy w' (some g)) : Rd F 1 ienc w' s :=
 h.keep fun b hb=>hg.block b (hF b hb).1 (by intro h0; injection h0 with h0; exact (hF b hb).2 h0)
theorem big_settle (B g c i k : Nat) (L us : List Int) (v : Sl Int) (gs : Int) (w : World) (hO : OI B w g c L) (hv : Rd (fun b=>b<w.heap.size∧b≠g) 1 ienc w v) (hus : us=(L.drop i).take us.length) (hiu : i+us.length≤L.length) (huk : us.length≤k) (hlen : us.length≤300) (hu : DigOK us) (hd : DigOK v.l) (hvu : v.l.length≤us.length) (hV : 0<val v.l) (hg0 : 0≤gs) (hg1 : gs<1048576) (hlow : (gs - 1) * val v.l≤val us) (hup : val us<(gs+1) * val v.l) : Calls Tryz.prog 195 #[.slice (some ⟨g,i,none⟩) us.length k,v.v,.int .i64 gs] w fun e w'=>∃ us' q,e = .returned (.int .i64 q)∧SetD us v.l us' q∧OI B w' g c (winL L i us us')∧w.grownBy w' (some g):=by
 obtain ⟨A,d,m⟩:=v;have hm:=hv.len;simp only at hm hd hvu hV hlow hup;have HV:=Zh hv;have HO:=Zh hO;have HU:=Zh hu;have HD:=Zh hd;have HYES:=Zh (fun he=>setD_yes (g:=gs) hu hvu hV hup he);have HNO:=Zh (fun he=>setD_no (g:=gs) hu hd hvu hV hg0 hlow he);have HUS:=Zh hus;clear hv hO hu hd hlow hup hV hus;simp only [Sl.v];go_enter Tryz.func195,Tryz.ntmps195;go_wp2_with fail;go_loopw [14,7] (fun x y wr=>∃ (q : Nat) (cr : Int) (dn : List Int),q≤us.length∧x = .int .i64 q∧y = .int .i64 cr∧0≤cr∧cr≤1048576∧Hid (SetS gs us m q cr dn)∧Hid (OI B wr g c (winL L i us dn))∧w.grownBy wr (some g)) (fun x _ _=>us.length - (intOf x).toNat)
 case atStart=>exact ⟨0,0,[],by omega,rfl,rfl,by omega,by omega,Zh (SetS.start _ _ _),Zh (by rw [winL_start HUS.out hiu]; exact HO.out),World.grownBy.refl w _⟩
 case round =>
  obtain ⟨q,cr,dn,hq,rfl,rfl,hc0,hc1,HS,HP,hgr⟩:=hrel;have hdl:=HS.out.len;subst hdl;by_cases hqu : dn.length<us.length
  ·have hx:=HU.out.get hqu;have hnx:=fun n hn=>HS.out.next (n:=n) hg0 hg1 HU.out HD.out hqu hn;rw [headD_drop] at hnx;have hoc:=HP.out.get (winL_get hiu hqu);have hof:=HP.out.frozen (i+dn.length);have hsz:=HP.out.lt;have hset:=fun z=>HP.out.set (i:=i+dn.length) (by rw [winL_len hiu Zo]; omega) z;simp only [winL_set hiu hqu] at hset;have HST:=Zh hset;clear hset;generalize us[dn.length]=x at *;by_cases hqm : dn.length<m.length
   ·obtain ⟨b2,o2,hA,_,c1⟩:=(HV.out.grown (fun _ h=>h) hgr).geti hqm;simp only at hA c1;subst hA;have hy:=HD.out.get hqm;rw [dif_pos hqm] at hnx;generalize m[dn.length]=y at *;have HNX:=Zh hnx;have hn:=(hnx (x - cr - gs * y) rfl).2;have hp0 : 0≤gs * y:=Int.mul_nonneg hg0 hy.1;clear hnx;go_wp2_with fail;go_roundw
    case rel=>exact ⟨dn.length+1,_,_,by omega,by go_num,rfl,by omega,by omega,Zh (HNX.out (x - cr - gs * y) rfl).1,Zh (by rw [i64_mask20]; exact HST.out _),grown_set hgr⟩
    case measure=>simp [intOf]; omega
   ·rw [dif_neg hqm] at hnx;have HNX:=Zh hnx;have hn:=(hnx (x - cr) Zo).2;clear hnx;go_wp2_with fail;go_roundw
    case rel=>exact ⟨dn.length+1,_,_,by omega,by go_num,rfl,by omega,by omega,Zh (HNX.out (x - cr) Zo).1,Zh (by rw [i64_mask20]; exact HST.out _),grown_set hgr⟩
    case measure=>simp [intOf]; omega
  ·(have hqe : dn.length=us.length:=by omega);rw [hqe] at HS;obtain ⟨hdn,hcr⟩:=HS.out.done;have HDN:=Zh hdn;have HCR:=Zh hcr;have HQE:=Zh hqe;clear HS hqu hq hdn hcr;by_cases hz : cr=0
   ·have HF:=Zh (HYES.out (by rw [← HCR.out]; exact hz));have HGR:=Zh hgr;clear HYES HNO hgr;go_wp2_with fail;go_ret;exact ⟨dn,gs,rfl,by rw [HDN.out]; exact HF.out,HP.out,HGR.out⟩
   ·have HF:=Zh (HNO.out (by rw [← HCR.out]; exact hz));clear HYES HNO;rw [← HDN.out] at HF;have HOK : Hid (DigOK dn):=Zh (by rw [HDN.out]; exact subM_ok _ _ _ _);have HGR:=Zh hgr;have HL2:=Zh (winL_again HQE.out hiu);have HLL : Hid (i+dn.length≤(winL L i us dn).length):=Zh (by rw [winL_len hiu Zo]; omega);have HOV:=Zh (fun ds he=>winL_over (ds:=ds) HQE.out he hiu);clear hgr HDN HCR;rw [hqe];clear hqe;go_wp2_with fail;obtain ⟨wo,hwo⟩ : ∃ x,x=wr:=⟨_,rfl⟩;subst hwo;go_loopw [49,10] (fun x y wr=>∃ (q : Nat) (cr : Int) (ds : List Int),q≤us.length∧x = .int .i64 q∧y = .int .i64 cr∧0≤cr∧cr≤1∧Hid (GiveS dn m q cr ds)∧Hid (OI B wr g c (winL (winL L i us dn) i dn ds))∧w.grownBy wr (some g)) (fun x _ _=>us.length - (intOf x).toNat)
    case atStart=>exact ⟨0,0,[],by omega,rfl,rfl,by omega,by omega,Zh (GiveS.start _ _),Zh (by rw [HL2.out]; exact HP.out),HGR.out⟩
    case round =>
     clear hc0 hc1 hz;obtain ⟨q,cr,ds,hq,rfl,rfl,hc0,hc1,HS,HP2,hgr⟩:=hrel;have hdl:=HS.out.len;subst hdl;by_cases hqu : ds.length<us.length
     ·(have hqd : ds.length<dn.length:=by rw [HQE.out]; exact hqu);have hx:=HOK.out.get hqd;have hnx:=fun n hn=>HS.out.next (n:=n) HOK.out HD.out hqd hn;rw [headD_drop] at hnx;have hoc:=HP2.out.get (winL_get HLL.out hqd);have hof:=HP2.out.frozen (i+ds.length);have hsz:=HP2.out.lt;have hset:=fun z=>HP2.out.set (i:=i+ds.length) (by rw [winL_len HLL.out Zo]; have:=HLL.out; omega) z;simp only [winL_set HLL.out hqd] at hset;have HST:=Zh hset;clear hset;generalize dn[ds.length]=x at *;by_cases hqm : ds.length<m.length
      ·obtain ⟨b2,o2,hA,_,c1⟩:=(HV.out.grown (fun _ h=>h) hgr).geti hqm;simp only at hA c1;subst hA;have hy:=HD.out.get hqm;rw [dif_pos hqm] at hnx;generalize m[ds.length]=y at *;have HNX:=Zh hnx;have hn:=(hnx (cr+x+y) rfl).2;clear hnx;go_wp2_with fail;go_roundw
       case rel=>exact ⟨ds.length+1,_,_,by omega,by go_num,rfl,by omega,by omega,Zh (HNX.out (cr+x+y) rfl).1,Zh (by rw [i64_mask20]; exact HST.out _),grown_set hgr⟩
       case measure=>simp [intOf]; omega
      ·rw [dif_neg hqm] at hnx;have HNX:=Zh hnx;have hn:=(hnx (cr+x) Zo).2;clear hnx;go_wp2_with fail;go_roundw
       case rel=>exact ⟨ds.length+1,_,_,by omega,by go_num,rfl,by omega,by omega,Zh (HNX.out (cr+x) Zo).1,Zh (by rw [i64_mask20]; exact HST.out _),grown_set hgr⟩
       case measure=>simp [intOf]; omega
     ·(have hqe2 : ds.length=us.length:=by omega);have HS2:=HS.out;rw [hqe2,← HQE.out] at HS2;have HDS:=Zh HS2.done;have HE2:=Zh hqe2;have HG2:=Zh hgr;clear HS HS2 hqe2 hq hgr;go_wp2_with fail;go_ret;exact ⟨ds,gs - 1,rfl,by rw [HDS.out]; exact HF.out,by rw [← HOV.out ds HE2.out]; exact HP2.out,HG2.out⟩
def DivP (w w' : World) (x y : Int) (e : Ending) : Prop:=∃ q r : Sl Int,e = .returned (.tuple #[q.v,r.v])∧q.l=digs (x / y).toNat∧r.l=digs (x % y).toNat∧Rd (Nw w.heap.size w') 1 ienc w' q∧Rd (Nw w.heap.size w') 1 ienc w' r∧Below w.heap.size w w'
theorem Own.nw {B : Nat} {w : World} {s : Sl Int} (h : Own B 3 1 ienc w s) : Rd (Nw B w) 1 ienc w s:=h.rd ienc_k
theorem nw_one {w w1 w2 : World} {b : Nat} {o : Obj} (h1 : w.heap.size≤w1.heap.size) (h2 : w1.heap.size≤w2.heap.size) (hb : b=w2.heap.size) : Nw w.heap.size (w2.alloc o) b:=⟨by omega,by simp; omega⟩
theorem big_div_less (a b : Sl Int) (w : World) (ha : Rd (· < w.heap.size) 1 ienc w a) (hb : Rd (· < w.heap.size) 1 ienc w b) (na : Norm a.l) (nb : Norm b.l) (hla : a.l.length≤150) (hlt : val a.l<val b.l) : Calls Tryz.prog 184 #[a.v,b.v] w fun e w'=>DivP w w' (val a.l) (val b.l) e:=by
 have HC:=big_compare a b w ha hb na nb;rw [ucmp_lt hlt] at HC;have hv:=val_nn na.ok;have HR : Hid (a.l=digs (val a.l % val b.l).toNat):=Zh (by rw [Int.emod_eq_of_lt hv hlt]; exact na.is);have HQ : Hid (([] : List Int)=digs (val a.l / val b.l).toNat):=Zh (by rw [Int.ediv_eq_zero_of_lt hv hlt]; exact digs_zero.symm);have HA:=Zh ha;obtain ⟨A,c,l⟩:=a;simp only at hla;clear ha hb na nb hlt hv;simp only [Sl.v] at HC ⊢;go_enter Tryz.func184,Tryz.ntmps184;go_wp2_with fail;refine HC.mono ?_;rintro e w1 ⟨rfl,hb1⟩;have HB1:=Zh hb1;clear HC hb1;go_wp2_with fail;refine (clone_int ⟨A,c,l⟩ _ (HA.out.later HB1.out) (by simp only; omega)).mono ?_;rintro e w2 ⟨A',c',rfl,hown,hb2⟩;have HO:=Zh hown;have HB2:=Zh hb2;clear hown hb2;go_wp2_with fail;refine bodyPost_ret (v:=.tuple #[.slice none 0 0,.slice A' l.length c']) ?_ rfl ⟨⟨none,0,[]⟩,⟨A',c',l⟩,rfl,HQ.out,HR.out,Rd.nil _ _ _ _,HO.out.nw.mono (fun b hb=>hb.mono HB1.out.size Zl),HB1.out.trans (HB2.out.mono HB1.out.size)⟩;simp [results,Tryz.results184,go_sem,]
theorem big_div_one (a b : Sl Int) (w : World) (ha : Rd (· < w.heap.size) 1 ienc w a) (hb : Rd (· < w.heap.size) 1 ienc w b) (na : Norm a.l) (nb : Norm b.l) (hla : a.l.length≤150) (hle : val b.l≤val a.l) (hl1 : b.l.length=1) : Calls Tryz.prog 184 #[a.v,b.v] w fun e w'=>DivP w w' (val a.l) (val b.l) e:=by
 have HC:=big_compare a b w ha hb na nb
 have hu0 : 0≤ucmp (val a.l) (val b.l):=by
  rcases Int.lt_or_le (val b.l) (val a.l) with h | h
  ·rw [ucmp_gt h]; omega
  ·rw [ucmp_eq Zo]; exact Int.le_refl _
 generalize ucmp (val a.l) (val b.l)=cm at *;have HA:=Zh ha;have HB:=Zh hb;have NA:=Zh na.ok
 have hd : ∃ dv,b.l=[dv]∧0<dv∧dv<1048576:=by
  rcases hbl : b.l with _ | ⟨dv,_ | _⟩
  ·rw [hbl] at hl1; cases hl1
  ·rw [hbl] at nb;have h1:=nb.ok dv Zs;have h2:=nb.top dv Zs;exact ⟨dv,rfl,by omega,h1.2⟩
  ·rw [hbl] at hl1; simp at hl1
 obtain ⟨dv,hbl,hd0,hd1⟩:=hd;(have hvb : val b.l=dv:=by rw [hbl]; simp [val]);obtain ⟨A,c,l⟩:=a;obtain ⟨B,d,m⟩:=b;simp only at hbl;subst hbl;rw [hvb];simp only at hla hvb;clear ha hb na nb hle hl1 hvb;simp only [Sl.v] at HC ⊢;go_enter Tryz.func184,Tryz.ntmps184;go_wp2_with fail;refine HC.mono ?_;rintro e w1 ⟨rfl,hb1⟩;have HB1:=Zh hb1;obtain ⟨b1,o1,hB,_,c0⟩:=(HB.out.later HB1.out).geti (show 0<[dv].length by simp);simp only at hB;subst hB;simp only [List.getElem_cons_zero,Nat.add_zero] at c0;clear HC hb1;go_wp2_with fail;refine (big_short ⟨A,c,l⟩ dv _ (HA.out.later HB1.out) NA.out (by simp only; omega) hd0 hd1).mono ?_;rintro e w2 ⟨⟨qA,qc,ql⟩,rfl,hq,hown,hb2⟩;have HO:=Zh hown;have HQ:=Zh hq;have HB2:=Zh hb2;have HBA:=Zt HB1 hb2;have hr0:=Int.emod_nonneg (val l) (show dv≠0 by omega);have hr1:=Int.emod_lt_of_pos (val l) hd0;have HRL : Hid (trimL [val l % dv]=digs (val l % dv).toNat):=Zh (trim_one hr0 Zo);generalize hR : val l % dv=R at *;have HRR:=Zh hR;have hs2:=HBA.out.size;clear hown hb2 hq c0 hR;simp only [Sl.v];go_wp2_with fail;refine (trim_oi (B:=w2.heap.size) (L:=[R]) _ (OI.new w2 [R] (by simp [maxLen])) rfl).mono ?_;rintro e w' ⟨rfl,rfl⟩;go_wp2_with fail;have hm1 : ∀ b,Nw w1.heap.size w2 b→Nw w.heap.size (w2.alloc (.cells (ints [R]) 3)) b:=fun b hb=>hb.mono HB1.out.size Zs;refine bodyPost_ret (v:=.tuple #[.slice qA ql.length qc,.slice (some ⟨w2.heap.size,0,none⟩) (trimL [R]).length 1]) ?_ rfl ⟨⟨qA,qc,ql⟩,⟨some ⟨w2.heap.size,0,none⟩,1,trimL [R]⟩,rfl,HQ.out,HRL.out.trans (by rw [HRR.out]),(HO.out.nw.up (fun _ h=>h.lt) qbl).mono hm1,((OI.new w2 [R] (by simp [maxLen])).rd.trim).mono (fun b hb=>nw_one HB1.out.size HB2.out.size hb),(by repeat (first | (with_reducible exact HBA.out) | (with_reducible exact Below.refl _ _) | ((with_reducible refine below_setr ?_ ?_); focus (first | (simp; done) | (simp; omega) | omega)) | ((with_reducible refine below_allocr ?_ ?_); focus (first | (simp; done) | (simp; omega) | omega)) | (with_reducible refine Below.drew ?_) | (with_reducible refine below_drewN ?_ _)))⟩;simp [results,Tryz.results184,go_sem,]
end Go.Proofs.YtmomlipmpgcheaaGreatDoor
