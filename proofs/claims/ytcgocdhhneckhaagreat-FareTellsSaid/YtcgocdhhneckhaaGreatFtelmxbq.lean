/- Walks of tonneauref30: right whole, RightExp, names. -/
import Derived.Test.YtcgocdhhneckhaaGreatFtelmxbp
import Derived.Test.YtcgocdhhneckhaaGreatFtelmxbo
import Derived.Test.YtcgocdhhneckhaaGreatFtelmxaf
import Derived.Test.YtcgocdhhneckhaaGreatFtelmxag
set_option maxRecDepth 100000
set_option maxHeartbeats 6400000
namespace Go.Proofs.YtcgocdhhneckhaaGreat
open Go.RowKit
theorem r30_right_lo (k : Nat) (hk : k≤1000) (o n u : Int) (s : ByteArray) (A : Option Addr) (c : Nat) (l : List PT) (w : World) (ho : o<0) : Calls Tryz.prog 73 #[PT.v ⟨o,n,u,s,A,c,l⟩,.int .i64 ((k : Int)+1)] w fun r w'=>r = .returned (.bool (okE (k+1) ⟨o,n,u,s,A,c,l⟩))∧Below w.heap.size w w':=by
 have HV : Hid (false=okE (k+1) ⟨o,n,u,s,A,c,l⟩):=Zh (okE_len (by rw [opsN_out (.inl ho)]; omega));simp only [PT.v];have hkd : decide ((k : Int)+1<1)=false:=decide_eq_false Zo;obtain ⟨V,hVV⟩ : ∃ V,okE (k+1) ⟨o,n,u,s,A,c,l⟩=V:=⟨_,rfl⟩;rw [hVV] at HV ⊢;have h1 : decide (o<0)=true:=decide_eq_true ho;clear hVV ho;go_enter Tryz.func73,Tryz.ntmps73;go_wp2_with fail;go_ret;exact ⟨ret_bool HV.out,qbl⟩
theorem r30_right_hi (k : Nat) (hk : k≤1000) (o n u : Int) (s : ByteArray) (A : Option Addr) (c : Nat) (l : List PT) (w : World) (ho : 16≤o) : Calls Tryz.prog 73 #[PT.v ⟨o,n,u,s,A,c,l⟩,.int .i64 ((k : Int)+1)] w fun r w'=>r = .returned (.bool (okE (k+1) ⟨o,n,u,s,A,c,l⟩))∧Below w.heap.size w w':=by
 have HV : Hid (false=okE (k+1) ⟨o,n,u,s,A,c,l⟩):=Zh (okE_len (by rw [opsN_out (.inr ho)]; omega));simp only [PT.v];have hkd : decide ((k : Int)+1<1)=false:=decide_eq_false Zo;obtain ⟨V,hVV⟩ : ∃ V,okE (k+1) ⟨o,n,u,s,A,c,l⟩=V:=⟨_,rfl⟩;rw [hVV] at HV ⊢;have h1 : decide (o<0)=false:=decide_eq_false Zo;have h2 : decide (16≤o)=true:=decide_eq_true ho;clear hVV ho;go_enter Tryz.func73,Tryz.ntmps73;go_wp2_with fail;go_ret;exact ⟨ret_bool HV.out,qbl⟩
theorem r30_rightS (k : Nat) (hk : k≤1000) (ih : RxP k) : RxP (k+1):=by
 rintro ⟨o,n,u,s,A,c,l⟩ w he;(have hkk : ((k+1 : Nat) : Int)=(k : Int)+1:=by omega);rw [hkk];by_cases hlo : o<0
 ·exact r30_right_lo k hk o n u s A c l w hlo
 by_cases hhi : 16≤o
 ·exact r30_right_hi k hk o n u s A c l w hhi
 by_cases h0 : o=0
 ·subst h0; exact r30_right_num k n u s A c l w he
 by_cases h1 : o=1
 ·subst h1; exact r30_right_nm1 k n u s A c l w he
 by_cases h2 : o=2
 ·subst h2; exact r30_right_nm2 k n u s A c l w he
 by_cases h3 : o=3
 ·subst h3; exact r30_right_nm3 k n u s A c l w he
 by_cases h12 : o=12
 ·subst h12; exact r30_right_op12 k hk ih n u s A c l w he
 by_cases h15 : o=15
 ·subst h15; exact r30_right_op15 k hk ih n u s A c l w he
 exact r30_right_opel k hk ih o Zo Zo h12 h15 n u s A c l w he
theorem r30_right : ∀ k : Nat,k≤1000→RxP k
 | 0,_=>r30_right0
 | k+1,hk=>r30_rightS k Zo (r30_right k Zo)
theorem r30_rexp (e : PT) (w : World) (he : PT.At (· < w.heap.size) w e) : Calls Tryz.prog 48 #[e.v] w fun r w'=>r = .returned (.bool (rexp e))∧Below w.heap.size w w':=by
 have HI:=Zh (fun w2 (h : PT.At (· < w2.heap.size) w2 e)=>r30_right 12 Zo e w2 h);have HE:=Zh he;clear he;obtain ⟨o,n,u,s,A,c,l⟩:=e;simp only [PT.v] at HI ⊢;go_enter Tryz.func48,Tryz.ntmps48;go_wp2_with fail;have HB : Hid (Below w.heap.size w (w.alloc (.cells #[.int .i64 o,.int .i64 n,.int .i64 u,.string s,.slice A l.length c] 25))):=Zh qbl;refine (HI.out _ (HE.out.later HB.out)).mono ?_;rintro e w' ⟨rfl,hb⟩;have hB : Below w.heap.size w w':=HB.out.trans (hb.mono HB.out.size);clear hb;obtain ⟨r,hr⟩ : ∃ r,okE 12 ⟨o,n,u,s,A,c,l⟩=r:=⟨_,rfl⟩;rw [hr];have HR : Hid (r=rexp ⟨o,n,u,s,A,c,l⟩):=Zh hr.symm;clear hr;go_wp2_with fail;go_ret;exact ⟨ret_bool HR.out,hB⟩
theorem inL_take {x : ByteArray} {l : List ByteArray} {j : Nat} (hj : j<l.length) : inL x (l.take (j+1))=(inL x (l.take j) || (x.toList == l[j].toList)):=by
 unfold inL;rw [List.take_succ_eq_append_getElem hj,List.any_append];simp
theorem r30_names (s : Sl ByteArray) (m : Int) (w : World) (hr : Rd (· < w.heap.size) 1 senc w s) (hs : ∀ x,x ∈ s.l→x.size≤9223372036854775807) : Calls Tryz.prog 71 #[.slice s.A s.l.length s.c,.int .i64 m] w fun e w'=>e = .returned (.bool (uniqB [] s.l && decide ((s.l.length : Int)≤m)))∧Below w.heap.size w w':=by
 obtain ⟨A,c,l⟩:=s;have hn:=hr.len;simp only at hn;have HR:=Zh hr;have HS:=Zh hs;clear hr hs;simp only;obtain ⟨V,hVV⟩ : ∃ V,(uniqB [] l && decide ((l.length : Int)≤m))=V:=⟨_,rfl⟩;rw [hVV];have HVV:=Zh hVV;clear hVV;go_enter Tryz.func71,Tryz.ntmps71;go_wp2_with fail;go_loopw [5] (fun i wr=>∃ (k : Nat),k≤l.length∧i = .int .i64 k∧Below w.heap.size w wr∧Hid (uniqB [] l=uniqB (l.take k) (l.drop k))) (fun i _=>l.length - (intOf i).toNat)
 case atStart=>exact ⟨0,by omega,rfl,Below.refl _ _,Zh Zs⟩
 case round =>
  obtain ⟨k,hk,rfl,hbel,HG⟩:=hrel;have hhe : w.heap.size≤wr.heap.size:=hbel.size;by_cases hlt : k<l.length
  ·by_cases hkm : (k : Int)≤m
   ·obtain ⟨b,o,hA,hb,c0⟩:=(HR.out.later hbel).gets hlt;simp only at hA c0;subst hA;have hd : l.drop k=l[k] :: l.drop (k+1):=List.drop_eq_getElem_cons hlt;(have ht : l.take (k+1)=l.take k ++ [l[k]]:=by rw [List.take_succ_eq_append_getElem hlt]);have hgo:=HG.out;rw [hd] at hgo;have HGO:=Zh hgo;have HT:=Zh ht;have HN:=Zh (fun w2=>r30_Name l[k] w2 (HS.out _ (List.getElem_mem hlt)));have HX : Hid (∃ x,l[k]=x):=Zh ⟨_,rfl⟩;obtain ⟨x,hx⟩:=HX.out;rw [hx] at HGO HT HN c0;have HXX:=Zh hx;clear hd ht hgo HG HX hx;rcases hnx : nameB x
    ·have HV:=Zh (HGO.out.trans (uniqB_no hnx));go_wp2_with fail;refine (HN.out _).mono ?_;rintro e w' ⟨rfl,hb1⟩;have hB:=hbel.trans (hb1.mono hhe);clear hb1;rw [hnx];clear hnx;go_wp2_with fail;go_ret;exact ⟨ret_bool (by rw [← HVV.out,HV.out]; rfl),hB⟩
    ·go_wp2_with fail;refine (HN.out _).mono ?_;rintro e w' ⟨rfl,hb1⟩;have HB0 : Hid (Below w.heap.size w w'):=Zh (hbel.trans (hb1.mono hhe));clear hb1;rw [hnx];have HNX:=Zh hnx;clear hnx hbel hhe;go_wp2_with fail;go_loopw [6] (fun i w2=>∃ (j : Nat),j≤k∧i = .int .i64 j∧Below w.heap.size w w2∧Hid (inL x (l.take j)=false)) (fun i _=>k - (intOf i).toNat)
     case atStart=>exact ⟨0,by omega,rfl,HB0.out,Zh rfl⟩
     case round =>
      obtain ⟨j,hj,rfl,hbel,HJ⟩:=hrel;by_cases hjk : j<k
      ·(have hjl : j<l.length:=by omega);obtain ⟨bz,oz,hAz,_,d0⟩:=(HR.out.later hbel).gets (show j<l.length by omega);obtain ⟨by_,oy,hAy,_,d1⟩:=(HR.out.later hbel).gets hlt;simp only at hAz d0 hAy d1;(obtain ⟨rfl,rfl⟩ : b=bz∧o=oz:=by simpa using hAz);(obtain ⟨rfl,rfl⟩ : b=by_∧o=oy:=by simpa using hAy);rw [HXX.out] at d1;have HTJ:=Zh (inL_take (x:=x) (show j<l.length by omega))
       have HMEM:=Zh (fun (h : (x.toList == (l[j]'Zo).toList)=true)=>(inL_iff x (l.take k)).2 (by
        rw [bytes_beq] at h;rw [(by simpa using h : x=l[j]'Zo)];exact List.mem_take_iff_getElem.2 ⟨j,by omega,rfl⟩))
       generalize l[j]'Zo=y at *;clear hAz hAy;go_wp2_with fail;refine wp_region_T (fun W=>W.cell? ⟨b,o+j,none⟩=some (.string y)∧W.cell? ⟨b,o+k,none⟩=some (.string x)) (fun _=>false) Zy ⟨d0,d1⟩ (fun hHeld=>?_);refine Zr 0 ?_;refine Zr 1 ?_;refine Zr 2 ?_;refine Zr 3 ?_;refine Zr 4 ?_;refine Zr 5 ?_;refine Zr 6 ?_;refine Zr 7 ?_;refine Zr 8 ?_;refine Ze ?_;clear hHeld;by_cases hxy : y=x
       ·(have heq : (y.toList == x.toList)=true:=by rw [bytes_beq]; simpa using hxy);have HV:=Zh (HGO.out.trans (uniqB_had (HMEM.out (by rw [hxy]; exact beq_self_eq_true _))));clear hxy;rw [heq];go_wp2_with fail;go_ret;exact ⟨ret_bool (by rw [← HVV.out,HV.out]; rfl),hbel.drew⟩
       ·have heq : (y.toList == x.toList)=false:=by rw [bytes_beq]; simpa using hxy
        have HJ2 : Hid (inL x (l.take (j+1))=false):=Zh (by
         rw [HTJ.out,HJ.out,bytes_beq];have : ¬ x=y:=fun h=>hxy h.symm;simpa using this)
        clear hxy;rw [heq];go_wp2_with fail;go_roundw
        case rel=>exact ⟨j+1,by omega,by go_num,hbel.drew,HJ2⟩
        case measure=>simp [intOf]; omega
      ·have HI : Hid (uniqB [] l=uniqB (l.take (k+1)) (l.drop (k+1))):=Zh (by
        have h:=HJ.out;rw [show j=k by omega] at h;rw [HGO.out,uniqB_on HNX.out h,← HT.out])
       go_wp2_with fail;go_roundw
       case rel=>exact ⟨k+1,by omega,by go_num,hbel,HI⟩
       case measure=>simp [intOf]; omega
   ·have hd : decide ((l.length : Int)≤m)=false:=decide_eq_false Zo;have HV : Hid (false=V):=Zh (by rw [← HVV.out,hd,Bool.and_false]);go_wp2_with fail;go_ret;exact ⟨ret_bool HV.out,hbel⟩
  ·have hkl : l.drop k=[]:=List.drop_eq_nil_of_le Zo;have hgo:=HG.out;rw [hkl] at hgo;have HV : Hid (decide ((l.length : Int)≤m)=V):=Zh (by rw [← HVV.out,hgo]; rfl);clear hkl hgo HG;go_wp2_with fail;go_ret;exact ⟨ret_bool HV.out,hbel⟩
theorem k_value (g m : Nat) (L : Sl LT) (T M : Sl FT) (hok : ∀ x,x ∈ L.l→okE 12 x.b=true) (hT : ∀ x,x ∈ T.l→-9223372036854775808≤x.v∧x.v≤9223372036854775807) (hM : ∀ x,x ∈ M.l→-9223372036854775808≤x.v∧x.v≤9223372036854775807) : ∀ n,n≤L.l.length→∀ k,ValK g m L T M n k:=by
 intro n
 induction n using Nat.strongRecOn with
 | ind n ihn =>
  intro hn k
  induction k with
  | zero=>intro e X E W hk; unfold okE at hk; cases hk
  | succ k ih =>
   rintro ⟨o,a,u,s,A,c,l⟩ X E W hk he hs;by_cases h0 : o=0
   ·subst h0;exact k_val_num g m L T M n k a u s A c l X E W (okE_numb hk).1 (okE_numb hk).2 he hs
   by_cases h1 : o=1
   ·subst h1;exact k_val_name g m L T M n k hn (fun j hj=>ihn j hj Zo 12) hok a u s A c l X E W he hs
   by_cases h2 : o=2
   ·subst h2;exact k_val_trip g m L T M n k a u s A c l X E W hT he hs
   by_cases h3 : o=3
   ·subst h3;exact k_val_memb g m L T M n k a u s A c l X E W hM he hs
   have hall:=okE_all hk h0 h1 h2 h3;have hlen:=okE_is hk;by_cases h12 : o=12
   ·subst h12;obtain ⟨x,hl⟩:=len_one (l:=l) (by have h : opsN 12=1:=(by decide); omega);exact k_val_not g m L T M n k ih a u s A c l x hl (hall x (by rw [hl]; simp)) X E W he hs
   by_cases h15 : o=15
   ·subst h15;obtain ⟨x,y,z,hl⟩:=len_three (l:=l) (by have h : opsN 15=3:=(by decide); omega);exact k_val_ite g m L T M n k ih a u s A c l x y z hl (hall x (by rw [hl]; simp)) (hall y (by rw [hl]; simp)) (hall z (by rw [hl]; simp)) X E W he hs
   obtain ⟨x,y,hl⟩:=len_two (l:=l) (opsN_two hlen h0 h1 h2 h3 h12 h15);have hx:=hall x (by rw [hl]; simp);have hy:=hall y (by rw [hl]; simp);by_cases h13 : o=13
   ·subst h13;exact k_val_and g m L T M n k ih a u s A c l x y hl hx hy X E W he hs
   by_cases h14 : o=14
   ·subst h14;exact k_val_or g m L T M n k ih a u s A c l x y hl hx hy X E W he hs
   exact k_val_two g m L T M n k ih o a u s A c l x y hl hx hy X E W h0 h1 h2 h3 h12 h13 h14 h15 he hs
theorem infoNote : Info Tryz.prog 147 (.agg #[.bool false,.int .i64 0,.slice none 0 0,.int .i64 0,.slice none 0 0,.int .i64 0]) 6 80:=info_mk Zy rfl
theorem make_notes (n : Nat) (hn : n≤100000) (w : World) : (Instr.makeSlice 86 (.int .i64 (n : Int)) (.int .i64 (n : Int))).run Tryz.prog w = .ok (.slice (some ⟨w.heap.size,0,none⟩) n n) (w.alloc (.cells ((List.replicate n NT.zero).flatMap NT.enc).toArray 147)):=by
 obtain ⟨i,hi,hz,hsize,hby,hzs⟩:=infoNote;have h:=run_makeSlice w 86 147 i _ Tryz.underlying86 hi hz .i64 .i64 (n : Int) (n : Int) Zo (Int.le_refl _) (by rw [hsize]; omega) (by rw [hby]; omega) Zo
 have hc : madeCells (Value.agg #[.bool false,.int .i64 0,.slice none 0 0,.int .i64 0,.slice none 0 0,.int .i64 0]).cells (n * 6)=((List.replicate n NT.zero).flatMap NT.enc).toArray:=by
  unfold madeCells;apply Array.ext_getElem?;intro j;rw [List.getElem?_toArray (xs:=(List.replicate n NT.zero).flatMap NT.enc)];rcases Nat.lt_or_ge j (n * 6) with hj | hj
  ·(have hq : (List.replicate n NT.zero)[j / 6]? = some NT.zero:=by rw [List.getElem?_replicate,if_pos Zo]);have hf:=flat_get NT.enc_k (List.replicate n NT.zero) (j / 6) (j % 6) NT.zero hq Zo;rw [show j / 6 * 6+j % 6=j by omega] at hf;rw [hf,Array.getElem?_map,Array.getElem?_range,if_pos hj];(have h6 : j % 6<6:=by omega);have hsz : (Value.agg #[.bool false,.int .i64 0,.slice none 0 0,.int .i64 0,.slice none 0 0,.int .i64 0]).cells.size=6:=rfl;simp only [Option.map_some,hsz];generalize j % 6=t at h6
   match t,h6 with
   | 0,_=>rfl
   | 1,_=>rfl
   | 2,_=>rfl
   | 3,_=>rfl
   | 4,_=>rfl
   | 5,_=>rfl
  ·rw [Array.getElem?_eq_none (by simpa using hj),List.getElem?_eq_none (by rw [flat_len NT.enc_k,List.length_replicate]; exact hj)]
 rw [h,hsize];simp only [Int.toNat_natCast,hc]
theorem byl_f0 {b : Byl} (h : nameB b.nm=false) : bylB b=false:=by unfold bylB; simp [h]
theorem byl_f1 {b : Byl} (h : rexp b.ad=false) : bylB b=false:=by unfold bylB; simp [h]
theorem byl_f2 {b : Byl} (h : rexp b.fa=false) : bylB b=false:=by unfold bylB; simp [h]
theorem byl_f3 {b : Byl} (h : rexp b.la=false) : bylB b=false:=by unfold bylB; simp [h]
theorem byl_f4 {b : Byl} (h : rexp b.no=false) : bylB b=false:=by unfold bylB; simp [h]
theorem byl_f5 {b : Byl} (h : inB 0 1000 b.q=false) : bylB b=false:=by unfold bylB; simp [h]
theorem byl_f6 {b : Byl} (h : inB 0 1000 b.sh=false) : bylB b=false:=by unfold bylB; simp [h]
theorem byl_f7 {b : Byl} (h : inB 1 1000 b.ch=false) : bylB b=false:=by unfold bylB; simp [h]
theorem byl_t {b : Byl} (h0 : nameB b.nm=true) (h1 : rexp b.ad=true) (h2 : rexp b.fa=true) (h3 : rexp b.la=true) (h4 : rexp b.no=true) (h5 : inB 0 1000 b.q=true) (h6 : inB 0 1000 b.sh=true) (h7 : inB 1 1000 b.ch=true) : bylB b=(b.lets.l.all (fun x=>rexp x.b) && (uniqB [] (namesL b.lets.l) && decide ((b.lets.l.length : Int)≤20))):=by unfold bylB; simp [h0,h1,h2,h3,h4,h5,h6,h7]
theorem r30_Right (b : Byl) (w : World) (hb : Byl.At (· < w.heap.size) w b) (h40 : b.lets.l.length≤1000000) : Calls Tryz.prog 46 #[b.v] w fun e w'=>e = .returned (.bool (bylB b))∧Below w.heap.size w w':=by
 have HP:=Zh hb;clear hb;obtain ⟨V,hV⟩ : ∃ V,bylB b=V:=⟨_,rfl⟩;have HV:=Zh hV;rw [hV];clear hV;obtain ⟨nm,⟨LA,Lc,L⟩,⟨o,n,u,s,A,c,l⟩,⟨oB,nB,uB,sB,AB,cB,lB⟩,⟨oC,nC,uC,sC,AC,cC,lC⟩,⟨oD,nD,uD,sD,AD,cD,lD⟩,q,sh,ch⟩:=b;simp only at h40;simp only [Byl.v];go_enter Tryz.func46,Tryz.ntmps46;go_wp2_with fail;have HQ0 : Hid (Below w.heap.size w (w.alloc (.cells #[.string nm,.slice LA L.length Lc,.int .i64 o,.int .i64 n,.int .i64 u,.string s,.slice A l.length c,.int .i64 oB,.int .i64 nB,.int .i64 uB,.string sB,.slice AB lB.length cB,.int .i64 oC,.int .i64 nC,.int .i64 uC,.string sC,.slice AC lC.length cC,.int .i64 oD,.int .i64 nD,.int .i64 uD,.string sD,.slice AD lD.length cD,.int .i64 q,.int .i64 sh,.int .i64 ch] 27))):=Zh qbl;have HA:=Zh (Blk.new w 27 #[.string nm,.slice LA L.length Lc,.int .i64 o,.int .i64 n,.int .i64 u,.string s,.slice A l.length c,.int .i64 oB,.int .i64 nB,.int .i64 uB,.string sB,.slice AB lB.length cB,.int .i64 oC,.int .i64 nC,.int .i64 uC,.string sC,.slice AC lC.length cC,.int .i64 oD,.int .i64 nD,.int .i64 uD,.string sD,.slice AD lD.length cD,.int .i64 q,.int .i64 sh,.int .i64 ch]);generalize w.alloc (.cells _ 27)=z0 at *;have HK0 : Hid (Below z0.heap.size z0 z0):=Zh Zz;refine (r30_Name nm _ HP.out.nm).mono ?_;rintro e z1 ⟨rfl,hb⟩;have HQ1:=Zt HQ0 hb;have HK1:=Zt HK0 hb;clear hb;obtain ⟨r,hr⟩ : ∃ r,nameB nm=r:=⟨_,rfl⟩;rw [hr];rcases r
 ·have HF : Hid (false=V):=Zh ((byl_f0 hr).symm.trans HV.out);clear hr;go_wp2_with fail;go_ret;exact ⟨ret_bool HF.out,HQ1.out⟩
 have HR0:=Zh hr;clear hr;obtain ⟨y0,y1,y2,y3,y4,y5,y6,y7,y8,y9,y10,y11,y12,y13,y14,y15,y16,y17,y18,y19,y20,y21,y22,y23,y24,yf,yz⟩:=(HA.out.later HK1.out).b25;go_wp2_with fail;refine (r30_rexp ⟨o,n,u,s,A,c,l⟩ _ (HP.out.later HQ1.out).ad).mono ?_;rintro e z2 ⟨rfl,hb⟩;have HQ2:=Zt HQ1 hb;have HK2:=Zt HK1 hb;clear hb;clear y0 y1 y2 y3 y4 y5 y6 y7 y8 y9 y10 y11 y12 y13 y14 y15 y16 y17 y18 y19 y20 y21 y22 y23 y24 yf yz;obtain ⟨r,hr⟩ : ∃ r,rexp ⟨o,n,u,s,A,c,l⟩=r:=⟨_,rfl⟩;rw [hr];rcases r
 ·have HF : Hid (false=V):=Zh ((byl_f1 hr).symm.trans HV.out);clear hr;go_wp2_with fail;go_ret;exact ⟨ret_bool HF.out,HQ2.out⟩
 have HR1:=Zh hr;clear hr;obtain ⟨y0,y1,y2,y3,y4,y5,y6,y7,y8,y9,y10,y11,y12,y13,y14,y15,y16,y17,y18,y19,y20,y21,y22,y23,y24,yf,yz⟩:=(HA.out.later HK2.out).b25;go_wp2_with fail;refine (r30_rexp ⟨oB,nB,uB,sB,AB,cB,lB⟩ _ (HP.out.later HQ2.out).fa).mono ?_;rintro e z3 ⟨rfl,hb⟩;have HQ3:=Zt HQ2 hb;have HK3:=Zt HK2 hb;clear hb;clear y0 y1 y2 y3 y4 y5 y6 y7 y8 y9 y10 y11 y12 y13 y14 y15 y16 y17 y18 y19 y20 y21 y22 y23 y24 yf yz;obtain ⟨r,hr⟩ : ∃ r,rexp ⟨oB,nB,uB,sB,AB,cB,lB⟩=r:=⟨_,rfl⟩;rw [hr];rcases r
 ·have HF : Hid (false=V):=Zh ((byl_f2 hr).symm.trans HV.out);clear hr;go_wp2_with fail;go_ret;exact ⟨ret_bool HF.out,HQ3.out⟩
 have HR2:=Zh hr;clear hr;obtain ⟨y0,y1,y2,y3,y4,y5,y6,y7,y8,y9,y10,y11,y12,y13,y14,y15,y16,y17,y18,y19,y20,y21,y22,y23,y24,yf,yz⟩:=(HA.out.later HK3.out).b25;go_wp2_with fail;refine (r30_rexp ⟨oC,nC,uC,sC,AC,cC,lC⟩ _ (HP.out.later HQ3.out).la).mono ?_;rintro e z4 ⟨rfl,hb⟩;have HQ4:=Zt HQ3 hb;have HK4:=Zt HK3 hb;clear hb;clear y0 y1 y2 y3 y4 y5 y6 y7 y8 y9 y10 y11 y12 y13 y14 y15 y16 y17 y18 y19 y20 y21 y22 y23 y24 yf yz;obtain ⟨r,hr⟩ : ∃ r,rexp ⟨oC,nC,uC,sC,AC,cC,lC⟩=r:=⟨_,rfl⟩;rw [hr];rcases r
 ·have HF : Hid (false=V):=Zh ((byl_f3 hr).symm.trans HV.out);clear hr;go_wp2_with fail;go_ret;exact ⟨ret_bool HF.out,HQ4.out⟩
 have HR3:=Zh hr;clear hr;obtain ⟨y0,y1,y2,y3,y4,y5,y6,y7,y8,y9,y10,y11,y12,y13,y14,y15,y16,y17,y18,y19,y20,y21,y22,y23,y24,yf,yz⟩:=(HA.out.later HK4.out).b25;go_wp2_with fail;refine (r30_rexp ⟨oD,nD,uD,sD,AD,cD,lD⟩ _ (HP.out.later HQ4.out).no).mono ?_;rintro e z5 ⟨rfl,hb⟩;have HQ5:=Zt HQ4 hb;have HK5:=Zt HK4 hb;clear hb;clear y0 y1 y2 y3 y4 y5 y6 y7 y8 y9 y10 y11 y12 y13 y14 y15 y16 y17 y18 y19 y20 y21 y22 y23 y24 yf yz;obtain ⟨r,hr⟩ : ∃ r,rexp ⟨oD,nD,uD,sD,AD,cD,lD⟩=r:=⟨_,rfl⟩;rw [hr];rcases r
 ·have HF : Hid (false=V):=Zh ((byl_f4 hr).symm.trans HV.out);clear hr;go_wp2_with fail;go_ret;exact ⟨ret_bool HF.out,HQ5.out⟩
 have HR4:=Zh hr;clear hr;obtain ⟨y0,y1,y2,y3,y4,y5,y6,y7,y8,y9,y10,y11,y12,y13,y14,y15,y16,y17,y18,y19,y20,y21,y22,y23,y24,yf,yz⟩:=(HA.out.later HK5.out).b25;go_wp2_with fail;refine (r30_within q 0 1000 _).mono ?_;rintro e z6 ⟨rfl,rfl⟩;have HQ6:=HQ5;have HK6:=HK5;clear y0 y1 y2 y3 y4 y5 y6 y7 y8 y9 y10 y11 y12 y13 y14 y15 y16 y17 y18 y19 y20 y21 y22 y23 y24 yf yz;obtain ⟨r,hr⟩ : ∃ r,inB 0 1000 q=r:=⟨_,rfl⟩;rw [hr];rcases r
 ·have HF : Hid (false=V):=Zh ((byl_f5 hr).symm.trans HV.out);clear hr;go_wp2_with fail;go_ret;exact ⟨ret_bool HF.out,HQ6.out⟩
 have HR5:=Zh hr;clear hr;obtain ⟨y0,y1,y2,y3,y4,y5,y6,y7,y8,y9,y10,y11,y12,y13,y14,y15,y16,y17,y18,y19,y20,y21,y22,y23,y24,yf,yz⟩:=(HA.out.later HK6.out).b25;go_wp2_with fail;refine (r30_within sh 0 1000 _).mono ?_;rintro e z7 ⟨rfl,rfl⟩;have HQ7:=HQ6;have HK7:=HK6;clear y0 y1 y2 y3 y4 y5 y6 y7 y8 y9 y10 y11 y12 y13 y14 y15 y16 y17 y18 y19 y20 y21 y22 y23 y24 yf yz;obtain ⟨r,hr⟩ : ∃ r,inB 0 1000 sh=r:=⟨_,rfl⟩;rw [hr];rcases r
 ·have HF : Hid (false=V):=Zh ((byl_f6 hr).symm.trans HV.out);clear hr;go_wp2_with fail;go_ret;exact ⟨ret_bool HF.out,HQ7.out⟩
 have HR6:=Zh hr;clear hr;obtain ⟨y0,y1,y2,y3,y4,y5,y6,y7,y8,y9,y10,y11,y12,y13,y14,y15,y16,y17,y18,y19,y20,y21,y22,y23,y24,yf,yz⟩:=(HA.out.later HK7.out).b25;go_wp2_with fail;refine (r30_within ch 1 1000 _).mono ?_;rintro e z8 ⟨rfl,rfl⟩;have HQ8:=HQ7;have HK8:=HK7;clear y0 y1 y2 y3 y4 y5 y6 y7 y8 y9 y10 y11 y12 y13 y14 y15 y16 y17 y18 y19 y20 y21 y22 y23 y24 yf yz;obtain ⟨r,hr⟩ : ∃ r,inB 1 1000 ch=r:=⟨_,rfl⟩;rw [hr];rcases r
 ·have HF : Hid (false=V):=Zh ((byl_f7 hr).symm.trans HV.out);clear hr;go_wp2_with fail;go_ret;exact ⟨ret_bool HF.out,HQ8.out⟩
 have HR7:=Zh hr;clear hr;obtain ⟨y0,y1,y2,y3,y4,y5,y6,y7,y8,y9,y10,y11,y12,y13,y14,y15,y16,y17,y18,y19,y20,y21,y22,y23,y24,yf,yz⟩:=(HA.out.later HK8.out).b25;go_wp2_with fail;have HV2 : Hid ((L.all (fun x=>rexp x.b) && (uniqB [] (namesL L) && decide ((L.length : Int)≤20)))=V):=Zh ((byl_t HR0.out HR1.out HR2.out HR3.out HR4.out HR5.out HR6.out HR7.out).symm.trans HV.out);clear HV HR0 HR1 HR2 HR3 HR4 HR5 HR6 HR7;clear y0 y1 y2 y3 y4 y5 y6 y7 y8 y9 y10 y11 y12 y13 y14 y15 y16 y17 y18 y19 y20 y21 y22 y23 y24 yf yz;have HQZ : Hid (Below w.heap.size w z5):=HQ8;have HKZ : Hid (Below z0.heap.size z0 z5):=HK8;clear HQ0 HQ1 HQ2 HQ3 HQ4 HQ5 HQ6 HQ7 HQ8 HK0 HK1 HK2 HK3 HK4 HK5 HK6 HK7 HK8;generalize z5=z at *;go_loopw [3,4] (fun t i wr=>∃ (k : Nat) (B : Option Addr) (d : Nat) (nl : List ByteArray),k≤L.length∧nl.length=k∧i = .int .i64 k∧t = .slice B nl.length d∧Hid (Own z.heap.size 9 1 senc wr ⟨B,d,nl⟩)∧Below z.heap.size z wr∧Hid ((L.take k).all (fun x=>rexp x.b)=true∧nl=namesL (L.take k))) (fun _ i _=>L.length - (intOf i).toNat)
 case atStart=>exact ⟨0,none,0,[],by omega,rfl,rfl,rfl,Zh (Own.nil _ _ _ _ _),Below.refl _ _,Zh (by simp [namesL])⟩
 case round =>
  obtain ⟨k,B,d,nl,hk,hnl,rfl,rfl,HW,hbel,HG⟩:=hrel;have hhe : z.heap.size≤wr.heap.size:=hbel.size;have HQR:=Zt HQZ hbel;obtain ⟨y0,y1,y2,y3,y4,y5,y6,y7,y8,y9,y10,y11,y12,y13,y14,y15,y16,y17,y18,y19,y20,y21,y22,y23,y24,yf,yz⟩:=(HA.out.later (HKZ.out.trans (hbel.mono HKZ.out.size))).b25;by_cases hlt : k<L.length
  ·have hLW:=HP.out.lets;obtain ⟨b,p,hA,hbl,hcl⟩:=hLW.rd.at1 hlt;have HX:=Zh (hLW.all _ (List.getElem_mem hlt));have HM:=Zh (List.getElem_mem hlt);simp only at hA hcl HX;subst hA;(have ht : L.take (k+1)=L.take k ++ [L[k]]:=by rw [List.take_succ_eq_append_getElem hlt]);have HT:=Zh ht;have HN:=Zh hnl;(have hnb : nl.length+1≤1000001:=by omega);clear hLW ht hnl;generalize L[k]=x at *;obtain ⟨xn,xo,xm,xu,xs,xA,xc,xl⟩:=x;have HCL:=Zh hcl;obtain ⟨g0,g1,g2,g3,g4,g5⟩:=Cells.c6 (hcl.keep (HQR.out.block b hbl));clear hcl;go_wp2_with (at_builtin;go_must (refine wpl_append_sl _ rfl (.tmp 58) (.tmp 65) _ rfl Tryz.underlying65 infoStr Zo senc_k senc_one ⟨B,d,nl⟩ ⟨some ⟨wr.heap.size,0,none⟩,1,[xn]⟩ rfl rfl ((HW.out).alloc _) (rd_ones (Blk.new wr _ _)) (by simp [maxLen]; omega) (by simp; omega) (by simp; omega) ?_);intro A2 c2 w4 hown hg hh4;apply Hid.out);refine Zh ?_;have HB4 : Hid (Below z.heap.size z w4):=Zh ((Below.alloc hbel Zo _).grown hg (by simp; omega) (fun k hk=>by have:=World.ownsRow.lt HW.out k hk; omega));have HOW:=Zh hown;clear hg hown hh4 g0 g1 g2 g3 g4 g5 hbel hhe HW y0 y1 y2 y3 y4 y5 y6 y7 y8 y9 y10 y11 y12 y13 y14 y15 y16 y17 y18 y19 y20 y21 y22 y23 y24 yf yz;have HQ4:=Zt HQZ HB4.out;obtain ⟨y0,y1,y2,y3,y4,y5,y6,y7,y8,y9,y10,y11,y12,y13,y14,y15,y16,y17,y18,y19,y20,y21,y22,y23,y24,yf,yz⟩:=(HA.out.later (HKZ.out.trans (HB4.out.mono HKZ.out.size))).b25;have HX4:=Zh (HX.out.b.later HQ4.out);obtain ⟨g0,g1,g2,g3,g4,g5⟩:=Cells.c6 (HCL.out.keep (HQ4.out.block b hbl));go_wp2_with fail;refine (r30_rexp ⟨xo,xm,xu,xs,xA,xc,xl⟩ _ HX4.out).mono ?_;rintro e w5 ⟨rfl,hb5⟩;have HB5:=Zt HB4 hb5;have HOW5:=Zh (HOW.out.below hb5);clear hb5 g0 g1 g2 g3 g4 g5 y0 y1 y2 y3 y4 y5 y6 y7 y8 y9 y10 y11 y12 y13 y14 y15 y16 y17 y18 y19 y20 y21 y22 y23 y24 yf yz;obtain ⟨r,hr⟩ : ∃ r,rexp ⟨xo,xm,xu,xs,xA,xc,xl⟩=r:=⟨_,rfl⟩;rw [hr];rcases r
   ·have HF : Hid (false=V):=Zh (by rw [← HV2.out,all_no HM.out hr]; rfl);clear hr;go_wp2_with fail;go_ret;exact ⟨ret_bool HF.out,HQZ.out.trans (HB5.out.mono HQZ.out.size)⟩
   ·have HRX:=Zh hr;clear hr;go_wp2_with fail;go_roundw
    case measure=>simp [intOf]; omega
    case rel =>
     refine ⟨k+1,A2,c2,nl ++ [xn],by omega,by rw [List.length_append,HN.out]; rfl,by go_num,by simp,HOW5,HB5.out,Zh ⟨?_, ?_⟩⟩
     ·rw [HT.out,List.all_append,HG.out.1]; simp [HRX.out]
     ·rw [HT.out,HG.out.2]; simp [namesL]
  ·have hkl : L.take k=L:=List.take_of_length_le Zo;have hgo:=HG.out;rw [hkl] at hgo;obtain ⟨hall,hnl2⟩:=hgo;have HZ:=Zh (names_sz HP.out.lets);simp only at HZ;rw [← hnl2] at HZ
   have HF : Hid ((uniqB [] nl && decide ((nl.length : Int)≤20))=V):=Zh (by
    rw [← HV2.out,hall,hnl2,Bool.true_and,namesL,List.length_map])
   clear HG hall hnl2 hkl hnl;go_wp2_with fail;refine (r30_names ⟨B,d,nl⟩ 20 _ ((HW.out.rd senc_k).mono (fun b hb=>hb.2)) HZ.out).mono ?_;rintro e w6 ⟨rfl,hb6⟩;have HQ6:=Zt HQR hb6;clear hb6 y0 y1 y2 y3 y4 y5 y6 y7 y8 y9 y10 y11 y12 y13 y14 y15 y16 y17 y18 y19 y20 y21 y22 y23 y24 yf yz;simp only;rw [HF.out];go_wp2_with fail;go_ret;exact ⟨rfl,HQ6.out⟩
theorem r31_has (s : Sl ByteArray) (x : ByteArray) (w : World) (hr : Rd (· < w.heap.size) 1 senc w s) : Calls Tryz.prog 155 #[.slice s.A s.l.length s.c,.string x] w fun e w'=>e = .returned (.bool (inL x s.l))∧Below w.heap.size w w':=by
 obtain ⟨A,c,l⟩:=s;have hn:=hr.len;simp only at hn;have HR:=Zh hr;clear hr;simp only;go_enter Tryz.func155,Tryz.ntmps155;go_wp2_with fail;go_loopw [5] (fun i wr=>∃ (j : Nat),j≤l.length∧i = .int .i64 j∧Below w.heap.size w wr∧Hid (inL x (l.take j)=false)) (fun i _=>l.length - (intOf i).toNat)
 case atStart=>exact ⟨0,by omega,rfl,Below.refl _ _,Zh rfl⟩
 case round =>
  obtain ⟨j,hj,rfl,hbel,HJ⟩:=hrel;by_cases hjl : j<l.length
  ·obtain ⟨b,o,hA,_,d0⟩:=(HR.out.later hbel).gets hjl;simp only at hA d0;subst hA;have HTJ:=Zh (inL_take (x:=x) hjl);have HMEM:=Zh (List.getElem_mem hjl);generalize l[j]=y at *;by_cases hxy : y=x
   ·(have heq : (y.toList == x.toList)=true:=by rw [bytes_beq]; simpa using hxy);have HV : Hid (true=inL x l):=Zh ((inL_iff x l).2 (hxy ▸ HMEM.out)).symm;clear hxy;go_wp2_with fail;go_ret;exact ⟨ret_bool HV.out,hbel⟩
   ·have heq : (y.toList == x.toList)=false:=by rw [bytes_beq]; simpa using hxy
    have HJ2 : Hid (inL x (l.take (j+1))=false):=Zh (by
     rw [HTJ.out,HJ.out,bytes_beq];have : ¬ x=y:=fun h=>hxy h.symm;simpa using this)
    clear hxy;go_wp2_with fail;go_roundw
    case rel=>exact ⟨j+1,by omega,by go_num,hbel,HJ2⟩
    case measure=>simp [intOf]; omega
  ·have HV : Hid (false=inL x l):=Zh (by
    have h:=HJ.out;rw [List.take_of_length_le Zo] at h;exact h.symm)
   go_wp2_with fail;go_ret;exact ⟨ret_bool HV.out,hbel⟩
theorem rd_4str {w : World} (a b c d : ByteArray) : Rd (· < (w.alloc (.cells #[.string a,.string b,.string c,.string d] 9)).heap.size) 1 senc (w.alloc (.cells #[.string a,.string b,.string c,.string d] 9)) ⟨some ⟨w.heap.size,0,none⟩,4,[a,b,c,d]⟩ :=
by
  have h : Own w.heap.size 9 1 senc (w.alloc (.cells #[.string a,.string b,.string c,.string d] 9)) ⟨some ⟨w.heap.size,0,none⟩,4,[a,b,c,d]⟩:=Own.lit w #[.string a,.string b,.string c,.string d] [a,b,c,d] Zl (by unfold maxLen; simp) rfl senc_k
  exact (h.rd senc_k).mono (fun b hb=>hb.2)
theorem tri_m {s : ByteArray} (h : inL s [sDir,sRid,sDel,sNot]=true) : triU s=some 2:=by
 rw [inL_iff] at h;simp only [List.mem_cons,List.not_mem_nil,or_false] at h;rcases h with rfl | rfl | rfl | rfl <;> kernel_rfl
theorem tri_c {s : ByteArray} (h : inL s [sSea,sCha,sBag,sRis]=true) : triU s=some 0:=by
 rw [inL_iff] at h;simp only [List.mem_cons,List.not_mem_nil,or_false] at h;rcases h with rfl | rfl | rfl | rfl <;> kernel_rfl
theorem l_sDir : sDir.toList=[100,105,114,101,99,116]:=by kernel_rfl
theorem l_sRid : sRid.toList=[114,105,100,101]:=by kernel_rfl
theorem l_sDel : sDel.toList=[100,101,108,97,121]:=by kernel_rfl
theorem l_sNot : sNot.toList=[110,111,116,105,99,101]:=by kernel_rfl
theorem l_sSea : sSea.toList=[115,101,97,116,115]:=by kernel_rfl
theorem l_sCha : sCha.toList=[99,104,97,105,114,115]:=by kernel_rfl
theorem l_sBag : sBag.toList=[98,97,103,115]:=by kernel_rfl
theorem l_sRis : sRis.toList=[114,105,100,101,114,115]:=by kernel_rfl
theorem tri_n {s : ByteArray} (h : inL s [sDir,sRid,sDel,sNot]=false) (h2 : inL s [sSea,sCha,sBag,sRis]=false) : triU s=none:=by
 unfold inL at h h2;simp only [List.any_cons,List.any_nil,Bool.or_false,Bool.or_eq_false_iff] at h h2;obtain ⟨a,b,c,d⟩:=h;obtain ⟨e,f,g,i⟩:=h2;rw [l_sDir] at a;rw [l_sRid] at b;rw [l_sDel] at c;rw [l_sNot] at d;rw [l_sSea] at e;rw [l_sCha] at f;rw [l_sBag] at g;rw [l_sRis] at i;unfold triU;rw [if_neg (by rw [Bool.not_eq_true]; exact a),if_neg (by rw [Bool.not_eq_true]; exact b),if_neg (by rw [Bool.not_eq_true]; exact c),if_neg (by rw [Bool.not_eq_true]; exact d),if_neg (by rw [Bool.not_eq_true]; exact e),if_neg (by rw [Bool.not_eq_true]; exact f),if_neg (by rw [Bool.not_eq_true]; exact g),if_neg (by rw [Bool.not_eq_true]; exact i)]
theorem r31_Member (s : ByteArray) (w : World) : Calls Tryz.prog 112 #[.string s] w fun r w'=>r = .returned (optV (memU s))∧w=w':=by
 obtain ⟨V,hV⟩ : ∃ V,optV (memU s)=V:=⟨_,rfl⟩;rw [hV];have HV:=Zh hV;clear hV;go_enter Tryz.func112,Tryz.ntmps112;go_wp2_with fail
 all_goals
  refine bodyPost_ret (v:=V) ?_ rfl ⟨rfl,rfl⟩
  rw [← HV.out]
  clear HV
  first
   | (simp [results,Tryz.results112,go_sem,optV,memU, *]; done)
   | (simp [results,Tryz.results112,go_sem,optV,memU]; simp_all; done)
   | (exfalso; simp_all; done)
   | (simp [results,Tryz.results112,go_sem,optV,memU, *]; trace_state; done)
theorem r31_Trip (s : ByteArray) (w : World) : Calls Tryz.prog 111 #[.string s] w fun r w'=>r = .returned (optV (triU s))∧Below w.heap.size w w':=by
 have HM:=Zh (fun (h : inL s [sDir,sRid,sDel,sNot]=true)=>tri_m h);have HC:=Zh (fun (h : inL s [sSea,sCha,sBag,sRis]=true)=>tri_c h);have HN:=Zh (fun (h : inL s [sDir,sRid,sDel,sNot]=false) (h2 : inL s [sSea,sCha,sBag,sRis]=false)=>tri_n h h2);generalize triU s=U at *;go_enter Tryz.func111,Tryz.ntmps111;go_wp2_with fail;refine (r31_has ⟨some ⟨w.heap.size,0,none⟩,4,[sDir,sRid,sDel,sNot]⟩ s _ (rd_4str _ _ _ _)).mono ?_;rintro e w1 ⟨rfl,hb⟩;have HB1 : Hid (Below w.heap.size w w1):=Zh (Below.trans qbl (hb.mono Zp));clear hb;simp only;obtain ⟨r,hr⟩ : ∃ r,inL s [sDir,sRid,sDel,sNot]=r:=⟨_,rfl⟩;rw [hr];rw [hr] at HN;rcases r
 ·clear hr HM;go_wp2_with fail;refine (r31_has ⟨some ⟨w1.heap.size,0,none⟩,4,[sSea,sCha,sBag,sRis]⟩ s _ (rd_4str _ _ _ _)).mono ?_;rintro e w2 ⟨rfl,hb⟩;have HB2 : Hid (Below w.heap.size w w2):=Zh (HB1.out.trans (Below.mono (Below.trans qbl (hb.mono Zp)) HB1.out.size));clear hb;simp only;obtain ⟨r,hr⟩ : ∃ r,inL s [sSea,sCha,sBag,sRis]=r:=⟨_,rfl⟩;rw [hr];rcases r
  ·have HU:=Zh (HN.out (by trivial) hr);clear hr HN HC;go_wp2_with fail;refine bodyPost_ret (v:=optV U) ?_ rfl ⟨rfl,HB2.out⟩;rw [HU.out];simp [results,Tryz.results111,go_sem,optV]
  ·have HU:=Zh (HC.out hr);clear hr HN HC;go_wp2_with fail;refine bodyPost_ret (v:=optV U) ?_ rfl ⟨rfl,HB2.out⟩;rw [HU.out];simp [results,Tryz.results111,go_sem,optV]
 ·have HU:=Zh (HM.out hr);clear hr HN HC;go_wp2_with fail;refine bodyPost_ret (v:=optV U) ?_ rfl ⟨rfl,HB1.out⟩;rw [HU.out];simp [results,Tryz.results111,go_sem,optV]
end Go.Proofs.YtcgocdhhneckhaaGreat
