/- Walks of tonneauref04: over. -/
import Derived.Test.YtcgocdhhneckhaaGreatDoorEvbxbj
import Derived.Test.YtcgocdhhneckhaaGreatDoorEvbxar
set_option linter.unusedSimpArgs false
set_option linter.unusedVariables false
set_option maxRecDepth 100000
set_option maxHeartbeats 6400000
namespace Go.Proofs.YtcgocdhhneckhaaGreatDoor
open Go.RowKit
def OvP (w w' : World) (x y : Nat) (e : Ending) : Prop:=∃ s t : Sl Int,e = .returned (.tuple #[.slice s.A s.l.length s.c,.slice t.A t.l.length t.c])∧s.l=digs (x / y)∧t.l=digs (x % y)∧Rd (Nw w.heap.size w') 1 ienc w' s∧Rd (Nw w.heap.size w') 1 ienc w' t∧Below w.heap.size w w'
theorem digs_ok (n : Nat) : DigOK (digs n):=(digs_norm n).ok
theorem digs_le {n k : Nat} (h : (n : Int)<pw k) : (digs n).length≤k:=digs_len.2 h
theorem trim_cons {x : Int} {r n : Nat} (h0 : 0≤x) (h1 : x<1048576) (hn : x+1048576 * (r : Int)=n) : trimL (x :: digs r)=digs n:=by
 rw [trimL_is (digOK_cons.2 ⟨⟨h0,h1⟩,digs_ok r⟩)];simp only [val];rw [digs_val,hn,Int.toNat_natCast]
theorem own_slp {w w1 w' : World} {n : Nat} {s : Sl Int} (h : Own w1.heap.size 3 1 ienc w' s) (hs : w.heap.size≤w1.heap.size) : Own w.heap.size 3 1 ienc w' s:=h.mono hs
theorem r04_over (a b : Sl Int) (w : World) (ha : Rd (· < w.heap.size) 1 ienc w a) (hb : Rd (· < w.heap.size) 1 ienc w b) (na : DigOK a.l) (nb : DigOK b.l) (hla : a.l.length≤190) (hlb : b.l.length≤180) {x y : Nat} (hx : val a.l=x) (hy : val b.l=y) (hy0 : 0<y) : Calls Tryz.prog 133 #[.slice a.A a.l.length a.c,.slice b.A b.l.length b.c] w fun e w'=>OvP w w' x y e:=by
 obtain ⟨A,c,l⟩:=a;obtain ⟨B,d,m⟩:=b;simp only at na nb hla hlb hx hy;have HA:=Zh ha;have HB:=Zh hb;have NA:=Zh na;have NB:=Zh nb;have HX:=Zh hx;have HY:=Zh hy;(have hyl : (y : Int)<pw 180:=by have h1:=val_lt nb; have h2:=pw_mono hlb; omega);have HYL:=Zh hyl;have hmk:=fun W : World=>make_ints l.length Zo W;clear ha hb na nb hx hy hyl;simp only;go_enter Tryz.func133,Tryz.ntmps133;go_wp2_with fail;clear hmk
 have hO : OI w.heap.size (w.alloc (.cells (ints (List.replicate l.length 0)) 3)) w.heap.size l.length (List.replicate l.length 0):=by
  have h:=OI.new w (List.replicate l.length 0) (by rw [List.length_replicate]; unfold maxLen; omega)
  rwa [List.length_replicate] at h
 have HO:=Zh hO;have HB0 : Hid (Below w.heap.size w (w.alloc (.cells (ints (List.replicate l.length 0)) 3))):=Zh qbl;(have hz0 : w.heap.size+1≤(w.alloc (.cells (ints (List.replicate l.length 0)) 3)).heap.size:=by simp);clear hO;generalize w.alloc (.cells (ints (List.replicate l.length 0)) 3)=w0 at *;go_loopw [8,7] (fun v u wr=>∃ (k r : Nat) (rA : Option Addr) (rc : Nat) (q : List Int),k≤l.length∧v = .int .i64 ((k : Int) - 1)∧u = .slice rA (digs r).length rc∧Hid (OverR l m k q r)∧Hid (OI w.heap.size wr w.heap.size l.length q)∧Hid (Own (w.heap.size+1) 3 1 ienc wr ⟨rA,rc,digs r⟩)∧Below w.heap.size w wr∧w.heap.size+1≤wr.heap.size) (fun v _ _=>(intOf v+1).toNat)
 case atStart=>exact ⟨l.length,0,none,0,List.replicate l.length 0,Nat.le_refl _,by go_num,by rw [digs_zero]; rfl,Zh (OverR.start (by rw [HY.out]; omega)),HO,Zh (by rw [digs_zero]; exact Own.nil _ _ _ _ _),HB0.out,hz0⟩
 case round =>
  obtain ⟨k,r,rA,rc,q,hk,rfl,rfl,HS,HQ,HR,hbel,hsz⟩:=hrel;obtain ⟨wo,hwo⟩ : ∃ x,x=wr:=⟨_,rfl⟩;subst hwo;(have hry : r<y:=by have h:=HS.out.lt; rw [HY.out] at h; omega);have hrl : (digs r).length≤180:=digs_le (by have:=HYL.out; omega);rcases k with _ | k
  ·obtain ⟨hq1,hq2⟩:=HS.out.done HX.out HY.out hy0;subst hq2;have hql : q.length=l.length:=HS.out.len;have HLT:=Zh (r04_trim ⟨some ⟨w.heap.size,0,none⟩,l.length,q⟩ wo HQ.out.rd (fun b hb=>by have:=HQ.out.lt; omega) (by simp only; omega));simp only at HLT;rw [hq1,hql] at HLT;have HR2 : Hid (Rd (Nw w.heap.size wo) 1 ienc wo ⟨rA,rc,digs (x % y)⟩):=Zh ((HR.out.rd ienc_k).mono fun b hb=>⟨by have:=hb.1; omega,hb.2⟩);clear HS HQ hq1 hql HR HA HB;go_wp2_with fail;refine HLT.out.mono ?_;rintro e w4 ⟨⟨A4,c4,l4⟩,rfl,hl4,hown4,hb4⟩;simp only at hl4;subst hl4;simp only [Sl.v];have HF : Hid (OvP w w4 x y (.returned (.tuple #[.slice A4 (digs (x / y)).length c4,.slice rA (digs (x % y)).length rc]))):=Zh ⟨⟨A4,c4,digs (x / y)⟩,⟨rA,rc,digs (x % y)⟩,rfl,rfl,rfl,(hown4.rd ienc_k).mono fun b hb=>⟨Nat.le_trans hbel.size hb.1,hb.2⟩,HR2.out.nw Zl hb4,hbel.trans (hb4.mono hbel.size)⟩;clear hown4 hb4 HLT HR2;go_wp2_with fail;refine bodyPost_ret (v:=.tuple #[.slice A4 (digs (x / y)).length c4,.slice rA (digs (x % y)).length rc]) ?_ rfl HF.out;simp [results,Tryz.results133,go_sem,]
  ·rw [show ((k+1 : Nat) : Int) - 1=(k : Int) by omega];have hkl : k<l.length:=hk;obtain ⟨b1,o1,hA,_,c0⟩:=(HA.out.later hbel).geti hkl;simp only at hA c0;subst hA;have hxb:=NA.out.get hkl;have HLK:=Zh (List.getElem?_eq_getElem hkl);generalize l[k]=dx at *;obtain ⟨v,hv⟩ : ∃ v : Nat,dx+1048576 * (r : Int)=v:=⟨(dx+1048576 * (r : Int)).toNat,by omega⟩;have HV:=Zh hv;have HTC:=Zh (trim_cons hxb.1 hxb.2 hv);have hv181 : (digs v).length≤181:=digs_le (by have h1:=HYL.out; rw [show (181 : Nat)=180+1 from rfl,pw_succ]; omega);have HVY : Hid (v<1048576 * y):=Zh Zo;clear hv;go_wp2_with (at_builtin;go_must (refine wpl_append_sl _ rfl (.tmp 26) (.tmp 27) _ rfl Tryz.underlying32 infoInt Zo ienc_k ienc_one ⟨some ⟨wo.heap.size,0,none⟩,1,[dx]⟩ ⟨rA,rc,digs r⟩ rfl rfl (OI.new wo [dx] (by simp [maxLen])) ((HR.out.rd ienc_k).mono (fun b hb=>hb.2) |>.lt_alloc _) (by simp [maxLen]; omega) (by simp; omega) Zs ?_);intro A2 c2 w3 hown hg hdj;clear hdj;apply Hid.out);have hb3 : Below wo.heap.size wo w3:=(Zz.alloc Zl _).grown hg Zs (by simp [Value.ownBlock]);have HLT:=Zh (r04_trim ⟨A2,c2,dx :: digs r⟩ w3 (hown.rd ienc_k) (fun b hb=>hb.2) (by simp only [List.length_cons]; omega));simp only at HLT;rw [HTC.out,List.length_cons] at HLT;have hsz3:=hb3.size;clear hown hg;refine Zh ?_;go_wp2_with fail;refine HLT.out.mono ?_;rintro e w4 ⟨⟨A4,c4,l4⟩,rfl,hl4,hown4,hb4⟩;simp only at hl4;subst hl4;simp only [Sl.v];have HB4 : Hid (Below wo.heap.size wo w4):=Zh (hb3.trans (hb4.mono hb3.size));have HBW : Hid (Below w.heap.size w w4):=Zh (hbel.trans (HB4.out.mono hbel.size));have HO4 : Hid (Own (w.heap.size+1) 3 1 ienc w4 ⟨A4,c4,digs v⟩):=Zh (hown4.mono Zo);(have hsz4 : w.heap.size+1≤w4.heap.size:=by have:=HB4.out.size; omega);clear hown4 hb4 hb3 HR HLT c0;go_wp2_with fail;go_loopw [9,10] (fun lv hv wr=>∃ lo hi : Int,lv = .int .i64 lo∧hv = .int .i64 hi∧0≤lo∧lo<hi∧hi≤1048576∧Hid (lo * y≤v∧(v : Int)<hi * y)∧Below w4.heap.size w4 wr) (fun lv hv _=>(intOf hv - intOf lv).toNat)
   case atStart=>exact ⟨0,1048576,rfl,rfl,by omega,by omega,by omega,Zh ⟨by simp,by have:=HVY.out; omega⟩,Below.refl _ _⟩
   case round =>
    obtain ⟨lo,hi,rfl,rfl,hl0,hlh,hhi,HM,hbel2⟩:=hrel;have HBR:=Zt HBW hbel2;obtain ⟨dd,hdd⟩ : ∃ dd,hi - lo=dd:=⟨_,rfl⟩;by_cases hgo : 1<dd
    ·obtain ⟨mid,hmid⟩ : ∃ mid,mid=(lo+hi) / 2:=⟨_,rfl⟩;have hmi : (lo+hi) / 2=mid:=hmid.symm;(have hm1 : lo<mid:=by omega);(have hm2 : mid<hi:=by omega);have HTM:=Zh (r04_times ⟨B,d,m⟩ ⟨some ⟨wr.heap.size,0,none⟩,1,[mid]⟩ (wr.alloc (.cells #[.int .i64 mid] 3)) ((HB.out.later HBR.out).lt_alloc _) (OI.new wr [mid] (by simp [maxLen])).rdlt NB.out (digOK_cons.2 ⟨⟨by omega,by omega⟩,DigOK.nil⟩) (by simp only; omega) Zs (n:=y * mid.toNat) (by rw [val_one,HY.out]; push_cast; rw [Int.toNat_of_nonneg Zo]));simp only [List.length_singleton] at HTM;clear hmid;have hbn : Below wr.heap.size wr (wr.alloc (.cells #[.int .i64 mid] 3)):=qbl;have HBN:=Zh hbn;clear hbn;go_wp2_with fail;refine HTM.out.mono ?_;generalize wr.alloc (.cells _ 3)=wn at *;rintro e w5 ⟨⟨A5,c5,l5⟩,rfl,hl5,hown5,hb5⟩;simp only at hl5;subst hl5;simp only [Sl.v];have HB5 : Hid (Below w4.heap.size w4 w5):=Zh (hbel2.trans ((HBN.out.trans (hb5.mono HBN.out.size)).mono hbel2.size));have HLS:=Zh (r04_less ⟨A4,c4,digs v⟩ ⟨A5,c5,digs (y * mid.toNat)⟩ w5 ((HO4.out.below HB5.out).rd ienc_k) (rd_own hown5) (digs_ok v) (digs_ok _));simp only at HLS;(have hdc : decide (val (digs v)<val (digs (y * mid.toNat)))=decide ((v : Int)<y * mid):=by rw [digs_val,digs_val,decide_eq_decide]; push_cast; rw [Int.toNat_of_nonneg Zo]);rw [hdc] at HLS;clear hown5 hb5 HTM HBN hbel2 hdc;go_wp2_with fail;refine HLS.out.mono ?_;rintro e w' ⟨rfl,rfl⟩;by_cases hlt : (v : Int)<y * mid
     ·have hd : decide ((v : Int)<y * mid)=true:=decide_eq_true hlt;have HM2 : Hid (lo * y≤v∧(v : Int)<mid * y):=Zh ⟨HM.out.1,by rw [Int.mul_comm]; exact hlt⟩;rw [hd];clear HLS HM hd hlt;go_wp2_with fail;go_roundw
      case rel=>exact ⟨lo,mid,rfl,rfl,hl0,hm1,by omega,HM2,HB5.out⟩
      case measure=>simp [intOf]; omega
     ·have hd : decide ((v : Int)<y * mid)=false:=decide_eq_false hlt;have HM2 : Hid (mid * y≤v∧(v : Int)<hi * y):=Zh ⟨by rw [Int.mul_comm]; omega,HM.out.2⟩;rw [hd];clear HLS HM hd hlt;go_wp2_with fail;go_roundw
      case rel=>exact ⟨mid,hi,rfl,rfl,by omega,hm2,by omega,HM2,HB5.out⟩
      case measure=>simp [intOf]; omega
    ·(have hhi1 : hi=lo+1:=by omega);have HM : Hid (lo * y≤v∧(v : Int)<(lo+1) * y):=Zh (by rw [← hhi1]; exact HM.out);(have hdd1 : hi - lo=1:=by omega);(have hl1 : lo<1048576:=by omega);clear hdd hgo hhi1 hlh;obtain ⟨ln,hln⟩ : ∃ ln : Nat,lo=ln:=⟨lo.toNat,by omega⟩;have HLN:=Zh hln;clear hln;have hqo : OI w.heap.size wr w.heap.size l.length q:=(HQ.out.later HB4.out).later hbel2;(have hkq : k<q.length:=by rw [HS.out.len]; exact hkl);have hqf:=hqo.frozen k;have hqz:=hqo.lt;obtain ⟨zq,hqc⟩ : ∃ z,wr.cell? ⟨w.heap.size,k,none⟩=some (.int .i64 z):=⟨_,hqo.cell hkq⟩;obtain ⟨t,ht⟩ : ∃ t : Nat,(v : Int)=lo * y+t∧t<y:=⟨(v - lo * y).toNat,by have:=HM.out.1; omega,by have h1:=HM.out.1; have h2:=HM.out.2; rw [Int.add_mul,Int.one_mul] at h2; omega⟩;have HST : Hid (OI w.heap.size (wr.setCell ⟨w.heap.size,k,none⟩ (.int .i64 lo)) w.heap.size l.length (q.set k lo)):=Zh (hqo.set hkq lo);have HBS : Hid (Below w.heap.size w (wr.setCell ⟨w.heap.size,k,none⟩ (.int .i64 lo))):=Zh (HBR.out.setCell Zl _);have HOS : Hid (Own (w.heap.size+1) 3 1 ienc (wr.setCell ⟨w.heap.size,k,none⟩ (.int .i64 lo)) ⟨A4,c4,digs v⟩):=Zh ((HO4.out.below hbel2).far Zs _);have HSZS : Hid (w.heap.size+1≤(wr.setCell ⟨w.heap.size,k,none⟩ (.int .i64 lo)).heap.size):=Zh (by have:=hbel2.size; simp; omega)
     have HNX : Hid (OverR l m k (q.set k lo) t):=Zh (by
      have h:=HS.out.next (lo:=ln) HLK.out (by have:=HLN.out; omega) (by rw [HY.out,HV.out,← HLN.out]; exact HM.out.1) (by rw [HY.out,HV.out,← HLN.out]; exact HM.out.2);rw [HV.out,HY.out,← HLN.out] at h;have he : ((v : Int) - lo * (y : Int)).toNat=t:=by rw [ht.1]; omega
      rwa [he] at h)
     have HTY:=Zh ht;clear hqo hkq HQ HO4 HM HS hbel2 ht HBR;have HWZ : Hid ((wr.setCell ⟨w.heap.size,k,none⟩ (.int .i64 lo)).heap.size=wr.heap.size):=Zh Zs;go_wp2_with fail;generalize wr.setCell ⟨w.heap.size,k,none⟩ (.int .i64 lo)=ws at *;clear hqc hqf hqz;rw [← HWZ.out];refine (r04_trim ⟨some ⟨ws.heap.size,0,none⟩,1,[lo]⟩ _ (OI.new ws [lo] (by simp [maxLen])).rdlt (fun b hb=>hb) Zs).mono ?_;rintro e w5 ⟨⟨A5,c5,l5⟩,rfl,hl5,hown5,hb5⟩;simp only at hl5;rw [trim_one Zo Zo,HLN.out,Int.toNat_natCast] at hl5;subst hl5;simp only [Sl.v];have HB5 : Hid (Below ws.heap.size ws w5):=Zh (((Below.refl ws.heap.size ws).alloc Zl _).trans (hb5.mono Zs));have HBX:=Zt HBS HB5.out;have hl5 : (digs ln).length≤180:=digs_le (Int.lt_of_lt_of_le (show (ln : Int)<pw 1 by have:=HLN.out; simp [pw]; omega) (pw_mono Zo));have HTM:=Zh (r04_times ⟨B,d,m⟩ ⟨A5,c5,digs ln⟩ w5 (HB.out.later HBX.out) (rd_own hown5) NB.out (digs_ok ln) (by simp only; omega) (by simp only; omega) (n:=y * ln) (by rw [digs_val,HY.out]; push_cast; rfl));simp only at HTM;clear hown5 hb5;go_wp2_with fail;refine HTM.out.mono ?_;rintro e w6 ⟨⟨A6,c6,l6⟩,rfl,hl6,hown6,hb6⟩;simp only at hl6;subst hl6;simp only [Sl.v];have HB6:=Zt HB5 hb6;have HMN:=Zh (r04_minus ⟨A4,c4,digs v⟩ ⟨A6,c6,digs (y * ln)⟩ w6 (rd_own (HOS.out.below HB6.out)) (rd_own hown6) (digs_ok v) (digs_ok _) (by simp only; omega) (n:=t) (by rw [digs_val,digs_val,HTY.out.1,HLN.out]; push_cast; rw [Int.mul_comm]; omega));simp only at HMN;clear hown6 hb6 HTM hl5;go_wp2_with fail;refine HMN.out.mono ?_;rintro e w7 ⟨⟨A7,c7,l7⟩,rfl,hl7,hown7,hb7⟩;simp only at hl7;subst hl7;simp only [Sl.v];have HB7:=Zt HB6 hb7;have HO7 : Hid (Own (w.heap.size+1) 3 1 ienc w7 ⟨A7,c7,digs t⟩):=Zh (hown7.mono (by have:=HB6.out.size; have:=HSZS.out; omega));clear hown7 hb7 HMN;go_wp2_with fail;go_roundw
     case rel=>exact ⟨k,t,A7,c7,q.set k lo,by omega,by go_num,rfl,HNX,Zh (HST.out.later HB7.out),HO7,HBS.out.trans (HB7.out.mono HBS.out.size),Nat.le_trans HSZS.out HB7.out.size⟩
     case measure=>simp [intOf]
theorem last_digit {x : Int} (h : x≠0) {l : List Int} (hl : l=digs x.natAbs) : ∃ k,l.length=k+1∧∃ hk : k<l.length,l[k]≠0:=by
 subst hl;rcases hd : digs x.natAbs with _ | ⟨y,r⟩
 ·have:=digs_nil.1 hd; omega
 ·refine ⟨r.length,rfl,by simp,fun h0=>?_⟩;have hn:=(digs_norm x.natAbs).top;rw [hd] at hn;refine hn _ ?_ h0;rw [List.getLast?_eq_getElem?];simp
theorem r04_right (a : Big) (x : Int) (w : World) (ha : RB w a x) : Calls Tryz.prog 83 #[a.v] w fun e w'=>e = .returned (.bool true)∧Below w.heap.size w w':=by
 obtain ⟨s,⟨A,c,l⟩⟩:=a;have HR:=Zh ha.rd;have HOK:=Zh ha.norm.ok;have h60:=ha.len;have hs:=ha.s;have hl:=ha.l;simp only at h60 hs hl;have hx0 : x=0→s=0∧l.length=0:=fun h=>by subst h; rw [hs,hl]; simp [digs_zero]
 have hx1 : x≠0→(s=1∨s = -1)∧∃ k,l.length=k+1∧∃ hk : k<l.length,l[k]≠0:=fun h=>by
  refine ⟨?_,last_digit h hl⟩;rcases sign_cases x with h1 | h1 | h1 <;> omega
 have HX0:=Zh hx0;have HX1:=Zh hx1;clear ha hs hl hx0 hx1;simp only [Big.v];go_enter Tryz.func83,Tryz.ntmps83;go_wp2_with fail;go_loopw [3] (fun v wr=>∃ (k : Nat),k≤l.length∧v = .int .i64 k∧Blk wr w.heap.size 34 #[.int .i64 s,.slice A l.length c]∧Below w.heap.size w wr) (fun v _=>l.length - (intOf v).toNat)
 case atStart=>exact ⟨0,by omega,rfl,Blk.new _ _ _,qbl⟩
 case round =>
  obtain ⟨k,hk,rfl,hblk,hbel⟩:=hrel;obtain ⟨b0,b1,bf,bz⟩:=hblk.b2;have HBLK:=Zh hblk;clear hblk;by_cases hkl : k<l.length
  ·obtain ⟨b,o,hA,hF,c0⟩:=(HR.out.later hbel).geti hkl;simp only at hA c0;subst hA;have hd:=HOK.out.get hkl;generalize l[k]=y at *;go_wp2_with fail;go_roundw
   case rel=>exact ⟨k+1,by omega,by go_num,HBLK.out,hbel⟩
   case measure=>simp [intOf]; omega
  ·(obtain rfl : k=l.length:=by omega);clear hkl hk;by_cases hx : x=0
   ·obtain ⟨rfl,hl0⟩:=HX0.out hx;clear hx;go_wp2_with fail;go_ret;exact ⟨rfl,hbel⟩
   ·obtain ⟨hs,k,hlk,hkl,hne⟩:=HX1.out hx;obtain ⟨b,o,hA,hF,c0⟩:=(HR.out.later hbel).geti hkl;simp only at hA c0;subst hA;generalize l[k]=y at *;(have hlp : 0<l.length:=by omega);(have hk1 : (l.length : Int) - 1=(k : Int):=by omega);have hd1 : decide ((60 : Int)<(l.length : Int))=false:=decide_eq_false Zo;have hd2 : ((l.length : Int) == 0)=false:=beq_eq_false_iff_ne.2 Zo;have hd3 : (y == 0)=false:=beq_eq_false_iff_ne.2 hne;clear hx hlk;rcases hs with rfl | rfl
    ·go_wp2_with fail
     all_goals first | (exfalso; omega) | (go_ret; exact ⟨ret_bool (show (y != 0)=true by simp [hne]),hbel⟩)
    ·go_wp2_with fail
     all_goals first | (exfalso; omega) | (go_ret; exact ⟨ret_bool (show (y != 0)=true by simp [hne]),hbel⟩)
theorem r04_same (a b : Big) (x y : Int) (w : World) (ha : RB w a x) (hb : RB w b y) : Calls Tryz.prog 131 #[a.v,b.v] w fun e w'=>e = .returned (.bool (decide (x=y)))∧Below w.heap.size w w':=by
 obtain ⟨s,⟨A,c,l⟩⟩:=a;obtain ⟨t,⟨B,d,m⟩⟩:=b;have HR:=Zh ha.rd;have HT:=Zh hb.rd;have hda:=ha.d;have hdb:=hb.d;have hla:=ha.len;have hlb:=hb.len;simp only [Big.d] at hda hdb hla hlb
 have hiff : x=y↔(s=t∧l=m):=by
  constructor
  ·intro h; subst h; rw [← hdb] at hda; injection hda with h1 h2; exact ⟨h1,h2⟩
  ·rintro ⟨rfl,rfl⟩; rw [hda] at hdb; exact bigD_inj hdb
 have HI:=Zh hiff;clear ha hb hda hdb hiff;simp only [Big.v];have HB1 : Hid (Below w.heap.size w ((w.alloc (.cells #[.int .i64 s,.slice A l.length c] 34)).alloc (.cells #[.int .i64 t,.slice B m.length d] 34))):=Zh qbl;by_cases hst : s=t
 ·subst hst;by_cases hlm : l.length=m.length
  ·have HLM:=Zh hlm;rw [← hlm];clear hlm;go_enter Tryz.func131,Tryz.ntmps131;go_wp2_with fail;have HA1 : Hid (Blk ((w.alloc (.cells #[.int .i64 s,.slice A l.length c] 34)).alloc (.cells #[.int .i64 s,.slice B l.length d] 34)) w.heap.size 34 #[.int .i64 s,.slice A l.length c]):=Zh ((Blk.new _ _ _).alloc _);have HX1 : Hid (Blk ((w.alloc (.cells #[.int .i64 s,.slice A l.length c] 34)).alloc (.cells #[.int .i64 s,.slice B l.length d] 34)) (w.heap.size+1) 34 #[.int .i64 s,.slice B l.length d]):=Zh (Blk.new' Zs);rw [HLM.out.symm] at HB1;generalize (w.alloc (.cells #[.int .i64 s,.slice A l.length c] 34)).alloc (.cells #[.int .i64 s,.slice B l.length d] 34)=w1 at *;go_loopw [5] (fun v wr=>∃ (k : Nat),k≤l.length∧v = .int .i64 k∧Hid (l.take k=m.take k)∧Below w1.heap.size w1 wr) (fun v _=>l.length - (intOf v).toNat)
   case atStart=>exact ⟨0,by omega,rfl,Zh rfl,Below.refl _ _⟩
   case round =>
    obtain ⟨k,hk,rfl,HTK,hbel⟩:=hrel;have HBR:=Zt HB1 hbel;obtain ⟨a0,a1,af,az⟩:=(HA1.out.later hbel).b2;obtain ⟨b0,b1,bf,bz⟩:=(HX1.out.later hbel).b2;by_cases hkl : k<l.length
    ·(have hkm : k<m.length:=by have:=HLM.out; omega);obtain ⟨g1,o1,hA,_,c0⟩:=(HR.out.later HBR.out).geti hkl;obtain ⟨g2,o2,hB,_,c1⟩:=(HT.out.later HBR.out).geti hkm;simp only at hA c0 hB c1;subst hA hB;have HN : Hid (l[k]=m[k]→l.take (k+1)=m.take (k+1)):=Zh (fun h=>by rw [List.take_succ_eq_append_getElem hkl,List.take_succ_eq_append_getElem hkm,HTK.out,h])
     have HNE : Hid (l[k]≠m[k]→false=decide (x=y)):=Zh (fun h=>by
      symm; rw [decide_eq_false_iff_not,HI.out]
      rintro ⟨_,rfl⟩;exact h rfl)
     generalize l[k]=xx at *;generalize m[k]=yy at *;clear hkm;go_wp2_with fail;refine wp_region_T (fun W=>W.cell? ⟨w.heap.size,1,none⟩=some (.slice (some ⟨g1,o1,none⟩) l.length c)∧W.cell? ⟨w.heap.size+1,1,none⟩=some (.slice (some ⟨g2,o2,none⟩) l.length d)∧W.cell? ⟨g1,o1+k,none⟩=some (.int .i64 xx)∧W.cell? ⟨g2,o2+k,none⟩=some (.int .i64 yy)) (fun _=>false) Zy ⟨a1,b1,c0,c1⟩ (fun hHeld=>?_);refine Zr 0 ?_;refine Zr 1 ?_;refine Zr 2 ?_;refine Zr 3 ?_;refine Zr 4 ?_;refine Zr 5 ?_;refine Zr 6 ?_;refine Zr 7 ?_;refine Zr 8 ?_;refine Zr 9 ?_;refine Zr 10 ?_;refine Ze ?_;clear hHeld;by_cases hxy : xx=yy
     ·have HT2:=Zh (HN.out hxy);subst hxy;go_wp2_with fail;go_roundw
      case rel=>exact ⟨k+1,by omega,by go_num,HT2,hbel.drew⟩
      case measure=>simp [intOf]; omega
     ·have HF:=Zh (HNE.out hxy);go_wp2_with fail;go_ret;exact ⟨ret_bool HF.out,HBR.out.drew⟩
    ·have HF : Hid (true=decide (x=y)):=Zh (by
      symm; rw [decide_eq_true_eq,HI.out]
      have h:=HTK.out;rw [List.take_of_length_le Zo,List.take_of_length_le (by have:=HLM.out; omega)] at h;exact ⟨trivial,h⟩)
     go_wp2_with fail;go_ret;exact ⟨ret_bool HF.out,HBR.out⟩
  ·have HF : Hid (false=decide (x=y)):=Zh (by
    symm; rw [decide_eq_false_iff_not,HI.out]
    rintro ⟨_,rfl⟩; exact hlm rfl)
   go_enter Tryz.func131,Tryz.ntmps131;go_wp2_with fail;go_ret;exact ⟨ret_bool HF.out,HB1.out⟩
 ·have HF : Hid (false=decide (x=y)):=Zh (by
   symm; rw [decide_eq_false_iff_not,HI.out]
   rintro ⟨h,_⟩; exact hst h)
  go_enter Tryz.func131,Tryz.ntmps131;go_wp2_with fail;go_ret;exact ⟨ret_bool HF.out,HB1.out⟩
end Go.Proofs.YtcgocdhhneckhaaGreatDoor
