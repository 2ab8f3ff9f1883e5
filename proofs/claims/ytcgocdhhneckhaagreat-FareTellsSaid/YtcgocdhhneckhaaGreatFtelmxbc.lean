/- Walks of tonneauref04: less, plus, minus. -/
import Derived.Test.YtcgocdhhneckhaaGreatFtelmxbb
set_option maxRecDepth 100000
set_option maxHeartbeats 6400000
namespace Go.Proofs.YtcgocdhhneckhaaGreat
open Go.RowKit
theorem val_splitR (l : List Int) (k : Nat) : val l=val (l.take k)+pw k * val (l.drop k):=by
 by_cases h : k≤l.length
 ·exact val_split l k h
 ·rw [List.take_of_length_le Zo,List.drop_eq_nil_of_le Zo,val_nil,Int.mul_zero]; omega
theorem val_takeR {l : List Int} (h : DigOK l) (k : Nat) : 0≤val (l.take k)∧val (l.take k)<pw k:=by
 have h1:=val_nn (h.take k);have h2:=val_lt (h.take k);have h3:=pw_mono (m:=(l.take k).length) (n:=k) (by rw [List.length_take]; omega);omega
theorem less_step {a b : List Int} {k : Nat} (h : val (a.drop (k+1))=val (b.drop (k+1))) (he : (a.drop k).headD 0=(b.drop k).headD 0) : val (a.drop k)=val (b.drop k):=by
 rw [val_headD a k,val_headD b k,h,he]
theorem less_end {a b : List Int} (ha : DigOK a) (hb : DigOK b) {k : Nat} (h : val (a.drop (k+1))=val (b.drop (k+1))) (hne : (a.drop k).headD 0≠(b.drop k).headD 0) : decide ((a.drop k).headD 0<(b.drop k).headD 0)=decide (val a<val b):=by
 have e1:=val_splitR a k;have e2:=val_splitR b k;rw [val_headD a k] at e1;rw [val_headD b k,← h] at e2;obtain ⟨h1,h2⟩:=val_takeR ha k;obtain ⟨h3,h4⟩:=val_takeR hb k;have hp:=pw_pos k;generalize (a.drop k).headD 0=x at *;generalize (b.drop k).headD 0=y at *;generalize val (a.drop (k+1))=V at *;rw [decide_eq_decide,e1,e2];rw [Int.mul_add,Int.mul_add];rcases Int.lt_or_gt_of_ne hne with hlt | hgt
 ·have : pw k * (x+1)≤pw k * y:=Int.mul_le_mul_of_nonneg_left Zo Zo;rw [Int.mul_add,Int.mul_one] at this;constructor
  ·intro _; omega
  ·intro _; exact hlt
 ·have : pw k * (y+1)≤pw k * x:=Int.mul_le_mul_of_nonneg_left Zo Zo;rw [Int.mul_add,Int.mul_one] at this;constructor
  ·intro h5; omega
  ·intro h5; omega
theorem r04_less (a b : Sl Int) {F G : Nat→Prop} (w : World) (ha : Rd F 1 ienc w a) (hb : Rd G 1 ienc w b) (na : DigOK a.l) (nb : DigOK b.l) : Calls Tryz.prog 126 #[.slice a.A a.l.length a.c,.slice b.A b.l.length b.c] w fun e w'=>e = .returned (.bool (decide (val a.l<val b.l)))∧w=w':=by
 obtain ⟨A,c,l⟩:=a;obtain ⟨B,d,m⟩:=b;have hl:=ha.len;have hm:=hb.len;simp only at hl hm na nb;have HA:=Zh ha;have HB:=Zh hb;have NA:=Zh na;have NB:=Zh nb;clear ha hb na nb;simp only;by_cases hlm : l.length<m.length
 ·have HM1 : Hid (l.length≤m.length∧m.length≤m.length):=Zh Zo;go_enter Tryz.func126,Tryz.ntmps126;go_wp2_with fail;go_loopw [5] (fun v wr=>∃ (k : Nat),k≤m.length∧v = .int .i64 ((k : Int) - 1)∧Hid (val (l.drop k)=val (m.drop k))∧w=wr) (fun v _=>(intOf v+1).toNat)
  case atStart=>exact ⟨m.length,Nat.le_refl _,by go_num,Zh (by rw [List.drop_eq_nil_of_le HM1.out.1,List.drop_eq_nil_of_le HM1.out.2]),rfl⟩
  case round =>
   obtain ⟨k,hk,rfl,HT,rfl⟩:=hrel;rcases k with _ | k
   ·have HR : Hid (false=decide (val l<val m)):=Zh (by
     have h:=HT.out;rw [List.drop_zero,List.drop_zero] at h;rw [h]; simp)
    clear HT;go_wp2_with fail;go_ret;exact ⟨ret_bool HR.out,rfl⟩
   ·rw [show ((k+1 : Nat) : Int) - 1=(k : Int) by omega];have HS:=Zh (fun he=>less_step HT.out he);have HE:=Zh (fun hne=>less_end NA.out NB.out HT.out hne);have DA:=Zh (r04_digit ⟨A,c,l⟩ k w HA.out);have DB:=Zh (r04_digit ⟨B,d,m⟩ k w HB.out);simp only at DA DB;have hx:=digOK_headR NA.out k;have hy:=digOK_headR NB.out k;generalize (l.drop k).headD 0=x at *;generalize (m.drop k).headD 0=y at *;clear HT;go_wp2_with fail;refine DA.out.mono ?_;rintro e w' ⟨rfl,rfl⟩;go_wp2_with fail;refine DB.out.mono ?_;rintro e w' ⟨rfl,rfl⟩;by_cases hxy : x=y
    ·have HT2:=Zh (HS.out hxy);subst hxy;go_wp2_with fail;go_roundw
     case rel=>exact ⟨k,by omega,by go_num,HT2,trivial⟩
     case measure=>simp [intOf]
    ·have HE2:=Zh (HE.out hxy);clear HS HE;go_wp2_with fail;refine DA.out.mono ?_;rintro e w' ⟨rfl,rfl⟩;go_wp2_with fail;refine DB.out.mono ?_;rintro e w' ⟨rfl,rfl⟩;go_wp2_with fail;go_ret;exact ⟨ret_bool HE2.out,rfl⟩
 ·have HM1 : Hid (l.length≤l.length∧m.length≤l.length):=Zh Zo;go_enter Tryz.func126,Tryz.ntmps126;go_wp2_with fail;go_loopw [5] (fun v wr=>∃ (k : Nat),k≤l.length∧v = .int .i64 ((k : Int) - 1)∧Hid (val (l.drop k)=val (m.drop k))∧w=wr) (fun v _=>(intOf v+1).toNat)
  case atStart=>exact ⟨l.length,Nat.le_refl _,by go_num,Zh (by rw [List.drop_eq_nil_of_le HM1.out.1,List.drop_eq_nil_of_le HM1.out.2]),rfl⟩
  case round =>
   obtain ⟨k,hk,rfl,HT,rfl⟩:=hrel;rcases k with _ | k
   ·have HR : Hid (false=decide (val l<val m)):=Zh (by
     have h:=HT.out;rw [List.drop_zero,List.drop_zero] at h;rw [h]; simp)
    clear HT;go_wp2_with fail;go_ret;exact ⟨ret_bool HR.out,rfl⟩
   ·rw [show ((k+1 : Nat) : Int) - 1=(k : Int) by omega];have HS:=Zh (fun he=>less_step HT.out he);have HE:=Zh (fun hne=>less_end NA.out NB.out HT.out hne);have DA:=Zh (r04_digit ⟨A,c,l⟩ k w HA.out);have DB:=Zh (r04_digit ⟨B,d,m⟩ k w HB.out);simp only at DA DB;have hx:=digOK_headR NA.out k;have hy:=digOK_headR NB.out k;generalize (l.drop k).headD 0=x at *;generalize (m.drop k).headD 0=y at *;clear HT;go_wp2_with fail;refine DA.out.mono ?_;rintro e w' ⟨rfl,rfl⟩;go_wp2_with fail;refine DB.out.mono ?_;rintro e w' ⟨rfl,rfl⟩;by_cases hxy : x=y
    ·have HT2:=Zh (HS.out hxy);subst hxy;go_wp2_with fail;go_roundw
     case rel=>exact ⟨k,by omega,by go_num,HT2,trivial⟩
     case measure=>simp [intOf]
    ·have HE2:=Zh (HE.out hxy);clear HS HE;go_wp2_with fail;refine DA.out.mono ?_;rintro e w' ⟨rfl,rfl⟩;go_wp2_with fail;refine DB.out.mono ?_;rintro e w' ⟨rfl,rfl⟩;go_wp2_with fail;go_ret;exact ⟨ret_bool HE2.out,rfl⟩
theorem r04_plus (a b : Sl Int) (w : World) (ha : Rd (· < w.heap.size) 1 ienc w a) (hb : Rd (· < w.heap.size) 1 ienc w b) (na : DigOK a.l) (nb : DigOK b.l) (hla : a.l.length≤200) (hlb : b.l.length≤200) {n : Nat} (hn : val a.l+val b.l=n) : Calls Tryz.prog 130 #[.slice a.A a.l.length a.c,.slice b.A b.l.length b.c] w fun e w'=>SlP w w' (digs n) e:=by
 obtain ⟨A,c,l⟩:=a;obtain ⟨B,d,m⟩:=b;simp only at na nb hla hlb hn;have HA:=Zh ha;have HB:=Zh hb;have NA:=Zh na;have NB:=Zh nb;have HN:=Zh hn;clear ha hb na nb hn;simp only;go_enter Tryz.func130,Tryz.ntmps130;go_wp2_with fail;go_loopw [7,6,5] (fun v u t wr=>∃ (k : Nat) (cr : Int) (xA : Option Addr) (xc : Nat) (xl : List Int),k≤201∧(k=201→cr=0)∧xl.length=k∧v = .int .i64 k∧u = .int .i64 cr∧0≤cr∧cr≤1∧t = .slice xA xl.length xc∧Hid (SumR l m k cr xl)∧Hid (Own w.heap.size 3 1 ienc wr ⟨xA,xc,xl⟩)∧Below w.heap.size w wr) (fun v u _ _=>500 - (intOf v).toNat)
 case atStart=>exact ⟨0,0,none,0,[],by omega,by omega,rfl,rfl,rfl,by omega,by omega,rfl,Zh (SumR.start l m),Zh (Own.nil _ _ _ _ _),Below.refl _ _⟩
 case round =>
  obtain ⟨k,cr,xA,xc,xl,hk,hk2,hxl,rfl,rfl,hc0,hc1,rfl,HS,HO,hbel⟩:=hrel;have HXL:=Zh hxl;(have hxb : xl.length≤201:=by omega);clear hxl;by_cases hgo : k<l.length∨k<m.length∨0<cr
  ·have hx:=digOK_headR NA.out k;have hy:=digOK_headR NB.out k;have hsz:=hbel.size;have DA:=Zh (r04_digit ⟨A,c,l⟩ k wr (HA.out.later hbel));have DB:=Zh (r04_digit ⟨B,d,m⟩ k wr (HB.out.later hbel));(have hxe : l.length≤k→(l.drop k).headD 0=0:=fun h=>by rw [List.drop_eq_nil_of_le h]; rfl);(have hye : m.length≤k→(m.drop k).headD 0=0:=fun h=>by rw [List.drop_eq_nil_of_le h]; rfl);obtain ⟨nn,hnn⟩ : ∃ nn,nn=(l.drop k).headD 0+(m.drop k).headD 0+cr:=⟨_,rfl⟩;obtain ⟨hnx,hn0,hn1⟩:=HS.out.next NA.out NB.out hnn;(have hk3 : k≤200:=by omega);(have hk4 : k+1=201→nn / 1048576=0:=by omega);have HNX:=Zh hnx;simp only at DA DB;clear hnx HS hxe hye hk2;generalize (l.drop k).headD 0=x at *;generalize (m.drop k).headD 0=y at *;have hnn2 : x+y+cr=nn:=hnn.symm;clear hnn;by_cases hk5 : k<l.length
   ·skip;go_wp2_with fail;refine DA.out.mono ?_;rintro e w' ⟨rfl,rfl⟩;go_wp2_with fail;refine DB.out.mono ?_;rintro e w' ⟨rfl,rfl⟩;go_wp2_with (at_builtin;go_must (refine wpl_append_sl _ rfl (.tmp 34) (.tmp 37) _ rfl Tryz.underlying60 infoInt Zo ienc_k ienc_one ⟨xA,xc,xl⟩ ⟨some ⟨wr.heap.size,0,none⟩,1,[nn % 1048576]⟩ rfl (rfl) (HO.out.alloc _) (OI.new wr [nn % 1048576] (by simp [maxLen])).rdlt (by simp [maxLen]; omega) (by simp; omega) (by simp; omega) ?_);intro A2 c2 w3 hown hg _);go_roundw
    case rel=>exact ⟨k+1,nn / 1048576,A2,c2,xl ++ [nn % 1048576],by omega,hk4,by simp [HXL.out],by go_num,rfl,by omega,by omega,by simp,HNX,Zh hown,(hbel.alloc hsz _).grown hg (by simp; omega) (fun k hk=>by have:=World.ownsRow.lt HO.out k hk; omega)⟩
    case measure=>simp [intOf]; omega
   ·by_cases hk6 : k<m.length
    ·skip;go_wp2_with fail;refine DA.out.mono ?_;rintro e w' ⟨rfl,rfl⟩;go_wp2_with fail;refine DB.out.mono ?_;rintro e w' ⟨rfl,rfl⟩;go_wp2_with (at_builtin;go_must (refine wpl_append_sl _ rfl (.tmp 34) (.tmp 37) _ rfl Tryz.underlying60 infoInt Zo ienc_k ienc_one ⟨xA,xc,xl⟩ ⟨some ⟨wr.heap.size,0,none⟩,1,[nn % 1048576]⟩ rfl (rfl) (HO.out.alloc _) (OI.new wr [nn % 1048576] (by simp [maxLen])).rdlt (by simp [maxLen]; omega) (by simp; omega) (by simp; omega) ?_);intro A2 c2 w3 hown hg _);go_roundw
     case rel=>exact ⟨k+1,nn / 1048576,A2,c2,xl ++ [nn % 1048576],by omega,hk4,by simp [HXL.out],by go_num,rfl,by omega,by omega,by simp,HNX,Zh hown,(hbel.alloc hsz _).grown hg (by simp; omega) (fun k hk=>by have:=World.ownsRow.lt HO.out k hk; omega)⟩
     case measure=>simp [intOf]; omega
    ·skip;go_wp2_with fail;refine DA.out.mono ?_;rintro e w' ⟨rfl,rfl⟩;go_wp2_with fail;refine DB.out.mono ?_;rintro e w' ⟨rfl,rfl⟩;go_wp2_with (at_builtin;go_must (refine wpl_append_sl _ rfl (.tmp 34) (.tmp 37) _ rfl Tryz.underlying60 infoInt Zo ienc_k ienc_one ⟨xA,xc,xl⟩ ⟨some ⟨wr.heap.size,0,none⟩,1,[nn % 1048576]⟩ rfl (rfl) (HO.out.alloc _) (OI.new wr [nn % 1048576] (by simp [maxLen])).rdlt (by simp [maxLen]; omega) (by simp; omega) (by simp; omega) ?_);intro A2 c2 w3 hown hg _);go_roundw
     case rel=>exact ⟨k+1,nn / 1048576,A2,c2,xl ++ [nn % 1048576],by omega,hk4,by simp [HXL.out],by go_num,rfl,by omega,by omega,by simp,HNX,Zh hown,(hbel.alloc hsz _).grown hg (by simp; omega) (fun k hk=>by have:=World.ownsRow.lt HO.out k hk; omega)⟩
     case measure=>simp [intOf]; omega
  ·(have hc : cr=0:=by omega);(have hkl : l.length≤k:=by omega);(have hkm : m.length≤k:=by omega);subst hc;have HT:=Zh (HS.out.trim hkl hkm HN.out);have HX:=Zh (HO.out.rd ienc_k);have HLT:=Zh (r04_trim ⟨xA,xc,xl⟩ wr HX.out (fun b hb=>hb.2) (by simp only; omega));simp only at HLT;rw [HT.out] at HLT;have hsz:=hbel.size;clear HS HO;go_wp2_with fail;refine HLT.out.mono ?_;rintro e w2 ⟨⟨A',c',l'⟩,rfl,hl',hown,hb2⟩;simp only at hl';subst hl';simp only [Sl.v];have HOW:=Zh hown;clear hown;go_wp2_with fail;go_ret;exact ⟨⟨A',c',digs n⟩,rfl,rfl,HOW.out.mono hsz,hbel.trans (hb2.mono hsz)⟩
theorem r04_minus (a b : Sl Int) (w : World) (ha : Rd (· < w.heap.size) 1 ienc w a) (hb : Rd (· < w.heap.size) 1 ienc w b) (na : DigOK a.l) (nb : DigOK b.l) (hla : a.l.length≤200) {n : Nat} (hn : val a.l - val b.l=n) : Calls Tryz.prog 131 #[.slice a.A a.l.length a.c,.slice b.A b.l.length b.c] w fun e w'=>SlP w w' (digs n) e:=by
 obtain ⟨A,c,l⟩:=a;obtain ⟨B,d,m⟩:=b;simp only at na nb hla hn;have HA:=Zh ha;have HB:=Zh hb;have NA:=Zh na;have NB:=Zh nb;have HN:=Zh hn;clear ha hb na nb hn;simp only;go_enter Tryz.func131,Tryz.ntmps131;go_wp2_with fail;go_loopw [7,6,5] (fun v u t wr=>∃ (k : Nat) (cr : Int) (xA : Option Addr) (xc : Nat) (xl : List Int),k≤l.length∧xl.length=k∧v = .int .i64 k∧u = .int .i64 cr∧0≤cr∧cr≤1∧t = .slice xA xl.length xc∧Hid (DifR l m k cr xl)∧Hid (Own w.heap.size 3 1 ienc wr ⟨xA,xc,xl⟩)∧Below w.heap.size w wr) (fun v u _ _=>500 - (intOf v).toNat)
 case atStart=>exact ⟨0,0,none,0,[],by omega,rfl,rfl,rfl,by omega,by omega,rfl,Zh (DifR.start l m),Zh (Own.nil _ _ _ _ _),Below.refl _ _⟩
 case round =>
  obtain ⟨k,cr,xA,xc,xl,hk,hxl,rfl,rfl,hc0,hc1,rfl,HS,HO,hbel⟩:=hrel;have HXL:=Zh hxl;(have hxb : xl.length≤200:=by omega);clear hxl;by_cases hgo : k<l.length
  ·have hy:=digOK_headR NB.out k;have hx:=digOK_headR NA.out k;have hsz:=hbel.size;obtain ⟨b1,o1,hA,_,c0⟩:=(HA.out.later hbel).geti hgo;simp only at hA c0;subst hA;(have hhd : (l.drop k).headD 0=l[k]:=by rw [List.drop_eq_getElem_cons hgo]; rfl);have DB:=Zh (r04_digit ⟨B,d,m⟩ k wr.drew (HB.out.later hbel.drew));obtain ⟨nn,hnn⟩ : ∃ nn,nn=(l.drop k).headD 0 - (m.drop k).headD 0 - cr:=⟨_,rfl⟩;obtain ⟨hn0,hn1⟩:=HS.out.bounds NA.out NB.out hnn;have HY:=Zh (fun h=>HS.out.yes NA.out NB.out hnn h);have HNO:=Zh (fun h=>HS.out.no NA.out NB.out hnn h);simp only at DB;rw [hhd] at hnn hx;clear HS hhd;generalize l[k]=x at *;generalize (m.drop k).headD 0=y at *;have hnn2 : x - y - cr=nn:=hnn.symm;clear hnn;go_wp2_with fail;refine wp_region_T (fun W=>W.cell? ⟨b1,o1+k,none⟩=some (.int .i64 x)) (fun _=>false) Zy c0 (fun hHeld=>?_);refine Zr 0 ?_;refine Zr 1 ?_;refine Zr 2 ?_;refine Zr 3 ?_;refine Zr 4 ?_;refine Zr 5 ?_;refine Zr 8 ?_;clear hHeld;refine Zn 6 ?_;go_wp2_with fail;refine DB.out.mono ?_;rintro e w' ⟨rfl,rfl⟩;go_wp2_with fail;refine Zi (c0) ?_;have hHeld:=(c0 : wr.drew.cell? ⟨b1,o1+k,none⟩=some (.int .i64 x));refine Zr 7 ?_;refine Zr 9 ?_;refine Zr 10 ?_;refine Ze ?_;clear hHeld;have HO:=Zh HO.out.drew;have hbel:=hbel.drew;have hsz:=hbel.size;clear c0 DB;generalize wr.drew=wd at *;by_cases hs : nn<0
   ·have HT:=Zh (HNO.out hs);clear HNO HY;obtain ⟨mm,hmm⟩ : ∃ mm,mm=nn+1048576:=⟨_,rfl⟩;rw [← hmm] at HT;have hmm2 : nn+1048576=mm:=hmm.symm;clear hmm;go_wp2_with (at_builtin;go_must (refine wpl_append_sl _ rfl (.tmp 29) (.tmp 31) _ rfl Tryz.underlying60 infoInt Zo ienc_k ienc_one ⟨xA,xc,xl⟩ ⟨some ⟨wd.heap.size,0,none⟩,1,[mm]⟩ rfl rfl (HO.out.alloc _) (OI.new wd [mm] (by simp [maxLen])).rdlt (by simp [maxLen]; omega) (by simp; omega) (by simp; omega) ?_);intro A2 c2 w3 hown hg _);go_roundw
    case rel=>exact ⟨k+1,1,A2,c2,xl ++ [mm],by omega,by simp [HXL.out],by go_num,rfl,by omega,by omega,by simp,HT,Zh hown,(hbel.alloc hsz _).grown hg (by simp; omega) (fun k hk=>by have:=World.ownsRow.lt HO.out k hk; omega)⟩
    case measure=>simp [intOf]; omega
   ·have HT:=Zh (HY.out Zo);clear HNO HY;subst hnn2;go_wp2_with (at_builtin;go_must (refine wpl_append_sl _ rfl (.tmp 29) (.tmp 31) _ rfl Tryz.underlying60 infoInt Zo ienc_k ienc_one ⟨xA,xc,xl⟩ ⟨some ⟨wd.heap.size,0,none⟩,1,[x - y - cr]⟩ rfl rfl (HO.out.alloc _) (OI.new wd [x - y - cr] (by simp [maxLen])).rdlt (by simp [maxLen]; omega) (by simp; omega) (by simp; omega) ?_);intro A2 c2 w3 hown hg _);go_roundw
    case rel=>exact ⟨k+1,0,A2,c2,xl ++ [x - y - cr],by omega,by simp [HXL.out],by go_num,rfl,by omega,by omega,by simp,HT,Zh hown,(hbel.alloc hsz _).grown hg (by simp; omega) (fun k hk=>by have:=World.ownsRow.lt HO.out k hk; omega)⟩
    case measure=>simp [intOf]; omega
  ·(have hkl : l.length≤k:=by omega);have HT:=Zh (HS.out.trim NB.out hkl HN.out);have HX:=Zh (HO.out.rd ienc_k);have HLT:=Zh (r04_trim ⟨xA,xc,xl⟩ wr HX.out (fun b hb=>hb.2) (by simp only; omega));simp only at HLT;rw [HT.out] at HLT;have hsz:=hbel.size;clear HS HO;go_wp2_with fail;refine HLT.out.mono ?_;rintro e w2 ⟨⟨A',c',l'⟩,rfl,hl',hown,hb2⟩;simp only at hl';subst hl';simp only [Sl.v];have HOW:=Zh hown;clear hown;go_wp2_with fail;go_ret;exact ⟨⟨A',c',digs n⟩,rfl,rfl,HOW.out.mono hsz,hbel.trans (hb2.mono hsz)⟩
theorem infoNat_make (w : World) {a b n : Nat} (hn : n=a+b) (hl : n≤100000) : (Instr.makeSlice 60 (.int .i64 ((a : Int)+(b : Int))) (.int .i64 ((a : Int)+(b : Int)))).run Tryz.prog w = .ok (.slice (some ⟨w.heap.size,0,none⟩) n n) (w.alloc (.cells (ints (List.replicate n 0)) 3)):=by
 have h:=make_ints n hl w;rw [show ((a : Int)+(b : Int))=((n : Nat) : Int) by omega];exact h
theorem r04_times (a b : Sl Int) (w : World) (ha : Rd (· < w.heap.size) 1 ienc w a) (hb : Rd (· < w.heap.size) 1 ienc w b) (na : DigOK a.l) (nb : DigOK b.l) (hla : a.l.length≤200) (hlb : b.l.length≤200) {n : Nat} (hn : val a.l * val b.l=n) : Calls Tryz.prog 158 #[.slice a.A a.l.length a.c,.slice b.A b.l.length b.c] w fun e w'=>SlP w w' (digs n) e:=by
 obtain ⟨A,c,l⟩:=a;obtain ⟨B,d,m⟩:=b;simp only at na nb hla hlb hn;have HA:=Zh ha;have HB:=Zh hb;have NA:=Zh na;have NB:=Zh nb;have HN:=Zh hn;obtain ⟨L,hL⟩ : ∃ L,L=l.length+m.length:=⟨_,rfl⟩;have hmk:=fun W : World=>infoNat_make W hL Zo;(have hL4 : L≤400:=by omega);have HL:=Zh hL;clear ha hb na nb hn hL;simp only;go_enter Tryz.func158,Tryz.ntmps158;go_wp2_with fail;clear hmk
 have hO : OI w.heap.size (w.alloc (.cells (ints (List.replicate L 0)) 3)) w.heap.size L (List.replicate L 0):=by
  have h:=OI.new w (List.replicate L 0) (by rw [List.length_replicate]; unfold maxLen; omega)
  rwa [List.length_replicate] at h
 have HO:=Zh hO;have HB0 : Hid (Below w.heap.size w (w.alloc (.cells (ints (List.replicate L 0)) 3))):=Zh qbl;clear hO;generalize w.alloc (.cells (ints (List.replicate L 0)) 3)=w0 at *;go_loopw [6] (fun v wr=>∃ (k : Nat) (o : List Int),k≤l.length∧v = .int .i64 k∧Hid (MulS l m k o)∧Hid (OI w.heap.size wr w.heap.size L o)∧Below w.heap.size w wr) (fun v _=>500 - (intOf v).toNat)
 case atStart=>exact ⟨0,List.replicate L 0,by omega,rfl,Zh (by rw [HL.out]; exact MulS.start),HO,HB0.out⟩
 case round =>
  obtain ⟨k,o,hk,rfl,HS,HP,hbel⟩:=hrel;by_cases hgo : k<l.length
  ·have HSK:=HS;have hxk : l[k]? = some l[k]:=List.getElem?_eq_getElem hgo;have hxb:=NA.out.get hgo;have HXK:=Zh hxk;clear hxk;obtain ⟨wo,hwo⟩ : ∃ x,x=wr:=⟨_,rfl⟩;subst hwo;go_wp2_with fail;have HBO:=Zh hbel;clear hbel;go_loopw [8,7] (fun v u wr=>∃ (q : Nat) (cr : Int) (z : List Int),q≤m.length+1∧v = .int .i64 q∧u = .int .i64 cr∧0≤cr∧cr<1048576∧Hid (RowR l[k] m o k q cr z)∧Hid (OI w.heap.size wr w.heap.size L z)∧Below w.heap.size w wr) (fun v _ _=>500 - (intOf v).toNat)
   case atStart=>exact ⟨0,0,o,by omega,rfl,rfl,by omega,by omega,Zh (RowR.start _ HS.out),HP,HBO.out⟩
   case round =>
    obtain ⟨q,cr,z,hq,rfl,rfl,hc0,hc1,HR,HZ,hbel⟩:=hrel;by_cases hgq : q<m.length∨0<cr
    ·have hfit:=HR.out.fits HS.out hgo hgq;(have hzl : z.length=L:=by rw [HR.out.len,HS.out.len,HL.out]);obtain ⟨p,hp⟩ : ∃ p,p=k+q:=⟨_,rfl⟩;rw [← hp] at hfit;have hzv : z[p]? = some z[p]:=List.getElem?_eq_getElem hfit;have hzc:=HZ.out.get hzv;have hzf:=HZ.out.frozen p;have hzz:=HZ.out.lt;have HZS : Hid (∀ x,OI w.heap.size (wr.drew.setCell ⟨w.heap.size,p,none⟩ (.int .i64 x)) w.heap.size L (z.set p x)):=Zh (fun x=>HZ.out.drew.set hfit x);obtain ⟨b1,o1,hA,_,c0⟩:=(HA.out.later hbel).geti hgo;simp only at hA c0;subst hA;have hy:=digOK_headR NB.out q;obtain ⟨nn,hnn⟩ : ∃ nn,nn=z[p]+l[k] * (m.drop q).headD 0+cr:=⟨_,rfl⟩;obtain ⟨hnx,hn0,hn1⟩:=HR.out.next hxb NB.out hgq (by rw [← hp]; exact hzv) hnn;rw [← hp] at hnx;have hzb:=HR.out.ok.get hfit;have DB:=Zh (r04_digit ⟨B,d,m⟩ q wr.drew (HB.out.later hbel.drew));simp only at DB;have HNX:=Zh hnx
     have hqm : q+1≤m.length+1:=by
      rcases hgq with h | h
      ·omega
      ·have h1:=HR.out.last;have h2:=HR.out.most;omega
     (have hpl : p<L:=by omega);(have hpw : IntKind.i64.wrap ((k : Int)+(q : Int))=(p : Int):=by rw [wr64 Zo Zo]; omega);have HPQ:=Zh hp;clear HR HZ hzv hnx hzl hp HS HP HXK HSK;generalize l[k]=x at *;generalize z[p]=zv at *;generalize (m.drop q).headD 0=y at *;have hp0 : 0≤x * y:=Int.mul_nonneg hxb.1 hy.1;have hp1 : x * y≤1048575 * 1048575:=Int.mul_le_mul Zo Zo hy.1 Zo;have hnn2 : zv+x * y+cr=nn:=hnn.symm;clear hnn;by_cases hqm2 : q<m.length
     ·skip;go_wp2_with fail;refine wp_region_T (fun W=>W.cell? ⟨w.heap.size,p,none⟩=some (.int .i64 zv)∧W.cell? ⟨b1,o1+k,none⟩=some (.int .i64 x)) (fun _=>false) Zy ⟨hzc,c0⟩ (fun hHeld=>?_);refine Zr 0 ?_;refine Zr 1 ?_;refine Zr 2 ?_;refine Zr 3 ?_;refine Zr 4 ?_;refine Zr 5 ?_;refine Zr 6 ?_;refine Zr 7 ?_;refine Zr 8 ?_;refine Zr 9 ?_;refine Zr 10 ?_;refine Zr 11 ?_;refine Zr 15 ?_;clear hHeld;refine Zn 12 ?_;go_wp2_with fail;refine DB.out.mono ?_;rintro e w' ⟨rfl,rfl⟩;go_wp2_with fail;refine And.intro (by first | exact fun _=>⟨hzc,c0⟩ | exact ⟨hzc,c0⟩) ?_;have hHeld:=(⟨hzc,c0⟩ : wr.drew.cell? ⟨w.heap.size,p,none⟩=some (.int .i64 zv)∧wr.drew.cell? ⟨b1,o1+k,none⟩=some (.int .i64 x));refine Zr 13 ?_;refine Zr 14 ?_;refine Zr 16 ?_;refine Zr 17 ?_;refine Ze ?_;clear hHeld;go_wp2_with fail;go_roundw
      case rel=>exact ⟨q+1,nn / 1048576,z.set p (nn % 1048576),by omega,by go_num,by first | rfl | rw [hnn2],by omega,by omega,HNX,Zh (HZS.out _),hbel.drew.setCell Zl _⟩
      case measure=>simp [intOf]; omega
     ·(have hcr : 0<cr:=by omega);go_wp2_with fail;refine wp_region_T (fun W=>W.cell? ⟨w.heap.size,p,none⟩=some (.int .i64 zv)∧W.cell? ⟨b1,o1+k,none⟩=some (.int .i64 x)) (fun _=>false) Zy ⟨hzc,c0⟩ (fun hHeld=>?_);refine Zr 0 ?_;refine Zr 1 ?_;refine Zr 2 ?_;refine Zr 3 ?_;refine Zr 4 ?_;refine Zr 5 ?_;refine Zr 6 ?_;refine Zr 7 ?_;refine Zr 8 ?_;refine Zr 9 ?_;refine Zr 10 ?_;refine Zr 11 ?_;refine Zr 15 ?_;clear hHeld;refine Zn 12 ?_;go_wp2_with fail;refine DB.out.mono ?_;rintro e w' ⟨rfl,rfl⟩;go_wp2_with fail;refine And.intro (by first | exact fun _=>⟨hzc,c0⟩ | exact ⟨hzc,c0⟩) ?_;have hHeld:=(⟨hzc,c0⟩ : wr.drew.cell? ⟨w.heap.size,p,none⟩=some (.int .i64 zv)∧wr.drew.cell? ⟨b1,o1+k,none⟩=some (.int .i64 x));refine Zr 13 ?_;refine Zr 14 ?_;refine Zr 16 ?_;refine Zr 17 ?_;refine Ze ?_;clear hHeld;go_wp2_with fail;go_roundw
      case rel=>exact ⟨q+1,nn / 1048576,z.set p (nn % 1048576),by omega,by go_num,by first | rfl | rw [hnn2],by omega,by omega,HNX,Zh (HZS.out _),hbel.drew.setCell Zl _⟩
      case measure=>simp [intOf]; omega
    ·(have hc : cr=0:=by omega);(have hqm : m.length≤q:=by omega);subst hc;have HM:=Zh (HR.out.done HS.out HXK.out hqm);clear HR HS HSK HP HA HB;go_wp2_with fail;go_roundw
     case rel=>exact ⟨k+1,z,by omega,by go_num,HM,HZ,hbel⟩
     case measure=>simp [intOf]; omega
  ·(obtain rfl : k=l.length:=by omega);have HT:=Zh (HS.out.trim HN.out);(have hol : o.length≤1000:=by rw [HS.out.len]; omega);(have hle : o.length=L:=by rw [HS.out.len,HL.out]);have HLT:=Zh (r04_trim ⟨some ⟨w.heap.size,0,none⟩,L,o⟩ wr HP.out.rd (fun b hb=>by have:=HP.out.lt; omega) hol);simp only at HLT;rw [HT.out,hle] at HLT;have hsz:=hbel.size;clear HS HP hol hle;go_wp2_with fail;refine HLT.out.mono ?_;rintro e w2 ⟨⟨A',c',l'⟩,rfl,hl',hown,hb2⟩;simp only at hl';subst hl';simp only [Sl.v];have HOW:=Zh hown;clear hown;go_wp2_with fail;go_ret;exact ⟨⟨A',c',digs n⟩,rfl,rfl,HOW.out.mono hsz,hbel.trans (hb2.mono hsz)⟩
end Go.Proofs.YtcgocdhhneckhaaGreat
