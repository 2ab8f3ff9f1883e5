/- The plain law of change.At: which version is in force. -/
import Derived.Test.YtpbdjpfbhicmdaaGreatDoorCbxbn
import Derived.Test.YtpbdjpfbhicmdaaGreatDoorCbxbi
set_option linter.unusedSimpArgs false
set_option linter.unusedVariables false
set_option maxRecDepth 100000
set_option maxHeartbeats 6400000
namespace Go.Proofs.YtpbdjpfbhicmdaaGreatDoor
open Go.RowKit
theorem atC_right {l : List VR} (h : rightC l=true) (a : Int) : ∃ k : Nat,k≤l.length∧atC l a=(k : Int) - 1∧(∀ j x,j<k→l[j]? = some x→x.f≤a)∧(∀ x,l[k]? = some x→a<x.f):=by
  unfold atC
  rw [if_pos h]
  rcases idxP_ge (fun v : VR=>decide (a<v.f)) l 0 with ⟨h1,h2⟩ | ⟨k,x,h1,h2,h3,h4⟩
  · refine ⟨l.length,Nat.le_refl _,by rw [h1]; rfl,fun j x hj hx=>?_,fun x hx=>?_⟩
    · have:=h2 x (List.mem_of_getElem? hx)
      simp only [decide_eq_false_iff_not] at this
      omega
    · rw [List.getElem?_eq_none (Nat.le_refl _)] at hx; cases hx
  · have hk:=(List.getElem?_eq_some_iff.1 h2).1
    refine ⟨k,by omega,by rw [h1,if_neg (by omega)]; omega,fun j y hj hy=>?_,fun y hy=>?_⟩
    · have hm : y ∈ l.take k:=by
        refine List.mem_iff_getElem?.2 ⟨j, ?_⟩
        rw [List.getElem?_take,if_pos hj]
        exact hy
      have:=h4 y hm
      simp only [decide_eq_false_iff_not] at this
      omega
    · rw [h2] at hy
      injection hy with hy
      rw [← hy]
      simpa using h3
theorem atC_mono {l : List VR} (h : rightC l=true) {a b : Int} (hab : a≤b) : atC l a≤atC l b:=by
  obtain ⟨k,hk,e,h1,h2⟩:=atC_right h a
  obtain ⟨m,hm,e',h3,h4⟩:=atC_right h b
  rw [e,e']
  by_cases hkm : k≤m
  · omega
  · exfalso
    have hml : m<l.length:=by omega
    have hx:=List.getElem?_eq_getElem hml
    have h5:=h1 m _ (by omega) hx
    have h6:=h4 _ hx
    omega
def tripL (d r de no s c b rd : Int) : List FT:=[⟨(⟨#[100,105,114,101,99,116]⟩ : ByteArray),d⟩,⟨(⟨#[114,105,100,101]⟩ : ByteArray),r⟩,⟨(⟨#[100,101,108,97,121]⟩ : ByteArray),de⟩,⟨(⟨#[110,111,116,105,99,101]⟩ : ByteArray),no⟩,⟨(⟨#[115,101,97,116,115]⟩ : ByteArray),s⟩,⟨(⟨#[99,104,97,105,114,115]⟩ : ByteArray),c⟩,⟨(⟨#[98,97,103,115]⟩ : ByteArray),b⟩,⟨(⟨#[114,105,100,101,114,115]⟩ : ByteArray),rd⟩]
def riderL (f b t n : Int) : List FT:=[⟨(⟨#[102,97,118,111,117,114]⟩ : ByteArray),f⟩,⟨(⟨#[98,97,108,97,110,99,101]⟩ : ByteArray),b⟩,⟨(⟨#[116,114,105,112,115]⟩ : ByteArray),t⟩,⟨(⟨#[110,111,115,104,111,119,115]⟩ : ByteArray),n⟩]
def FcP (w w' : World) (l : List FT) (e : Ending) : Prop:=∃ s : Sl FT,e = .returned (.slice s.A s.l.length s.c)∧s.l=l∧FactsAt (· < w'.heap.size) w' s∧Below w.heap.size w w'
theorem facts_lit {w : World} {cs : Array Value} {l : List FT} (hm : l.length≤maxLen) (hs : cs.toList=l.flatMap FT.enc) (hn : ∀ x,x ∈ l→x.nm.size≤9223372036854775807) : FactsAt (· < (w.alloc (.cells cs 89)).heap.size) (w.alloc (.cells cs 89)) ⟨some ⟨w.heap.size,0,none⟩,l.length,l⟩ :=
 ⟨((Own.lit (base:=w.heap.size) (e:=89) w cs l Zl hm hs FT.enc_k).rd FT.enc_k).mono (fun b hb=>hb.2),hn⟩
theorem tripL_nm (d r de no s c b rd : Int) : ∀ x,x ∈ tripL d r de no s c b rd→x.nm.size≤9223372036854775807:=by
 intro x hx;simp only [tripL,List.mem_cons,List.not_mem_nil,or_false] at hx;rcases hx with rfl | rfl | rfl | rfl | rfl | rfl | rfl | rfl <;> (simp only; decide)
theorem riderL_nm (f b t n : Int) : ∀ x,x ∈ riderL f b t n→x.nm.size≤9223372036854775807:=by
 intro x hx;simp only [riderL,List.mem_cons,List.not_mem_nil,or_false] at hx;rcases hx with rfl | rfl | rfl | rfl <;> (simp only; decide)
theorem fare_Trip (mb fr to ea la du ri se ch ba d r de no rd : Int) (w : World) : Calls Tryz.prog 44 #[.agg #[.int .i64 mb,.int .i64 fr,.int .i64 to,.int .i64 ea,.int .i64 la,.int .i64 du,.int .i64 ri,.int .i64 se,.int .i64 ch,.int .i64 ba],.int .i64 d,.int .i64 r,.int .i64 de,.int .i64 no,.int .i64 rd] w fun e w'=>FcP w w' (tripL d r de no se ch ba rd) e:=by
 go_enter Tryz.func44,Tryz.ntmps44;go_wp2_with fail;go_ret
 exact ⟨⟨some ⟨w.heap.size+1,0,none⟩,8,tripL d r de no se ch ba rd⟩,rfl,rfl,(by
  have h:=facts_lit (w:=w.alloc (.cells #[.int .i64 mb,.int .i64 fr,.int .i64 to,.int .i64 ea,.int .i64 la,.int .i64 du,.int .i64 ri,.int .i64 se,.int .i64 ch,.int .i64 ba] 92)) (cs:=#[.string (⟨#[100,105,114,101,99,116]⟩ : ByteArray),.int .i64 d,.string (⟨#[114,105,100,101]⟩ : ByteArray),.int .i64 r,.string (⟨#[100,101,108,97,121]⟩ : ByteArray),.int .i64 de,.string (⟨#[110,111,116,105,99,101]⟩ : ByteArray),.int .i64 no,.string (⟨#[115,101,97,116,115]⟩ : ByteArray),.int .i64 se,.string (⟨#[99,104,97,105,114,115]⟩ : ByteArray),.int .i64 ch,.string (⟨#[98,97,103,115]⟩ : ByteArray),.int .i64 ba,.string (⟨#[114,105,100,101,114,115]⟩ : ByteArray),.int .i64 rd]) (l:=tripL d r de no se ch ba rd) (by simp [maxLen,tripL]) rfl (tripL_nm d r de no se ch ba rd);(have hs : (w.alloc (.cells #[.int .i64 mb,.int .i64 fr,.int .i64 to,.int .i64 ea,.int .i64 la,.int .i64 du,.int .i64 ri,.int .i64 se,.int .i64 ch,.int .i64 ba] 92)).heap.size=w.heap.size+1:=by simp);rw [hs] at h;exact h),qbl⟩
theorem fare_Rider (f b t n : Int) (w : World) : Calls Tryz.prog 25 #[.int .i64 f,.int .i64 b,.int .i64 t,.int .i64 n] w fun e w'=>FcP w w' (riderL f b t n) e:=by
 go_enter Tryz.func25,Tryz.ntmps25;go_wp2_with fail;go_ret;exact ⟨⟨some ⟨w.heap.size,0,none⟩,4,riderL f b t n⟩,rfl,rfl,facts_lit (w:=w) (l:=riderL f b t n) (by simp [maxLen,riderL]) rfl (riderL_nm f b t n),qbl⟩
def tripsN : List FT→Int
  | []=>0
  | x :: r=>if (x.nm.toList == [116,114,105,112,115])=true then x.v else tripsN r
theorem fare_trips (l : Sl FT) (w : World) (hl : FactsAt (· < w.heap.size) w l) : Calls Tryz.prog 42 #[.slice l.A l.l.length l.c] w fun e w'=>e = .returned (.int .i64 (tripsN l.l))∧Below w.heap.size w w':=by
 have hn:=hl.rd.len;have HR:=Zh hl.rd;clear hl;obtain ⟨A,c,l⟩:=l;simp only at hn;simp only;go_enter Tryz.func42,Tryz.ntmps42;go_wp2_with fail;go_loopw [7] (fun i wr=>∃ (k : Nat),k≤l.length∧i = .int .i64 k∧Below w.heap.size w wr∧Hid (tripsN l=tripsN (l.drop k))) (fun i _=>l.length - (intOf i).toNat)
 case atStart=>exact ⟨0,by omega,rfl,qbl,Zh Zs⟩
 case round =>
  obtain ⟨k,hk,rfl,hbel,HG⟩:=hrel;have hhe : w.heap.size≤wr.heap.size:=hbel.size;by_cases hlt : k<l.length
  ·obtain ⟨b,o,rfl,hb,hcl⟩:=HR.out.at1 hlt;have hcl2:=hcl.keep (hbel.block b hb);have hd : l.drop k=l[k] :: l.drop (k+1):=List.drop_eq_getElem_cons hlt;have hgo:=HG.out;rw [hd] at hgo;have HGO:=Zh hgo;clear hd hgo hcl HG;generalize l[k]=x at *;obtain ⟨xn,xv⟩:=x;obtain ⟨g0,g1⟩:=Cells.c2 hcl2;clear hcl2;go_wp2_with fail
   ·rename_i hx;(have hr : xv=tripsN l:=by rw [HGO.out,tripsN,if_pos hx]);go_ret;exact ⟨ret_int hr,hbel.alloc hhe _⟩
   ·rename_i hx;have hr : Hid (tripsN l=tripsN (l.drop (k+1))):=Zh (by rw [HGO.out]; conv=>lhs; rw [tripsN]; rw [if_neg (by rw [hx]; simp)]);go_roundw
    case rel=>exact ⟨k+1,by omega,by go_num,hbel.alloc hhe _,hr⟩
    case measure=>simp [intOf]; omega
  ·have hkl : l.drop k=[]:=List.drop_eq_nil_of_le Zo;have hgo:=HG.out;rw [hkl] at hgo;have HGO:=Zh hgo;clear hkl hgo HG;go_wp2_with fail;go_ret;exact ⟨ret_int HGO.out.symm,hbel⟩
def cutC (sh fa : Int) : Int × Int × Int:=if sh<0∨1000<sh∨fa<0∨1000000000000000<fa then (0,0,1) else (fa / 1000 * sh+fa % 1000 * sh / 1000,fa - (fa / 1000 * sh+fa % 1000 * sh / 1000),0)
theorem cutC_bad {sh fa : Int} (h : sh<0∨1000<sh∨fa<0∨1000000000000000<fa) : (0,0,1)=cutC sh fa:=by unfold cutC; rw [if_pos h]
theorem cutC_ok {sh fa : Int} (h0 : 0≤sh) (h1 : sh≤1000) (h2 : 0≤fa) (h3 : fa≤1000000000000000) : (fa / 1000 * sh+fa % 1000 * sh / 1000,fa - (fa / 1000 * sh+fa % 1000 * sh / 1000),0)=cutC sh fa:=by unfold cutC; rw [if_neg Zo]
def whC (b : Byl) (x : PT) (T M : List FT) : Int × Int:=if chkU b≠0 then (0,chkU b) else if (whF (evalF b.lets.l x T M)).2≠0 then (0,(whF (evalF b.lets.l x T M)).2) else ((whF (evalF b.lets.l x T M)).1,0)
theorem whC_bad {b : Byl} {x : PT} {T M : List FT} (h : chkU b≠0) : whC b x T M=(0,chkU b):=by unfold whC; rw [if_pos h]
theorem whC_bad2 {b : Byl} {x : PT} {T M : List FT} (h : chkU b=0) (h2 : (whF (evalF b.lets.l x T M)).2≠0) : whC b x T M=(0,(whF (evalF b.lets.l x T M)).2):=by unfold whC; rw [if_neg (fun h'=>h' h),if_pos h2]
theorem whC_ok {b : Byl} {x : PT} {T M : List FT} (h : chkU b=0) (h2 : (whF (evalF b.lets.l x T M)).2=0) : whC b x T M=((whF (evalF b.lets.l x T M)).1,0):=by unfold whC; rw [if_neg (fun h'=>h' h),if_neg (fun h'=>h' h2)]
def admC (b : Byl) (T M : List FT) : Bool × Int:=if chkU b≠0 then (false,chkU b) else if (evalF b.lets.l b.ad T M).e≠0 then (false,(evalF b.lets.l b.ad T M).e) else (trF (evalF b.lets.l b.ad T M) && decide (tripsN M<b.q),0)
theorem admC_bad {b : Byl} {T M : List FT} (h : chkU b≠0) : admC b T M=(false,chkU b):=by unfold admC; rw [if_pos h]
theorem admC_bad2 {b : Byl} {T M : List FT} (h : chkU b=0) (h2 : (evalF b.lets.l b.ad T M).e≠0) : admC b T M=(false,(evalF b.lets.l b.ad T M).e):=by unfold admC; rw [if_neg (fun h'=>h' h),if_pos h2]
theorem admC_ok {b : Byl} {T M : List FT} (h : chkU b=0) (h2 : (evalF b.lets.l b.ad T M).e=0) : admC b T M=(trF (evalF b.lets.l b.ad T M) && decide (tripsN M<b.q),0):=by unfold admC; rw [if_neg (fun h'=>h' h),if_neg (fun h'=>h' h2)]
theorem fare_whole (b : Byl) (e : PT) (T M : Sl FT) (w : World) (hb : Byl.At (· < w.heap.size) w b) (h40 : b.lets.l.length≤1000000) (he : PT.At (· < w.heap.size) w e) (hT : FactsAt (· < w.heap.size) w T) (hM : FactsAt (· < w.heap.size) w M) : Calls Tryz.prog 43 #[b.v,e.v,.slice T.A T.l.length T.c,.slice M.A M.l.length M.c] w fun r w'=>r = .returned (.tuple #[.int .i64 (whC b e T.l M.l).1,.int .i64 (whC b e T.l M.l).2])∧Below w.heap.size w w':=by
 have HB1 : Hid (Below w.heap.size w ((w.alloc (.cells b.v.cells 28)).alloc (.cells e.enc.toArray 26))):=Zh qbl;have hchk:=un_Check b _ (hb.later HB1.out) h40;have HWH:=Zh (fun W (hW : Below w.heap.size w W)=>ev_Whole b e T M W (hb.later hW) (he.later hW) (hT.later hW) (hM.later hW));obtain ⟨V,hV⟩ : ∃ V,whC b e T.l M.l=V:=⟨_,rfl⟩;have H1:=Zh (whC_bad (b:=b) (x:=e) (T:=T.l) (M:=M.l));have H2:=Zh (whC_bad2 (b:=b) (x:=e) (T:=T.l) (M:=M.l));have H3:=Zh (whC_ok (b:=b) (x:=e) (T:=T.l) (M:=M.l));obtain ⟨Z,hZ⟩ : ∃ Z,whF (evalF b.lets.l e T.l M.l)=Z:=⟨_,rfl⟩;obtain ⟨K,hK⟩ : ∃ K,chkU b=K:=⟨_,rfl⟩;rw [hV] at H1 H2 H3 ⊢;rw [hZ] at H2 H3 HWH;rw [hK] at H1 H2 H3 hchk;clear hV hZ hK hb h40 he hT hM;obtain ⟨nm,⟨LA,Lc,L⟩,⟨o,n,u,s,A,c,l⟩,⟨oB,nB,uB,sB,AB,cB,lB⟩,⟨oC,nC,uC,sC,AC,cC,lC⟩,⟨oD,nD,uD,sD,AD,cD,lD⟩,q,sh,ch⟩:=b;obtain ⟨xo,xm,xu,xs,xA,xc,xl⟩:=e;simp only [Byl.v,PT.v,PT.enc,Value.cells] at HB1 hchk HWH ⊢;have HA1 : Hid (Blk ((w.alloc (.cells #[.string nm,.slice LA L.length Lc,.int .i64 o,.int .i64 n,.int .i64 u,.string s,.slice A l.length c,.int .i64 oB,.int .i64 nB,.int .i64 uB,.string sB,.slice AB lB.length cB,.int .i64 oC,.int .i64 nC,.int .i64 uC,.string sC,.slice AC lC.length cC,.int .i64 oD,.int .i64 nD,.int .i64 uD,.string sD,.slice AD lD.length cD,.int .i64 q,.int .i64 sh,.int .i64 ch] 28)).alloc (.cells #[.int .i64 xo,.int .i64 xm,.int .i64 xu,.string xs,.slice xA xl.length xc] 26)) w.heap.size 28 #[.string nm,.slice LA L.length Lc,.int .i64 o,.int .i64 n,.int .i64 u,.string s,.slice A l.length c,.int .i64 oB,.int .i64 nB,.int .i64 uB,.string sB,.slice AB lB.length cB,.int .i64 oC,.int .i64 nC,.int .i64 uC,.string sC,.slice AC lC.length cC,.int .i64 oD,.int .i64 nD,.int .i64 uD,.string sD,.slice AD lD.length cD,.int .i64 q,.int .i64 sh,.int .i64 ch]):=Zh ((Blk.new _ _ _).alloc _);have HE1 : Hid (Blk ((w.alloc (.cells #[.string nm,.slice LA L.length Lc,.int .i64 o,.int .i64 n,.int .i64 u,.string s,.slice A l.length c,.int .i64 oB,.int .i64 nB,.int .i64 uB,.string sB,.slice AB lB.length cB,.int .i64 oC,.int .i64 nC,.int .i64 uC,.string sC,.slice AC lC.length cC,.int .i64 oD,.int .i64 nD,.int .i64 uD,.string sD,.slice AD lD.length cD,.int .i64 q,.int .i64 sh,.int .i64 ch] 28)).alloc (.cells #[.int .i64 xo,.int .i64 xm,.int .i64 xu,.string xs,.slice xA xl.length xc] 26)) (w.heap.size+1) 26 #[.int .i64 xo,.int .i64 xm,.int .i64 xu,.string xs,.slice xA xl.length xc]):=Zh (Blk.new' Zs);go_enter Tryz.func43,Tryz.ntmps43;go_wp2_with (refine wpList_load_row rfl 28 (.tmp 4) rfl _ rfl 28 _ (0,0) _ HA1.out Tryz.underlying28 rfl Zy ?_);refine hchk.mono ?_;clear hchk;generalize (w.alloc (.cells #[.string nm,.slice LA L.length Lc,.int .i64 o,.int .i64 n,.int .i64 u,.string s,.slice A l.length c,.int .i64 oB,.int .i64 nB,.int .i64 uB,.string sB,.slice AB lB.length cB,.int .i64 oC,.int .i64 nC,.int .i64 uC,.string sC,.slice AC lC.length cC,.int .i64 oD,.int .i64 nD,.int .i64 uD,.string sD,.slice AD lD.length cD,.int .i64 q,.int .i64 sh,.int .i64 ch] 28)).alloc (.cells #[.int .i64 xo,.int .i64 xm,.int .i64 xu,.string xs,.slice xA xl.length xc] 26)=w1 at *;rintro r w2 ⟨rfl,hb2⟩;have HB2:=Zt HB1 hb2;have HA2:=Zh (HA1.out.later hb2);have HE2:=Zh (HE1.out.later hb2);clear hb2 HA1 HE1 HB1;by_cases hk : K=0
 ·have H2b:=Zh (H2.out hk);have H3b:=Zh (H3.out hk);subst hk;obtain ⟨e0,e1,e2,e3,e4,ef,ez⟩:=HE2.out.b5;go_wp2_with (refine wpList_load_row rfl 28 (.tmp 4) rfl _ rfl 28 _ (0,0) _ HA2.out Tryz.underlying28 rfl Zy ?_);refine (HWH.out _ HB2.out).mono ?_;rintro r w3 ⟨rfl,hb3⟩;have HB3:=Zt HB2 hb3;clear hb3 HA2 HE2 e0 e1 e2 e3 e4 ef ez;by_cases hz : Z.2=0
  ·have HVV:=Zh (H3b.out hz);rw [hz];clear hz;go_wp2_with fail;refine bodyPost_ret (v:=.tuple #[.int .i64 Z.1,.int .i64 0]) ?_ rfl ⟨by rw [HVV.out],HB3.out⟩;simp [results,Tryz.results43,go_sem,]
  ·have HVV:=Zh (H2b.out hz);go_wp2_with fail;refine bodyPost_ret (v:=.tuple #[.int .i64 0,.int .i64 Z.2]) ?_ rfl ⟨by rw [HVV.out],HB3.out⟩;simp [results,Tryz.results43,go_sem,]
 ·have HVV:=Zh (H1.out hk);go_wp2_with fail;refine bodyPost_ret (v:=.tuple #[.int .i64 0,.int .i64 K]) ?_ rfl ⟨by rw [HVV.out],HB2.out⟩;simp [results,Tryz.results43,go_sem,]
theorem fare_Fare (b : Byl) (T M : Sl FT) (w : World) (hb : Byl.At (· < w.heap.size) w b) (h40 : b.lets.l.length≤1000000) (hT : FactsAt (· < w.heap.size) w T) (hM : FactsAt (· < w.heap.size) w M) : Calls Tryz.prog 24 #[b.v,.slice T.A T.l.length T.c,.slice M.A M.l.length M.c] w fun r w'=>r = .returned (.tuple #[.int .i64 (whC b b.fa T.l M.l).1,.int .i64 (whC b b.fa T.l M.l).2])∧Below w.heap.size w w':=by
 have HB1 : Hid (Below w.heap.size w (w.alloc (.cells b.v.cells 28))):=Zh qbl;have hcall:=fare_whole b b.fa T M _ (hb.later HB1.out) h40 (hb.fa.later HB1.out) (hT.later HB1.out) (hM.later HB1.out);obtain ⟨V,hV⟩ : ∃ V,whC b b.fa T.l M.l=V:=⟨_,rfl⟩;rw [hV] at hcall ⊢;clear hV hb h40 hT hM;obtain ⟨nm,⟨LA,Lc,L⟩,⟨o,n,u,s,A,c,l⟩,⟨oB,nB,uB,sB,AB,cB,lB⟩,⟨oC,nC,uC,sC,AC,cC,lC⟩,⟨oD,nD,uD,sD,AD,cD,lD⟩,q,sh,ch⟩:=b;simp only [Byl.v,PT.v,Value.cells] at HB1 hcall ⊢;have HA1:=Zh (Blk.new w 28 #[.string nm,.slice LA L.length Lc,.int .i64 o,.int .i64 n,.int .i64 u,.string s,.slice A l.length c,.int .i64 oB,.int .i64 nB,.int .i64 uB,.string sB,.slice AB lB.length cB,.int .i64 oC,.int .i64 nC,.int .i64 uC,.string sC,.slice AC lC.length cC,.int .i64 oD,.int .i64 nD,.int .i64 uD,.string sD,.slice AD lD.length cD,.int .i64 q,.int .i64 sh,.int .i64 ch]);go_enter Tryz.func24,Tryz.ntmps24;go_wp2_with (refine wpList_load_row rfl 28 (.tmp 3) rfl _ rfl 28 _ (0,0) _ HA1.out Tryz.underlying28 rfl Zy ?_);refine hcall.mono ?_;clear hcall HA1;rintro r w2 ⟨rfl,hb2⟩;have HB2:=Zt HB1 hb2;clear hb2 HB1;go_wp2_with fail;refine bodyPost_ret (v:=.tuple #[.int .i64 V.1,.int .i64 V.2]) ?_ rfl ⟨rfl,HB2.out⟩;simp [results,Tryz.results24,go_sem,]
theorem fare_Admit (b : Byl) (T M : Sl FT) (w : World) (hb : Byl.At (· < w.heap.size) w b) (h40 : b.lets.l.length≤1000000) (hT : FactsAt (· < w.heap.size) w T) (hM : FactsAt (· < w.heap.size) w M) : Calls Tryz.prog 23 #[b.v,.slice T.A T.l.length T.c,.slice M.A M.l.length M.c] w fun r w'=>r = .returned (.tuple #[.bool (admC b T.l M.l).1,.int .i64 (admC b T.l M.l).2])∧Below w.heap.size w w':=by
 have HB1 : Hid (Below w.heap.size w (w.alloc (.cells b.v.cells 28))):=Zh qbl;have hchk:=un_Check b _ (hb.later HB1.out) h40;have HWH:=Zh (fun W (hW : Below w.heap.size w W)=>ev_Truth b b.ad T M W (hb.later hW) (hb.ad.later hW) (hT.later hW) (hM.later hW));have HTR:=Zh (fun W (hW : Below w.heap.size w W)=>fare_trips M W (hM.later hW));obtain ⟨V,hV⟩ : ∃ V,admC b T.l M.l=V:=⟨_,rfl⟩;have H1:=Zh (admC_bad (b:=b) (T:=T.l) (M:=M.l));have H2:=Zh (admC_bad2 (b:=b) (T:=T.l) (M:=M.l));have H3:=Zh (admC_ok (b:=b) (T:=T.l) (M:=M.l));obtain ⟨Z,hZ⟩ : ∃ Z,evalF b.lets.l b.ad T.l M.l=Z:=⟨_,rfl⟩;obtain ⟨K,hK⟩ : ∃ K,chkU b=K:=⟨_,rfl⟩;obtain ⟨N,hN⟩ : ∃ N,tripsN M.l=N:=⟨_,rfl⟩;rw [hV] at H1 H2 H3 ⊢;rw [hZ] at H2 H3 HWH;rw [hK] at H1 H2 H3 hchk;rw [hN] at H3 HTR;clear hV hZ hK hb h40 hT hM hN;obtain ⟨nm,⟨LA,Lc,L⟩,⟨o,n,u,s,A,c,l⟩,⟨oB,nB,uB,sB,AB,cB,lB⟩,⟨oC,nC,uC,sC,AC,cC,lC⟩,⟨oD,nD,uD,sD,AD,cD,lD⟩,q,sh,ch⟩:=b;simp only [Byl.v,PT.v,Value.cells] at HB1 hchk HWH ⊢;have HA1:=Zh (Blk.new w 28 #[.string nm,.slice LA L.length Lc,.int .i64 o,.int .i64 n,.int .i64 u,.string s,.slice A l.length c,.int .i64 oB,.int .i64 nB,.int .i64 uB,.string sB,.slice AB lB.length cB,.int .i64 oC,.int .i64 nC,.int .i64 uC,.string sC,.slice AC lC.length cC,.int .i64 oD,.int .i64 nD,.int .i64 uD,.string sD,.slice AD lD.length cD,.int .i64 q,.int .i64 sh,.int .i64 ch]);go_enter Tryz.func23,Tryz.ntmps23;go_wp2_with (refine wpList_load_row rfl 28 (.tmp 3) rfl _ rfl 28 _ (0,0) _ HA1.out Tryz.underlying28 rfl Zy ?_);refine hchk.mono ?_;clear hchk;generalize w.alloc (.cells _ 28)=w1 at *;rintro r w2 ⟨rfl,hb2⟩;have HB2:=Zt HB1 hb2;have HA2:=Zh (HA1.out.later hb2);clear hb2 HA1 HB1;by_cases hk : K=0
 ·have H2b:=Zh (H2.out hk);have H3b:=Zh (H3.out hk);subst hk;obtain ⟨e0,e1,e2,e3,e4⟩ : w2.cell? ⟨w.heap.size,2,none⟩=some (.int .i64 o)∧w2.cell? ⟨w.heap.size,3,none⟩=some (.int .i64 n)∧w2.cell? ⟨w.heap.size,4,none⟩=some (.int .i64 u)∧w2.cell? ⟨w.heap.size,5,none⟩=some (.string s)∧w2.cell? ⟨w.heap.size,6,none⟩=some (.slice A l.length c):=⟨HA2.out.cell 2,HA2.out.cell 3,HA2.out.cell 4,HA2.out.cell 5,HA2.out.cell 6⟩;have ez:=HA2.out.lt;go_wp2_with (refine wpList_load_row rfl 28 (.tmp 3) rfl _ rfl 28 _ (0,0) _ HA2.out Tryz.underlying28 rfl Zy ?_);refine (HWH.out _ HB2.out).mono ?_;rintro r w3 ⟨rfl,hb3⟩;have HB3:=Zt HB2 hb3;have HA3:=Zh (HA2.out.later hb3);clear hb3 HA2 e0 e1 e2 e3 e4 ez;by_cases hz : Z.e=0
  ·have hv:=H3b.out hz;rw [hz];clear hz;obtain ⟨t,ht⟩ : ∃ t,trF Z=t:=⟨_,rfl⟩;rw [ht] at hv ⊢;have HVV:=Zh hv;clear hv ht;have f6 : w3.cell? ⟨w.heap.size,22,none⟩=some (.int .i64 q):=HA3.out.cell 22;have ez:=HA3.out.lt;go_wp2_with fail;rcases t
   ·skip;refine wp_region_T (fun W=>W.cell? ⟨w.heap.size,22,none⟩=some (.int .i64 q)) (fun _=>false) Zy f6 (fun hHeld=>?_);refine Zr 0 ?_;refine Zr 1 ?_;clear hHeld;refine Zm 2 ?_;refine Zm 3 ?_;refine Zm 4 ?_;refine Zm 5 ?_;refine Zm 6 ?_;have hHeld : w3.drew.cell? ⟨w.heap.size,22,none⟩=some (.int .i64 q):=f6;refine Zr 7 ?_;refine Zr 8 ?_;refine Zr 9 ?_;refine Ze ?_;clear hHeld;go_wp2_with fail;refine bodyPost_ret (v:=.tuple #[.bool false,.int .i64 0]) ?_ rfl ⟨by rw [HVV.out,Bool.false_and],HB3.out.drew⟩;simp [results,Tryz.results23,go_sem,]
   ·skip;refine wp_region_T (fun W=>W.cell? ⟨w.heap.size,22,none⟩=some (.int .i64 q)) (fun _=>false) Zy f6 (fun hHeld=>?_);refine Zr 0 ?_;refine Zr 1 ?_;refine Zr 2 ?_;refine Zr 4 ?_;refine Zr 5 ?_;clear hHeld;refine Zn 3 ?_;go_wp2_with fail;refine (HTR.out _ HB3.out.drew).mono ?_;rintro r w4 ⟨rfl,hb4⟩;have HB4 : Hid (Below w.heap.size w w4):=Zh (HB3.out.drew.trans (hb4.mono HB3.out.drew.size));have f7 : w4.cell? ⟨w.heap.size,22,none⟩=some (.int .i64 q):=(HA3.out.drew.later hb4).cell 22;go_wp2_with fail;refine Zi (f7) ?_;have hHeld:=f7;refine Zr 6 ?_;refine Zr 7 ?_;refine Zr 8 ?_;refine Zr 9 ?_;refine Ze ?_;clear hHeld;go_wp2_with fail;refine bodyPost_ret (v:=.tuple #[.bool (decide (N<q)),.int .i64 0]) ?_ rfl ⟨by rw [HVV.out,Bool.true_and],HB4.out⟩;simp [results,Tryz.results23,go_sem,]
  ·have HVV:=Zh (H2b.out hz);go_wp2_with fail;refine bodyPost_ret (v:=.tuple #[.bool false,.int .i64 Z.e]) ?_ rfl ⟨by rw [HVV.out],HB3.out⟩;simp [results,Tryz.results23,go_sem,]
 ·have HVV:=Zh (H1.out hk);go_wp2_with fail;refine bodyPost_ret (v:=.tuple #[.bool false,.int .i64 K]) ?_ rfl ⟨by rw [HVV.out],HB2.out⟩;simp [results,Tryz.results23,go_sem,]
end Go.Proofs.YtpbdjpfbhicmdaaGreatDoor
