/- Walk: units.Check. -/
import Derived.Test.YtcgocdhhneckhaaGreatFtelmxaz
import Derived.DeepKeys
set_option maxRecDepth 100000
set_option maxHeartbeats 6400000
namespace Go.Proofs.YtcgocdhhneckhaaGreat
open Go.RowKit
def firstE : List Int→Int
  | []=>0
  | e :: r=>if e≠0 then e else firstE r
theorem firstE_app : ∀ a b : List Int,firstE (a ++ b)=if firstE a≠0 then firstE a else firstE b
 | [],b=>by simp [firstE]
 | e :: r,b=>by
  by_cases h : e=0
  ·simp [firstE,h,firstE_app r b]
  ·simp [firstE,h]
theorem firstE_zero {f : Nat→Int} : ∀ n,(∀ i,i<n→f i=0)→firstE ((List.range n).map f)=0
 | 0,_=>rfl
 | n+1,h=>by
  rw [List.range_succ,List.map_append,firstE_app,firstE_zero n fun i hi=>h i Zo];simp [firstE,h n Zo]
theorem firstE_at {f : Nat→Int} {k : Nat} (h : ∀ i,i<k→f i=0) (he : f k≠0) : ∀ n,k<n→firstE ((List.range n).map f)=f k
 | 0,hk=>absurd hk Zo
 | n+1,hk=>by
  rw [List.range_succ,List.map_append,firstE_app];by_cases hn : k=n
  ·subst hn;rw [firstE_zero _ h];simp [firstE];omega
  ·rw [firstE_at h he n Zo,if_pos he]
def letE (L : List LT) (k : Nat) : Int:=match L[k]? with
  | some x=>(ofU (L.take k) x.b).2
  | none=>0
def fourE (L : List LT) (xs : List PT) (k : Nat) : Int:=match xs[k]? with
  | some x=>if (ofU L x).2≠0 then (ofU L x).2 else if (ofU L x).1≠(if k=0 then 3 else 1) then 13 else 0
  | none=>0
def chkU (b : Byl) : Int:=if bylB b=true then firstE ((List.range b.lets.l.length).map (letE b.lets.l) ++ (List.range 4).map (fourE b.lets.l [b.ad,b.fa,b.la,b.no])) else 1
theorem letE_at {L : List LT} {k : Nat} {x : LT} (h : L[k]? = some x) : letE L k=(ofU (L.take k) x.b).2:=by unfold letE; rw [h]
theorem fourE_at {L : List LT} {xs : List PT} {k : Nat} {x : PT} (h : xs[k]? = some x) : fourE L xs k=if (ofU L x).2≠0 then (ofU L x).2 else if (ofU L x).1≠(if k=0 then 3 else 1) then 13 else 0:=by unfold fourE; rw [h]
section
variable {b : Byl}
theorem chkU_no (h : bylB b=false) : chkU b=1:=by unfold chkU; rw [h]; rfl
theorem chkU_let (h : bylB b=true) {k : Nat} (hk : k<b.lets.l.length) (h0 : ∀ i,i<k→letE b.lets.l i=0) (he : letE b.lets.l k≠0) : chkU b=letE b.lets.l k:=by
 unfold chkU;rw [if_pos h,firstE_app,firstE_at h0 he _ hk,if_pos he]
theorem chkU_four (h : bylB b=true) (h0 : ∀ i,i<b.lets.l.length→letE b.lets.l i=0) {k : Nat} (hk : k<4) (h1 : ∀ i,i<k→fourE b.lets.l [b.ad,b.fa,b.la,b.no] i=0) (he : fourE b.lets.l [b.ad,b.fa,b.la,b.no] k≠0) : chkU b=fourE b.lets.l [b.ad,b.fa,b.la,b.no] k:=by
 unfold chkU;rw [if_pos h,firstE_app,firstE_zero _ h0,firstE_at h1 he _ hk];simp
theorem chkU_ok (h : bylB b=true) (h0 : ∀ i,i<b.lets.l.length→letE b.lets.l i=0) (h1 : ∀ i,i<4→fourE b.lets.l [b.ad,b.fa,b.la,b.no] i=0) : chkU b=0:=by
 unfold chkU;rw [if_pos h,firstE_app,firstE_zero _ h0,firstE_zero _ h1];simp
end
theorem un_Check (b : Byl) (w : World) (hb : Byl.At (· < w.heap.size) w b) (h40 : b.lets.l.length≤1000000) : Calls Tryz.prog 26 #[b.v] w fun r w'=>r = .returned (.int .i64 (chkU b))∧Below w.heap.size w w':=by
 have HP:=Zh hb;clear hb;obtain ⟨V,hV⟩ : ∃ V,chkU b=V:=⟨_,rfl⟩;have HV:=Zh hV;rw [hV];clear hV;obtain ⟨nm,⟨LA,Lc,L⟩,⟨o,n,u,s,A,c,l⟩,⟨oB,nB,uB,sB,AB,cB,lB⟩,⟨oC,nC,uC,sC,AC,cC,lC⟩,⟨oD,nD,uD,sD,AD,cD,lD⟩,q,sh,ch⟩:=b;simp only at h40;simp only [Byl.v];have HB : Hid (Below w.heap.size w (w.alloc (.cells #[.string nm,.slice LA L.length Lc,.int .i64 o,.int .i64 n,.int .i64 u,.string s,.slice A l.length c,.int .i64 oB,.int .i64 nB,.int .i64 uB,.string sB,.slice AB lB.length cB,.int .i64 oC,.int .i64 nC,.int .i64 uC,.string sC,.slice AC lC.length cC,.int .i64 oD,.int .i64 nD,.int .i64 uD,.string sD,.slice AD lD.length cD,.int .i64 q,.int .i64 sh,.int .i64 ch] 27))):=Zh qbl;have HA:=Zh (Blk.new w 27 #[.string nm,.slice LA L.length Lc,.int .i64 o,.int .i64 n,.int .i64 u,.string s,.slice A l.length c,.int .i64 oB,.int .i64 nB,.int .i64 uB,.string sB,.slice AB lB.length cB,.int .i64 oC,.int .i64 nC,.int .i64 uC,.string sC,.slice AC lC.length cC,.int .i64 oD,.int .i64 nD,.int .i64 uD,.string sD,.slice AD lD.length cD,.int .i64 q,.int .i64 sh,.int .i64 ch]);have hr:=syn_Right (⟨nm,⟨LA,Lc,L⟩,⟨o,n,u,s,A,c,l⟩,⟨oB,nB,uB,sB,AB,cB,lB⟩,⟨oC,nC,uC,sC,AC,cC,lC⟩,⟨oD,nD,uD,sD,AD,cD,lD⟩,q,sh,ch⟩ : Byl) _ (HP.out.later HB.out) h40;simp only [Byl.v] at hr;go_enter Tryz.func26,Tryz.ntmps26;go_wp2_with (refine wpList_load_row rfl 27 (.tmp 1) rfl _ rfl 27 _ (0,0) _ HA.out Tryz.underlying27 rfl Zy ?_);refine hr.mono ?_;clear hr;generalize w.alloc (.cells _ 27)=w1 at *;rintro e w2 ⟨rfl,hb2⟩;have HB2:=Zt HB hb2;have HA2:=Zh (HA.out.later hb2);clear hb2 HA HB;obtain ⟨r,hr⟩ : ∃ r,bylB (⟨nm,⟨LA,Lc,L⟩,⟨o,n,u,s,A,c,l⟩,⟨oB,nB,uB,sB,AB,cB,lB⟩,⟨oC,nC,uC,sC,AC,cC,lC⟩,⟨oD,nD,uD,sD,AD,cD,lD⟩,q,sh,ch⟩ : Byl)=r:=⟨_,rfl⟩;rw [hr];rcases r
 ·have HF:=Zh ((chkU_no hr).symm.trans HV.out);clear hr;go_wp2_with fail;go_ret;exact ⟨ret_int HF.out,HB2.out⟩
 ·have HR:=Zh hr;clear hr;have y1:=HA2.out.cell 1;have yz:=HA2.out.lt;go_wp2_with fail;go_loopw [20] (fun i wr=>∃ (j : Nat),j≤L.length∧i = .int .i64 j∧Below w2.heap.size w2 wr∧Hid (∀ i,i<j→letE L i=0)) (fun i _=>L.length - (intOf i).toNat)
  case atStart=>exact ⟨0,by omega,rfl,Below.refl _ _,Zh (fun i hi=>absurd hi Zo)⟩
  case round =>
   obtain ⟨j,hj,rfl,hbel,HZ⟩:=hrel;have hhe : w2.heap.size≤wr.heap.size:=hbel.size;have HBR:=Zt HB2 hbel;have HAR:=Zh (HA2.out.later hbel);clear y1 yz;by_cases hlt : j<L.length
   ·have hLW:=HP.out.lets.later HBR.out;obtain ⟨b,q,hA,hbl,hcl⟩:=hLW.rd.at1 hlt;have HX:=Zh (hLW.all _ (List.getElem_mem hlt)).b;have HLE:=Zh (letE_at (List.getElem?_eq_getElem hlt));have hlc:=hLW.rd.lecap;simp only at hA hcl HX HLE hlc;clear hLW;(have hlen : (L.take j).length=j:=by rw [List.length_take]; omega);have HLN:=Zh hlen;clear hlen;generalize L[j]=x at *;obtain ⟨xn,xo,xm,xu,xs,xA,xc,xl⟩:=x;obtain ⟨g0,g1,g2,g3,g4,g5⟩:=Cells.c6 hcl;have y1:=HAR.out.cell 1;have yz:=HAR.out.lt;clear hcl;subst hA;go_wp2_with fail;have HW3 : Hid (Below wr.heap.size wr (wr.alloc (.cells #[.string xn,.int .i64 xo,.int .i64 xm,.int .i64 xu,.string xs,.slice xA xl.length xc] 57))):=Zh qbl;have HG3:=Zh (Blk.new wr 57 #[.string xn,.int .i64 xo,.int .i64 xm,.int .i64 xu,.string xs,.slice xA xl.length xc]);generalize wr.alloc (.cells _ 57)=w3 at *;have HX3:=Zh (HX.out.later HW3.out);have hs3:=HW3.out.size;have HB23 : Hid (Below w2.heap.size w2 w3):=Zh (hbel.trans (HW3.out.mono hhe));have HA3:=Zh (HAR.out.later HW3.out);have HB3:=Zt HBR HW3.out;generalize wr.heap.size=g3 at *;clear y1 yz g0 g1 g2 g4 g5;have y1:=HA3.out.cell 1;obtain ⟨z1,z2,z3,z4,z5⟩ : w3.cell? ⟨g3,1,none⟩=some (.int .i64 xo)∧w3.cell? ⟨g3,2,none⟩=some (.int .i64 xm)∧w3.cell? ⟨g3,3,none⟩=some (.int .i64 xu)∧w3.cell? ⟨g3,4,none⟩=some (.string xs)∧w3.cell? ⟨g3,5,none⟩=some (.slice xA xl.length xc):=⟨HG3.out.cell 1,HG3.out.cell 2,HG3.out.cell 3,HG3.out.cell 4,HG3.out.cell 5⟩;(have hji : (j : Int)≤(Lc : Int):=by omega);refine wp_region_T (fun W=>W.cell? ⟨w.heap.size,1,none⟩=some (.slice (some ⟨b,q,none⟩) L.length Lc)∧W.cell? ⟨g3,1,none⟩=some (.int .i64 xo)∧W.cell? ⟨g3,2,none⟩=some (.int .i64 xm)∧W.cell? ⟨g3,3,none⟩=some (.int .i64 xu)∧W.cell? ⟨g3,4,none⟩=some (.string xs)∧W.cell? ⟨g3,5,none⟩=some (.slice xA xl.length xc)) (fun _=>false) Zy ⟨y1,z1,z2,z3,z4,z5⟩ (fun hHeld=>?_);refine Zr 0 ?_;refine Zr 1 ?_;refine Zr 2 ?_;refine Zr 3 ?_;refine Zr 4 ?_;refine Zr 5 ?_;clear hHeld
    have hcall:=un_Of ⟨some ⟨b,q,none⟩,Lc,L.take j⟩ ⟨xo,xm,xu,xs,xA,xc,xl⟩ w3.drew
     ⟨((HP.out.lets.later HB3.out).rd.takeN j).keep (fun _ _=>rfl),fun y hy=>((HP.out.lets.later HB3.out).all y (List.mem_of_mem_take hy)).keep (fun _ _=>rfl) (fun _ h=>h)⟩
     (HX3.out.keep (fun _ _=>rfl) (fun _ h=>h))
    simp only [HLN.out,PT.v] at hcall;obtain ⟨U,hU⟩ : ∃ U,ofU (L.take j) ⟨xo,xm,xu,xs,xA,xc,xl⟩=U:=⟨_,rfl⟩;have hle:=HLE.out;rw [hU] at hcall hle;have HLU:=Zh hle;clear hU hle HLE;refine Zn 6 ?_;go_wp2_with fail;refine hcall.mono ?_;clear hcall;rintro e w4 ⟨⟨RA,rn,rc,rfl⟩,hb4⟩;have hb34 : Below w3.heap.size w3 w4:=Below.trans (Below.drew Zz) hb4;have HA4:=Zh (HA3.out.later hb34);have HG4:=Zh (HG3.out.later hb34);have HB4 : Hid (Below w2.heap.size w2 w4):=Zh (HB23.out.trans (hb34.mono (Nat.le_trans hhe hs3)));clear hb4 hb34 y1 z1 z2 z3 z4 z5;have y1:=HA4.out.cell 1;obtain ⟨z1,z2,z3,z4,z5⟩ : w4.cell? ⟨g3,1,none⟩=some (.int .i64 xo)∧w4.cell? ⟨g3,2,none⟩=some (.int .i64 xm)∧w4.cell? ⟨g3,3,none⟩=some (.int .i64 xu)∧w4.cell? ⟨g3,4,none⟩=some (.string xs)∧w4.cell? ⟨g3,5,none⟩=some (.slice xA xl.length xc):=⟨HG4.out.cell 1,HG4.out.cell 2,HG4.out.cell 3,HG4.out.cell 4,HG4.out.cell 5⟩;go_wp2_with fail;refine And.intro (by first | exact fun _=>⟨y1,z1,z2,z3,z4,z5⟩ | exact ⟨y1,z1,z2,z3,z4,z5⟩) ?_;have hHeld:=(⟨y1,z1,z2,z3,z4,z5⟩ : w4.cell? ⟨w.heap.size,1,none⟩=some (.slice (some ⟨b,q,none⟩) L.length Lc)∧w4.cell? ⟨g3,1,none⟩=some (.int .i64 xo)∧w4.cell? ⟨g3,2,none⟩=some (.int .i64 xm)∧w4.cell? ⟨g3,3,none⟩=some (.int .i64 xu)∧w4.cell? ⟨g3,4,none⟩=some (.string xs)∧w4.cell? ⟨g3,5,none⟩=some (.slice xA xl.length xc));refine Zr 7 ?_;refine Zr 8 ?_;refine Zr 9 ?_;refine Zr 10 ?_;refine Zr 11 ?_;refine Zr 12 ?_;refine Zr 13 ?_;refine Ze ?_;clear hHeld;by_cases hu : U.2=0
    ·have HZ2 : Hid (∀ i,i<j+1→letE L i=0):=Zh (fun i hi=>by
      rcases Nat.lt_or_ge i j with h | h
      ·exact HZ.out i h
      ·(obtain rfl : i=j:=by omega);rw [HLU.out,hu])
     rw [hu];clear hu;go_wp2_with fail;go_roundw
     case rel=>exact ⟨j+1,by omega,by go_num,HB4.out,HZ2⟩
     case measure=>simp [intOf]; omega
    ·have HVV:=Zh ((chkU_let HR.out hlt HZ.out (by rw [HLU.out]; exact hu)).symm.trans HV.out);have HVW:=Zh (HLU.out.symm.trans HVV.out);go_wp2_with fail;go_ret;exact ⟨ret_int HVW.out,HB2.out.trans (HB4.out.mono HB2.out.size)⟩
   ·(have hjL : j=L.length:=by omega);have HZL : Hid (∀ i,i<L.length→letE L i=0):=Zh (by rw [← hjL]; exact HZ.out);clear HZ hjL;obtain ⟨y0,y1,y2,y3,y4,y5,y6,y7,y8,y9,y10,y11,y12,y13,y14,y15,y16,y17,y18,y19,y20,y21,y22,y23,y24,yf,yz⟩:=HAR.out.b25;go_wp2_with fail;have hf4 : Own wr.heap.size 25 5 PT.enc (wr.alloc (.cells #[.int .i64 o,.int .i64 n,.int .i64 u,.string s,.slice A l.length c,.int .i64 oB,.int .i64 nB,.int .i64 uB,.string sB,.slice AB lB.length cB,.int .i64 oC,.int .i64 nC,.int .i64 uC,.string sC,.slice AC lC.length cC,.int .i64 oD,.int .i64 nD,.int .i64 uD,.string sD,.slice AD lD.length cD] 25)) ⟨some ⟨wr.heap.size,0,none⟩,4,[PT.mk o n u s A c l,PT.mk oB nB uB sB AB cB lB,PT.mk oC nC uC sC AC cC lC,PT.mk oD nD uD sD AD cD lD]⟩:=Own.lit wr #[.int .i64 o,.int .i64 n,.int .i64 u,.string s,.slice A l.length c,.int .i64 oB,.int .i64 nB,.int .i64 uB,.string sB,.slice AB lB.length cB,.int .i64 oC,.int .i64 nC,.int .i64 uC,.string sC,.slice AC lC.length cC,.int .i64 oD,.int .i64 nD,.int .i64 uD,.string sD,.slice AD lD.length cD] [PT.mk o n u s A c l,PT.mk oB nB uB sB AB cB lB,PT.mk oC nC uC sC AC cC lC,PT.mk oD nD uD sD AD cD lD] Zl (by unfold maxLen; simp) rfl PT.enc_k;have HF4:=Zh hf4;clear hf4 y0 y1 y2 y3 y4 y5 y6 y7 y8 y9 y10 y11 y12 y13 y14 y15 y16 y17 y18 y19 y20 y21 y22 y23 y24 yf yz;have HK0 : Hid (Below wr.heap.size wr (wr.alloc (.cells #[.int .i64 o,.int .i64 n,.int .i64 u,.string s,.slice A l.length c,.int .i64 oB,.int .i64 nB,.int .i64 uB,.string sB,.slice AB lB.length cB,.int .i64 oC,.int .i64 nC,.int .i64 uC,.string sC,.slice AC lC.length cC,.int .i64 oD,.int .i64 nD,.int .i64 uD,.string sD,.slice AD lD.length cD] 25))):=Zh qbl;have HA5:=Zh (HAR.out.later HK0.out);have HB5 : Hid (Below w.heap.size w (wr.alloc (.cells #[.int .i64 o,.int .i64 n,.int .i64 u,.string s,.slice A l.length c,.int .i64 oB,.int .i64 nB,.int .i64 uB,.string sB,.slice AB lB.length cB,.int .i64 oC,.int .i64 nC,.int .i64 uC,.string sC,.slice AC lC.length cC,.int .i64 oD,.int .i64 nD,.int .i64 uD,.string sD,.slice AD lD.length cD] 25))):=Zt HBR HK0.out;(have hsz5 : wr.heap.size<(wr.alloc (.cells #[.int .i64 o,.int .i64 n,.int .i64 u,.string s,.slice A l.length c,.int .i64 oB,.int .i64 nB,.int .i64 uB,.string sB,.slice AB lB.length cB,.int .i64 oC,.int .i64 nC,.int .i64 uC,.string sC,.slice AC lC.length cC,.int .i64 oD,.int .i64 nD,.int .i64 uD,.string sD,.slice AD lD.length cD] 25)).heap.size:=by simp);generalize wr.alloc (.cells _ 25)=w5 at *;generalize wr.heap.size=g4 at *;clear hbel hhe HBR HAR HK0;clear wr;go_loopw [50] (fun i wz=>∃ (k : Nat),k≤4∧i = .int .i64 k∧Below w5.heap.size w5 wz∧Hid (∀ i,i<k→fourE L [PT.mk o n u s A c l,PT.mk oB nB uB sB AB cB lB,PT.mk oC nC uC sC AC cC lC,PT.mk oD nD uD sD AD cD lD] i=0)) (fun i _=>4 - (intOf i).toNat)
    case atStart=>exact ⟨0,by omega,rfl,Below.refl _ _,Zh (fun i hi=>absurd hi Zo)⟩
    case round =>
     obtain ⟨k,hk,rfl,hbelz,HZ⟩:=hrel;have HBZ:=Zt HB5 hbelz;have HAZ:=Zh (HA5.out.later hbelz);by_cases hlt : k<4
     ·have hrd:=((HF4.out.below hbelz).rd PT.enc_k);obtain ⟨b,p,hA,hbl,hcl⟩:=hrd.at1 (i:=k) hlt;injection hA with hA;injection hA with h1 h2;subst h1 h2
      have HX : Hid (PT.At (· < wr.heap.size) wr ([PT.mk o n u s A c l,PT.mk oB nB uB sB AB cB lB,PT.mk oC nC uC sC AC cC lC,PT.mk oD nD uD sD AD cD lD][k]'hlt)):=Zh (by
       have hm : ([PT.mk o n u s A c l,PT.mk oB nB uB sB AB cB lB,PT.mk oC nC uC sC AC cC lC,PT.mk oD nD uD sD AD cD lD][k]'hlt) ∈ [PT.mk o n u s A c l,PT.mk oB nB uB sB AB cB lB,PT.mk oC nC uC sC AC cC lC,PT.mk oD nD uD sD AD cD lD]:=List.getElem_mem hlt;simp only [List.mem_cons,List.not_mem_nil,or_false] at hm;have HP6:=HP.out.later HBZ.out;rcases hm with h | h | h | h <;> rw [h]
       ·exact HP6.ad
       ·exact HP6.fa
       ·exact HP6.la
       ·exact HP6.no)
      have HLE:=Zh (fourE_at (L:=L) (xs:=[PT.mk o n u s A c l,PT.mk oB nB uB sB AB cB lB,PT.mk oC nC uC sC AC cC lC,PT.mk oD nD uD sD AD cD lD]) (List.getElem?_eq_getElem hlt));simp only at hcl HX HLE;clear hrd;generalize [PT.mk o n u s A c l,PT.mk oB nB uB sB AB cB lB,PT.mk oC nC uC sC AC cC lC,PT.mk oD nD uD sD AD cD lD][k]'hlt=x at *;obtain ⟨xo,xm,xu,xs,xA,xc,xl⟩:=x;obtain ⟨g0,g1,g2,g3,g5⟩:=Cells.c5 hcl;have hbz:=hbl.2;simp only [Nat.zero_add] at g0 g1 g2 g3 g5;have y1:=HAZ.out.cell 1;have yz:=HAZ.out.lt;obtain ⟨U,hU⟩ : ∃ U,ofU L ⟨xo,xm,xu,xs,xA,xc,xl⟩=U:=⟨_,rfl⟩;have hle:=HLE.out;rw [hU] at hle;have HLU:=Zh hle;have HUU:=Zh hU;clear hcl hbl hU hle HLE;by_cases hk0 : (k : Int)=0
      ·(have hkz : k=0:=by omega);have HWT:=Zh HLU.out;rw [if_pos hkz] at HWT;subst hkz;simp only [Nat.zero_mul] at g0 g1 g2 g3 g5;go_wp2_with fail;have HWZ : Hid (Below wr.heap.size wr (wr.alloc (.cells #[.int .i64 xo,.int .i64 xm,.int .i64 xu,.string xs,.slice xA xl.length xc] 25))):=Zh qbl;have hsz:=hbelz.size;have HBN : Hid (Below w5.heap.size w5 (wr.alloc (.cells #[.int .i64 xo,.int .i64 xm,.int .i64 xu,.string xs,.slice xA xl.length xc] 25))):=Zh (hbelz.trans (HWZ.out.mono hsz));have HBM : Hid (Below w.heap.size w (wr.alloc (.cells #[.int .i64 xo,.int .i64 xm,.int .i64 xu,.string xs,.slice xA xl.length xc] 25))):=Zt HBZ HWZ.out;have hcall:=un_Of ⟨LA,Lc,L⟩ ⟨xo,xm,xu,xs,xA,xc,xl⟩ _ (HP.out.lets.later HBM.out) (HX.out.later HWZ.out);rw [HUU.out] at hcall;simp only [PT.v] at hcall;refine hcall.mono ?_;clear hcall;generalize wr.alloc (.cells _ 25)=w6 at *;rintro e w7 ⟨⟨RA,rn,rc,rfl⟩,hb7⟩;have HB7:=Zt HBN hb7;have HBW:=Zt HBM hb7;clear hb7 g0 g1 g2 g3 g5 y1 yz;by_cases hu : U.2=0
       ·by_cases hw : U.1=3
        ·have HZ2 : Hid (∀ i,i<0+1→fourE L [PT.mk o n u s A c l,PT.mk oB nB uB sB AB cB lB,PT.mk oC nC uC sC AC cC lC,PT.mk oD nD uD sD AD cD lD] i=0):=Zh (fun i hi=>by
          rcases Nat.lt_or_ge i 0 with h | h
          ·exact HZ.out i h
          ·(obtain rfl : i=0:=by omega);rw [HWT.out,if_neg (fun h=>h hu),if_neg (fun h=>h hw)])
         rw [hu,hw];clear hu hw;go_wp2_with fail;go_roundw
         case rel=>exact ⟨0+1,by omega,by go_num,HB7.out,HZ2⟩
         case measure=>first | (simp [intOf]; done) | (simp [intOf]; omega)
        ·(have he13 : fourE L [PT.mk o n u s A c l,PT.mk oB nB uB sB AB cB lB,PT.mk oC nC uC sC AC cC lC,PT.mk oD nD uD sD AD cD lD] 0=13:=by rw [HWT.out,if_neg (fun h=>h hu),if_pos hw]);have HVV:=Zh ((chkU_four HR.out HZL.out hlt HZ.out (by rw [he13]; decide)).symm.trans HV.out);have HVW:=Zh (he13.symm.trans HVV.out);rw [hu];clear he13 hu;go_wp2_with fail;go_ret;exact ⟨ret_int HVW.out,HBW.out⟩
       ·(have heu : fourE L [PT.mk o n u s A c l,PT.mk oB nB uB sB AB cB lB,PT.mk oC nC uC sC AC cC lC,PT.mk oD nD uD sD AD cD lD] 0=U.2:=by rw [HWT.out,if_pos hu]);have HVV:=Zh ((chkU_four HR.out HZL.out hlt HZ.out (by rw [heu]; exact hu)).symm.trans HV.out);have HVW:=Zh (heu.symm.trans HVV.out);clear heu;go_wp2_with fail;go_ret;exact ⟨ret_int HVW.out,HBW.out⟩
      ·(have hkz : ¬ k=0:=by omega);have HWT:=Zh HLU.out;rw [if_neg hkz] at HWT;go_wp2_with fail;have HWZ : Hid (Below wr.heap.size wr (wr.alloc (.cells #[.int .i64 xo,.int .i64 xm,.int .i64 xu,.string xs,.slice xA xl.length xc] 25))):=Zh qbl;have hsz:=hbelz.size;have HBN : Hid (Below w5.heap.size w5 (wr.alloc (.cells #[.int .i64 xo,.int .i64 xm,.int .i64 xu,.string xs,.slice xA xl.length xc] 25))):=Zh (hbelz.trans (HWZ.out.mono hsz));have HBM : Hid (Below w.heap.size w (wr.alloc (.cells #[.int .i64 xo,.int .i64 xm,.int .i64 xu,.string xs,.slice xA xl.length xc] 25))):=Zt HBZ HWZ.out;have hcall:=un_Of ⟨LA,Lc,L⟩ ⟨xo,xm,xu,xs,xA,xc,xl⟩ _ (HP.out.lets.later HBM.out) (HX.out.later HWZ.out);rw [HUU.out] at hcall;simp only [PT.v] at hcall;refine hcall.mono ?_;clear hcall;generalize wr.alloc (.cells _ 25)=w6 at *;rintro e w7 ⟨⟨RA,rn,rc,rfl⟩,hb7⟩;have HB7:=Zt HBN hb7;have HBW:=Zt HBM hb7;clear hb7 g0 g1 g2 g3 g5 y1 yz;by_cases hu : U.2=0
       ·by_cases hw : U.1=1
        ·have HZ2 : Hid (∀ i,i<k+1→fourE L [PT.mk o n u s A c l,PT.mk oB nB uB sB AB cB lB,PT.mk oC nC uC sC AC cC lC,PT.mk oD nD uD sD AD cD lD] i=0):=Zh (fun i hi=>by
          rcases Nat.lt_or_ge i k with h | h
          ·exact HZ.out i h
          ·(obtain rfl : i=k:=by omega);rw [HWT.out,if_neg (fun h=>h hu),if_neg (fun h=>h hw)])
         rw [hu,hw];clear hu hw;go_wp2_with fail;go_roundw
         case rel=>exact ⟨k+1,by omega,by go_num,HB7.out,HZ2⟩
         case measure=>first | (simp [intOf]; done) | (simp [intOf]; omega)
        ·(have he13 : fourE L [PT.mk o n u s A c l,PT.mk oB nB uB sB AB cB lB,PT.mk oC nC uC sC AC cC lC,PT.mk oD nD uD sD AD cD lD] k=13:=by rw [HWT.out,if_neg (fun h=>h hu),if_pos hw]);have HVV:=Zh ((chkU_four HR.out HZL.out hlt HZ.out (by rw [he13]; decide)).symm.trans HV.out);have HVW:=Zh (he13.symm.trans HVV.out);rw [hu];clear he13 hu;go_wp2_with fail;go_ret;exact ⟨ret_int HVW.out,HBW.out⟩
       ·(have heu : fourE L [PT.mk o n u s A c l,PT.mk oB nB uB sB AB cB lB,PT.mk oC nC uC sC AC cC lC,PT.mk oD nD uD sD AD cD lD] k=U.2:=by rw [HWT.out,if_pos hu]);have HVV:=Zh ((chkU_four HR.out HZL.out hlt HZ.out (by rw [heu]; exact hu)).symm.trans HV.out);have HVW:=Zh (heu.symm.trans HVV.out);clear heu;go_wp2_with fail;go_ret;exact ⟨ret_int HVW.out,HBW.out⟩
     ·(have hk4 : k=4:=by omega);have HV0:=Zh ((chkU_ok HR.out HZL.out (by rw [hk4] at HZ; exact HZ.out)).symm.trans HV.out);go_wp2_with fail;go_ret;exact ⟨ret_int HV0.out,HBZ.out⟩
def tripL (d r de no s c b rd : Int) : List FT:=[⟨(⟨#[100,105,114,101,99,116]⟩ : ByteArray),d⟩,⟨(⟨#[114,105,100,101]⟩ : ByteArray),r⟩,⟨(⟨#[100,101,108,97,121]⟩ : ByteArray),de⟩,⟨(⟨#[110,111,116,105,99,101]⟩ : ByteArray),no⟩,⟨(⟨#[115,101,97,116,115]⟩ : ByteArray),s⟩,⟨(⟨#[99,104,97,105,114,115]⟩ : ByteArray),c⟩,⟨(⟨#[98,97,103,115]⟩ : ByteArray),b⟩,⟨(⟨#[114,105,100,101,114,115]⟩ : ByteArray),rd⟩]
def riderL (f b t n : Int) : List FT:=[⟨(⟨#[102,97,118,111,117,114]⟩ : ByteArray),f⟩,⟨(⟨#[98,97,108,97,110,99,101]⟩ : ByteArray),b⟩,⟨(⟨#[116,114,105,112,115]⟩ : ByteArray),t⟩,⟨(⟨#[110,111,115,104,111,119,115]⟩ : ByteArray),n⟩]
def FcP (w w' : World) (l : List FT) (e : Ending) : Prop:=∃ s : Sl FT,e = .returned (.slice s.A s.l.length s.c)∧s.l=l∧FactsAt (· < w'.heap.size) w' s∧Below w.heap.size w w'
theorem facts_lit {w : World} {cs : Array Value} {l : List FT} (hm : l.length≤maxLen) (hs : cs.toList=l.flatMap FT.enc) (hn : ∀ x,x ∈ l→x.nm.size≤9223372036854775807) : FactsAt (· < (w.alloc (.cells cs 54)).heap.size) (w.alloc (.cells cs 54)) ⟨some ⟨w.heap.size,0,none⟩,l.length,l⟩ :=
 ⟨((Own.lit (base:=w.heap.size) (e:=54) w cs l Zl hm hs FT.enc_k).rd FT.enc_k).mono (fun b hb=>hb.2),hn⟩
theorem tripL_nm (d r de no s c b rd : Int) : ∀ x,x ∈ tripL d r de no s c b rd→x.nm.size≤9223372036854775807:=by
 intro x hx;simp only [tripL,List.mem_cons,List.not_mem_nil,or_false] at hx;rcases hx with rfl | rfl | rfl | rfl | rfl | rfl | rfl | rfl <;> (simp only; decide)
theorem riderL_nm (f b t n : Int) : ∀ x,x ∈ riderL f b t n→x.nm.size≤9223372036854775807:=by
 intro x hx;simp only [riderL,List.mem_cons,List.not_mem_nil,or_false] at hx;rcases hx with rfl | rfl | rfl | rfl <;> (simp only; decide)
theorem fare_Trip (mb fr to ea la du ri se ch ba d r de no rd : Int) (w : World) : Calls Tryz.prog 11 #[.agg #[.int .i64 mb,.int .i64 fr,.int .i64 to,.int .i64 ea,.int .i64 la,.int .i64 du,.int .i64 ri,.int .i64 se,.int .i64 ch,.int .i64 ba],.int .i64 d,.int .i64 r,.int .i64 de,.int .i64 no,.int .i64 rd] w fun e w'=>FcP w w' (tripL d r de no se ch ba rd) e:=by
 go_enter Tryz.func11,Tryz.ntmps11;go_wp2_with fail;go_ret
 exact ⟨⟨some ⟨w.heap.size+1,0,none⟩,8,tripL d r de no se ch ba rd⟩,rfl,rfl,(by
  have h:=facts_lit (w:=w.alloc (.cells #[.int .i64 mb,.int .i64 fr,.int .i64 to,.int .i64 ea,.int .i64 la,.int .i64 du,.int .i64 ri,.int .i64 se,.int .i64 ch,.int .i64 ba] 36)) (cs:=#[.string (⟨#[100,105,114,101,99,116]⟩ : ByteArray),.int .i64 d,.string (⟨#[114,105,100,101]⟩ : ByteArray),.int .i64 r,.string (⟨#[100,101,108,97,121]⟩ : ByteArray),.int .i64 de,.string (⟨#[110,111,116,105,99,101]⟩ : ByteArray),.int .i64 no,.string (⟨#[115,101,97,116,115]⟩ : ByteArray),.int .i64 se,.string (⟨#[99,104,97,105,114,115]⟩ : ByteArray),.int .i64 ch,.string (⟨#[98,97,103,115]⟩ : ByteArray),.int .i64 ba,.string (⟨#[114,105,100,101,114,115]⟩ : ByteArray),.int .i64 rd]) (l:=tripL d r de no se ch ba rd) (by simp [maxLen,tripL]) rfl (tripL_nm d r de no se ch ba rd);(have hs : (w.alloc (.cells #[.int .i64 mb,.int .i64 fr,.int .i64 to,.int .i64 ea,.int .i64 la,.int .i64 du,.int .i64 ri,.int .i64 se,.int .i64 ch,.int .i64 ba] 36)).heap.size=w.heap.size+1:=by simp);rw [hs] at h;exact h),qbl⟩
theorem fare_Rider (f b t n : Int) (w : World) : Calls Tryz.prog 13 #[.int .i64 f,.int .i64 b,.int .i64 t,.int .i64 n] w fun e w'=>FcP w w' (riderL f b t n) e:=by
 go_enter Tryz.func13,Tryz.ntmps13;go_wp2_with fail;go_ret;exact ⟨⟨some ⟨w.heap.size,0,none⟩,4,riderL f b t n⟩,rfl,rfl,facts_lit (w:=w) (l:=riderL f b t n) (by simp [maxLen,riderL]) rfl (riderL_nm f b t n),qbl⟩
def tripsN : List FT→Int
  | []=>0
  | x :: r=>if (x.nm.toList == [116,114,105,112,115])=true then x.v else tripsN r
theorem fare_trips (l : Sl FT) (w : World) (hl : FactsAt (· < w.heap.size) w l) : Calls Tryz.prog 31 #[.slice l.A l.l.length l.c] w fun e w'=>e = .returned (.int .i64 (tripsN l.l))∧Below w.heap.size w w':=by
 have hn:=hl.rd.len;have HR:=Zh hl.rd;clear hl;obtain ⟨A,c,l⟩:=l;simp only at hn;simp only;go_enter Tryz.func31,Tryz.ntmps31;go_wp2_with fail;go_loopw [7] (fun i wr=>∃ (k : Nat),k≤l.length∧i = .int .i64 k∧Below w.heap.size w wr∧Hid (tripsN l=tripsN (l.drop k))) (fun i _=>l.length - (intOf i).toNat)
 case atStart=>exact ⟨0,by omega,rfl,qbl,Zh Zs⟩
 case round =>
  obtain ⟨k,hk,rfl,hbel,HG⟩:=hrel;have hhe : w.heap.size≤wr.heap.size:=hbel.size;by_cases hlt : k<l.length
  ·obtain ⟨b,o,rfl,hb,hcl⟩:=HR.out.at1 hlt;have hcl2:=hcl.keep (hbel.block b hb);have hd : l.drop k=l[k] :: l.drop (k+1):=List.drop_eq_getElem_cons hlt;have hgo:=HG.out;rw [hd] at hgo;have HGO:=Zh hgo;clear hd hgo hcl HG;generalize l[k]=x at *;obtain ⟨xn,xv⟩:=x;obtain ⟨g0,g1⟩:=Cells.c2 hcl2;clear hcl2;go_wp2_with fail
   ·rename_i hx;(have hr : xv=tripsN l:=by rw [HGO.out,tripsN,if_pos hx]);go_ret;exact ⟨ret_int hr,hbel.alloc hhe _⟩
   ·rename_i hx;have hr : Hid (tripsN l=tripsN (l.drop (k+1))):=Zh (by rw [HGO.out]; conv=>lhs; rw [tripsN]; rw [if_neg (by rw [hx]; simp)]);go_roundw
    case rel=>exact ⟨k+1,by omega,by go_num,hbel.alloc hhe _,hr⟩
    case measure=>simp [intOf]; omega
  ·have hkl : l.drop k=[]:=List.drop_eq_nil_of_le Zo;have hgo:=HG.out;rw [hkl] at hgo;have HGO:=Zh hgo;clear hkl hgo HG;go_wp2_with fail;go_ret;exact ⟨ret_int HGO.out.symm,hbel⟩
def cutC (sh fa : Int) : Int × Int × Int:=if sh<0∨1000<sh∨fa<0∨1000000000000000<fa then (0,0,1) else (fa / 1000 * sh+fa % 1000 * sh / 1000,fa - (fa / 1000 * sh+fa % 1000 * sh / 1000),0)
theorem cutC_bad {sh fa : Int} (h : sh<0∨1000<sh∨fa<0∨1000000000000000<fa) : (0,0,1)=cutC sh fa:=by unfold cutC; rw [if_pos h]
theorem cutC_ok {sh fa : Int} (h0 : 0≤sh) (h1 : sh≤1000) (h2 : 0≤fa) (h3 : fa≤1000000000000000) : (fa / 1000 * sh+fa % 1000 * sh / 1000,fa - (fa / 1000 * sh+fa % 1000 * sh / 1000),0)=cutC sh fa:=by unfold cutC; rw [if_neg Zo]
theorem fare_Cut (b : Byl) (fa : Int) (w : World) (hf : I64 fa) (hs : I64 b.sh) : Calls Tryz.prog 8 #[b.v,.int .i64 fa] w fun e w'=>e = .returned (.tuple #[.int .i64 (cutC b.sh fa).1,.int .i64 (cutC b.sh fa).2.1,.int .i64 (cutC b.sh fa).2.2])∧Below w.heap.size w w':=by
 obtain ⟨nm,⟨LA,Lc,L⟩,⟨o,n,u,s,A,c,l⟩,⟨oB,nB,uB,sB,AB,cB,lB⟩,⟨oC,nC,uC,sC,AC,cC,lC⟩,⟨oD,nD,uD,sD,AD,cD,lD⟩,q,sh,ch⟩:=b;simp only at hs;simp only [Byl.v];have HB : Hid (Below w.heap.size w (w.alloc (.cells #[.string nm,.slice LA L.length Lc,.int .i64 o,.int .i64 n,.int .i64 u,.string s,.slice A l.length c,.int .i64 oB,.int .i64 nB,.int .i64 uB,.string sB,.slice AB lB.length cB,.int .i64 oC,.int .i64 nC,.int .i64 uC,.string sC,.slice AC lC.length cC,.int .i64 oD,.int .i64 nD,.int .i64 uD,.string sD,.slice AD lD.length cD,.int .i64 q,.int .i64 sh,.int .i64 ch] 27))):=Zh qbl;by_cases h0 : sh<0
 ·have HC:=Zh (cutC_bad (sh:=sh) (fa:=fa) (.inl h0));go_enter Tryz.func8,Tryz.ntmps8;go_wp2_with fail;refine bodyPost_ret (v:=.tuple #[.int .i64 0,.int .i64 0,.int .i64 1]) ?_ rfl ⟨by rw [← HC.out],HB.out⟩;simp [results,Tryz.results8,go_sem,]
 by_cases h1 : 1000<sh
 ·have HC:=Zh (cutC_bad (sh:=sh) (fa:=fa) (.inr (.inl h1)));go_enter Tryz.func8,Tryz.ntmps8;go_wp2_with fail;refine bodyPost_ret (v:=.tuple #[.int .i64 0,.int .i64 0,.int .i64 1]) ?_ rfl ⟨by rw [← HC.out],HB.out⟩;simp [results,Tryz.results8,go_sem,]
 by_cases h2 : fa<0
 ·have HC:=Zh (cutC_bad (sh:=sh) (fa:=fa) (.inr (.inr (.inl h2))));go_enter Tryz.func8,Tryz.ntmps8;go_wp2_with fail;refine bodyPost_ret (v:=.tuple #[.int .i64 0,.int .i64 0,.int .i64 1]) ?_ rfl ⟨by rw [← HC.out],HB.out⟩;simp [results,Tryz.results8,go_sem,]
 by_cases h3 : 1000000000000000<fa
 ·have HC:=Zh (cutC_bad (sh:=sh) (fa:=fa) (.inr (.inr (.inr h3))));go_enter Tryz.func8,Tryz.ntmps8;go_wp2_with fail;refine bodyPost_ret (v:=.tuple #[.int .i64 0,.int .i64 0,.int .i64 1]) ?_ rfl ⟨by rw [← HC.out],HB.out⟩;simp [results,Tryz.results8,go_sem,]
 have HC:=Zh (cutC_ok (sh:=sh) (fa:=fa) Zo Zo Zo Zo);have hX0 : 0≤fa / 1000 * sh:=Int.mul_nonneg Zo Zo;have hX1 : fa / 1000 * sh≤1000000000000 * 1000:=Int.mul_le_mul Zo Zo Zo Zo;have hY0 : 0≤fa % 1000 * sh:=Int.mul_nonneg Zo Zo;have hY1 : fa % 1000 * sh≤1000 * 1000:=Int.mul_le_mul Zo Zo Zo Zo;(have hT : (fa % 1000 * sh).tdiv 1000=fa % 1000 * sh / 1000:=by rw [Int.tdiv_eq_ediv_of_nonneg hY0]);go_enter Tryz.func8,Tryz.ntmps8;go_wp2_with fail;refine bodyPost_ret (v:=.tuple #[.int .i64 (fa / 1000 * sh+fa % 1000 * sh / 1000),.int .i64 (fa - (fa / 1000 * sh+fa % 1000 * sh / 1000)),.int .i64 0]) ?_ rfl ⟨by rw [← HC.out],HB.out⟩;simp [results,Tryz.results8,go_sem,]
theorem tripsN_hit {l : List FT} {j : Nat} {x : FT} {r : List FT} (hd : l.drop j=x :: r) (h : (x.nm.toList == [116,114,105,112,115])=true) : tripsN (l.drop j)=x.v:=by rw [hd,tripsN,if_pos h]
theorem tripsN_on {l : List FT} {j : Nat} {x : FT} {r : List FT} (hd : l.drop j=x :: r) (h : (x.nm.toList == [116,114,105,112,115])=false) : tripsN (l.drop j)=tripsN r:=by
 (rw [hd]; conv=>lhs; rw [tripsN]);rw [if_neg (by rw [h]; simp)]
theorem r33_Trips (l : Sl FT) (w : World) (hl : FactsAt (· < w.heap.size) w l) : Calls Tryz.prog 34 #[.slice l.A l.l.length l.c] w fun e w'=>e = .returned (.int .i64 (tripsN l.l))∧Below w.heap.size w w':=by
 have hn:=hl.rd.len;have HR:=Zh hl.rd;clear hl;obtain ⟨A,c,l⟩:=l;simp only at hn;simp only;obtain ⟨V,hV⟩ : ∃ V,tripsN l=V:=⟨_,rfl⟩;rw [hV];have HV:=Zh hV;clear hV;go_enter Tryz.func34,Tryz.ntmps34;go_wp2_with fail;go_loopw [3] (fun i wr=>∃ (k : Nat),k≤l.length∧i = .int .i64 k∧Below w.heap.size w wr∧Hid (tripsN (l.drop k)=V)) (fun i _=>l.length - (intOf i).toNat)
 case atStart=>exact ⟨0,by omega,rfl,qbl,HV⟩
 case round =>
  obtain ⟨k,hk,rfl,hbel,HG⟩:=hrel;by_cases hlt : k<l.length
  ·obtain ⟨b,o,rfl,hb,hcl⟩:=HR.out.at1 hlt;have hcl2:=hcl.keep (hbel.block b hb);have HD:=Zh (List.drop_eq_getElem_cons hlt);clear hcl;generalize l[k]=x at *;obtain ⟨xn,xv⟩:=x;obtain ⟨g0,g1⟩:=Cells.c2 hcl2;clear hcl2;obtain ⟨t,ht⟩ : ∃ t,(xn.toList == [116,114,105,112,115])=t:=⟨_,rfl⟩;rcases t
   ·have HG2:=Zh ((tripsN_on HD.out ht).symm.trans HG.out);clear HG HD;go_wp2_with fail;go_roundw
    case rel=>exact ⟨k+1,by omega,by go_num,hbel,HG2⟩
    case measure=>simp [intOf]; omega
   ·have HVV:=Zh ((tripsN_hit HD.out ht).symm.trans HG.out);clear HG HD;go_wp2_with fail;go_ret;exact ⟨ret_int HVV.out,hbel⟩
  ·have HVV : Hid (0=V):=Zh (by rw [← HG.out,List.drop_eq_nil_of_le Zo]; rfl);clear HG;go_wp2_with fail;go_ret;exact ⟨ret_int HVV.out,hbel⟩
theorem fact_same (s : ByteArray) (n : Int) (w : World) : (Op.equalIn 10000 54 (.agg #[.string s,.int .i64 n]) (.agg #[.string s,.int .i64 n])).run Tryz.prog w = .ok true w:=by
 have h:=run_equalIn_agg (P:=Tryz.prog) w 9999 54 #[.string s,.int .i64 n] #[.string s,.int .i64 n] Zy Zy;refine h.trans ?_;unfold Program.fieldsOf;rw [Tryz.underlying54];simp [Op.eqFields,go_sem]
theorem fact_neq (s : ByteArray) (n : Int) (w : World) : (binOp .neq 54 (.agg #[.string s,.int .i64 n]) (.agg #[.string s,.int .i64 n])).run Tryz.prog w = .ok (.bool false) w:=by
 rw [run_neq_struct,fact_same]; rfl
theorem fact_guard (op : BinOp) (x y : Operand) (xs ys : Array Value) (w : World) : (eqGuard op 54 x y (.agg xs) (.agg ys)).run Tryz.prog w = .ok () w:=run_eqGuard_agg w op _ x y xs ys Zy
theorem r33_Same (a b : Sl FT) (w : World) (ha : FactsAt (· < w.heap.size) w a) (hb : FactsAt (· < w.heap.size) w b) (hab : a.l=b.l) : Calls Tryz.prog 10 #[.slice a.A a.l.length a.c,.slice b.A b.l.length b.c] w fun e w'=>e = .returned (.bool true)∧Below w.heap.size w w':=by
 have hn:=ha.rd.len;have HA:=Zh ha.rd;have HB:=Zh hb.rd;clear ha hb;obtain ⟨A,c,l⟩:=a;obtain ⟨B,d,m⟩:=b;simp only at hab hn;subst hab;simp only;have qN:=fact_neq;have qG:=fact_guard;go_enter Tryz.func10,Tryz.ntmps10;go_wp2_with fail;go_loopw [5] (fun i wr=>∃ (k : Nat),k≤l.length∧i = .int .i64 k∧Below w.heap.size w wr) (fun i _=>l.length - (intOf i).toNat)
 case atStart=>exact ⟨0,by omega,rfl,qbl⟩
 case round =>
  obtain ⟨k,hk,rfl,hbel⟩:=hrel;by_cases hlt : k<l.length
  ·obtain ⟨b,o,hA,hb,hcl⟩:=HA.out.at1 hlt;obtain ⟨b',o',hB,hb',hcl'⟩:=HB.out.at1 hlt;have hc1:=hcl.keep (hbel.block b hb);have hc2:=hcl'.keep (hbel.block b' hb');simp only at hA hB hc1 hc2;clear hcl hcl';subst hA hB;generalize l[k]=x at *;obtain ⟨xn,xv⟩:=x;obtain ⟨g0,g1⟩:=Cells.c2 hc1;obtain ⟨k0,k1⟩:=Cells.c2 hc2;clear hc1 hc2;go_wp2_with fail;refine wp_region_T (fun W=>W.cell? ⟨b,o+k * 2,none⟩=some (.string xn)∧W.cell? ⟨b,o+k * 2+1,none⟩=some (.int .i64 xv)∧W.cell? ⟨b',o'+k * 2,none⟩=some (.string xn)∧W.cell? ⟨b',o'+k * 2+1,none⟩=some (.int .i64 xv)) (fun _=>false) Zy ⟨g0,g1,k0,k1⟩ (fun hHeld=>?_);refine Zr 0 ?_;refine Zr 1 ?_;refine Zr 2 ?_;refine Zr 3 ?_;refine Zr 4 ?_;refine Zr 5 ?_;refine Zr 6 ?_;refine Zr 7 ?_;clear hHeld;have hHeld:=And.intro g0 (And.intro g1 (And.intro k0 k1));refine wpAnyT_take2 (i:=8) (v:=.bool false) rfl rfl Zy Zy Zy Zy (fun _ _ _ h=>h) (Or.inl ⟨by rfl, ?_⟩) (by first | assumption | trivial) ?_
   ·(intro w hSw; (try dsimp only at hSw); go_simp) <;> (first | (with_reducible rfl) | assumption | (simp; done) | (simp [*]; done) | (simp; omega))
   simp only [qsa,qsb,qsc];refine Ze ?_;clear hHeld;go_wp2_with fail;go_roundw
   case rel=>exact ⟨k+1,by omega,by go_num,Below.drew hbel⟩
   case measure=>simp [intOf]; omega
  ·go_wp2_with fail;go_ret;exact ⟨rfl,hbel⟩
theorem cut_eq {fa sh : Int} : fa * sh / 1000=fa / 1000 * sh+fa % 1000 * sh / 1000:=by
 have h : fa * sh=fa % 1000 * sh+1000 * (fa / 1000 * sh):=by
  have:=Int.emod_add_mul_ediv fa 1000;(conv=>lhs; rw [← this]);rw [Int.add_mul,Int.mul_assoc]
 rw [h,Int.add_mul_ediv_left _ _ (by decide)];omega
theorem r33_Cut (b : Byl) (fa : Int) (w : World) (hf : I64 fa) (hs : I64 b.sh) : Calls Tryz.prog 21 #[b.v,.int .i64 fa] w fun e w'=>e = .returned (.tuple #[.int .i64 (cutC b.sh fa).1,.int .i64 (cutC b.sh fa).2.1,.int .i64 (cutC b.sh fa).2.2])∧Below w.heap.size w w':=by
 obtain ⟨nm,⟨LA,Lc,L⟩,⟨o,n,u,s,A,c,l⟩,⟨oB,nB,uB,sB,AB,cB,lB⟩,⟨oC,nC,uC,sC,AC,cC,lC⟩,⟨oD,nD,uD,sD,AD,cD,lD⟩,q,sh,ch⟩:=b;simp only at hs;simp only [Byl.v];have HB : Hid (Below w.heap.size w (w.alloc (.cells #[.string nm,.slice LA L.length Lc,.int .i64 o,.int .i64 n,.int .i64 u,.string s,.slice A l.length c,.int .i64 oB,.int .i64 nB,.int .i64 uB,.string sB,.slice AB lB.length cB,.int .i64 oC,.int .i64 nC,.int .i64 uC,.string sC,.slice AC lC.length cC,.int .i64 oD,.int .i64 nD,.int .i64 uD,.string sD,.slice AD lD.length cD,.int .i64 q,.int .i64 sh,.int .i64 ch] 27))):=Zh qbl;by_cases h0 : sh<0
 ·have HC:=Zh (cutC_bad (sh:=sh) (fa:=fa) (.inl h0));go_enter Tryz.func21,Tryz.ntmps21;go_wp2_with fail;refine bodyPost_ret (v:=.tuple #[.int .i64 0,.int .i64 0,.int .i64 1]) ?_ rfl ⟨by rw [← HC.out],HB.out⟩;simp [results,Tryz.results21,go_sem,]
 by_cases h1 : 1000<sh
 ·have HC:=Zh (cutC_bad (sh:=sh) (fa:=fa) (.inr (.inl h1)));go_enter Tryz.func21,Tryz.ntmps21;go_wp2_with fail;refine bodyPost_ret (v:=.tuple #[.int .i64 0,.int .i64 0,.int .i64 1]) ?_ rfl ⟨by rw [← HC.out],HB.out⟩;simp [results,Tryz.results21,go_sem,]
 by_cases h2 : fa<0
 ·have HC:=Zh (cutC_bad (sh:=sh) (fa:=fa) (.inr (.inr (.inl h2))));go_enter Tryz.func21,Tryz.ntmps21;go_wp2_with fail;refine bodyPost_ret (v:=.tuple #[.int .i64 0,.int .i64 0,.int .i64 1]) ?_ rfl ⟨by rw [← HC.out],HB.out⟩;simp [results,Tryz.results21,go_sem,]
 by_cases h3 : 1000000000000000<fa
 ·have HC:=Zh (cutC_bad (sh:=sh) (fa:=fa) (.inr (.inr (.inr h3))));go_enter Tryz.func21,Tryz.ntmps21;go_wp2_with fail;refine bodyPost_ret (v:=.tuple #[.int .i64 0,.int .i64 0,.int .i64 1]) ?_ rfl ⟨by rw [← HC.out],HB.out⟩;simp [results,Tryz.results21,go_sem,]
 have HC:=cutC_ok (sh:=sh) (fa:=fa) Zo Zo Zo Zo;rw [← cut_eq] at HC;replace HC:=Zh HC;have hX0 : 0≤fa * sh:=Int.mul_nonneg Zo Zo;have hX1 : fa * sh≤1000000000000000 * 1000:=Int.mul_le_mul Zo Zo Zo Zo;(have hT : (fa * sh).tdiv 1000=fa * sh / 1000:=by rw [Int.tdiv_eq_ediv_of_nonneg hX0]);have hY0 : 0≤fa * sh / 1000:=Int.ediv_nonneg hX0 (by decide);(have hY1 : fa * sh / 1000≤1000000000000000:=by omega);go_enter Tryz.func21,Tryz.ntmps21;go_wp2_with fail;refine bodyPost_ret (v:=.tuple #[.int .i64 (fa * sh / 1000),.int .i64 (fa - (fa * sh / 1000)),.int .i64 0]) ?_ rfl ⟨by rw [← HC.out],HB.out⟩;simp [results,Tryz.results21,go_sem,]
end Go.Proofs.YtcgocdhhneckhaaGreat
