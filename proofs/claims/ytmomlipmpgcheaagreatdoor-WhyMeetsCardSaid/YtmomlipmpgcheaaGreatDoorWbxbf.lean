/- Walk of why.answers. -/
import Derived.Test.YtmomlipmpgcheaaGreatDoorWbxbe
set_option linter.unusedSimpArgs false
set_option linter.unusedVariables false
set_option maxRecDepth 100000
set_option maxHeartbeats 6400000
namespace Go.Proofs.YtmomlipmpgcheaaGreatDoor
open Go.RowKit
theorem row_ne {α : Type} {B k : Nat} {e : TypeId} {enc : α→List Value} {W : World} {P : Sl α} (hp : Own B e k enc W P) {X : Nat} (h : ∀ b,P.A=some ⟨b,0,none⟩→b≠X) : some X≠(Value.slice P.A P.l.length P.c).ownBlock:=by
  rcases hp.form with ⟨h2,_,_⟩ | ⟨gp,h2,_⟩
  · rw [h2]; simp [Value.ownBlock]
  · rw [h2]
    intro e
    simp only [Value.ownBlock] at e
    injection e with e
    exact h gp h2 e.symm
theorem grown_cell {w w' : World} {row : Option Nat} {p : Addr} {v : Value} (hg : w.grownBy w' row) (h : w.cell? p=some v) (hne : some p.block≠row) : w'.cell? p=some v:=(hg.cell_far p (World.block_lt_of_cell? w p h) hne).trans h
theorem why_answers (b : Byl) (e : PT) (l : Sl TH) (w : World) (hb : Byl.At (· < w.heap.size) w b) (he : PT.At (· < w.heap.size) w e) (hl : ThsAt (· < w.heap.size) w l) (h4 : l.l.length≤4) (h2 : ∀ x,x ∈ l.l→x.o.l.length≤2) :
    Calls Tryz.prog 30 #[b.v,e.v,.slice l.A l.l.length l.c] w fun r w'=>AnsP w w' (ansW b.lets.l e l.l) (enumW (nsT l.l)) r:=by
  have HBY:=Lib.hid hb
  have HEX:=Lib.hid he
  have HL:=Lib.hid hl
  have H2:=Lib.hid h2
  clear hb he hl h2
  obtain ⟨A,c,l⟩:=l
  simp only at h4 H2 ⊢
  have h81:=enumW_le (nsT l) (fun n hn=>by
    unfold nsT at hn
    obtain ⟨y,hy,rfl⟩:=List.mem_map.1 hn
    exact H2.out y hy)
  replace h81 : (enumW (nsT l)).length≤81:=Nat.le_trans h81 (Nat.pow_le_pow_right (by omega : 0<3) (by unfold nsT; rw [List.length_map]; exact h4 : (nsT l).length≤4))
  obtain ⟨F,hF⟩ : ∃ F,ansW b.lets.l e l=F:=⟨_,rfl⟩
  obtain ⟨ws,hws⟩ : ∃ ws,enumW (nsT l)=ws:=⟨_,rfl⟩
  rw [hF,hws]
  rw [hws] at h81
  have HFE:=Lib.hid hF
  have HWS:=Lib.hid hws
  clear hF hws
  obtain ⟨cs,hcs,hsz⟩:=byl_cs b
  have HCS:=Lib.hid hcs
  rw [hcs]
  obtain ⟨o,n,u,s,xA,xc,xl⟩:=e
  simp only [PT.v]
  have hmk:=make_an
  clear hcs
  go_enter Tryz.func30,Tryz.ntmps30
  go_wp2_with fail
  have HST : Hid (StA w cs #[.int .i64 o,.int .i64 n,.int .i64 u,.string s,.slice xA xl.length xc] (((w.alloc (.cells cs 29)).alloc (.cells #[.int .i64 o,.int .i64 n,.int .i64 u,.string s,.slice xA xl.length xc] 25)).alloc (.cells (mk0 []).enc.toArray 64)) ⟨some ⟨w.heap.size+2,0,none⟩,1,[mk0 []]⟩):=Lib.hid ⟨qbl,((Blk.new _ _ _).alloc _).alloc _,(Blk.new' (by simp)).alloc _,by simpa using Own.lit (e:=64) (base:=w.heap.size+2) ((w.alloc (.cells cs 29)).alloc (.cells #[.int .i64 o,.int .i64 n,.int .i64 u,.string s,.slice xA xl.length xc] 25)) (mk0 []).enc.toArray [mk0 []] (by simp) (by simp [maxLen]) (by simp) AN.enc_k⟩
  obtain ⟨ex,hex⟩ : ∃ x : Array Value,#[.int .i64 o,.int .i64 n,.int .i64 u,.string s,.slice xA xl.length xc]=x:=⟨_,rfl⟩
  rw [hex] at HST
  have HEX0:=Lib.hid hex
  rw [hex]
  clear hex
  generalize (((w.alloc (.cells cs 29)).alloc (.cells ex 25)).alloc (.cells (mk0 []).enc.toArray 64))=w3 at *
  go_loopw [7,23] (fun ov iv wr=>∃ (k : Nat) (oA : Option Addr) (oc : Nat) (out : List AN),k≤l.length∧ov = .slice oA out.length oc∧iv = .int .i64 k∧Hid (StA w cs ex wr ⟨oA,oc,out⟩)∧Hid (out=(enumW ((nsT l).take k)).map mk0)) (fun _ iv _=>l.length - (intOf iv).toNat)
  case atStart=>exact ⟨0,some ⟨w.heap.size+2,0,none⟩,1,[mk0 []],by omega,rfl,rfl,HST,Lib.hid rfl⟩
  case round =>
    obtain ⟨k,oA,oc,out,hk,rfl,rfl,HS,HO⟩:=hrel
    clear HST
    by_cases hlt : k<l.length
    · obtain ⟨bb,oo,hA,hbb,hcl⟩:=HL.out.rd.at1 hlt
      simp only at hA hbb hcl
      have hcl2:=hcl.keep (HS.out.b.block bb hbb)
      have h2:=H2.out l[k] (List.getElem_mem hlt)
      have hnk : (nsT l).take (k+1)=(nsT l).take k ++ [l[k].o.l.length]:=by
        unfold nsT
        rw [List.take_add_one,List.getElem?_map,List.getElem?_eq_getElem hlt]; rfl
      have hen:=congrArg enumW hnk
      rw [enumW_snoc] at hen
      have HEN:=Lib.hid hen
      have hW : (enumW ((nsT l).take k)).length≤27:=by
        refine Nat.le_trans (enumW_le _ fun n hn=>?_) ?_
        · have h1:=List.mem_of_mem_take hn
          unfold nsT at h1
          obtain ⟨y,hy,rfl⟩:=List.mem_map.1 h1
          exact H2.out y hy
        · rw [List.length_take]
          exact Nat.pow_le_pow_right (by omega : 0<3) (by omega : min k (nsT l).length≤3)
      have hW1 : enumW ((nsT l).take k)≠[]:=by
        obtain ⟨r,hr⟩:=enumW_head ((nsT l).take k)
        rw [hr]; simp
      obtain ⟨W,hWe⟩ : ∃ W,enumW ((nsT l).take k)=W:=⟨_,rfl⟩
      have hWl : ∀ x,x ∈ W→x.length=k:=by
        intro x hx
        rw [← hWe] at hx
        have:=((mem_enumW _ _).1 hx).1
        rw [this,List.length_take]
        unfold nsT
        rw [List.length_map]
        omega
      rw [hWe] at HO HEN hW hW1
      have HWL:=Lib.hid hWl
      have HOL : Hid (out.length=W.length):=Lib.hid (by rw [HO.out,List.length_map])
      have ho81 : out.length≤27:=by rw [HOL.out]; exact hW
      clear hcl hnk hen hWe hWl hW
      generalize l[k]=x at *
      obtain ⟨xm,xn,xv,⟨yA,yc,yl⟩⟩:=x
      obtain ⟨g0,g1,g2,g3⟩:=Cells.c4 hcl2
      simp only at g0 g1 g2 g3 h2 HEN
      clear hcl2
      subst hA
      have hk8 : (k : Int)<(l.length : Int):=by omega
      have hba : Below wr.heap.size wr (wr.alloc (.cells #[.bool xm,.string xn,.int .i64 xv,.slice yA yl.length yc] 61)):=(Below.refl _ _).alloc (Nat.le_refl _) _
      have HS1:=Lib.hid (HS.out.later hba)
      have HT1 : Hid (Blk (wr.alloc (.cells #[.bool xm,.string xn,.int .i64 xv,.slice yA yl.length yc] 61)) wr.heap.size 61 #[.bool xm,.string xn,.int .i64 xv,.slice yA yl.length yc]):=Lib.hid (Blk.new _ _ _)
      clear hba
      go_wp2_with fail
      generalize (wr.alloc (.cells #[.bool xm,.string xn,.int .i64 xv,.slice yA yl.length yc] 61))=w1 at *
      generalize wr.heap.size=g9 at *
      have hoA : oA≠none:=fun e=>by
        rcases HS1.out.o.form with ⟨_,_,h0⟩ | ⟨g,h0,_⟩
        · simp only at h0; rw [h0] at HOL; have:=HOL.out; simp at this; exact hW1 (List.length_eq_zero_iff.1 this.symm)
        · simp only at h0; rw [e] at h0; cases h0
      refine (clone_an ⟨oA,oc,out⟩ w1 ((HS1.out.o.rd AN.enc_k).mono (fun b hb=>hb.2)) (by simp only; omega) hoA).mono ?_
      rintro e w2 ⟨cA,cc,rfl,hcl,hb2⟩
      obtain ⟨gc,rfl⟩ : ∃ gc,cA=some ⟨gc,0,none⟩:=by
        rcases hcl.form with ⟨_,_,h0⟩ | ⟨g,h0,_⟩
        · simp only at h0; rw [h0] at HOL; have:=HOL.out; simp at this; exact absurd (List.length_eq_zero_iff.1 this.symm) hW1
        · exact ⟨g,h0⟩
      have HS2:=Lib.hid (HS1.out.later hb2)
      have HT2:=Lib.hid (HT1.out.later hb2)
      have HC2:=Lib.hid hcl
      have HNE : Hid (some ⟨gc,0,none⟩≠oA):=Lib.hid (fun e=>by
        rcases hcl.form with ⟨_,_,h0⟩ | ⟨g,h0,h5,_⟩
        · simp only at h0; rw [h0] at HOL; have:=HOL.out; simp at this; exact hW1 (List.length_eq_zero_iff.1 this.symm)
        · simp only at h0; rcases HS1.out.o.form with ⟨h6,_,_⟩ | ⟨g',h6,_,h7,_⟩
          · simp only at h6; rw [e,h6] at h0; cases h0
          · simp only at h6; rw [e,h6] at h0; injection h0 with h0; injection h0 with h0; omega)
      clear hcl hb2 HS1 HT1 HS
      go_wp2_with fail
      have HPZ : Hid (Own (w.heap.size+2) 64 11 AN.enc w2 ⟨oA,oc,(partW W yl.length 0 0).map mk0⟩):=Lib.hid (by
        rw [partW_z]
        have h:=HS2.out.o
        rw [HO.out] at h
        exact h.cong (by simp) (mk_z W))
      have hpl : ((partW W yl.length 0 0).map mk0).length=out.length:=by rw [partW_z,HO.out]; simp
      have HS2' : Hid (StA w cs ex w2 ⟨oA,oc,(partW W yl.length 0 0).map mk0⟩):=Lib.hid ⟨HS2.out.b,HS2.out.x,HS2.out.y,HPZ.out⟩
      have HPL:=Lib.hid hpl
      clear HPZ HS2 hpl
      go_loopw [7,31] (fun ov iv wq=>∃ (j : Nat) (pA : Option Addr) (pc : Nat) (po : List AN),j≤W.length∧ov = .slice pA po.length pc∧iv = .int .i64 j∧Hid (StA w cs ex wq ⟨pA,pc,po⟩)∧Hid (Blk wq g9 61 #[.bool xm,.string xn,.int .i64 xv,.slice yA yl.length yc])∧Hid (Own w1.heap.size 64 11 AN.enc wq ⟨some ⟨gc,0,none⟩,cc,out⟩)∧Hid (some ⟨gc,0,none⟩≠pA)∧Hid (po=(partW W yl.length j 0).map mk0)) (fun _ iv _=>W.length - (intOf iv).toNat)
      case atStart=>exact ⟨0,oA,oc,(partW W yl.length 0 0).map mk0,by omega,by rw [HPL.out],rfl,HS2',HT2,HC2,HNE,Lib.hid rfl⟩
      case round =>
        clear HS2' HT2 HC2 HNE HPL hoA
        obtain ⟨j,pA,pc,po,hj,rfl,rfl,HS,HT,HC,HNE,HPO⟩:=hrel
        by_cases hjl : j<W.length
        · have hjo : j<out.length:=by rw [HOL.out]; exact hjl
          have hcr:=HC.out.rd AN.enc_k
          obtain ⟨bc,ocx,hcA,_,hcl⟩:=hcr.at1 hjo
          have hoj : out[j]=mk0 W[j]:=by
            have h:=HO.out
            subst h
            simp
          have HWJ : Hid (W[j]? = some W[j]):=Lib.hid (List.getElem?_eq_getElem hjl)
          have HWK : Hid (W[j].length=k):=Lib.hid (HWL.out _ (List.getElem_mem hjl))
          simp only [hoj] at hcl
          simp only at hcA
          clear hcr hoj
          generalize W[j]=wj at *
          injection hcA with hcA
          injection hcA with hc1 hc2
          subst hc1 hc2
          rw [Nat.zero_add] at hcl
          obtain ⟨h0,h1,h2',h3,h4',h5,h6,h7,h8,h9,h10⟩:=Cells.c11 hcl
          simp only [mk0] at h0 h1 h2' h3 h4' h5 h6 h7 h8 h9 h10
          obtain ⟨t0,t1,t2,t3,tf,tz⟩:=Blk.b4 HT.out
          have hji : (j : Int)<(out.length : Int):=by omega
          clear hcl
          go_wp2_with fail
          obtain ⟨cw,hcw⟩ : ∃ x : Array Value,#[.bool false,.int .i64 0,.int .i64 (maskW wj : Nat),.int .i64 (gw wj 0),.int .i64 (gw wj 1),.int .i64 (gw wj 2),.int .i64 (gw wj 3),.int .i64 (gw wj 4),.int .i64 (gw wj 5),.int .i64 (gw wj 6),.int .i64 (gw wj 7)]=x:=⟨_,rfl⟩
          have hba : Below wr.heap.size wr (wr.alloc (.cells cw 64)):=(Below.refl _ _).alloc (Nat.le_refl _) _
          have HS1:=Lib.hid (HS.out.later hba)
          have HT1:=Lib.hid (HT.out.later hba)
          have HC1:=Lib.hid (HC.out.below hba)
          have HX1 : Hid (Blk (wr.alloc (.cells cw 64)) wr.heap.size 64 cw):=Lib.hid (Blk.new _ _ _)
          have HNX : Hid (pA≠some ⟨wr.heap.size,0,none⟩):=Lib.hid (fun e=>by
            rcases HS.out.o.form with ⟨h6,_,_⟩ | ⟨g',h6,_,h7,_⟩
            · simp only at h6; rw [e] at h6; cases h6
            · simp only at h6; rw [e] at h6; injection h6 with h6; injection h6 with h6; omega)
          rw [hcw]
          clear hba h0 h1 h2' h3 h4' h5 h6 h7 h8 h9 h10 t0 t1 t2 t3 tf tz HS HT HC
          have HCW:=Lib.hid hcw
          clear hcw
          generalize (wr.alloc (.cells cw 64))=w4 at *
          generalize wr.heap.size=g11 at *
          go_loopw [7,38] (fun ov iv ws=>∃ (q : Nat) (qA : Option Addr) (qc : Nat) (qo : List AN),q≤yl.length∧ov = .slice qA qo.length qc∧iv = .int .i64 q∧Hid (StA w cs ex ws ⟨qA,qc,qo⟩)∧Hid (Blk ws g9 61 #[.bool xm,.string xn,.int .i64 xv,.slice yA yl.length yc])∧Hid (Own w1.heap.size 64 11 AN.enc ws ⟨some ⟨gc,0,none⟩,cc,out⟩)∧Hid (some ⟨gc,0,none⟩≠qA)∧Hid (Blk ws g11 64 cw)∧Hid (qA≠some ⟨g11,0,none⟩)∧Hid (qo=(partW W yl.length j q).map mk0)) (fun _ iv _=>yl.length - (intOf iv).toNat)
          case atStart=>exact ⟨0,pA,pc,po,by omega,rfl,rfl,HS1,HT1,HC1,HNE,HX1,HNX,HPO⟩
          case round =>
            clear HS1 HT1 HC1 HNE HX1 HNX HPO
            obtain ⟨q,qA,qc,qo,hq,rfl,rfl,HS,HT,HC,HNE,HX,HNX,HQO⟩:=hrel
            by_cases hql : q<yl.length
            · have hx:=HX.out
              rw [← HCW.out] at hx
              obtain ⟨x0,x1,x2,x3,x4,x5,x6,x7,x8,x9,x10,xf,xz⟩:=Blk.b11 hx
              have HXE:=Lib.hid hx
              clear hx
              go_wp2_with fail
              refine wp_region_T (fun W=>(W.cell? ⟨g11,2,none⟩=some (.int .i64 (maskW wj : Nat))∧W.cell? ⟨g11,3,none⟩=some (.int .i64 (gw wj 0))∧W.cell? ⟨g11,4,none⟩=some (.int .i64 (gw wj 1))∧W.cell? ⟨g11,5,none⟩=some (.int .i64 (gw wj 2))∧W.cell? ⟨g11,6,none⟩=some (.int .i64 (gw wj 3))∧W.cell? ⟨g11,7,none⟩=some (.int .i64 (gw wj 4))∧W.cell? ⟨g11,8,none⟩=some (.int .i64 (gw wj 5))∧W.cell? ⟨g11,9,none⟩=some (.int .i64 (gw wj 6))∧W.cell? ⟨g11,10,none⟩=some (.int .i64 (gw wj 7)))) (fun _=>false) (by kernel_rfl) ⟨x2,x3,x4,x5,x6,x7,x8,x9,x10⟩ (fun hHeld=>?_)
              refine qtq 0 ?_
              simp only [qsa,qsb,qsc]
              refine qtq 1 ?_
              simp only [qsa,qsb,qsc]
              refine qtq 2 ?_
              simp only [qsa,qsb,qsc]
              clear hHeld
              refine qtq 3 ?_
              simp only [qsa,qsb,qsc]
              refine qtq 4 ?_
              simp only [qsa,qsb,qsc]
              refine qtq 5 ?_
              simp only [qsa,qsb,qsc]
              refine qtq 6 ?_
              simp only [qsa,qsb,qsc]
              refine qtq 7 ?_
              simp only [qsa,qsb,qsc]
              have hor : bits BinOp.or IntKind.i64 ((maskW wj : Nat) : Int) (IntKind.i64.wrap (2 ^ k))=((maskW (wj ++ [q+1]) : Nat) : Int):=orW HWK.out (by omega) q
              refine wpAnyT_next (i:=8) (by kernel_rfl) rfl ?_
              go_wp2_with fail
              have hx2:=(HXE.out.drew).alloc (.cells #[.bool false,.int .i64 0,.int .i64 0,.int .i64 0,.int .i64 0,.int .i64 0,.int .i64 0,.int .i64 0,.int .i64 0,.int .i64 0,.int .i64 0] 64)
              obtain ⟨y0,y1,y2,y3,y4,y5,y6,y7,y8,y9,y10,yf,yz⟩:=Blk.b11 hx2
              go_wp2_with fail
              refine And.intro (by first | exact fun _=>⟨y2,y3,y4,y5,y6,y7,y8,y9,y10⟩ | exact ⟨y2,y3,y4,y5,y6,y7,y8,y9,y10⟩) ?_
              refine wpAnyT_next (i:=9) (by kernel_rfl) rfl ?_
              clear y0 y1 y2 y3 y4 y5 y6 y7 y8 y9 y10 yf yz
              have hx3:=HXE.out.alloc (.cells #[.bool false,.int .i64 0,.int .i64 (maskW (wj ++ [q+1]) : Nat),.int .i64 (gw wj 0),.int .i64 (gw wj 1),.int .i64 (gw wj 2),.int .i64 (gw wj 3),.int .i64 (gw wj 4),.int .i64 (gw wj 5),.int .i64 (gw wj 6),.int .i64 (gw wj 7)] 64)
              obtain ⟨y0,y1,y2,y3,y4,y5,y6,y7,y8,y9,y10,yf,yz⟩:=Blk.b11 hx3
              go_wp2_with fail
              refine And.intro (by first | exact fun _=>⟨y2,y3,y4,y5,y6,y7,y8,y9,y10⟩ | exact ⟨y2,y3,y4,y5,y6,y7,y8,y9,y10⟩) ?_
              refine wpAnyT_done (by kernel_rfl) ?_ _
              clear x0 x1 x2 x3 x4 x5 x6 x7 x8 x9 x10 xf xz y0 y1 y2 y3 y4 y5 y6 y7 y8 y9 y10 yf yz hx2 hx3 hor
              have hba : Below wr.heap.size wr (wr.alloc (.cells #[.bool false,.int .i64 0,.int .i64 (maskW (wj ++ [q+1]) : Nat),.int .i64 (gw wj 0),.int .i64 (gw wj 1),.int .i64 (gw wj 2),.int .i64 (gw wj 3),.int .i64 (gw wj 4),.int .i64 (gw wj 5),.int .i64 (gw wj 6),.int .i64 (gw wj 7)] 64)):=(Below.refl _ _).alloc (Nat.le_refl _) _
              have HN1 : Hid (Blk (wr.alloc (.cells #[.bool false,.int .i64 0,.int .i64 (maskW (wj ++ [q+1]) : Nat),.int .i64 (gw wj 0),.int .i64 (gw wj 1),.int .i64 (gw wj 2),.int .i64 (gw wj 3),.int .i64 (gw wj 4),.int .i64 (gw wj 5),.int .i64 (gw wj 6),.int .i64 (gw wj 7)] 64)).drew wr.heap.size 64 #[.bool false,.int .i64 0,.int .i64 (maskW (wj ++ [q+1]) : Nat),.int .i64 (gw wj 0),.int .i64 (gw wj 1),.int .i64 (gw wj 2),.int .i64 (gw wj 3),.int .i64 (gw wj 4),.int .i64 (gw wj 5),.int .i64 (gw wj 6),.int .i64 (gw wj 7)]):=Lib.hid (Blk.new _ _ _)
              have HB5 : Hid (Below wr.heap.size wr (wr.alloc (.cells #[.bool false,.int .i64 0,.int .i64 (maskW (wj ++ [q+1]) : Nat),.int .i64 (gw wj 0),.int .i64 (gw wj 1),.int .i64 (gw wj 2),.int .i64 (gw wj 3),.int .i64 (gw wj 4),.int .i64 (gw wj 5),.int .i64 (gw wj 6),.int .i64 (gw wj 7)] 64)).drew):=Lib.hid hba.drew
              clear hba
              generalize (wr.alloc (.cells #[.bool false,.int .i64 0,.int .i64 (maskW (wj ++ [q+1]) : Nat),.int .i64 (gw wj 0),.int .i64 (gw wj 1),.int .i64 (gw wj 2),.int .i64 (gw wj 3),.int .i64 (gw wj 4),.int .i64 (gw wj 5),.int .i64 (gw wj 6),.int .i64 (gw wj 7)] 64)).drew=w5 at *
              obtain ⟨vk,hvk⟩ : ∃ v,w5.cell? ⟨wr.heap.size,3+k,none⟩=some v:=⟨_,(HN1.out.cell (3+k)).trans (Array.getElem?_eq_getElem (by simp; omega))⟩
              have hfz:=HN1.out.frozen
              have hk4 : (k : Int)<8:=by omega
              have hset:=(HN1.out.set_ (3+k) (.int .i64 ((q : Int)+1)))
              rw [setW HWK.out (by omega) q] at hset
              have HN6:=Lib.hid hset
              have HB6 : Hid (Below wr.heap.size wr (w5.setCell ⟨wr.heap.size,3+k,none⟩ (.int .i64 ((q : Int)+1)))):=Lib.hid (below_setr (Nat.le_refl _) HB5.out)
              clear hset HN1 HB5
              obtain ⟨wv,hwv⟩ : ∃ v,wj ++ [q+1]=v:=⟨_,rfl⟩
              rw [hwv] at HN6
              have HWV:=Lib.hid hwv
              clear hwv
              have HS6:=Lib.hid (HS.out.later HB6.out)
              have HT6:=Lib.hid (HT.out.later HB6.out)
              have HC6:=Lib.hid (HC.out.below HB6.out)
              have HX6:=Lib.hid (HX.out.later HB6.out)
              have hs6 : (w5.setCell ⟨wr.heap.size,3+k,none⟩ (.int .i64 ((q : Int)+1))).heap.size=w5.heap.size:=by simp
              have hro : Rd (· < ((w5.setCell ⟨wr.heap.size,3+k,none⟩ (.int .i64 ((q : Int)+1))).alloc (.cells #[.bool false,.int .i64 0,.int .i64 (maskW wv : Nat),.int .i64 (gw wv 0),.int .i64 (gw wv 1),.int .i64 (gw wv 2),.int .i64 (gw wv 3),.int .i64 (gw wv 4),.int .i64 (gw wv 5),.int .i64 (gw wv 6),.int .i64 (gw wv 7)] 64)).heap.size) 11 AN.enc ((w5.setCell ⟨wr.heap.size,3+k,none⟩ (.int .i64 ((q : Int)+1))).alloc (.cells #[.bool false,.int .i64 0,.int .i64 (maskW wv : Nat),.int .i64 (gw wv 0),.int .i64 (gw wv 1),.int .i64 (gw wv 2),.int .i64 (gw wv 3),.int .i64 (gw wv 4),.int .i64 (gw wv 5),.int .i64 (gw wv 6),.int .i64 (gw wv 7)] 64)) ⟨some ⟨w5.heap.size,0,none⟩,1,[mk0 wv]⟩:=by
                have h:=rd_oneG (enc:=AN.enc) (k:=11) (x:=mk0 wv) (Blk.new (w5.setCell ⟨wr.heap.size,3+k,none⟩ (.int .i64 ((q : Int)+1))) 64 #[.bool false,.int .i64 0,.int .i64 (maskW wv : Nat),.int .i64 (gw wv 0),.int .i64 (gw wv 1),.int .i64 (gw wv 2),.int .i64 (gw wv 3),.int .i64 (gw wv 4),.int .i64 (gw wv 5),.int .i64 (gw wv 6),.int .i64 (gw wv 7)])
                rw [hs6] at h
                exact h
              have hql2 : qo.length≤100:=by
                have h1:=partW_len W yl.length j q
                have h3 : W.length * yl.length≤W.length * 2:=Nat.mul_le_mul_left _ h2
                rw [HQO.out,List.length_map]
                have:=HOL.out
                omega
              clear hs6
              go_wp2_with (first
                | (refine wpList_load_row rfl 64 (.tmp 13) rfl wr.heap.size rfl 64 #[.bool false,.int .i64 0,.int .i64 (maskW wv : Nat),.int .i64 (gw wv 0),.int .i64 (gw wv 1),.int .i64 (gw wv 2),.int .i64 (gw wv 3),.int .i64 (gw wv 4),.int .i64 (gw wv 5),.int .i64 (gw wv 6),.int .i64 (gw wv 7)] (0,0) _ HN6.out Tryz.underlying64 rfl (by kernel_rfl) ?_)
                | (at_builtin
                   go_must (refine wpl_append_sl _ rfl (.tmp 54) (.tmp 56) _ rfl Tryz.underlying65 infoAN (by omega) AN.enc_k AN.enc_one ⟨qA,qc,qo⟩ ⟨some ⟨w5.heap.size,0,none⟩,1,[mk0 wv]⟩ rfl rfl (HS6.out.o.alloc _) hro (by simp [maxLen]; omega) (by simp; omega) (by have:=HS6.out.b.size; simp at this ⊢; have:=HS6.out.y.lt; simp at this; omega) ?_)
                   intro A1 c1 w7 hown hg hAA))
              have hbl : Below (w5.setCell ⟨wr.heap.size,3+k,none⟩ (.int .i64 ((q : Int)+1))).heap.size (w5.setCell ⟨wr.heap.size,3+k,none⟩ (.int .i64 ((q : Int)+1))) ((w5.setCell ⟨wr.heap.size,3+k,none⟩ (.int .i64 ((q : Int)+1))).alloc (.cells #[.bool false,.int .i64 0,.int .i64 (maskW wv : Nat),.int .i64 (gw wv 0),.int .i64 (gw wv 1),.int .i64 (gw wv 2),.int .i64 (gw wv 3),.int .i64 (gw wv 4),.int .i64 (gw wv 5),.int .i64 (gw wv 6),.int .i64 (gw wv 7)] 64)):=(Below.refl _ _).alloc (Nat.le_refl _) _
              have HSA:=Lib.hid (HS6.out.later hbl)
              have HTA:=Lib.hid (HT6.out.later hbl)
              have HCA:=Lib.hid (HC6.out.below hbl)
              have HXA:=Lib.hid (HX6.out.later hbl)
              clear hbl
              have HS7:=Lib.hid (HSA.out.grow hown hg)
              have HT7:=Lib.hid (HTA.out.grown hg (blk_ne_own HTA.out HSA.out.o (by decide)))
              have HC7:=Lib.hid (HCA.out.kept hg (.inr (fun e=>own_ne HSA.out.o (fun h=>HNE.out h.symm) e.symm)))
              have HX7:=Lib.hid (HXA.out.grown hg (fun e=>own_ne HSA.out.o HNX.out e.symm))
              have HNE7 : Hid (some ⟨gc,0,none⟩≠A1):=Lib.hid (fun e=>by
                rcases hAA with h | h
                · exact HNE.out (e.trans h)
                · have h5:=HCA.out.bound gc rfl
                  rw [← e] at h
                  injection h with h
                  injection h with h
                  omega)
              have HNX7 : Hid (A1≠some ⟨g11,0,none⟩):=Lib.hid (fun e=>by
                rcases hAA with h | h
                · exact HNX.out (h.symm.trans e)
                · have h5:=HXA.out.lt
                  rw [e] at h
                  injection h with h
                  injection h with h
                  omega)
              have HQ7 : Hid (qo ++ [mk0 wv]=(partW W yl.length j (q+1)).map mk0):=Lib.hid (by
                rw [partW_q HWJ.out,List.map_append,← HQO.out,HWV.out]
                rfl)
              clear hg hAA hown hro HSA HTA HCA HXA HS6 HT6 HC6 HX6 HS HT HC HX
              go_roundw
              case rel=>exact ⟨q+1,A1,c1,qo ++ [mk0 wv],by omega,by simp,by go_num,HS7,HT7,HC7,HNE7,HX7,HNX7,HQ7⟩
              case measure=>simp [intOf]; omega
            · have hqe : q=yl.length:=by omega
              have HP1 : Hid (qo=(partW W yl.length (j+1) 0).map mk0):=Lib.hid (by rw [HQO.out,hqe,partW_j HWJ.out])
              clear hqe
              go_wp2_with fail
              go_roundw
              case rel=>exact ⟨j+1,qA,qc,qo,by omega,rfl,by go_num,HS,HT,HC,HNE,HP1⟩
              case measure=>simp [intOf]; omega
        · have hje : j=W.length:=by omega
          have HP1 : Hid (po=(enumW ((nsT l).take (k+1))).map mk0):=Lib.hid (by rw [HPO.out,hje,partW_end,HEN.out])
          have hjo : ¬ ((j : Int)<(out.length : Int)):=by have:=HOL.out; omega
          clear hje
          go_wp2_with fail
          go_roundw
          case rel=>exact ⟨k+1,pA,pc,po,by omega,rfl,by go_num,HS,HP1⟩
          case measure=>simp [intOf]; omega
    · have hke : k=l.length:=by omega
      subst hke
      have hout : out=resN F ws 0:=by rw [resN_z,HO.out,List.take_of_length_le (by simp [nsT]),HWS.out]
      subst hout
      clear HO
      have hlen : (resN F ws 0).length=ws.length:=resN_len _ _ _
      rw [hlen]
      clear hlen
      go_wp2_with fail
      go_loopw [63] (fun iv wq=>∃ (m : Nat),m≤ws.length∧iv = .int .i64 m∧Hid (StA w cs ex wq ⟨oA,oc,resN F ws m⟩)) (fun iv _=>ws.length - (intOf iv).toNat)
      case atStart=>exact ⟨0,by omega,rfl,HS⟩
      case round =>
        clear HS
        obtain ⟨m,hm,rfl,HS⟩:=hrel
        by_cases hmlt : m<ws.length
        · have HWM : Hid (ws[m]? = some ws[m]):=Lib.hid (List.getElem?_eq_getElem hmlt)
          have HVW : Hid (ValW (nsT l) ws[m]):=Lib.hid ((mem_enumW _ _).1 (by rw [HWS.out]; exact List.getElem_mem _))
          generalize ws[m]=x at *
          have hm8 : (m : Int)<(ws.length : Int):=by omega
          have hba : Below wr.heap.size wr (wr.alloc (.cells #[.slice none 0 0,.slice none 0 0] 90)):=(Below.refl _ _).alloc (Nat.le_refl _) _
          have HS1:=Lib.hid (HS.out.later hba)
          have HOG : Hid (∀ b,oA=some ⟨b,0,none⟩→b<wr.heap.size):=Lib.hid HS.out.o.bound
          have HWG : Hid (w.heap.size+2≤wr.heap.size):=Lib.hid (by have:=HS.out.y.lt; omega)
          have HF0 : Hid (StF wr.heap.size (wr.alloc (.cells #[.slice none 0 0,.slice none 0 0] 90)) ⟨none,0,[]⟩ ⟨none,0,[]⟩):=Lib.hid (StF.new _ _ (Blk.new _ _ _))
          clear hba HS
          go_wp2_with fail
          generalize (wr.alloc (.cells #[.slice none 0 0,.slice none 0 0] 90))=w1 at *
          generalize wr.heap.size=g at *
          go_loopw [68] (fun iv wq=>∃ (k : Nat) (P Q : Sl FT),k≤l.length∧iv = .int .i64 k∧Hid (StA w cs ex wq ⟨oA,oc,resN F ws m⟩)∧Hid (StF g wq P Q)∧Hid (P.l=facT false (l.take k) x)∧Hid (Q.l=facT true (l.take k) x)) (fun iv _=>l.length - (intOf iv).toNat)
          case atStart=>exact ⟨0,⟨none,0,[]⟩,⟨none,0,[]⟩,by omega,rfl,HS1,HF0,Lib.hid rfl,Lib.hid rfl⟩
          case round =>
            clear HS1 HF0
            obtain ⟨k,P,Q,hk,rfl,HS,HF,HP,HQ⟩:=hrel
            by_cases hlt : k<l.length
            · obtain ⟨bb,oo,hA,hbb,hcl⟩:=HL.out.rd.at1 hlt
              simp only at hA hbb hcl
              have hcl2:=hcl.keep (HS.out.b.block bb hbb)
              have hat:=(HL.out.all l[k] (List.getElem_mem hlt)).later HS.out.b
              have h2:=H2.out l[k] (List.getElem_mem hlt)
              have hxl : x.length=l.length:=by rw [HVW.out.1]; simp [nsT]
              have hqi : x.getD k 0≤l[k].o.l.length:=HVW.out.2 k _ _ (by rw [List.getD_eq_getElem?_getD,List.getElem?_eq_getElem (by omega)]; rfl) (by unfold nsT; rw [List.getElem?_map,List.getElem?_eq_getElem hlt]; rfl)
              have hsn : l.take (k+1)=l.take k ++ [l[k]]:=by rw [List.take_add_one,List.getElem?_eq_getElem hlt]; rfl
              have htk : (l.take k).length=k:=by rw [List.length_take]; omega
              have hf0:=facT_snoc false l[k] (l.take k) x
              have hf1:=facT_snoc true l[k] (l.take k) x
              rw [← hsn,htk] at hf0 hf1
              have hva:=valT_at hqi
              have hpl : P.l.length≤4:=by rw [HP.out]; have:=facT_len false (l.take k) x; omega
              have hql : Q.l.length≤4:=by rw [HQ.out]; have:=facT_len true (l.take k) x; omega
              have hgw : gw x k=((x.getD k 0 : Nat) : Int):=rfl
              generalize x.getD k 0=q at *
              generalize l[k]=y at *
              generalize valT y q=v at *
              clear hcl hsn htk hxl
              obtain ⟨ym,yn,yv,⟨yA,yc,yl⟩⟩:=y
              obtain ⟨g0,g1,g2,g3⟩:=Cells.c4 hcl2
              simp only at g0 g1 g2 g3 h2 hqi hf0 hf1 hva
              clear hcl2
              subst hA
              have HF0:=Lib.hid hf0
              have HF1:=Lib.hid hf1
              have hyn:=hat.nm
              have HYO:=Lib.hid hat.o
              simp only at hyn
              clear hf0 hf1 hat
              obtain ⟨P,hP⟩ : ∃ z,z=P:=⟨_,rfl⟩
              obtain ⟨pA,pc,pl⟩:=P
              obtain ⟨qA,qc,ql⟩:=Q
              subst hP
              simp only at hpl hql HP HQ
              have hk8 : (k : Int)<(l.length : Int):=by omega
              have hkk : (k : Int)<8:=by omega
              have hHS : StA w cs ex wr ⟨oA,oc,resN F ws m⟩:=HS.out
              have hgo : ∃ go,oA=some ⟨go,0,none⟩∧go<wr.heap.size:=by
                rcases hHS.o.form with ⟨_,_,h0⟩ | ⟨g',h0,_,h1,_⟩
                · simp only at h0
                  have h9 : ws.length=0:=by rw [← resN_len F ws m,h0]; rfl
                  omega
                · exact ⟨g',h0,h1⟩
              obtain ⟨go,rfl,hgo⟩:=hgo
              clear hHS
              have HX : Hid (Blk (wr.alloc (.cells #[.bool ym,.string yn,.int .i64 yv,.slice yA yl.length yc] 61)) wr.heap.size 61 #[.bool ym,.string yn,.int .i64 yv,.slice yA yl.length yc]):=Lib.hid (Blk.new _ _ _)
              have hrx : Rd (· < wr.heap.size) 1 ienc wr ⟨yA,yc,yl⟩:=HYO.out
              have hrx1:=(hrx.lt_alloc (.cells #[.bool ym,.string yn,.int .i64 yv,.slice yA yl.length yc] 61)).lt_alloc (.cells #[.int .i64 yv] 3)
              have hown0 : Own (wr.heap.size+1) 3 1 ienc ((wr.alloc (.cells #[.bool ym,.string yn,.int .i64 yv,.slice yA yl.length yc] 61)).alloc (.cells #[.int .i64 yv] 3)) ⟨some ⟨wr.heap.size+1,0,none⟩,1,[yv]⟩:=by simpa using Own.lit (e:=3) (base:=wr.heap.size+1) (wr.alloc (.cells #[.bool ym,.string yn,.int .i64 yv,.slice yA yl.length yc] 61)) #[.int .i64 yv] [yv] (by simp) (by simp [maxLen]) rfl ienc_k
              have HW1 : Below wr.heap.size wr ((wr.alloc (.cells #[.bool ym,.string yn,.int .i64 yv,.slice yA yl.length yc] 61)).alloc (.cells #[.int .i64 yv] 3)):=by exact ((Below.refl _ _).alloc (Nat.le_refl _) _).alloc (by simp) _
              rcases ym with _ | _
              · skip
                go_wp2_with (at_builtin
                             go_must (refine wpl_append_sl _ rfl (.tmp 75) (.tmp 77) _ rfl Tryz.underlying37 infoInt (by omega) ienc_k ienc_one ⟨some ⟨wr.heap.size+1,0,none⟩,1,[yv]⟩ ⟨yA,yc,yl⟩ rfl rfl hown0 hrx1 (by simp [maxLen]; omega) (by simp; omega) (by simp) ?_)
                             intro A1 c1 w1 hown hg hAA
                             apply Hid.out)
                refine Lib.hid ?_
                have HB1 : Hid (Below wr.heap.size wr w1):=Lib.hid (HW1.grown hg (Nat.le_trans (Nat.le_succ _) (by simp)) (fun j hj=>by simp [Value.ownBlock] at hj; omega))
                have HX1 : Hid (Blk w1 wr.heap.size 61 #[.bool false,.string yn,.int .i64 yv,.slice yA yl.length yc]):=Lib.hid ((HX.out.alloc (.cells #[.int .i64 yv] 3)).grown hg (fun e=>by simp [Value.ownBlock] at e))
                have HS1:=Lib.hid (HS.out.later HB1.out)
                have HF1':=Lib.hid (HF.out.later HB1.out)
                have hpb:=HF.out.p.bound
                simp only at hpb
                obtain ⟨z,hz⟩ : ∃ z,yv :: yl=z:=⟨_,rfl⟩
                have hown1 : Own (wr.heap.size+1) 3 1 ienc w1 ⟨A1,c1,z⟩:=hz ▸ hown
                have hzl : yl.length+1=z.length:=by rw [← hz]; rfl
                have hqz : q<z.length:=by omega
                rw [hz] at hva
                rcases hown1.form with ⟨_,_,h0⟩ | ⟨gv,hA1,hgv,hgv2,_,_⟩
                · simp only at h0; rw [h0] at hqz; simp at hqz
                simp only at hA1
                subst hA1
                rw [hzl]
                have HZL:=Lib.hid hzl
                obtain ⟨_,_,hA,_,cv⟩:=(hown1.rd ienc_k).geti (i:=q) hqz
                injection hA with hA
                injection hA with hA1 hA2
                subst hA1 hA2
                have hzq : z[q]=v:=by
                  have h:=List.getElem?_eq_getElem hqz
                  exact Option.some.inj (h.symm.trans hva)
                simp only [Nat.zero_add,hzq] at cv
                have hmlen : m<(resN F ws m).length:=by rw [resN_len]; exact hmlt
                obtain ⟨_,_,hA,_,hcl⟩:=(HS1.out.o.rd AN.enc_k).at1 hmlen
                simp only at hA
                injection hA with hA
                injection hA with hA1 hA2
                subst hA1 hA2
                have hrm : (resN F ws m)[m]=mk0 x:=by
                  have h:=List.getElem?_eq_getElem hmlen
                  exact Option.some.inj (h.symm.trans (resN_at F HWM.out))
                rw [hrm] at hcl
                have cw:=hcl (3+k) _ (enc_gw (mk0 x) (by omega))
                simp only [mk0,hgw,Nat.zero_add,← Nat.add_assoc] at cw
                obtain ⟨y0,y1,y2,y3,yf,yz⟩:=Blk.b4 HX1.out
                obtain ⟨f0,f1,ff,fz⟩:=Blk.b2 HF1'.out.x
                simp only at f0 f1
                clear hg hAA hown hown0 hrx1 hrx HW1 hz hzl HX HS HF hcl hrm hzq hva hmlen
                go_wp2_with fail
                refine wp_region_T (fun W=>(W.cell? ⟨g,0,none⟩=some (.slice pA pl.length pc)∧W.cell? ⟨wr.heap.size,1,none⟩=some (.string yn)∧W.cell? ⟨go,m * 11+3+k,none⟩=some (.int .i64 q)∧W.cell? ⟨gv,q,none⟩=some (.int .i64 v))) (fun i=>20≤i) (by kernel_rfl) ⟨f0,y1,cw,cv⟩ (fun hHeld=>?_)
                refine qtq 0 ?_
                simp only [qsa,qsb,qsc]
                refine qtq 1 ?_
                simp only [qsa,qsb,qsc]
                refine qtq 2 ?_
                simp only [qsa,qsb,qsc]
                refine qtq 3 ?_
                simp only [qsa,qsb,qsc]
                refine qtq 4 ?_
                simp only [qsa,qsb,qsc]
                refine qtq 5 ?_
                simp only [qsa,qsb,qsc]
                refine qtq 6 ?_
                simp only [qsa,qsb,qsc]
                refine qtq 7 ?_
                simp only [qsa,qsb,qsc]
                refine qtq 8 ?_
                simp only [qsa,qsb,qsc]
                refine qtq 9 ?_
                simp only [qsa,qsb,qsc]
                refine qtq 10 ?_
                simp only [qsa,qsb,qsc]
                refine qtq 11 ?_
                simp only [qsa,qsb,qsc]
                refine qtq 12 ?_
                simp only [qsa,qsb,qsc]
                clear hHeld
                have hqz2 : (q : Int)<(z.length : Int):=by omega
                refine qtq 13 ?_
                simp only [qsa,qsb,qsc]
                refine qtq 14 ?_
                simp only [qsa,qsb,qsc]
                refine qtq 15 ?_
                simp only [qsa,qsb,qsc]
                refine qtq 16 ?_
                simp only [qsa,qsb,qsc]
                refine wpAnyT_next (i:=17) (by kernel_rfl) rfl ?_
                go_wp2_with fail
                have hba : Below w1.heap.size w1 (w1.alloc (.cells #[.string yn,.int .i64 v] 87)).drew:=((Below.refl _ _).alloc (Nat.le_refl _) _).drew
                have HS2:=Lib.hid (HS1.out.later hba)
                have HF2:=Lib.hid (HF1'.out.later hba)
                have HG2 : Hid (Blk (w1.alloc (.cells #[.string yn,.int .i64 v] 87)).drew w1.heap.size 87 #[.string yn,.int .i64 v]):=Lib.hid (Blk.new _ _ _)
                replace f0:=keep_cell hba f0
                replace y1:=keep_cell hba y1
                replace cw:=keep_cell hba cw
                replace cv:=keep_cell hba cv
                clear HS1 HF1' hba
                have HPB : Hid (∀ b,pA=some ⟨b,0,none⟩→b<wr.heap.size):=Lib.hid hpb
                have HGW : Hid (wr.heap.size≤w1.heap.size):=Lib.hid HB1.out.size
                go_wp2_with fail
                refine And.intro (by first | exact fun _=>⟨f0,y1,cw,cv⟩ | exact ⟨f0,y1,cw,cv⟩) ?_
                refine wpAnyT_next (i:=18) (by kernel_rfl) rfl ?_
                have hsz2 : (w1.alloc (.cells #[.string yn,.int .i64 v] 87)).drew.heap.size=w1.heap.size+1:=by show (w1.alloc (.cells #[.string yn,.int .i64 v] 87)).heap.size=_; simp
                have HSZ:=Lib.hid hsz2
                clear hsz2
                generalize (w1.alloc (.cells #[.string yn,.int .i64 v] 87)).drew=w2 at *
                refine wpl_append_sl _ rfl (.tmp 84) (.tmp 98) _ rfl Tryz.underlying85 infoFactW (by omega) FT.enc_k FT.enc_one ⟨pA,pc,pl⟩ ⟨some ⟨w1.heap.size,0,none⟩,1,[(⟨yn,v⟩ : FT)]⟩ rfl rfl HF2.out.p (rd_oneG HG2.out) (by simp [maxLen]; omega) (by simp; omega) (by have:=HF2.out.x.lt; omega) ?_
                intro A1 c1 w3 hown hg hAA
                have hnr:=fun X (h : ∀ b,pA=some ⟨b,0,none⟩→b≠X)=>row_ne HF2.out.p h
                have hpg:=fun b h=>(own_geI HF2.out.p b (by rw [show (⟨pA,pc,pl⟩ : Sl FT).A=some ⟨b,0,none⟩ from h]; rfl) : g+1≤b)
                have hog:=HOG.out go rfl
                replace f0:=grown_cell hg f0 (hnr _ (fun b h=>by have:=hpg b h; simp only; omega))
                replace y1:=grown_cell hg y1 (hnr _ (fun b h=>by have:=HPB.out b h; simp only; omega))
                replace cw:=grown_cell hg cw (hnr _ (fun b h=>by have:=hpg b h; simp only; omega))
                replace cv:=grown_cell hg cv (hnr _ (fun b h=>by have:=HPB.out b h; simp only; omega))
                have HS3:=Lib.hid (HS2.out.past HF2.out.p (by have:=HWG.out; omega) HOG.out hg)
                have HF3:=Lib.hid (HF2.out.grow0 hown hg hAA)
                have hf3:=fun o=>((HF2.out.x).grown hg (hnr g (fun b h=>by have:=hpg b h; omega))).frozen o
                simp only [List.length_append,List.length_cons,List.length_nil,Nat.zero_add] at HF3 ⊢
                clear hown hg hAA hnr hpg HS2 HF2 HG2 hog
                go_wp2_with fail
                refine And.intro (by first | exact fun _=>⟨f0,y1,cw,cv⟩ | exact ⟨f0,y1,cw,cv⟩) ?_
                refine wpAnyT_next (i:=19) (by kernel_rfl) rfl ?_
                go_wp2_with fail
                refine And.intro (by first | exact fun _=>⟨f0,y1,cw,cv⟩ | exact ⟨f0,y1,cw,cv⟩) ?_
                refine wpAnyT_next (i:=20) (by kernel_rfl) rfl ?_
                go_wp2_with fail
                try simp only [QT]
                try (with_reducible refine And.intro (fun h=>by simp at h) ?_)
                refine wpAnyT_done (by kernel_rfl) ?_ _
                have HS4:=Lib.hid (HS3.out.setF HWG.out HOG.out 0 (.slice A1 (pl.length+1) c1))
                have HPN : Hid (pl ++ [(⟨yn,v⟩ : FT)]=facT false (l.take (k+1)) x):=Lib.hid (by have h:=HF0.out; simp only [if_true,reduceIte] at h; rw [h,← HP.out])
                have HQN : Hid (ql=facT true (l.take (k+1)) x):=Lib.hid (by have h:=HF1.out; simp only [reduceIte,Bool.false_eq_true,Bool.true_eq_false,List.append_nil] at h; rw [h,← HQ.out])
                clear f0 f1 y0 y1 y2 y3 yf yz ff fz cw cv hf3 hown1 HS3
                generalize (w3.setCell ⟨g,0,none⟩ (.slice A1 (pl.length+1) c1))=w4 at *
                go_wp2_with fail
                go_roundw
                case rel=>exact ⟨k+1,⟨A1,c1,pl ++ [⟨yn,v⟩]⟩,⟨qA,qc,ql⟩,by omega,by go_num,HS4,HF3,HPN,HQN⟩
                case measure=>simp [intOf]; omega
              · skip
                go_wp2_with (at_builtin
                             go_must (refine wpl_append_sl _ rfl (.tmp 75) (.tmp 77) _ rfl Tryz.underlying37 infoInt (by omega) ienc_k ienc_one ⟨some ⟨wr.heap.size+1,0,none⟩,1,[yv]⟩ ⟨yA,yc,yl⟩ rfl rfl hown0 hrx1 (by simp [maxLen]; omega) (by simp; omega) (by simp) ?_)
                             intro A1 c1 w1 hown hg hAA
                             apply Hid.out)
                refine Lib.hid ?_
                have HB1 : Hid (Below wr.heap.size wr w1):=Lib.hid (HW1.grown hg (Nat.le_trans (Nat.le_succ _) (by simp)) (fun j hj=>by simp [Value.ownBlock] at hj; omega))
                have HX1 : Hid (Blk w1 wr.heap.size 61 #[.bool true,.string yn,.int .i64 yv,.slice yA yl.length yc]):=Lib.hid ((HX.out.alloc (.cells #[.int .i64 yv] 3)).grown hg (fun e=>by simp [Value.ownBlock] at e))
                have HS1:=Lib.hid (HS.out.later HB1.out)
                have HF1':=Lib.hid (HF.out.later HB1.out)
                have hpb:=HF.out.q.bound
                simp only at hpb
                obtain ⟨z,hz⟩ : ∃ z,yv :: yl=z:=⟨_,rfl⟩
                have hown1 : Own (wr.heap.size+1) 3 1 ienc w1 ⟨A1,c1,z⟩:=hz ▸ hown
                have hzl : yl.length+1=z.length:=by rw [← hz]; rfl
                have hqz : q<z.length:=by omega
                rw [hz] at hva
                rcases hown1.form with ⟨_,_,h0⟩ | ⟨gv,hA1,hgv,hgv2,_,_⟩
                · simp only at h0; rw [h0] at hqz; simp at hqz
                simp only at hA1
                subst hA1
                rw [hzl]
                have HZL:=Lib.hid hzl
                obtain ⟨_,_,hA,_,cv⟩:=(hown1.rd ienc_k).geti (i:=q) hqz
                injection hA with hA
                injection hA with hA1 hA2
                subst hA1 hA2
                have hzq : z[q]=v:=by
                  have h:=List.getElem?_eq_getElem hqz
                  exact Option.some.inj (h.symm.trans hva)
                simp only [Nat.zero_add,hzq] at cv
                have hmlen : m<(resN F ws m).length:=by rw [resN_len]; exact hmlt
                obtain ⟨_,_,hA,_,hcl⟩:=(HS1.out.o.rd AN.enc_k).at1 hmlen
                simp only at hA
                injection hA with hA
                injection hA with hA1 hA2
                subst hA1 hA2
                have hrm : (resN F ws m)[m]=mk0 x:=by
                  have h:=List.getElem?_eq_getElem hmlen
                  exact Option.some.inj (h.symm.trans (resN_at F HWM.out))
                rw [hrm] at hcl
                have cw:=hcl (3+k) _ (enc_gw (mk0 x) (by omega))
                simp only [mk0,hgw,Nat.zero_add,← Nat.add_assoc] at cw
                obtain ⟨y0,y1,y2,y3,yf,yz⟩:=Blk.b4 HX1.out
                obtain ⟨f0,f1,ff,fz⟩:=Blk.b2 HF1'.out.x
                simp only at f0 f1
                clear hg hAA hown hown0 hrx1 hrx HW1 hz hzl HX HS HF hcl hrm hzq hva hmlen
                go_wp2_with fail
                refine wp_region_T (fun W=>(W.cell? ⟨g,1,none⟩=some (.slice qA ql.length qc)∧W.cell? ⟨wr.heap.size,1,none⟩=some (.string yn)∧W.cell? ⟨go,m * 11+3+k,none⟩=some (.int .i64 q)∧W.cell? ⟨gv,q,none⟩=some (.int .i64 v))) (fun i=>20≤i) (by kernel_rfl) ⟨f1,y1,cw,cv⟩ (fun hHeld=>?_)
                refine qtq 0 ?_
                simp only [qsa,qsb,qsc]
                refine qtq 1 ?_
                simp only [qsa,qsb,qsc]
                refine qtq 2 ?_
                simp only [qsa,qsb,qsc]
                refine qtq 3 ?_
                simp only [qsa,qsb,qsc]
                refine qtq 4 ?_
                simp only [qsa,qsb,qsc]
                refine qtq 5 ?_
                simp only [qsa,qsb,qsc]
                refine qtq 6 ?_
                simp only [qsa,qsb,qsc]
                refine qtq 7 ?_
                simp only [qsa,qsb,qsc]
                refine qtq 8 ?_
                simp only [qsa,qsb,qsc]
                refine qtq 9 ?_
                simp only [qsa,qsb,qsc]
                refine qtq 10 ?_
                simp only [qsa,qsb,qsc]
                refine qtq 11 ?_
                simp only [qsa,qsb,qsc]
                refine qtq 12 ?_
                simp only [qsa,qsb,qsc]
                clear hHeld
                have hqz2 : (q : Int)<(z.length : Int):=by omega
                refine qtq 13 ?_
                simp only [qsa,qsb,qsc]
                refine qtq 14 ?_
                simp only [qsa,qsb,qsc]
                refine qtq 15 ?_
                simp only [qsa,qsb,qsc]
                refine qtq 16 ?_
                simp only [qsa,qsb,qsc]
                refine wpAnyT_next (i:=17) (by kernel_rfl) rfl ?_
                go_wp2_with fail
                have hba : Below w1.heap.size w1 (w1.alloc (.cells #[.string yn,.int .i64 v] 87)).drew:=((Below.refl _ _).alloc (Nat.le_refl _) _).drew
                have HS2:=Lib.hid (HS1.out.later hba)
                have HF2:=Lib.hid (HF1'.out.later hba)
                have HG2 : Hid (Blk (w1.alloc (.cells #[.string yn,.int .i64 v] 87)).drew w1.heap.size 87 #[.string yn,.int .i64 v]):=Lib.hid (Blk.new _ _ _)
                replace f1:=keep_cell hba f1
                replace y1:=keep_cell hba y1
                replace cw:=keep_cell hba cw
                replace cv:=keep_cell hba cv
                clear HS1 HF1' hba
                have HPB : Hid (∀ b,qA=some ⟨b,0,none⟩→b<wr.heap.size):=Lib.hid hpb
                have HGW : Hid (wr.heap.size≤w1.heap.size):=Lib.hid HB1.out.size
                go_wp2_with fail
                refine And.intro (by first | exact fun _=>⟨f1,y1,cw,cv⟩ | exact ⟨f1,y1,cw,cv⟩) ?_
                refine wpAnyT_next (i:=18) (by kernel_rfl) rfl ?_
                have hsz2 : (w1.alloc (.cells #[.string yn,.int .i64 v] 87)).drew.heap.size=w1.heap.size+1:=by show (w1.alloc (.cells #[.string yn,.int .i64 v] 87)).heap.size=_; simp
                have HSZ:=Lib.hid hsz2
                clear hsz2
                generalize (w1.alloc (.cells #[.string yn,.int .i64 v] 87)).drew=w2 at *
                refine wpl_append_sl _ rfl (.tmp 84) (.tmp 98) _ rfl Tryz.underlying85 infoFactW (by omega) FT.enc_k FT.enc_one ⟨qA,qc,ql⟩ ⟨some ⟨w1.heap.size,0,none⟩,1,[(⟨yn,v⟩ : FT)]⟩ rfl rfl HF2.out.q (rd_oneG HG2.out) (by simp [maxLen]; omega) (by simp; omega) (by have:=HF2.out.x.lt; omega) ?_
                intro A1 c1 w3 hown hg hAA
                have hnr:=fun X (h : ∀ b,qA=some ⟨b,0,none⟩→b≠X)=>row_ne HF2.out.q h
                have hpg:=fun b h=>(own_geI HF2.out.q b (by rw [show (⟨qA,qc,ql⟩ : Sl FT).A=some ⟨b,0,none⟩ from h]; rfl) : g+1≤b)
                have hog:=HOG.out go rfl
                replace f1:=grown_cell hg f1 (hnr _ (fun b h=>by have:=hpg b h; simp only; omega))
                replace y1:=grown_cell hg y1 (hnr _ (fun b h=>by have:=HPB.out b h; simp only; omega))
                replace cw:=grown_cell hg cw (hnr _ (fun b h=>by have:=hpg b h; simp only; omega))
                replace cv:=grown_cell hg cv (hnr _ (fun b h=>by have:=HPB.out b h; simp only; omega))
                have HS3:=Lib.hid (HS2.out.past HF2.out.q (by have:=HWG.out; omega) HOG.out hg)
                have HF3:=Lib.hid (HF2.out.grow1 hown hg hAA)
                have hf3:=fun o=>((HF2.out.x).grown hg (hnr g (fun b h=>by have:=hpg b h; omega))).frozen o
                simp only [List.length_append,List.length_cons,List.length_nil,Nat.zero_add] at HF3 ⊢
                clear hown hg hAA hnr hpg HS2 HF2 HG2 hog
                go_wp2_with fail
                refine And.intro (by first | exact fun _=>⟨f1,y1,cw,cv⟩ | exact ⟨f1,y1,cw,cv⟩) ?_
                refine wpAnyT_next (i:=19) (by kernel_rfl) rfl ?_
                go_wp2_with fail
                refine And.intro (by first | exact fun _=>⟨f1,y1,cw,cv⟩ | exact ⟨f1,y1,cw,cv⟩) ?_
                refine wpAnyT_next (i:=20) (by kernel_rfl) rfl ?_
                go_wp2_with fail
                try simp only [QT]
                try (with_reducible refine And.intro (fun h=>by simp at h) ?_)
                refine wpAnyT_done (by kernel_rfl) ?_ _
                have HS4:=Lib.hid (HS3.out.setF HWG.out HOG.out 1 (.slice A1 (ql.length+1) c1))
                have HPN : Hid (ql ++ [(⟨yn,v⟩ : FT)]=facT true (l.take (k+1)) x):=Lib.hid (by have h:=HF1.out; simp only [if_true,reduceIte] at h; rw [h,← HQ.out])
                have HQN : Hid (pl=facT false (l.take (k+1)) x):=Lib.hid (by have h:=HF0.out; simp only [reduceIte,Bool.false_eq_true,Bool.true_eq_false,List.append_nil] at h; rw [h,← HP.out])
                clear f0 f1 y0 y1 y2 y3 yf yz ff fz cw cv hf3 hown1 HS3
                generalize (w3.setCell ⟨g,1,none⟩ (.slice A1 (ql.length+1) c1))=w4 at *
                go_wp2_with fail
                go_roundw
                case rel=>exact ⟨k+1,⟨pA,pc,pl⟩,⟨A1,c1,ql ++ [⟨yn,v⟩]⟩,by omega,by go_num,HS4,HF3,HQN,HPN⟩
                case measure=>simp [intOf]; omega
            · have hkl : k=l.length:=by omega
              have HPE : Hid (P.l=facT false l x):=Lib.hid (by rw [HP.out,hkl,List.take_length])
              have HQE : Hid (Q.l=facT true l x):=Lib.hid (by rw [HQ.out,hkl,List.take_length])
              have hfx : F x=(trF (evalF b.lets.l (PT.mk o n u s xA xc xl) P.l Q.l),(evalF b.lets.l (PT.mk o n u s xA xc xl) P.l Q.l).e):=by rw [← HFE.out,HPE.out,HQE.out]; rfl
              have hnm : ∀ f,f ∈ P.l∨f ∈ Q.l→f.nm.size≤9223372036854775807:=by
                intro f hf
                rw [HPE.out,HQE.out] at hf
                rcases hf with hf | hf
                · obtain ⟨y,hy,e⟩:=facT_names hf
                  rw [e]; exact (HL.out.all y hy).nm
                · obtain ⟨y,hy,e⟩:=facT_names hf
                  rw [e]; exact (HL.out.all y hy).nm
              have hcall:=ev_Truth b (PT.mk o n u s xA xc xl) P Q wr (HBY.out.later HS.out.b) (HEX.out.later HS.out.b) (facts_own HF.out.p (fun f hf=>hnm f (.inl hf))) (facts_own HF.out.q (fun f hf=>hnm f (.inr hf)))
              obtain ⟨tv,htv⟩ : ∃ z,trF (evalF b.lets.l (PT.mk o n u s xA xc xl) P.l Q.l)=z:=⟨_,rfl⟩
              obtain ⟨te,hte⟩ : ∃ z,(evalF b.lets.l (PT.mk o n u s xA xc xl) P.l Q.l).e=z:=⟨_,rfl⟩
              rw [htv,hte] at hcall hfx
              rw [HCS.out] at hcall
              simp only [PT.v,HEX0.out] at hcall
              have HFX:=Lib.hid hfx
              have HCA:=Lib.hid hcall
              clear hkl hfx hcall hnm htv hte HP HQ HPE HQE
              obtain ⟨f0,f1,ff,fz⟩:=Blk.b2 HF.out.x
              obtain ⟨pA,pc,pl⟩:=P
              obtain ⟨qA,qc,ql⟩:=Q
              simp only at f0 f1
              have hhx:=HS.out.x
              have hhy:=HS.out.y
              have hez : ex.size=5:=by rw [← HEX0.out]; rfl
              go_wp2_with (first
                | (refine wpList_load_row rfl 29 (.tmp 3) rfl w.heap.size rfl 29 cs (0,0) _ hhx Tryz.underlying29 rfl (by rw [hsz]; kernel_rfl) ?_)
                | (refine wpList_load_row rfl 25 (.tmp 4) rfl (w.heap.size+1) rfl 25 ex (0,0) _ hhy Tryz.underlying25 rfl (by rw [hez]; kernel_rfl) ?_))
              refine HCA.out.mono ?_
              rintro r w2 ⟨rfl,hb2⟩
              have HS2:=Lib.hid (HS.out.later hb2)
              clear HF f0 f1 ff fz hhx hhy hez HS hb2
              have hgo : ∃ go,oA=some ⟨go,0,none⟩:=by
                rcases HS2.out.o.form with ⟨_,_,h0⟩ | ⟨g',h0,_⟩
                · simp only at h0
                  have h9 : ws.length=0:=by rw [← resN_len F ws m,h0]; rfl
                  omega
                · exact ⟨g',h0⟩
              obtain ⟨go,rfl⟩:=hgo
              have hmlen : m<(resN F ws m).length:=by rw [resN_len]; exact hmlt
              obtain ⟨_,_,hA,_,hcl⟩:=(HS2.out.o.rd AN.enc_k).at1 hmlen
              simp only at hA
              injection hA with hA
              injection hA with hA1 hA2
              subst hA1 hA2
              have hrm : (resN F ws m)[m]=mk0 x:=by
                have h:=List.getElem?_eq_getElem hmlen
                exact Option.some.inj (h.symm.trans (resN_at F HWM.out))
              rw [hrm] at hcl
              have c0:=hcl 0 _ rfl
              have c1:=hcl 1 _ rfl
              have hfz:=fun j=>HS2.out.o.frozen rfl j
              simp only [Nat.zero_add,Nat.add_zero] at c0 c1
              have HS3:=HS2.out.put HWM.out
              simp only [HFX.out] at HS3
              have HS4:=Lib.hid HS3
              clear HS3 hcl hrm hmlen
              go_wp2_with fail
              clear c0 c1 hfz
              generalize ((w2.setCell ⟨go,m * 11,none⟩ (.bool tv)).setCell ⟨go,m * 11+1,none⟩ (.int .i64 te))=w4 at *
              go_roundw
              case rel=>exact ⟨m+1,by omega,by go_num,HS4⟩
              case measure=>simp [intOf]; omega
        · have hml : m=ws.length:=by omega
          subst hml
          have HS5:=Lib.hid (resN_all F ws ▸ HS.out)
          clear HS
          go_wp2_with fail
          go_ret
          exact ⟨HS5.out.b,_,_,rfl,HS5.out.o⟩
end Go.Proofs.YtmomlipmpgcheaaGreatDoor
