/- Walks: Otherwise$1, slices.DeleteFunc of answers. -/
import Derived.Test.YtmomlipmpgcheaaGreatDoorWbxbk
import Derived.DeepKeys
set_option linter.unusedSimpArgs false
set_option linter.unusedVariables false
set_option maxRecDepth 100000
set_option maxHeartbeats 6400000
namespace Go.Proofs.YtmomlipmpgcheaaGreatDoor
open Go.RowKit
def sameW (w z : List Nat) : Bool:=(List.range 8).all fun i=>gw w i == gw z i
def othP (z : List Nat) (now : Bool) (x : AN) : Bool:=sameW x.w z || (x.e != 0) || (x.is == now)
def box8 (z : List Nat) : Array Value:=#[.int .i64 (gw z 0),.int .i64 (gw z 1),.int .i64 (gw z 2),.int .i64 (gw z 3),.int .i64 (gw z 4),.int .i64 (gw z 5),.int .i64 (gw z 6),.int .i64 (gw z 7)]
theorem infoInt8 : Info Tryz.prog 3 (.int .i64 0) 1 8:=info_mk (by kernel_rfl) rfl
theorem arr8_eq (d : Nat) (a0 a1 a2 a3 a4 a5 a6 a7 b0 b1 b2 b3 b4 b5 b6 b7 : Int) (w : World) : (Op.equalIn (d+1+1) 62 (.agg #[.int .i64 a0,.int .i64 a1,.int .i64 a2,.int .i64 a3,.int .i64 a4,.int .i64 a5,.int .i64 a6,.int .i64 a7]) (.agg #[.int .i64 b0,.int .i64 b1,.int .i64 b2,.int .i64 b3,.int .i64 b4,.int .i64 b5,.int .i64 b6,.int .i64 b7])).run Tryz.prog w = .ok (a0 == b0 && (a1 == b1 && (a2 == b2 && (a3 == b3 && (a4 == b4 && (a5 == b5 && (a6 == b6 && a7 == b7))))))) w:=by
  obtain ⟨i,hi,_⟩:=infoInt8
  rw [run_equalIn_array w (d+1) _ _ Tryz.underlying62 hi]
  have h1:=fun a b : Int=>run_equalIn_int (P:=Tryz.prog) w d 3 .i64 .i64 a b Tryz.underlying3
  have hc : Program.cellsOf Tryz.prog 3=1:=by kernel_rfl
  have hr : List.range 8=[0,1,2,3,4,5,6,7]:=rfl
  rw [hc,hr]
  rcases h0 : a0 == b0 with _ | _
  · simp [Op.eqItems,go_sem,h1,h0]
  rcases h2 : a1 == b1 with _ | _
  · simp [Op.eqItems,go_sem,h1,h0,h2]
  rcases h3 : a2 == b2 with _ | _
  · simp [Op.eqItems,go_sem,h1,h0,h2,h3]
  rcases h4 : a3 == b3 with _ | _
  · simp [Op.eqItems,go_sem,h1,h0,h2,h3,h4]
  rcases h5 : a4 == b4 with _ | _
  · simp [Op.eqItems,go_sem,h1,h0,h2,h3,h4,h5]
  rcases h6 : a5 == b5 with _ | _
  · simp [Op.eqItems,go_sem,h1,h0,h2,h3,h4,h5,h6]
  rcases h7 : a6 == b6 with _ | _
  · simp [Op.eqItems,go_sem,h1,h0,h2,h3,h4,h5,h6,h7]
  rcases h8 : a7 == b7 with _ | _
  · simp [Op.eqItems,go_sem,h1,h0,h2,h3,h4,h5,h6,h7,h8]
  · simp [Op.eqItems,go_sem,h1,h0,h2,h3,h4,h5,h6,h7,h8]
theorem sameW_is (w z : List Nat) : sameW w z=(gw w 0 == gw z 0 && (gw w 1 == gw z 1 && (gw w 2 == gw z 2 && (gw w 3 == gw z 3 && (gw w 4 == gw z 4 && (gw w 5 == gw z 5 && (gw w 6 == gw z 6 && gw w 7 == gw z 7))))))):=by
  unfold sameW
  rw [show List.range 8=[0,1,2,3,4,5,6,7] from rfl]
  simp only [List.all_cons,List.all_nil,Bool.and_true]
theorem why_Oth1 (x : AN) (z : List Nat) (now : Bool) (g h : Nat) (w : World) (hg : Blk w g 62 (box8 z)) (hh : w.cell? ⟨h,0,none⟩=some (.bool now)) :
    Calls Tryz.prog 40 #[x.v,.pointer (some ⟨g,0,none⟩),.pointer (some ⟨h,0,none⟩)] w fun r w'=>r = .returned (.bool (othP z now x))∧Below w.heap.size w w':=by
  obtain ⟨xi,xe,xw⟩:=x
  have HV : Hid (othP z now ⟨xi,xe,xw⟩=(sameW xw z || (xe != 0) || (xi == now))):=Lib.hid rfl
  have hne2 : h≠w.heap.size:=by have:=World.block_lt_of_cell? w _ hh; simp only at this; omega
  have hh2:=kal (.cells (⟨xi,xe,xw⟩ : AN).enc.toArray 64) hh
  have hg2:=hg.alloc (.cells (⟨xi,xe,xw⟩ : AN).enc.toArray 64)
  have hb2 : Below w.heap.size w (w.alloc (.cells (⟨xi,xe,xw⟩ : AN).enc.toArray 64)):=(Below.refl _ _).alloc (Nat.le_refl _) _
  simp only [AN.enc] at hh2 hg2 hb2
  unfold box8 at hg2
  have HG2:=Lib.hid hg2
  have HB2:=Lib.hid hb2
  clear hg hg2 hb2 hne2 hh
  have hsw:=fun W=>arr8_eq 9998 (gw xw 0) (gw xw 1) (gw xw 2) (gw xw 3) (gw xw 4) (gw xw 5) (gw xw 6) (gw xw 7) (gw z 0) (gw z 1) (gw z 2) (gw z 3) (gw z 4) (gw z 5) (gw z 6) (gw z 7) W
  rw [← sameW_is] at hsw
  simp only [show 9998+1+1=10000 from rfl] at hsw
  generalize sameW xw z=sw at *
  simp only [AN.v]
  rcases sw with _ | _
  · by_cases hxe : xe=0
    · subst hxe
      rcases xi with _ | _ <;> rcases now with _ | _
      · skip
        go_enter Tryz.func40,Tryz.ntmps40
        go_wp2_with (refine wpList_load_row rfl 62 (.tmp 1) rfl g rfl 62 #[.int .i64 (gw z 0),.int .i64 (gw z 1),.int .i64 (gw z 2),.int .i64 (gw z 3),.int .i64 (gw z 4),.int .i64 (gw z 5),.int .i64 (gw z 6),.int .i64 (gw z 7)] (0,0) _ HG2.out Tryz.underlying62 rfl (by kernel_rfl) ?_)
        go_ret
        exact ⟨ret_bool (by rw [HV.out]; simp),HB2.out⟩
      · skip
        go_enter Tryz.func40,Tryz.ntmps40
        go_wp2_with (refine wpList_load_row rfl 62 (.tmp 1) rfl g rfl 62 #[.int .i64 (gw z 0),.int .i64 (gw z 1),.int .i64 (gw z 2),.int .i64 (gw z 3),.int .i64 (gw z 4),.int .i64 (gw z 5),.int .i64 (gw z 6),.int .i64 (gw z 7)] (0,0) _ HG2.out Tryz.underlying62 rfl (by kernel_rfl) ?_)
        go_ret
        exact ⟨ret_bool (by rw [HV.out]; simp),HB2.out⟩
      · skip
        go_enter Tryz.func40,Tryz.ntmps40
        go_wp2_with (refine wpList_load_row rfl 62 (.tmp 1) rfl g rfl 62 #[.int .i64 (gw z 0),.int .i64 (gw z 1),.int .i64 (gw z 2),.int .i64 (gw z 3),.int .i64 (gw z 4),.int .i64 (gw z 5),.int .i64 (gw z 6),.int .i64 (gw z 7)] (0,0) _ HG2.out Tryz.underlying62 rfl (by kernel_rfl) ?_)
        go_ret
        exact ⟨ret_bool (by rw [HV.out]; simp),HB2.out⟩
      · skip
        go_enter Tryz.func40,Tryz.ntmps40
        go_wp2_with (refine wpList_load_row rfl 62 (.tmp 1) rfl g rfl 62 #[.int .i64 (gw z 0),.int .i64 (gw z 1),.int .i64 (gw z 2),.int .i64 (gw z 3),.int .i64 (gw z 4),.int .i64 (gw z 5),.int .i64 (gw z 6),.int .i64 (gw z 7)] (0,0) _ HG2.out Tryz.underlying62 rfl (by kernel_rfl) ?_)
        go_ret
        exact ⟨ret_bool (by rw [HV.out]; simp),HB2.out⟩
    · have hfb : (xe != 0)=true:=by simp [hxe]
      rw [hfb] at HV
      go_enter Tryz.func40,Tryz.ntmps40
      go_wp2_with (refine wpList_load_row rfl 62 (.tmp 1) rfl g rfl 62 #[.int .i64 (gw z 0),.int .i64 (gw z 1),.int .i64 (gw z 2),.int .i64 (gw z 3),.int .i64 (gw z 4),.int .i64 (gw z 5),.int .i64 (gw z 6),.int .i64 (gw z 7)] (0,0) _ HG2.out Tryz.underlying62 rfl (by kernel_rfl) ?_)
      go_ret
      exact ⟨ret_bool (by rw [HV.out]; simp),HB2.out⟩
  · skip
    go_enter Tryz.func40,Tryz.ntmps40
    go_wp2_with (refine wpList_load_row rfl 62 (.tmp 1) rfl g rfl 62 #[.int .i64 (gw z 0),.int .i64 (gw z 1),.int .i64 (gw z 2),.int .i64 (gw z 3),.int .i64 (gw z 4),.int .i64 (gw z 5),.int .i64 (gw z 6),.int .i64 (gw z 7)] (0,0) _ HG2.out Tryz.underlying62 rfl (by kernel_rfl) ?_)
    go_ret
    exact ⟨ret_bool (by rw [HV.out]; simp),HB2.out⟩
def DelP (base g c : Nat) (w w' : World) (m : List AN) (r : Ending) : Prop:=r = .returned (.slice (some ⟨g,0,none⟩) m.length c)∧Own base 64 11 AN.enc w' ⟨some ⟨g,0,none⟩,c,m⟩∧w.grownBy w' (some g)
theorem del_an (base g c : Nat) (l : List AN) (p : AN→Bool) (gs gn : Nat) (w : World) (hown : Own base 64 11 AN.enc w ⟨some ⟨g,0,none⟩,c,l⟩) (hb : base≤w.heap.size) (hlen : l.length≤100000) (hp : ∀ W x,x ∈ l→w.grownBy W (some g)→Calls Tryz.prog 40 #[x.v,.pointer (some ⟨gs,0,none⟩),.pointer (some ⟨gn,0,none⟩)] W fun e w'=>e = .returned (.bool (p x))∧Below W.heap.size W w') :
    Calls Tryz.prog 39 #[.slice (some ⟨g,0,none⟩) l.length c,.func (.func 40) #[] #[.pointer (some ⟨gs,0,none⟩),.pointer (some ⟨gn,0,none⟩)]] w fun r w'=>DelP base g c w w' (l.filter fun x=>!p x) r:=by
  have HO:=Lib.hid hown
  have HP:=Lib.hid hp
  have hcon:=idxA_1 ⟨some ⟨g,0,none⟩,c,l⟩ p gs gn w ((hown.rd AN.enc_k).mono fun b hb=>hb.2) (fun W x hx hW=>hp W x hx (grownD_of hW))
  clear hown hp
  simp only at hcon
  rcases idxP_ge p l 0 with ⟨h1,h2⟩ | ⟨j,x,h1,h2,h3,h4⟩
  · rw [h1] at hcon
    have HV:=Lib.hid (show l.filter (fun x=>!p x)=l from List.filter_eq_self.2 (fun x hx=>by rw [h2 x hx]; rfl))
    rw [HV.out]
    clear h1 h2
    go_enter Tryz.func39,Tryz.ntmps39
    go_wp2_with fail
    refine hcon.mono ?_
    clear hcon
    rintro e w1 ⟨rfl,hb1⟩
    go_wp2_with fail
    go_ret
    exact ⟨rfl,HO.out.below hb1,grownD_of hb1⟩
  · rw [Nat.zero_add] at h1
    rw [h1] at hcon
    have HJ:=Lib.hid (DelI.start h2 h3 h4)
    have hjl : j<l.length:=(List.getElem?_eq_some_iff.1 h2).1
    have HLC : Hid (l.length≤c∧c≤maxLen∧base≤g):=Lib.hid (by
      obtain ⟨cur,_,_,_,h5,h6,h7⟩:=HO.out.blk rfl
      exact ⟨h5,h6,h7⟩)
    clear h1 h2 h3 h4
    go_enter Tryz.func39,Tryz.ntmps39
    go_wp2_with fail
    refine hcon.mono ?_
    clear hcon
    rintro e w1 ⟨rfl,hb1⟩
    have HB1 : Hid (w.grownBy w1 (some g)):=Lib.hid (grownD_of hb1)
    have HO1:=Lib.hid (HO.out.below hb1)
    clear hb1 HO
    have hjn : ((j : Int) == -1)=false:=beq_eq_false_iff_ne.2 (by omega)
    go_wp2_with fail
    go_loopw [5,6] (fun i q wr=>∃ (i' j' : Nat) (m : List AN),i = .int .i64 i'∧q = .int .i64 j'∧Hid (DelI p l m i' j')∧Hid (w.grownBy wr (some g))∧Hid (Own base 64 11 AN.enc wr ⟨some ⟨g,0,none⟩,c,m⟩)) (fun _ q _=>l.length - (intOf q).toNat)
    case atStart=>exact ⟨j,j+1,l,rfl,by simp,HJ,HB1,HO1⟩
    case round =>
      obtain ⟨i,q,m,rfl,rfl,HD,HB,HW⟩:=hrel
      have hdl:=HD.out.le
      have hdt:=HD.out.lt
      have hml:=HD.out.len
      by_cases hlt : q<l.length
      · have hlt' : (q : Int)<(l.length : Int):=by omega
        have hx : l[q]? = some l[q]:=List.getElem?_eq_getElem hlt
        have hxm:=List.getElem_mem hlt
        generalize l[q]=x at *
        have hcl : Cells wr g (q * 11) x.enc:=HW.out.range AN.enc_k ((HD.out.rest q (Nat.le_refl _)).trans hx)
        have HX:=Lib.hid hx
        have HXM:=Lib.hid hxm
        obtain ⟨bq,hb0⟩ : ∃ bq,p x=bq:=⟨_,rfl⟩
        have HB0:=Lib.hid hb0
        clear hx hxm hb0
        have hcall:=fun W (hW : w.grownBy W (some g))=>HP.out W x HXM.out hW
        rw [HB0.out] at hcall
        have HCA:=Lib.hid hcall
        clear hcall
        have hba : Below wr.heap.size wr (wr.alloc (.cells x.enc.toArray 64)):=(Below.refl _ _).alloc (Nat.le_refl _) _
        have HX2 : Hid (Blk (wr.alloc (.cells x.enc.toArray 64)) wr.heap.size 64 x.enc.toArray):=Lib.hid (Blk.new _ _ _)
        have HW1:=Lib.hid (HW.out.below hba)
        have HB1:=Lib.hid (grownD_below HB.out hba)
        clear hba HW HB
        obtain ⟨xi,xe,xw⟩:=x
        obtain ⟨h0,h1,h2',h3,h4',h5,h6,h7,h8,h9,h10⟩:=Cells.c11 hcl
        clear hcl
        simp only [AN.v] at HCA
        simp only [AN.enc] at HX2 HW1 HB1
        go_wp2_with fail
        refine (HCA.out _ HB1.out).mono ?_
        clear HCA h0 h1 h2' h3 h4' h5 h6 h7 h8 h9 h10
        rintro e w2 ⟨rfl,hb2⟩
        have HW2:=Lib.hid (HW1.out.below hb2)
        have HB2:=Lib.hid (grownD_below HB1.out hb2)
        have HX3:=Lib.hid (HX2.out.later hb2)
        clear hb2 HX2 HW1 HB1
        rcases bq
        · have htr:=HW2.out.there AN.enc_k (i:=i) (by omega)
          have HW3:=Lib.hid (HW2.out.setRow AN.enc_k (i:=i) (by omega) ⟨xi,xe,xw⟩)
          have HB3:=Lib.hid (grownD_cells (⟨xi,xe,xw⟩ : AN).enc (i * 11) _ _ _ HB2.out)
          have HD3:=Lib.hid (HD.out.keep HX.out HB0.out)
          obtain ⟨y0,y1,y2,y3,y4,y5,y6,y7,y8,y9,y10, -⟩:=Blk.b11 HX3.out
          have HTR:=Lib.hid htr
          clear htr
          have hil : (i : Int)<(l.length : Int):=by omega
          have hone : (⟨xi,xe,xw⟩ : AN).enc.toArray.all (·.oneCell')=true:=all_oneCell_toArray (AN.enc_one _)
          have hinf : (Tryz.prog.info? 64).map (·.size)=some (⟨xi,xe,xw⟩ : AN).enc.toArray.size:=by kernel_rfl
          simp only [AN.enc] at hone hinf
          have HON:=Lib.hid hone
          have HIN:=Lib.hid hinf
          clear hone hinf
          go_wp2_with (refine wpList_store_mid rfl 64 (.tmp 33) (.tmp 32) rfl g (i * 11) #[.bool xi,.int .i64 xe,.int .i64 (maskW xw : Nat),.int .i64 (gw xw 0),.int .i64 (gw xw 1),.int .i64 (gw xw 2),.int .i64 (gw xw 3),.int .i64 (gw xw 4),.int .i64 (gw xw 5),.int .i64 (gw xw 6),.int .i64 (gw xw 7)] rfl rfl HTR.out HIN.out HON.out ?_; apply Hid.out)
          simp only [AN.enc] at HW3 HB3
          generalize (w2.setCells g (i * 11) _)=w3 at *
          refine Lib.hid ?_
          clear y0 y1 y2 y3 y4 y5 y6 y7 y8 y9 y10 HTR HON HIN HX3 HW2 HB2
          go_wp2_with fail
          go_roundw
          case rel=>exact ⟨i+1,q+1,m.set i ⟨xi,xe,xw⟩,by go_num,by go_num,HD3,HB3,HW3⟩
          case measure=>simp [intOf]; omega
        · have HD3:=Lib.hid (HD.out.drop HX.out HB0.out)
          go_wp2_with fail
          go_roundw
          case rel=>exact ⟨i,q+1,m,rfl,by go_num,HD3,HB2,HW2⟩
          case measure=>simp [intOf]; omega
      · have hql : q=l.length:=by omega
        obtain ⟨cur,hBk,hcs,htk,h5,h6,h7⟩:=HW.out.blk rfl
        simp only at hcs htk h5 h6
        have HBK:=Lib.hid hBk
        have HCS:=Lib.hid hcs
        have HTK:=Lib.hid htk
        have HFI : Hid (m.take i=l.filter fun x=>!p x):=Lib.hid (by rw [HD.out.kept,hql,List.take_length])
        have HLI : Hid ((l.filter fun x=>!p x).length=i):=Lib.hid (by rw [← HFI.out,List.length_take]; omega)
        clear hBk hcs htk h5 h6 h7
        have hil : i<l.length:=by omega
        have hilt : (i : Int)<(l.length : Int):=by omega
        have hlc:=HLC.out.1
        have hcm:=HLC.out.2.1
        unfold maxLen at hcm
        go_wp2_with (refine wpl_clear_k rfl (.tmp 38) 65 rfl Tryz.underlying65 infoAN (by intro v hv; simp [Value.cells] at hv; rcases hv with rfl | rfl <;> rfl) g (i * 11) (l.length - i) (c - i) (by omega) cur 64 rfl HBK.out (by have:=HCS.out; omega) ?_; intro w3 cur3 hB3 hs3 ht3 hg3)
        go_ret
        have hown : Own base 64 11 AN.enc w3 ⟨some ⟨g,0,none⟩,c,l.filter fun x=>!p x⟩:=by
          refine Own.of_blk AN.enc_k hB3 (by rw [hs3]; exact HCS.out) ?_ (by rw [HLI.out]; omega) HLC.out.2.1 HLC.out.2.2
          have hl1 : (m.take i).flatMap AN.enc=(m.flatMap AN.enc).take (i * 11):=(flat_take AN.enc_k m i).symm
          rw [HLI.out,← HFI.out,hl1,ht3,← HTK.out,List.take_take,Nat.min_eq_left (by omega)]
        exact ⟨by rw [HLI.out]; rfl,hown,grownD_trans HB.out hg3⟩
def L8 (w : List Nat) : List Int:=[gw w 0,gw w 1,gw w 2,gw w 3,gw w 4,gw w 5,gw w 6,gw w 7]
theorem L8_pad {w : List Nat} (h : w.length≤8) : L8 w=intL (w ++ List.replicate (8 - w.length) 0):=by
  rcases w with _ | ⟨a0,_ | ⟨a1,_ | ⟨a2,_ | ⟨a3,_ | ⟨a4,_ | ⟨a5,_ | ⟨a6,_ | ⟨a7,_ | ⟨a8,r⟩⟩⟩⟩⟩⟩⟩⟩⟩
  all_goals first | rfl | (exfalso; simp at h)
theorem lexB_pad : ∀ {a b : List Nat} (z : List Nat),a.length=b.length→lexB (a ++ z) (b ++ z)=lexB a b
  | [],[],z,_=>by rw [List.nil_append,lexB_irr]; rfl
  | [],_ :: _,_,h=>by simp at h
  | _ :: _,[],_,h=>by simp at h
  | x :: a,y :: b,z,h=>by
    simp only [List.length_cons,Nat.add_right_cancel_iff] at h
    rw [List.cons_append,List.cons_append,lexB,lexB,lexB_pad z h]
theorem cmp8 {a b : List Nat} (h : a.length=b.length) (h8 : a.length≤8) : cmpL (L8 a) (L8 b)<0↔lexB a b=true:=by
  rw [L8_pad h8,L8_pad (h ▸ h8),h,cmpL_lt _ _ (by simp [h]),lexB_pad _ h]
def cmpA (x y : List Nat) : Int:=orI (ordV (maskW x) (maskW y)) (cmpL (L8 x) (L8 y))
theorem cmpW_z {x y : Int} (h : cmpW x y=0) : x=y:=by
  rcases Int.lt_trichotomy x y with h1 | h1 | h1
  · rw [cmpW_lt h1] at h; omega
  · exact h1
  · rw [cmpW_gt h1] at h; omega
theorem cmpL_zero : ∀ {a b : List Nat},cmpL (intL a) (intL b)=0→a=b
  | [],[],_=>rfl
  | [],_ :: _,h=>by simp [intL,cmpL] at h
  | _ :: _,[],h=>by simp [intL,cmpL] at h
  | x :: a,y :: b,h=>by
    rw [intL_cons,intL_cons] at h
    by_cases hc : cmpW (x : Int) (y : Int)=0
    · rw [cmpL_eq hc] at h
      have:=cmpW_z hc
      rw [cmpL_zero h]
      congr 1
      omega
    · rw [cmpL_ne hc] at h
      exact absurd h hc
theorem ordV_z {a b : Nat} (ha : a<16) (hb : b<16) (h : ordV a b=0) : a=b:=by
  refine Classical.byContradiction fun hn=>?_
  have hne : bitL 4 a≠bitL 4 b:=fun e=>hn (bitL_inj (n:=4) ha hb e)
  unfold ordV orI at h
  rcases Nat.lt_trichotomy (bitL 4 a).length (bitL 4 b).length with h1 | h1 | h1
  · rw [cmpW_lt (by omega)] at h; simp at h
  · rw [cmpW_eq (by omega)] at h
    simp only [ne_eq,not_true_eq_false,if_false] at h
    exact hne (cmpL_zero h)
  · rw [cmpW_gt (by omega)] at h; simp at h
theorem cmpL_refl : ∀ a : List Int,cmpL a a=0
  | []=>rfl
  | x :: a=>by rw [cmpL_eq (cmpW_eq rfl),cmpL_refl a]
theorem cmpA_lt {ns x y : List Nat} (hx : ValW ns x) (hy : ValW ns y) (h4 : ns.length≤4) : cmpA x y<0↔ltW ns x y=true:=by
  have hx4 : x.length≤4:=by rw [hx.1]; exact h4
  have hy4 : y.length≤4:=by rw [hy.1]; exact h4
  have mx:=maskW_lt x
  have my:=maskW_lt y
  rw [hx.1] at mx
  rw [hy.1] at my
  have m16:=pow_16 h4
  have ho:=ordV_lt (maskW x) (maskW y)
  rw [bitL_4 h4 mx,bitL_4 h4 my] at ho
  have hc:=cmp8 (hx.1.trans hy.1.symm) (by omega)
  unfold cmpA orI ltW
  rw [Bool.or_eq_true,Bool.and_eq_true,beq_iff_eq]
  by_cases h0 : ordV (maskW x) (maskW y)=0
  · have he:=ordV_z (by omega) (by omega) h0
    rw [if_neg (fun h=>h h0),hc]
    constructor
    · exact fun h=>.inr ⟨he,h⟩
    · rintro (h | h)
      · rw [he,betB_irr] at h; cases h
      · exact h.2
  · rw [if_pos h0,ho]
    constructor
    · exact fun h=>.inl h
    · rintro (h | ⟨h,_⟩)
      · exact h
      · rw [h] at h0
        exfalso
        apply h0
        unfold ordV orI
        have e1 : cmpW ((bitL 4 (maskW y)).length : Int) ((bitL 4 (maskW y)).length : Int)=0:=cmpW_eq rfl
        rw [e1]
        simp only [ne_eq,not_true_eq_false,if_false]
        exact cmpL_refl _
theorem rd8 {W : World} {g : Nat} {b : Bool} {e : Int} {m : Int} {x : List Nat} (h : Blk W g 64 #[.bool b,.int .i64 e,.int .i64 m,.int .i64 (gw x 0),.int .i64 (gw x 1),.int .i64 (gw x 2),.int .i64 (gw x 3),.int .i64 (gw x 4),.int .i64 (gw x 5),.int .i64 (gw x 6),.int .i64 (gw x 7)]) : Rd (· < W.heap.size) 1 ienc W ⟨some ⟨g,3,none⟩,8,L8 x⟩ :=
  ⟨Nat.le_refl _,by unfold maxLen; simp,fun h=>by simp at h,fun i y hy=>⟨g,3,rfl,h.lt,fun j u hu=>by
    have hj : j=0∧u = .int .i64 y:=by
      rcases j with _ | j
      · exact ⟨rfl,by simpa [ienc] using hu.symm⟩
      · simp [ienc] at hu
    obtain ⟨rfl,rfl⟩:=hj
    rw [h.cell]
    unfold L8 at hy
    rcases i with _ | _ | _ | _ | _ | _ | _ | _ | i
    all_goals first
      | (simp only [List.getElem?_cons_zero,List.getElem?_cons_succ,Option.some.injEq] at hy; subst hy; rfl)
      | (simp at hy)⟩⟩
theorem why_Oth2 (x y : AN) (w : World) (ht : TabW w) (hx : maskW x.w<16) (hy : maskW y.w<16) :
    Calls Tryz.prog 42 #[x.v,y.v] w fun r w'=>r = .returned (.int .i64 (cmpA x.w y.w))∧Below w.heap.size w w':=by
  obtain ⟨xi,xe,xw⟩:=x
  obtain ⟨yi,ye,yw⟩:=y
  simp only at hx hy
  have HV : Hid (cmpA xw yw=orI (ordV (maskW xw) (maskW yw)) (cmpL (L8 xw) (L8 yw))):=Lib.hid rfl
  have HT:=Lib.hid ht
  clear ht
  obtain ⟨V,hV⟩ : ∃ V,cmpA xw yw=V:=⟨_,rfl⟩
  simp only [hV] at HV ⊢
  clear hV
  simp only [AN.v]
  go_enter Tryz.func42,Tryz.ntmps42
  go_wp2_with fail
  have HX : Hid (Blk ((w.alloc (.cells #[.bool xi,.int .i64 xe,.int .i64 (maskW xw : Nat),.int .i64 (gw xw 0),.int .i64 (gw xw 1),.int .i64 (gw xw 2),.int .i64 (gw xw 3),.int .i64 (gw xw 4),.int .i64 (gw xw 5),.int .i64 (gw xw 6),.int .i64 (gw xw 7)] 64)).alloc (.cells #[.bool yi,.int .i64 ye,.int .i64 (maskW yw : Nat),.int .i64 (gw yw 0),.int .i64 (gw yw 1),.int .i64 (gw yw 2),.int .i64 (gw yw 3),.int .i64 (gw yw 4),.int .i64 (gw yw 5),.int .i64 (gw yw 6),.int .i64 (gw yw 7)] 64)) w.heap.size 64 #[.bool xi,.int .i64 xe,.int .i64 (maskW xw : Nat),.int .i64 (gw xw 0),.int .i64 (gw xw 1),.int .i64 (gw xw 2),.int .i64 (gw xw 3),.int .i64 (gw xw 4),.int .i64 (gw xw 5),.int .i64 (gw xw 6),.int .i64 (gw xw 7)]):=Lib.hid ((Blk.new _ _ _).alloc _)
  have HY : Hid (Blk ((w.alloc (.cells #[.bool xi,.int .i64 xe,.int .i64 (maskW xw : Nat),.int .i64 (gw xw 0),.int .i64 (gw xw 1),.int .i64 (gw xw 2),.int .i64 (gw xw 3),.int .i64 (gw xw 4),.int .i64 (gw xw 5),.int .i64 (gw xw 6),.int .i64 (gw xw 7)] 64)).alloc (.cells #[.bool yi,.int .i64 ye,.int .i64 (maskW yw : Nat),.int .i64 (gw yw 0),.int .i64 (gw yw 1),.int .i64 (gw yw 2),.int .i64 (gw yw 3),.int .i64 (gw yw 4),.int .i64 (gw yw 5),.int .i64 (gw yw 6),.int .i64 (gw yw 7)] 64)) (w.heap.size+1) 64 #[.bool yi,.int .i64 ye,.int .i64 (maskW yw : Nat),.int .i64 (gw yw 0),.int .i64 (gw yw 1),.int .i64 (gw yw 2),.int .i64 (gw yw 3),.int .i64 (gw yw 4),.int .i64 (gw yw 5),.int .i64 (gw yw 6),.int .i64 (gw yw 7)]):=Lib.hid (Blk.new' (by simp))
  have HB : Hid (Below w.heap.size w ((w.alloc (.cells #[.bool xi,.int .i64 xe,.int .i64 (maskW xw : Nat),.int .i64 (gw xw 0),.int .i64 (gw xw 1),.int .i64 (gw xw 2),.int .i64 (gw xw 3),.int .i64 (gw xw 4),.int .i64 (gw xw 5),.int .i64 (gw xw 6),.int .i64 (gw xw 7)] 64)).alloc (.cells #[.bool yi,.int .i64 ye,.int .i64 (maskW yw : Nat),.int .i64 (gw yw 0),.int .i64 (gw yw 1),.int .i64 (gw yw 2),.int .i64 (gw yw 3),.int .i64 (gw yw 4),.int .i64 (gw yw 5),.int .i64 (gw yw 6),.int .i64 (gw yw 7)] 64))):=Lib.hid (qbl)
  generalize ((w.alloc (.cells #[.bool xi,.int .i64 xe,.int .i64 (maskW xw : Nat),.int .i64 (gw xw 0),.int .i64 (gw xw 1),.int .i64 (gw xw 2),.int .i64 (gw xw 3),.int .i64 (gw xw 4),.int .i64 (gw xw 5),.int .i64 (gw xw 6),.int .i64 (gw xw 7)] 64)).alloc (.cells #[.bool yi,.int .i64 ye,.int .i64 (maskW yw : Nat),.int .i64 (gw yw 0),.int .i64 (gw yw 1),.int .i64 (gw yw 2),.int .i64 (gw yw 3),.int .i64 (gw yw 4),.int .i64 (gw yw 5),.int .i64 (gw yw 6),.int .i64 (gw yw 7)] 64))=w2 at *
  have x2:=HX.out.cell 2
  have y2:=HY.out.cell 2
  simp only [List.getElem?_toArray,List.getElem?_cons_zero,List.getElem?_cons_succ] at x2 y2
  refine wp_region_T (fun W=>(W.cell? ⟨w.heap.size,2,none⟩=some (.int .i64 (maskW xw : Nat))∧W.cell? ⟨w.heap.size+1,2,none⟩=some (.int .i64 (maskW yw : Nat)))) (fun _=>false) (by kernel_rfl) ⟨x2,y2⟩ (fun hHeld=>?_)
  refine qtq 0 ?_
  simp only [qsa,qsb,qsc]
  refine qtq 1 ?_
  simp only [qsa,qsb,qsc]
  refine qtq 2 ?_
  simp only [qsa,qsb,qsc]
  refine qtq 3 ?_
  simp only [qsa,qsb,qsc]
  refine qtq 5 ?_
  simp only [qsa,qsb,qsc]
  refine qtq 6 ?_
  simp only [qsa,qsb,qsc]
  refine qtq 7 ?_
  simp only [qsa,qsb,qsc]
  refine qtq 8 ?_
  simp only [qsa,qsb,qsc]
  clear hHeld
  refine wpAnyT_next (i:=4) (by kernel_rfl) rfl ?_
  go_wp2_with fail
  refine (why_order hx hy _ (HT.out.later HB.out.drew)).mono ?_
  rintro r w3 ⟨rfl,hb3⟩
  have HB3:=Lib.hid (HB.out.drew.trans (hb3.mono HB.out.size))
  have HX3:=Lib.hid (HX.out.drew.later hb3)
  have HY3:=Lib.hid (HY.out.drew.later hb3)
  clear HX HY hb3
  replace x2:=HX3.out.cell 2
  replace y2:=HY3.out.cell 2
  simp only [List.getElem?_toArray,List.getElem?_cons_zero,List.getElem?_cons_succ] at x2 y2
  obtain ⟨q,hq⟩ : ∃ q,ordV (maskW xw) (maskW yw)=q:=⟨_,rfl⟩
  rw [hq] at HV ⊢
  clear hq
  go_wp2_with fail
  refine And.intro (by first | exact fun _=>⟨x2,y2⟩ | exact ⟨x2,y2⟩) ?_
  refine wpAnyT_next (i:=9) (by kernel_rfl) rfl ?_
  go_wp2_with fail
  have hcmp:=slices_Compare ⟨some ⟨w.heap.size,3,none⟩,8,L8 xw⟩ ⟨some ⟨w.heap.size+1,3,none⟩,8,L8 yw⟩ w3 (rd8 HX3.out) (rd8 HY3.out)
  have h8 : ∀ l,(L8 l).length=8:=fun _=>rfl
  simp only [h8] at hcmp
  clear h8
  refine hcmp.mono ?_
  clear hcmp
  rintro r w4 ⟨rfl,rfl⟩
  obtain ⟨p,hp⟩ : ∃ q,cmpL (L8 xw) (L8 yw)=q:=⟨_,rfl⟩
  rw [hp] at HV ⊢
  clear hp
  go_wp2_with fail
  refine And.intro (by first | exact fun _=>⟨x2,y2⟩ | exact ⟨x2,y2⟩) ?_
  refine wpAnyT_next (i:=10) (by kernel_rfl) rfl ?_
  go_wp2_with fail
  have hal : Below w3.heap.size w3 (w3.alloc (.cells #[.int .i64 q,.int .i64 p] 3)):=(Below.refl _ _).alloc (Nat.le_refl _) _
  have HB4:=Lib.hid (HB3.out.trans (hal.mono HB3.out.size))
  have hbk : Blk (w3.alloc (.cells #[.int .i64 q,.int .i64 p] 3)) w3.heap.size 3 #[.int .i64 q,.int .i64 p]:=Blk.new _ _ _
  have HBK:=Lib.hid hbk
  replace x2:=keep_cell hal x2
  replace y2:=keep_cell hal y2
  clear hal hbk
  generalize (w3.alloc (.cells #[.int .i64 q,.int .i64 p] 3))=w5 at *
  go_wp2_with fail
  refine And.intro (by first | exact fun _=>⟨x2,y2⟩ | exact ⟨x2,y2⟩) ?_
  refine wpAnyT_next (i:=11) (by kernel_rfl) rfl ?_
  go_wp2_with fail
  refine (or_int q p w3.heap.size _ (HBK.out.cell 0) (HBK.out.cell 1)).mono ?_
  rintro e w' ⟨rfl,rfl⟩
  go_wp2_with fail
  refine And.intro (by first | exact fun _=>⟨x2,y2⟩ | exact ⟨x2,y2⟩) ?_
  refine wpAnyT_next (i:=12) (by kernel_rfl) rfl ?_
  go_wp2_with fail
  refine And.intro (by first | exact fun _=>⟨x2,y2⟩ | exact ⟨x2,y2⟩) ?_
  refine wpAnyT_done (by kernel_rfl) ?_ _
  go_wp2_with fail
  go_ret
  exact ⟨ret_int HV.out.symm,HB4.out⟩
end Go.Proofs.YtmomlipmpgcheaaGreatDoor
