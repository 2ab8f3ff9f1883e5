/- Walk of why.Why. -/
import Derived.Test.YtmomlipmpgcheaaGreatDoorWbxbi
set_option linter.unusedSimpArgs false
set_option linter.unusedVariables false
set_option maxRecDepth 100000
set_option maxHeartbeats 6400000
namespace Go.Proofs.YtmomlipmpgcheaaGreatDoor
open Go.RowKit
theorem ansN_len (F : List Nat→Bool × Int) (ws : List (List Nat)) : (ansN F ws).length=ws.length:=by simp [ansN]
theorem ansN_get (F : List Nat→Bool × Int) (ws : List (List Nat)) {k : Nat} (h : k<(ansN F ws).length) (h2 : k<ws.length) : (ansN F ws)[k]=⟨(F ws[k]).1,(F ws[k]).2,ws[k]⟩:=by simp [ansN]
theorem why_Why (b : Byl) (e : PT) (l : Sl TH) (w : World) (ht : TabW w) (hb : Byl.At (· < w.heap.size) w b) (he : PT.At (· < w.heap.size) w e) (hl : ThsAt (· < w.heap.size) w l) (h4 : l.l.length≤4) (h2 : ∀ x,x ∈ l.l→x.o.l.length≤2) :
    Calls Tryz.prog 13 #[b.v,e.v,.slice l.A l.l.length l.c] w fun r w'=>WhyP w w' (WhyV b.lets.l e l.l) r:=by
  have HT:=Lib.hid ht
  have HBY:=Lib.hid hb
  have HEX:=Lib.hid he
  have HL:=Lib.hid hl
  have H2:=Lib.hid h2
  clear ht hb he hl h2
  obtain ⟨A,c,l⟩:=l
  simp only at h4 H2 ⊢
  have hho:=fun W (hW : Below w.heap.size w W)=>why_Holds b e ⟨A,c,l⟩ W (HBY.out.later hW) (HEX.out.later hW) (HL.out.later hW) h4 H2.out
  have han:=fun W (hW : Below w.heap.size w W)=>why_answers b e ⟨A,c,l⟩ W (HBY.out.later hW) (HEX.out.later hW) (HL.out.later hW) h4 H2.out
  unfold WhyV
  obtain ⟨H,hH⟩ : ∃ z,HolV b.lets.l e l=z:=⟨_,rfl⟩
  simp only [hH] at hho ⊢
  have h81:=enumW_le (nsT l) (fun n hn=>by
    unfold nsT at hn
    obtain ⟨y,hy,rfl⟩:=List.mem_map.1 hn
    exact H2.out y hy)
  have hnl : (nsT l).length=l.length:=by simp [nsT]
  rw [hnl] at h81
  replace h81 : (enumW (nsT l)).length≤81:=Nat.le_trans h81 (Nat.pow_le_pow_right (by omega : 0<3) h4)
  obtain ⟨F,hF⟩ : ∃ F,ansW b.lets.l e l=F:=⟨_,rfl⟩
  simp only [hF] at han ⊢
  have HFH : Hid (H.2=0→H=F (zW (nsT l))):=Lib.hid (fun h0=>by
    rw [← hH] at h0 ⊢
    unfold HolV at h0 ⊢
    rw [← hF]
    split
    · rfl
    · rename_i h; rw [if_neg h] at h0; cases h0)
  obtain ⟨ns,hns⟩ : ∃ z,nsT l=z:=⟨_,rfl⟩
  simp only [hns] at han hnl h81 HFH ⊢
  have HWH:=enumW_head ns
  have HWA:=mem_enumW ns
  have HTA:=tnK_all ns F
  obtain ⟨ws,hws⟩ : ∃ ws,enumW ns=ws:=⟨_,rfl⟩
  have hm16 : ∀ x,x ∈ ws→maskW x<16:=fun x hx=>mask_16 (ns:=ns) (by rw [hws]; exact hx) (by omega)
  simp only [hws] at han h81 HWH HWA HTA
  have HNL:=Lib.hid hnl
  have HWS:=Lib.hid (And.intro HWH (And.intro HTA hm16))
  clear hH hF hns hws hnl HWH HWA HTA hm16
  obtain ⟨cs,hcs,hsz⟩:=byl_cs b
  rw [hcs]
  simp only [hcs] at hho han
  obtain ⟨o,n,u,s,xA,xc,xl⟩:=e
  simp only [PT.v] at hho han ⊢
  obtain ⟨ex,hex⟩ : ∃ x : Array Value,#[.int .i64 o,.int .i64 n,.int .i64 u,.string s,.slice xA xl.length xc]=x:=⟨_,rfl⟩
  have hez : ex.size=5:=by rw [← hex]; rfl
  rw [hex] at hho han ⊢
  have HHO:=Lib.hid hho
  have HAN:=Lib.hid han
  clear hcs hex hho han
  go_enter Tryz.func13,Tryz.ntmps13
  have hb1 : Below w.heap.size w ((w.alloc (.cells cs 29)).alloc (.cells ex 25)):=qbl
  have hx1 : Blk ((w.alloc (.cells cs 29)).alloc (.cells ex 25)) w.heap.size 29 cs:=(Blk.new _ _ _).alloc _
  have hy1 : Blk ((w.alloc (.cells cs 29)).alloc (.cells ex 25)) (w.heap.size+1) 25 ex:=Blk.new' (by simp)
  have HB1:=Lib.hid hb1
  have HX1:=Lib.hid hx1
  have HY1:=Lib.hid hy1
  clear hb1 hx1 hy1
  go_wp2_with (first
    | (refine wpList_load_row rfl 29 (.tmp 3) rfl w.heap.size rfl 29 cs (0,0) _ HX1.out Tryz.underlying29 rfl (by rw [hsz]; kernel_rfl) ?_)
    | (refine wpList_load_row rfl 25 (.tmp 4) rfl (w.heap.size+1) rfl 25 ex (0,0) _ HY1.out Tryz.underlying25 rfl (by rw [hez]; kernel_rfl) ?_))
  generalize (((w.alloc (.cells cs 29)).alloc (.cells ex 25)))=w1 at *
  refine (HHO.out _ HB1.out).mono ?_
  rintro e w2 ⟨rfl,hb2⟩
  have HB2:=Lib.hid (HB1.out.trans (hb2.mono HB1.out.size))
  have HX2:=Lib.hid (HX1.out.later hb2)
  have HY2:=Lib.hid (HY1.out.later hb2)
  clear hb2 HB1 HX1 HY1 HHO
  obtain ⟨his,her⟩:=H
  simp only at HFH ⊢
  by_cases h0 : her=0
  · subst h0
    have HF0:=Lib.hid (HFH.out rfl)
    clear HFH
    go_wp2_with (first
      | (refine wpList_load_row rfl 29 (.tmp 3) rfl w.heap.size rfl 29 cs (0,0) _ HX2.out Tryz.underlying29 rfl (by rw [hsz]; kernel_rfl) ?_)
      | (refine wpList_load_row rfl 25 (.tmp 4) rfl (w.heap.size+1) rfl 25 ex (0,0) _ HY2.out Tryz.underlying25 rfl (by rw [hez]; kernel_rfl) ?_))
    refine (HAN.out _ HB2.out).mono ?_
    unfold AnsP
    rintro r w3 ⟨hb3,aA,ac,rfl,hown⟩
    have HB3 : Hid (Below w.heap.size w w3):=Lib.hid (HB2.out.trans (hb3.mono HB2.out.size))
    have HRA : Hid (Rd (· < w3.heap.size) 11 AN.enc w3 ⟨aA,ac,ansN F ws⟩):=Lib.hid ((hown.rd AN.enc_k).mono (fun b hb=>hb.2))
    have HAZ : Hid (ac≤maxLen):=Lib.hid (by
      rcases hown.form with ⟨_,h1,_⟩ | ⟨_,_,_,_,_,h1⟩
      · simp only at h1; rw [h1]; unfold maxLen; omega
      · exact h1)
    clear hb3 hown HAN HX2 HY2 HB2
    obtain ⟨hwh,hta,hm16⟩:=HWS.out
    obtain ⟨wt,hwt⟩:=hwh
    have hz0 : 0<ws.length:=by rw [hwt]; simp
    have hzw : ws[0]=zW ns:=by
      have h : ws[0]? = some (zW ns):=by rw [hwt]; rfl
      exact Option.some.inj ((List.getElem?_eq_getElem hz0).symm.trans h)
    have hza : 0<(ansN F ws).length:=by rw [ansN_len]; exact hz0
    obtain ⟨bb,oo,hA,hbb,hcz⟩:=HRA.out.at1 hza
    simp only at hA
    subst hA
    rw [ansN_get F ws hza hz0,hzw] at hcz
    have hz1:=hcz 0 _ rfl
    simp only [Nat.zero_mul,Nat.add_zero] at hz1
    have HZ1:=Lib.hid hz1
    have HTA:=Lib.hid hta
    have HM:=Lib.hid hm16
    clear hcz hz1 hza hzw hwt hta hm16
    go_wp2_with fail
    go_loopw [11,32] (fun ov iv wr=>∃ (k : Nat) (tA : Option Addr) (tc : Nat) (tl : List Int),k≤ws.length∧ov = .slice tA tl.length tc∧iv = .int .i64 k∧Hid (Below w3.heap.size w3 wr)∧Hid (Own w3.heap.size 3 1 ienc wr ⟨tA,tc,tl⟩)∧Hid (tl=tnK ns F ws k)) (fun _ iv _=>ws.length - (intOf iv).toNat)
    case atStart=>exact ⟨0,none,0,[],by omega,rfl,rfl,Lib.hid (Below.refl _ _),Lib.hid (Own.nil _ _ _ _ _),Lib.hid (by simp [tnK,intL])⟩
    case round =>
      obtain ⟨k,tA,tc,tl,hk,rfl,rfl,HB,HO,HL⟩:=hrel
      by_cases hlt : k<ws.length
      · have hka : k<(ansN F ws).length:=by rw [ansN_len]; exact hlt
        obtain ⟨b2,o2,hA,hb2,hcl⟩:=HRA.out.at1 hka
        simp only at hA
        injection hA with hA
        injection hA with hA1 hA2
        subst hA1 hA2
        rw [ansN_get F ws hka hlt] at hcl
        have hcl2:=hcl.keep (HB.out.block _ hb2)
        have hzz:=keep_cell HB.out HZ1.out
        have HWK : Hid (ws[k]? = some ws[k]):=Lib.hid (List.getElem?_eq_getElem hlt)
        have hmk:=HM.out _ (List.getElem_mem hlt)
        generalize ws[k]=x at *
        have HTK:=Lib.hid (tnK_succ (ns:=ns) (F:=F) HWK.out)
        have hfx : F x=((F x).1,(F x).2):=rfl
        have htn : tnB ns F x=(((F x).1 != (F (zW ns)).1) || ((F x).2 != 0)):=rfl
        rw [htn] at HTK
        clear htn hfx hcl
        generalize (F x).1=fi at *
        generalize (F x).2=fe at *
        generalize (F (zW ns)).1=fz at *
        obtain ⟨h0,h1,h2',h3,h4',h5,h6,h7,h8,h9,h10⟩:=Cells.c11 hcl2
        clear hcl2
        have hk8 : (k : Int)<(ws.length : Int):=by omega
        have hz8 : (0 : Int)<(ws.length : Int):=by omega
        go_wp2_with fail
        clear h0 h1 h2' h3 h4' h5 h6 h7 h8 h9 h10
        have hba : Below wr.heap.size wr (wr.alloc (.cells #[.bool fi,.int .i64 fe,.int .i64 (maskW x : Nat),.int .i64 (gw x 0),.int .i64 (gw x 1),.int .i64 (gw x 2),.int .i64 (gw x 3),.int .i64 (gw x 4),.int .i64 (gw x 5),.int .i64 (gw x 6),.int .i64 (gw x 7)] 64)):=(Below.refl _ _).alloc (Nat.le_refl _) _
        have HX4 : Hid (Blk (wr.alloc (.cells #[.bool fi,.int .i64 fe,.int .i64 (maskW x : Nat),.int .i64 (gw x 0),.int .i64 (gw x 1),.int .i64 (gw x 2),.int .i64 (gw x 3),.int .i64 (gw x 4),.int .i64 (gw x 5),.int .i64 (gw x 6),.int .i64 (gw x 7)] 64)) wr.heap.size 64 #[.bool fi,.int .i64 fe,.int .i64 (maskW x : Nat),.int .i64 (gw x 0),.int .i64 (gw x 1),.int .i64 (gw x 2),.int .i64 (gw x 3),.int .i64 (gw x 4),.int .i64 (gw x 5),.int .i64 (gw x 6),.int .i64 (gw x 7)]):=Lib.hid (Blk.new _ _ _)
        have HB4:=Lib.hid (HB.out.trans (hba.mono HB.out.size))
        have HO4:=Lib.hid (HO.out.below hba)
        replace hzz:=keep_cell hba hzz
        have hszz : (wr.alloc (.cells #[.bool fi,.int .i64 fe,.int .i64 (maskW x : Nat),.int .i64 (gw x 0),.int .i64 (gw x 1),.int .i64 (gw x 2),.int .i64 (gw x 3),.int .i64 (gw x 4),.int .i64 (gw x 5),.int .i64 (gw x 6),.int .i64 (gw x 7)] 64)).heap.size=wr.heap.size+1:=by simp
        have HSZ:=Lib.hid hszz
        clear hba HB HO hszz
        generalize (wr.alloc (.cells #[.bool fi,.int .i64 fe,.int .i64 (maskW x : Nat),.int .i64 (gw x 0),.int .i64 (gw x 1),.int .i64 (gw x 2),.int .i64 (gw x 3),.int .i64 (gw x 4),.int .i64 (gw x 5),.int .i64 (gw x 6),.int .i64 (gw x 7)] 64))=w4 at *
        obtain ⟨y0,y1,y2, -⟩:=Blk.b11 HX4.out
        have htl : tl.length≤100:=by rw [HL.out]; have:=tnK_len ns F ws k; omega
        have HY2:=Lib.hid y2
        by_cases hfe : fe=0
        · have hfb : (fe != 0)=false:=by simp [hfe]
          rcases fi with _ | _ <;> rcases fz with _ | _
          · skip
            refine wp_region_T (fun W=>(W.cell? ⟨wr.heap.size,0,none⟩=some (.bool false)∧W.cell? ⟨wr.heap.size,1,none⟩=some (.int .i64 fe)∧W.cell? ⟨bb,oo,none⟩=some (.bool false))) (fun _=>false) (by kernel_rfl) ⟨y0,y1,hzz⟩ (fun hHeld=>?_)
            refine qtq 0 ?_
            simp only [qsa,qsb,qsc]
            refine qtq 1 ?_
            simp only [qsa,qsb,qsc]
            refine qtq 2 ?_
            simp only [qsa,qsb,qsc]
            refine qtq 3 ?_
            simp only [qsa,qsb,qsc]
            refine qtq 4 ?_
            simp only [qsa,qsb,qsc]
            refine qtq 5 ?_
            simp only [qsa,qsb,qsc]
            refine qtq 6 ?_
            simp only [qsa,qsb,qsc]
            refine qtq 7 ?_
            simp only [qsa,qsb,qsc]
            clear hHeld
            refine qtq 8 ?_
            simp only [qsa,qsb,qsc]
            refine qtq 9 ?_
            simp only [qsa,qsb,qsc]
            refine wpAnyT_take2 (i:=10) (v:=.bool false) rfl rfl (by kernel_rfl) (by kernel_rfl) (by kernel_rfl) (by kernel_rfl) (fun _ _ _ h=>h) (Or.inl ⟨by rfl, ?_⟩) (by first | assumption | trivial) ?_
            · (intro w hSw; (try dsimp only at hSw); go_simp) <;> (first | (with_reducible rfl) | assumption | (simp; done) | (simp [*]; done) | (simp; omega))
            simp only [qsa,qsb,qsc]
            refine qtq 11 ?_
            simp only [qsa,qsb,qsc]
            refine wpAnyT_done (by kernel_rfl) ?_ _
            have HTL : Hid (tl=tnK ns F ws (k+1)):=Lib.hid (by rw [HTK.out,hfb]; simp [HL.out])
            clear y0 y1 y2 hzz hfb hfe
            go_wp2_with fail
            go_roundw
            case rel=>exact ⟨k+1,tA,tc,tl,by omega,rfl,by go_num,Lib.hid HB4.out.drew,Lib.hid HO4.out.drew,HTL⟩
            case measure=>simp [intOf]; omega
          · skip
            refine wp_region_T (fun W=>(W.cell? ⟨wr.heap.size,0,none⟩=some (.bool false)∧W.cell? ⟨wr.heap.size,1,none⟩=some (.int .i64 fe)∧W.cell? ⟨bb,oo,none⟩=some (.bool true))) (fun _=>false) (by kernel_rfl) ⟨y0,y1,hzz⟩ (fun hHeld=>?_)
            refine qtq 0 ?_
            simp only [qsa,qsb,qsc]
            refine qtq 1 ?_
            simp only [qsa,qsb,qsc]
            refine qtq 2 ?_
            simp only [qsa,qsb,qsc]
            refine qtq 3 ?_
            simp only [qsa,qsb,qsc]
            refine qtq 4 ?_
            simp only [qsa,qsb,qsc]
            refine qtq 5 ?_
            simp only [qsa,qsb,qsc]
            refine qtq 6 ?_
            simp only [qsa,qsb,qsc]
            refine qtq 7 ?_
            simp only [qsa,qsb,qsc]
            clear hHeld
            refine qtn 8 ?_
            simp only [qsa,qsb,qsc]
            refine qtn 9 ?_
            simp only [qsa,qsb,qsc]
            refine qtn 10 ?_
            simp only [qsa,qsb,qsc]
            refine qtq 11 ?_
            simp only [qsa,qsb,qsc]
            refine wpAnyT_done (by kernel_rfl) ?_ _
            have HTL : Hid (tl ++ [((maskW x : Nat) : Int)]=tnK ns F ws (k+1)):=Lib.hid (by rw [HTK.out,hfb]; simp [HL.out])
            have y3 : w4.drew.cell? ⟨wr.heap.size,2,none⟩=some (.int .i64 (maskW x : Nat)):=HY2.out
            have hro:=rd_ints (Blk.new w4.drew 3 #[.int .i64 ((maskW x : Nat) : Int)])
            have ho5:=HO4.out.drew.alloc (.cells #[.int .i64 ((maskW x : Nat) : Int)] 3)
            have hb5:=HB4.out.drew.alloc HB4.out.size (.cells #[.int .i64 ((maskW x : Nat) : Int)] 3)
            clear y0 y1 y2 hzz hfb hfe
            go_wp2_with (at_builtin
                         go_must (refine wpl_append_sl _ rfl (.tmp 48) (.tmp 51) _ rfl Tryz.underlying37 infoInt (by omega) ienc_k ienc_one ⟨tA,tc,tl⟩ ⟨some ⟨w4.heap.size,0,none⟩,1,[((maskW x : Nat) : Int)]⟩ rfl rfl ho5 hro (by simp [maxLen]; omega) (by simp; omega) hb5.size ?_)
                         intro A1 c1 w6 hown hg hAA)
            have HB6:=Lib.hid (hb5.grown hg hb5.size (fun m hm=>own_geI HO4.out m hm))
            have HO6:=Lib.hid hown
            clear hown hg hAA hro ho5 hb5 y3
            go_roundw
            case rel=>exact ⟨k+1,A1,c1,tl ++ [((maskW x : Nat) : Int)],by omega,by simp,by go_num,HB6,HO6,HTL⟩
            case measure=>simp [intOf]; omega
          · skip
            refine wp_region_T (fun W=>(W.cell? ⟨wr.heap.size,0,none⟩=some (.bool true)∧W.cell? ⟨wr.heap.size,1,none⟩=some (.int .i64 fe)∧W.cell? ⟨bb,oo,none⟩=some (.bool false))) (fun _=>false) (by kernel_rfl) ⟨y0,y1,hzz⟩ (fun hHeld=>?_)
            refine qtq 0 ?_
            simp only [qsa,qsb,qsc]
            refine qtq 1 ?_
            simp only [qsa,qsb,qsc]
            refine qtq 2 ?_
            simp only [qsa,qsb,qsc]
            refine qtq 3 ?_
            simp only [qsa,qsb,qsc]
            refine qtq 4 ?_
            simp only [qsa,qsb,qsc]
            refine qtq 5 ?_
            simp only [qsa,qsb,qsc]
            refine qtq 6 ?_
            simp only [qsa,qsb,qsc]
            refine qtq 7 ?_
            simp only [qsa,qsb,qsc]
            clear hHeld
            refine qtn 8 ?_
            simp only [qsa,qsb,qsc]
            refine qtn 9 ?_
            simp only [qsa,qsb,qsc]
            refine qtn 10 ?_
            simp only [qsa,qsb,qsc]
            refine qtq 11 ?_
            simp only [qsa,qsb,qsc]
            refine wpAnyT_done (by kernel_rfl) ?_ _
            have HTL : Hid (tl ++ [((maskW x : Nat) : Int)]=tnK ns F ws (k+1)):=Lib.hid (by rw [HTK.out,hfb]; simp [HL.out])
            have y3 : w4.drew.cell? ⟨wr.heap.size,2,none⟩=some (.int .i64 (maskW x : Nat)):=HY2.out
            have hro:=rd_ints (Blk.new w4.drew 3 #[.int .i64 ((maskW x : Nat) : Int)])
            have ho5:=HO4.out.drew.alloc (.cells #[.int .i64 ((maskW x : Nat) : Int)] 3)
            have hb5:=HB4.out.drew.alloc HB4.out.size (.cells #[.int .i64 ((maskW x : Nat) : Int)] 3)
            clear y0 y1 y2 hzz hfb hfe
            go_wp2_with (at_builtin
                         go_must (refine wpl_append_sl _ rfl (.tmp 48) (.tmp 51) _ rfl Tryz.underlying37 infoInt (by omega) ienc_k ienc_one ⟨tA,tc,tl⟩ ⟨some ⟨w4.heap.size,0,none⟩,1,[((maskW x : Nat) : Int)]⟩ rfl rfl ho5 hro (by simp [maxLen]; omega) (by simp; omega) hb5.size ?_)
                         intro A1 c1 w6 hown hg hAA)
            have HB6:=Lib.hid (hb5.grown hg hb5.size (fun m hm=>own_geI HO4.out m hm))
            have HO6:=Lib.hid hown
            clear hown hg hAA hro ho5 hb5 y3
            go_roundw
            case rel=>exact ⟨k+1,A1,c1,tl ++ [((maskW x : Nat) : Int)],by omega,by simp,by go_num,HB6,HO6,HTL⟩
            case measure=>simp [intOf]; omega
          · skip
            refine wp_region_T (fun W=>(W.cell? ⟨wr.heap.size,0,none⟩=some (.bool true)∧W.cell? ⟨wr.heap.size,1,none⟩=some (.int .i64 fe)∧W.cell? ⟨bb,oo,none⟩=some (.bool true))) (fun _=>false) (by kernel_rfl) ⟨y0,y1,hzz⟩ (fun hHeld=>?_)
            refine qtq 0 ?_
            simp only [qsa,qsb,qsc]
            refine qtq 1 ?_
            simp only [qsa,qsb,qsc]
            refine qtq 2 ?_
            simp only [qsa,qsb,qsc]
            refine qtq 3 ?_
            simp only [qsa,qsb,qsc]
            refine qtq 4 ?_
            simp only [qsa,qsb,qsc]
            refine qtq 5 ?_
            simp only [qsa,qsb,qsc]
            refine qtq 6 ?_
            simp only [qsa,qsb,qsc]
            refine qtq 7 ?_
            simp only [qsa,qsb,qsc]
            clear hHeld
            refine qtq 8 ?_
            simp only [qsa,qsb,qsc]
            refine qtq 9 ?_
            simp only [qsa,qsb,qsc]
            refine wpAnyT_take2 (i:=10) (v:=.bool false) rfl rfl (by kernel_rfl) (by kernel_rfl) (by kernel_rfl) (by kernel_rfl) (fun _ _ _ h=>h) (Or.inl ⟨by rfl, ?_⟩) (by first | assumption | trivial) ?_
            · (intro w hSw; (try dsimp only at hSw); go_simp) <;> (first | (with_reducible rfl) | assumption | (simp; done) | (simp [*]; done) | (simp; omega))
            simp only [qsa,qsb,qsc]
            refine qtq 11 ?_
            simp only [qsa,qsb,qsc]
            refine wpAnyT_done (by kernel_rfl) ?_ _
            have HTL : Hid (tl=tnK ns F ws (k+1)):=Lib.hid (by rw [HTK.out,hfb]; simp [HL.out])
            clear y0 y1 y2 hzz hfb hfe
            go_wp2_with fail
            go_roundw
            case rel=>exact ⟨k+1,tA,tc,tl,by omega,rfl,by go_num,Lib.hid HB4.out.drew,Lib.hid HO4.out.drew,HTL⟩
            case measure=>simp [intOf]; omega
        · have hfb : (fe != 0)=true:=by simp [hfe]
          rcases fi with _ | _ <;> rcases fz with _ | _
          · skip
            refine wp_region_T (fun W=>(W.cell? ⟨wr.heap.size,0,none⟩=some (.bool false)∧W.cell? ⟨wr.heap.size,1,none⟩=some (.int .i64 fe)∧W.cell? ⟨bb,oo,none⟩=some (.bool false))) (fun _=>false) (by kernel_rfl) ⟨y0,y1,hzz⟩ (fun hHeld=>?_)
            refine qtq 0 ?_
            simp only [qsa,qsb,qsc]
            refine qtq 1 ?_
            simp only [qsa,qsb,qsc]
            refine qtq 2 ?_
            simp only [qsa,qsb,qsc]
            refine qtq 3 ?_
            simp only [qsa,qsb,qsc]
            refine qtq 4 ?_
            simp only [qsa,qsb,qsc]
            refine qtq 5 ?_
            simp only [qsa,qsb,qsc]
            refine qtq 6 ?_
            simp only [qsa,qsb,qsc]
            refine qtq 7 ?_
            simp only [qsa,qsb,qsc]
            clear hHeld
            refine qtq 8 ?_
            simp only [qsa,qsb,qsc]
            refine qtq 9 ?_
            simp only [qsa,qsb,qsc]
            refine wpAnyT_take2 (i:=10) (v:=.bool true) rfl rfl (by kernel_rfl) (by kernel_rfl) (by kernel_rfl) (by kernel_rfl) (fun _ _ _ h=>h) (Or.inl ⟨by rfl, ?_⟩) (by first | assumption | trivial) ?_
            · (intro w hSw; (try dsimp only at hSw); go_simp) <;> (first | (with_reducible rfl) | assumption | (simp; done) | (simp [*]; done) | (simp; omega))
            simp only [qsa,qsb,qsc]
            refine qtq 11 ?_
            simp only [qsa,qsb,qsc]
            refine wpAnyT_done (by kernel_rfl) ?_ _
            have HTL : Hid (tl ++ [((maskW x : Nat) : Int)]=tnK ns F ws (k+1)):=Lib.hid (by rw [HTK.out,hfb]; simp [HL.out])
            have y3 : w4.drew.cell? ⟨wr.heap.size,2,none⟩=some (.int .i64 (maskW x : Nat)):=HY2.out
            have hro:=rd_ints (Blk.new w4.drew 3 #[.int .i64 ((maskW x : Nat) : Int)])
            have ho5:=HO4.out.drew.alloc (.cells #[.int .i64 ((maskW x : Nat) : Int)] 3)
            have hb5:=HB4.out.drew.alloc HB4.out.size (.cells #[.int .i64 ((maskW x : Nat) : Int)] 3)
            clear y0 y1 y2 hzz hfb hfe
            go_wp2_with (at_builtin
                         go_must (refine wpl_append_sl _ rfl (.tmp 48) (.tmp 51) _ rfl Tryz.underlying37 infoInt (by omega) ienc_k ienc_one ⟨tA,tc,tl⟩ ⟨some ⟨w4.heap.size,0,none⟩,1,[((maskW x : Nat) : Int)]⟩ rfl rfl ho5 hro (by simp [maxLen]; omega) (by simp; omega) hb5.size ?_)
                         intro A1 c1 w6 hown hg hAA)
            have HB6:=Lib.hid (hb5.grown hg hb5.size (fun m hm=>own_geI HO4.out m hm))
            have HO6:=Lib.hid hown
            clear hown hg hAA hro ho5 hb5 y3
            go_roundw
            case rel=>exact ⟨k+1,A1,c1,tl ++ [((maskW x : Nat) : Int)],by omega,by simp,by go_num,HB6,HO6,HTL⟩
            case measure=>simp [intOf]; omega
          · skip
            refine wp_region_T (fun W=>(W.cell? ⟨wr.heap.size,0,none⟩=some (.bool false)∧W.cell? ⟨wr.heap.size,1,none⟩=some (.int .i64 fe)∧W.cell? ⟨bb,oo,none⟩=some (.bool true))) (fun _=>false) (by kernel_rfl) ⟨y0,y1,hzz⟩ (fun hHeld=>?_)
            refine qtq 0 ?_
            simp only [qsa,qsb,qsc]
            refine qtq 1 ?_
            simp only [qsa,qsb,qsc]
            refine qtq 2 ?_
            simp only [qsa,qsb,qsc]
            refine qtq 3 ?_
            simp only [qsa,qsb,qsc]
            refine qtq 4 ?_
            simp only [qsa,qsb,qsc]
            refine qtq 5 ?_
            simp only [qsa,qsb,qsc]
            refine qtq 6 ?_
            simp only [qsa,qsb,qsc]
            refine qtq 7 ?_
            simp only [qsa,qsb,qsc]
            clear hHeld
            refine qtn 8 ?_
            simp only [qsa,qsb,qsc]
            refine qtn 9 ?_
            simp only [qsa,qsb,qsc]
            refine qtn 10 ?_
            simp only [qsa,qsb,qsc]
            refine qtq 11 ?_
            simp only [qsa,qsb,qsc]
            refine wpAnyT_done (by kernel_rfl) ?_ _
            have HTL : Hid (tl ++ [((maskW x : Nat) : Int)]=tnK ns F ws (k+1)):=Lib.hid (by rw [HTK.out,hfb]; simp [HL.out])
            have y3 : w4.drew.cell? ⟨wr.heap.size,2,none⟩=some (.int .i64 (maskW x : Nat)):=HY2.out
            have hro:=rd_ints (Blk.new w4.drew 3 #[.int .i64 ((maskW x : Nat) : Int)])
            have ho5:=HO4.out.drew.alloc (.cells #[.int .i64 ((maskW x : Nat) : Int)] 3)
            have hb5:=HB4.out.drew.alloc HB4.out.size (.cells #[.int .i64 ((maskW x : Nat) : Int)] 3)
            clear y0 y1 y2 hzz hfb hfe
            go_wp2_with (at_builtin
                         go_must (refine wpl_append_sl _ rfl (.tmp 48) (.tmp 51) _ rfl Tryz.underlying37 infoInt (by omega) ienc_k ienc_one ⟨tA,tc,tl⟩ ⟨some ⟨w4.heap.size,0,none⟩,1,[((maskW x : Nat) : Int)]⟩ rfl rfl ho5 hro (by simp [maxLen]; omega) (by simp; omega) hb5.size ?_)
                         intro A1 c1 w6 hown hg hAA)
            have HB6:=Lib.hid (hb5.grown hg hb5.size (fun m hm=>own_geI HO4.out m hm))
            have HO6:=Lib.hid hown
            clear hown hg hAA hro ho5 hb5 y3
            go_roundw
            case rel=>exact ⟨k+1,A1,c1,tl ++ [((maskW x : Nat) : Int)],by omega,by simp,by go_num,HB6,HO6,HTL⟩
            case measure=>simp [intOf]; omega
          · skip
            refine wp_region_T (fun W=>(W.cell? ⟨wr.heap.size,0,none⟩=some (.bool true)∧W.cell? ⟨wr.heap.size,1,none⟩=some (.int .i64 fe)∧W.cell? ⟨bb,oo,none⟩=some (.bool false))) (fun _=>false) (by kernel_rfl) ⟨y0,y1,hzz⟩ (fun hHeld=>?_)
            refine qtq 0 ?_
            simp only [qsa,qsb,qsc]
            refine qtq 1 ?_
            simp only [qsa,qsb,qsc]
            refine qtq 2 ?_
            simp only [qsa,qsb,qsc]
            refine qtq 3 ?_
            simp only [qsa,qsb,qsc]
            refine qtq 4 ?_
            simp only [qsa,qsb,qsc]
            refine qtq 5 ?_
            simp only [qsa,qsb,qsc]
            refine qtq 6 ?_
            simp only [qsa,qsb,qsc]
            refine qtq 7 ?_
            simp only [qsa,qsb,qsc]
            clear hHeld
            refine qtn 8 ?_
            simp only [qsa,qsb,qsc]
            refine qtn 9 ?_
            simp only [qsa,qsb,qsc]
            refine qtn 10 ?_
            simp only [qsa,qsb,qsc]
            refine qtq 11 ?_
            simp only [qsa,qsb,qsc]
            refine wpAnyT_done (by kernel_rfl) ?_ _
            have HTL : Hid (tl ++ [((maskW x : Nat) : Int)]=tnK ns F ws (k+1)):=Lib.hid (by rw [HTK.out,hfb]; simp [HL.out])
            have y3 : w4.drew.cell? ⟨wr.heap.size,2,none⟩=some (.int .i64 (maskW x : Nat)):=HY2.out
            have hro:=rd_ints (Blk.new w4.drew 3 #[.int .i64 ((maskW x : Nat) : Int)])
            have ho5:=HO4.out.drew.alloc (.cells #[.int .i64 ((maskW x : Nat) : Int)] 3)
            have hb5:=HB4.out.drew.alloc HB4.out.size (.cells #[.int .i64 ((maskW x : Nat) : Int)] 3)
            clear y0 y1 y2 hzz hfb hfe
            go_wp2_with (at_builtin
                         go_must (refine wpl_append_sl _ rfl (.tmp 48) (.tmp 51) _ rfl Tryz.underlying37 infoInt (by omega) ienc_k ienc_one ⟨tA,tc,tl⟩ ⟨some ⟨w4.heap.size,0,none⟩,1,[((maskW x : Nat) : Int)]⟩ rfl rfl ho5 hro (by simp [maxLen]; omega) (by simp; omega) hb5.size ?_)
                         intro A1 c1 w6 hown hg hAA)
            have HB6:=Lib.hid (hb5.grown hg hb5.size (fun m hm=>own_geI HO4.out m hm))
            have HO6:=Lib.hid hown
            clear hown hg hAA hro ho5 hb5 y3
            go_roundw
            case rel=>exact ⟨k+1,A1,c1,tl ++ [((maskW x : Nat) : Int)],by omega,by simp,by go_num,HB6,HO6,HTL⟩
            case measure=>simp [intOf]; omega
          · skip
            refine wp_region_T (fun W=>(W.cell? ⟨wr.heap.size,0,none⟩=some (.bool true)∧W.cell? ⟨wr.heap.size,1,none⟩=some (.int .i64 fe)∧W.cell? ⟨bb,oo,none⟩=some (.bool true))) (fun _=>false) (by kernel_rfl) ⟨y0,y1,hzz⟩ (fun hHeld=>?_)
            refine qtq 0 ?_
            simp only [qsa,qsb,qsc]
            refine qtq 1 ?_
            simp only [qsa,qsb,qsc]
            refine qtq 2 ?_
            simp only [qsa,qsb,qsc]
            refine qtq 3 ?_
            simp only [qsa,qsb,qsc]
            refine qtq 4 ?_
            simp only [qsa,qsb,qsc]
            refine qtq 5 ?_
            simp only [qsa,qsb,qsc]
            refine qtq 6 ?_
            simp only [qsa,qsb,qsc]
            refine qtq 7 ?_
            simp only [qsa,qsb,qsc]
            clear hHeld
            refine qtq 8 ?_
            simp only [qsa,qsb,qsc]
            refine qtq 9 ?_
            simp only [qsa,qsb,qsc]
            refine wpAnyT_take2 (i:=10) (v:=.bool true) rfl rfl (by kernel_rfl) (by kernel_rfl) (by kernel_rfl) (by kernel_rfl) (fun _ _ _ h=>h) (Or.inl ⟨by rfl, ?_⟩) (by first | assumption | trivial) ?_
            · (intro w hSw; (try dsimp only at hSw); go_simp) <;> (first | (with_reducible rfl) | assumption | (simp; done) | (simp [*]; done) | (simp; omega))
            simp only [qsa,qsb,qsc]
            refine qtq 11 ?_
            simp only [qsa,qsb,qsc]
            refine wpAnyT_done (by kernel_rfl) ?_ _
            have HTL : Hid (tl ++ [((maskW x : Nat) : Int)]=tnK ns F ws (k+1)):=Lib.hid (by rw [HTK.out,hfb]; simp [HL.out])
            have y3 : w4.drew.cell? ⟨wr.heap.size,2,none⟩=some (.int .i64 (maskW x : Nat)):=HY2.out
            have hro:=rd_ints (Blk.new w4.drew 3 #[.int .i64 ((maskW x : Nat) : Int)])
            have ho5:=HO4.out.drew.alloc (.cells #[.int .i64 ((maskW x : Nat) : Int)] 3)
            have hb5:=HB4.out.drew.alloc HB4.out.size (.cells #[.int .i64 ((maskW x : Nat) : Int)] 3)
            clear y0 y1 y2 hzz hfb hfe
            go_wp2_with (at_builtin
                         go_must (refine wpl_append_sl _ rfl (.tmp 48) (.tmp 51) _ rfl Tryz.underlying37 infoInt (by omega) ienc_k ienc_one ⟨tA,tc,tl⟩ ⟨some ⟨w4.heap.size,0,none⟩,1,[((maskW x : Nat) : Int)]⟩ rfl rfl ho5 hro (by simp [maxLen]; omega) (by simp; omega) hb5.size ?_)
                         intro A1 c1 w6 hown hg hAA)
            have HB6:=Lib.hid (hb5.grown hg hb5.size (fun m hm=>own_geI HO4.out m hm))
            have HO6:=Lib.hid hown
            clear hown hg hAA hro ho5 hb5 y3
            go_roundw
            case rel=>exact ⟨k+1,A1,c1,tl ++ [((maskW x : Nat) : Int)],by omega,by simp,by go_num,HB6,HO6,HTL⟩
            case measure=>simp [intOf]; omega
      · have hkl : k=ws.length:=by omega
        have HTL : Hid (tl=intL (tnL ns F)):=Lib.hid (by rw [HL.out,hkl,HTA.out])
        have hw2:=wrap_pow h4
        have hN1:=pow_16 h4
        have hN0 : 0<2 ^ l.length:=Nat.pow_pos (by omega)
        have hbq:=fun m=>bestN_mem (ok:=okB ns F) (bt:=btB ns) (all:=2 ^ l.length - 1) m
        have hob:=fun (a b : Nat) (ha : a<2 ^ l.length) (hb : b<2 ^ l.length)=>ord_bt h4 ha hb ns HNL.out
        have hwm : whyM ns F=bestN (okB ns F) (btB ns) (2 ^ l.length - 1) (2 ^ l.length):=by unfold whyM; rw [HNL.out]
        have hwl : whyL ns F=bitL 4 (whyM ns F):=by
          unfold whyL
          have:=whyM_lt (ns:=ns) (F:=F)
          rw [HNL.out] at this ⊢
          rw [bitL_4 h4 this]
        have htl : tl.length≤100:=by rw [HL.out]; have:=tnK_len ns F ws k; omega
        generalize 2 ^ l.length=N at *
        have HBQ:=Lib.hid hbq
        have HOB:=Lib.hid hob
        have HWM:=Lib.hid (And.intro hwm hwl)
        clear hkl HL hbq hob hwm hwl
        go_wp2_with fail
        have HST:=Lib.hid (And.intro HB.out HO.out)
        clear HB HO
        go_loopw [14,61] (fun bv iv wq=>∃ (m : Nat),m≤N∧bv = .int .i64 (bestN (okB ns F) (btB ns) (N - 1) m : Nat)∧iv = .int .i64 m∧Hid (Below w3.heap.size w3 wq∧Own w3.heap.size 3 1 ienc wq ⟨tA,tc,tl⟩)) (fun _ iv _=>N - (intOf iv).toNat)
        case atStart=>exact ⟨0,by omega,by rw [bestN]; congr 1; omega,rfl,HST⟩
        case round =>
          clear HST
          obtain ⟨m,hm,rfl,rfl,HS⟩:=hrel
          by_cases hmN : m<N
          · have HBS : Hid (bestN (okB ns F) (btB ns) (N - 1) (m+1)=if (btB ns m (bestN (okB ns F) (btB ns) (N - 1) m) && okB ns F m)=true then m else bestN (okB ns F) (btB ns) (N - 1) m):=Lib.hid rfl
            have hq : bestN (okB ns F) (btB ns) (N - 1) m<N:=by rcases HBQ.out m with h | h <;> omega
            have hov:=HOB.out m _ hmN hq
            generalize bestN (okB ns F) (btB ns) (N - 1) m=q at *
            have hmN2 : (m : Int)<(N : Int):=by omega
            have hba : Below wr.heap.size wr (wr.alloc (.cells #[.int .i64 (m : Int)] 3)):=(Below.refl _ _).alloc (Nat.le_refl _) _
            have HX4 : Hid (Blk (wr.alloc (.cells #[.int .i64 (m : Int)] 3)) wr.heap.size 3 #[.int .i64 (m : Int)]):=Lib.hid (Blk.new _ _ _)
            have HB4:=Lib.hid (HS.out.1.trans (hba.mono HS.out.1.size))
            have HO4:=Lib.hid (HS.out.2.below hba)
            have hord:=why_order (a:=m) (b:=q) (by omega) (by omega) (wr.alloc (.cells #[.int .i64 (m : Int)] 3)) (HT.out.later (HB3.out.trans (HB4.out.mono HB3.out.size)))
            have HOR:=Lib.hid hord
            have HOV:=Lib.hid hov
            clear hba HS hord hov
            obtain ⟨x4,xf,xz⟩:=Blk.b1 HX4.out
            go_wp2_with fail
            refine HOR.out.mono ?_
            rintro r w5 ⟨rfl,hb5⟩
            have HB5:=Lib.hid (HB4.out.trans (hb5.mono HB4.out.size))
            have HO5:=Lib.hid (HO4.out.below hb5)
            have HX5:=Lib.hid (HX4.out.later hb5)
            clear HOR HX4 HB4 HO4 hb5 x4 xf xz
            generalize ordV m q=ov at *
            by_cases hov : ov<0
            · have hbt:=HOV.out.1 hov
              rw [hbt] at HBS
              have hcz:=has_int1 ⟨tA,tc,tl⟩ 0 w5 ((HO5.out.rd ienc_k).mono (fun b hb=>hb.2))
              have hzz : decide ((0 : Int) ∈ tl)=(tnL ns F).contains 0:=by rw [HTL.out]; exact has_zero _
              simp only [hzz] at hcz
              have hok : okB ns F m=(!(tnL ns F).contains 0 && !(tnL ns F).any (fun c=>c &&& m == 0)):=rfl
              rw [hok] at HBS
              clear hok hzz hbt
              generalize (tnL ns F).contains 0=cz at *
              have HCZ:=Lib.hid hcz
              clear hcz
              go_wp2_with fail
              refine HCZ.out.mono ?_
              rintro r w6 ⟨rfl,hb6⟩
              have HB6:=Lib.hid (HB5.out.trans (hb6.mono HB5.out.size))
              have HO6:=Lib.hid (HO5.out.below hb6)
              have HX6:=Lib.hid (HX5.out.later hb6)
              clear HCZ HX5 HB5 HO5 hb6
              rcases cz with _ | _
              · have hci:=hasI_1 ⟨tA,tc,tl⟩ (fun x=>x.toNat &&& m == 0) wr.heap.size w6 ((HO6.out.rd ienc_k).mono (fun b hb=>hb.2)) (fun W x hx hW=>by
                  simp only at hx
                  rw [HTL.out] at hx
                  obtain ⟨y,hy,rfl⟩:=List.mem_map.1 hx
                  have hy16 : y<16:=by
                    unfold tnL at hy
                    obtain ⟨v,hv,rfl⟩:=List.mem_map.1 hy
                    exact mask_16 (List.mem_filter.1 hv).1 (by rw [HNL.out]; exact h4)
                  exact why_Why1 hy16 (by omega) wr.heap.size W ((HX6.out.later hW).cell 0))
                have han : tl.any (fun x=>x.toNat &&& m == 0)=(tnL ns F).any (fun c=>c &&& m == 0):=by rw [HTL.out]; exact any_int _ _
                simp only [han] at hci
                clear han
                generalize (tnL ns F).any (fun c=>c &&& m == 0)=an at *
                have HCI:=Lib.hid hci
                clear hci
                go_wp2_with fail
                refine HCI.out.mono ?_
                rintro r w7 ⟨rfl,hb7⟩
                have HB7:=Lib.hid (HB6.out.trans (hb7.mono HB6.out.size))
                have HO7:=Lib.hid (HO6.out.below hb7)
                have HX7:=Lib.hid (HX6.out.later hb7)
                clear HCI HX6 HB6 HO6 hb7
                rcases an with _ | _
                · have HNB : Hid (bestN (okB ns F) (btB ns) (N - 1) (m+1)=m):=Lib.hid (by rw [HBS.out]; rfl)
                  obtain ⟨x4,xf,xz⟩:=Blk.b1 HX7.out
                  go_wp2_with fail
                  go_roundw
                  case rel=>exact ⟨m+1,by omega,by rw [HNB.out],by go_num,Lib.hid ⟨HB7.out,HO7.out⟩⟩
                  case measure=>simp [intOf]; omega
                · have HNB : Hid (bestN (okB ns F) (btB ns) (N - 1) (m+1)=q):=Lib.hid (by rw [HBS.out]; rfl)
                  go_wp2_with fail
                  go_roundw
                  case rel=>exact ⟨m+1,by omega,by rw [HNB.out],by go_num,Lib.hid ⟨HB7.out,HO7.out⟩⟩
                  case measure=>simp [intOf]; omega
              · have HNB : Hid (bestN (okB ns F) (btB ns) (N - 1) (m+1)=q):=Lib.hid (by rw [HBS.out]; rfl)
                go_wp2_with fail
                go_roundw
                case rel=>exact ⟨m+1,by omega,by rw [HNB.out],by go_num,Lib.hid ⟨HB6.out,HO6.out⟩⟩
                case measure=>simp [intOf]; omega
            · have hbt : btB ns m q=false:=by
                rcases h : btB ns m q with _ | _
                · rfl
                · exact absurd (HOV.out.2 h) hov
              have HNB : Hid (bestN (okB ns F) (btB ns) (N - 1) (m+1)=q):=Lib.hid (by rw [HBS.out,hbt]; rfl)
              clear hbt
              go_wp2_with fail
              go_roundw
              case rel=>exact ⟨m+1,by omega,by rw [HNB.out],by go_num,Lib.hid ⟨HB5.out,HO5.out⟩⟩
              case measure=>simp [intOf]; omega
          · have hmN2 : m=N:=by omega
            subst hmN2
            rw [← HWM.out.1]
            have hwi : whyM ns F<16:=by have:=whyM_lt (ns:=ns) (F:=F); have h2:=HNL.out; rw [h2] at this; have:=pow_16 h4; omega
            generalize whyM ns F=q at *
            have hcall:=why_list hwi wr (HT.out.later (HB3.out.trans (HS.out.1.mono HB3.out.size)))
            have HBE : Hid (Below w.heap.size w wr):=Lib.hid (HB3.out.trans (HS.out.1.mono HB3.out.size))
            have HCL:=Lib.hid hcall
            clear hcall hwi HS
            go_wp2_with fail
            refine HCL.out.mono ?_
            unfold ListP
            rintro r w8 ⟨hb8,A8,c8,rfl,hown⟩
            have HB8:=Lib.hid (HBE.out.trans (hb8.mono HBE.out.size))
            have HO8:=Lib.hid (hown.mono HBE.out.size)
            clear HCL hb8 hown
            have HWL : Hid (whyL ns F=bitL 4 q):=Lib.hid HWM.out.2
            go_wp2_with fail
            have hpost : WhyP w w8 (whyL ns F,0) (.returned (.tuple #[.slice A8 (intL (bitL 4 q)).length c8,.int .i64 0])):=⟨HB8.out,A8,c8,by rw [HWL.out],by rw [HWL.out]; exact HO8.out⟩
            try simp only [Exit.inBlock,Exit.then]
            refine bodyPost_ret (v:=.tuple #[.slice A8 (intL (bitL 4 q)).length c8,.int .i64 0]) ?_ rfl hpost
            simp [results,Tryz.results13,go_sem,]
  · go_wp2_with fail
    try simp only [Exit.inBlock,Exit.then]
    refine bodyPost_ret (v:=.tuple #[.slice none 0 0,.int .i64 her]) ?_ rfl ⟨HB2.out,none,0,rfl,Own.nil _ _ _ _ _⟩
    simp [results,Tryz.results13,go_sem,]
end Go.Proofs.YtmomlipmpgcheaaGreatDoor
