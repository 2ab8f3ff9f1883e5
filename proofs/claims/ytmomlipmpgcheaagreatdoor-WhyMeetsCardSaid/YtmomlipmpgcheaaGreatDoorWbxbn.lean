/- Walk of why.Otherwise. -/
import Derived.Test.YtmomlipmpgcheaaGreatDoorWbxbm
set_option linter.unusedSimpArgs false
set_option linter.unusedVariables false
set_option maxRecDepth 100000
set_option maxHeartbeats 6400000
namespace Go.Proofs.YtmomlipmpgcheaaGreatDoor
open Go.RowKit
theorem why_Otherwise (b : Byl) (e : PT) (l : Sl TH) (w : World) (ht : TabW w) (hb : Byl.At (· < w.heap.size) w b) (he : PT.At (· < w.heap.size) w e) (hl : ThsAt (· < w.heap.size) w l) (h4 : l.l.length≤4) (h2 : ∀ x,x ∈ l.l→x.o.l.length≤2) :
    Calls Tryz.prog 15 #[b.v,e.v,.slice l.A l.l.length l.c] w fun r w'=>OthP w w' (OthV b.lets.l e l.l) r:=by
  have HT:=Lib.hid ht
  have HBY:=Lib.hid hb
  have HEX:=Lib.hid he
  have HL:=Lib.hid hl
  have H2:=Lib.hid h2
  clear ht hb he hl h2
  obtain ⟨A,c,l⟩:=l
  simp only at h4 H2 ⊢
  have hho:=fun W (hW : Below w.heap.size w W)=>why_Holds b e ⟨A,c,l⟩ W (HBY.out.later hW) (HEX.out.later hW) (HL.out.later hW) h4 H2.out
  have han:=fun W (hW : Below w.heap.size w W)=>why_answers b e ⟨A,c,l⟩ W (HBY.out.later hW) (HEX.out.later hW) (HL.out.later hW) h4 H2.out
  unfold OthV
  obtain ⟨H,hH⟩ : ∃ z,HolV b.lets.l e l=z:=⟨_,rfl⟩
  simp only [hH] at hho ⊢
  have h81:=enumW_le (nsT l) (fun n hn=>by
    unfold nsT at hn
    obtain ⟨y,hy,rfl⟩:=List.mem_map.1 hn
    exact H2.out y hy)
  have hnl : (nsT l).length=l.length:=by simp [nsT]
  rw [hnl] at h81
  replace h81 : (enumW (nsT l)).length≤81:=Nat.le_trans h81 (Nat.pow_le_pow_right (by omega : 0<3) h4)
  obtain ⟨F,hF⟩ : ∃ F,ansW b.lets.l e l=F:=⟨_,rfl⟩
  simp only [hF] at han ⊢
  have HFH : Hid (H.2=0→H=F (zW (nsT l))):=Lib.hid (fun h0=>by
    rw [← hH] at h0 ⊢
    unfold HolV at h0 ⊢
    rw [← hF]
    split
    · rfl
    · rename_i h; rw [if_neg h] at h0; cases h0)
  obtain ⟨ns,hns⟩ : ∃ z,nsT l=z:=⟨_,rfl⟩
  have HNS:=Lib.hid hns
  simp only [hns] at han hnl h81 HFH ⊢
  have HWH:=enumW_head ns
  have HWA:=mem_enumW ns
  obtain ⟨ws,hws⟩ : ∃ ws,enumW ns=ws:=⟨_,rfl⟩
  have HFO:=filter_oth (ns:=ns) F (by omega)
  simp only [hws] at han h81 HWH HWA HFO
  have HNL:=Lib.hid hnl
  have HWS:=Lib.hid (And.intro HWH (And.intro HFO HWA))
  clear hH hF hns hws hnl HWH HWA HFO
  obtain ⟨cs,hcs,hsz⟩:=byl_cs b
  rw [hcs]
  simp only [hcs] at hho han
  obtain ⟨o,n,u,s,xA,xc,xl⟩:=e
  simp only [PT.v] at hho han ⊢
  obtain ⟨ex,hex⟩ : ∃ x : Array Value,#[.int .i64 o,.int .i64 n,.int .i64 u,.string s,.slice xA xl.length xc]=x:=⟨_,rfl⟩
  have hez : ex.size=5:=by rw [← hex]; rfl
  rw [hex] at hho han ⊢
  have HHO:=Lib.hid hho
  have HAN:=Lib.hid han
  clear hcs hex hho han
  go_enter Tryz.func15,Tryz.ntmps15
  have hb1 : Below w.heap.size w ((w.alloc (.cells cs 29)).alloc (.cells ex 25)):=qbl
  have hx1 : Blk ((w.alloc (.cells cs 29)).alloc (.cells ex 25)) w.heap.size 29 cs:=(Blk.new _ _ _).alloc _
  have hy1 : Blk ((w.alloc (.cells cs 29)).alloc (.cells ex 25)) (w.heap.size+1) 25 ex:=Blk.new' (by simp)
  have HB1:=Lib.hid hb1
  have HX1:=Lib.hid hx1
  have HY1:=Lib.hid hy1
  clear hb1 hx1 hy1
  go_wp2_with (first
    | (refine wpList_load_row rfl 29 (.tmp 3) rfl w.heap.size rfl 29 cs (0,0) _ HX1.out Tryz.underlying29 rfl (by rw [hsz]; kernel_rfl) ?_)
    | (refine wpList_load_row rfl 25 (.tmp 4) rfl (w.heap.size+1) rfl 25 ex (0,0) _ HY1.out Tryz.underlying25 rfl (by rw [hez]; kernel_rfl) ?_))
  generalize (((w.alloc (.cells cs 29)).alloc (.cells ex 25)))=w1 at *
  refine (HHO.out _ HB1.out).mono ?_
  rintro e w2 ⟨rfl,hb2⟩
  have HB2:=Lib.hid (HB1.out.trans (hb2.mono HB1.out.size))
  have HX2:=Lib.hid (HX1.out.later hb2)
  have HY2:=Lib.hid (HY1.out.later hb2)
  clear hb2 HB1 HX1 HY1 HHO
  obtain ⟨his,her⟩:=H
  simp only at HFH ⊢
  by_cases h0 : her=0
  · subst h0
    have HF0:=Lib.hid (HFH.out rfl)
    clear HFH
    go_wp2_with (first
      | (refine wpList_load_row rfl 29 (.tmp 3) rfl w.heap.size rfl 29 cs (0,0) _ HX2.out Tryz.underlying29 rfl (by rw [hsz]; kernel_rfl) ?_)
      | (refine wpList_load_row rfl 25 (.tmp 4) rfl (w.heap.size+1) rfl 25 ex (0,0) _ HY2.out Tryz.underlying25 rfl (by rw [hez]; kernel_rfl) ?_))
    refine (HAN.out _ HB2.out).mono ?_
    unfold AnsP
    rintro r w3 ⟨hb3,aA,ac,rfl,hown⟩
    have HB3 : Hid (Below w.heap.size w w3):=Lib.hid (HB2.out.trans (hb3.mono HB2.out.size))
    have HRA : Hid (Rd (· < w3.heap.size) 11 AN.enc w3 ⟨aA,ac,ansN F ws⟩):=Lib.hid ((hown.rd AN.enc_k).mono (fun b hb=>hb.2))
    have HAZ : Hid (ac≤maxLen):=Lib.hid (by
      rcases hown.form with ⟨_,h1,_⟩ | ⟨_,_,_,_,_,h1⟩
      · simp only at h1; rw [h1]; unfold maxLen; omega
      · exact h1)
    have HBS : Hid (w.heap.size≤w2.heap.size):=Lib.hid HB2.out.size
    clear hb3 HAN HX2 HY2 HB2
    have hw2 : w.heap.size≤w2.heap.size:=HBS.out
    have HOW : Hid (Own (w2.heap.size+2) 64 11 AN.enc w3 ⟨aA,ac,ansN F ws⟩):=Lib.hid hown
    obtain ⟨hwh,hfo,hwa⟩:=HWS.out
    obtain ⟨wt,hwt⟩:=hwh
    have hz0 : 0<ws.length:=by rw [hwt]; simp
    have hzw : ws[0]=zW ns:=by
      have h : ws[0]? = some (zW ns):=by rw [hwt]; rfl
      exact Option.some.inj ((List.getElem?_eq_getElem hz0).symm.trans h)
    have hza : 0<(ansN F ws).length:=by rw [ansN_len]; exact hz0
    have hga : ∃ ga,aA=some ⟨ga,0,none⟩∧w2.heap.size+2≤ga∧ga<w3.heap.size:=by
      rcases hown.form with ⟨_,_,h0⟩ | ⟨g,h1,h2,h3,_⟩
      · simp only at h0; rw [h0] at hza; simp at hza
      · exact ⟨g,h1,h2,h3⟩
    obtain ⟨ga,rfl,hga,hga2⟩:=hga
    have hcl : Cells w3 ga (0 * 11) (AN.enc ⟨(F (zW ns)).1,(F (zW ns)).2,zW ns⟩):=hown.range AN.enc_k (i:=0) (by rw [List.getElem?_eq_getElem hza,ansN_get F ws hza hz0,hzw])
    have hnow : (F (zW ns)).1=his:=by rw [← HF0.out]
    rw [hnow] at hcl hfo
    simp only [Nat.zero_mul] at hcl
    obtain ⟨h0,h1,h2',h3,h4',h5,h6,h7,h8,h9,h10⟩:=Cells.c11 hcl
    simp only [Nat.zero_add] at h1 h2' h3 h4' h5 h6 h7 h8 h9 h10
    have k3:=kal (.cells #[.bool his] 4) h3
    have k4:=kal (.cells #[.bool his] 4) h4'
    have k5:=kal (.cells #[.bool his] 4) h5
    have k6:=kal (.cells #[.bool his] 4) h6
    have k7:=kal (.cells #[.bool his] 4) h7
    have k8:=kal (.cells #[.bool his] 4) h8
    have k9:=kal (.cells #[.bool his] 4) h9
    have k10:=kal (.cells #[.bool his] 4) h10
    have HFO:=Lib.hid hfo
    have HWA:=Lib.hid hwa
    have hz8 : (0 : Int)<(ws.length : Int):=by omega
    clear hcl hown hwt hza hzw hfo hwa hnow HWS
    have hb5 : Below w3.heap.size w3 ((w3.alloc (.cells #[.bool his] 4)).alloc (.cells #[.int .i64 (gw (zW ns) 0),.int .i64 (gw (zW ns) 1),.int .i64 (gw (zW ns) 2),.int .i64 (gw (zW ns) 3),.int .i64 (gw (zW ns) 4),.int .i64 (gw (zW ns) 5),.int .i64 (gw (zW ns) 6),.int .i64 (gw (zW ns) 7)] 62)):=((Below.refl _ _).alloc (Nat.le_refl _) _).alloc (by simp) _
    have HG5 : Hid (Blk ((w3.alloc (.cells #[.bool his] 4)).alloc (.cells #[.int .i64 (gw (zW ns) 0),.int .i64 (gw (zW ns) 1),.int .i64 (gw (zW ns) 2),.int .i64 (gw (zW ns) 3),.int .i64 (gw (zW ns) 4),.int .i64 (gw (zW ns) 5),.int .i64 (gw (zW ns) 6),.int .i64 (gw (zW ns) 7)] 62)) (w3.heap.size+1) 62 (box8 (zW ns))):=Lib.hid (Blk.new' (by simp))
    have HH5 : Hid (Blk ((w3.alloc (.cells #[.bool his] 4)).alloc (.cells #[.int .i64 (gw (zW ns) 0),.int .i64 (gw (zW ns) 1),.int .i64 (gw (zW ns) 2),.int .i64 (gw (zW ns) 3),.int .i64 (gw (zW ns) 4),.int .i64 (gw (zW ns) 5),.int .i64 (gw (zW ns) 6),.int .i64 (gw (zW ns) 7)] 62)) w3.heap.size 4 #[.bool his]):=Lib.hid ((Blk.new _ _ _).alloc _)
    have HO5:=Lib.hid (HOW.out.below hb5)
    have HB5:=Lib.hid (HB3.out.trans (hb5.mono HB3.out.size))
    have hsz5 : ((w3.alloc (.cells #[.bool his] 4)).alloc (.cells #[.int .i64 (gw (zW ns) 0),.int .i64 (gw (zW ns) 1),.int .i64 (gw (zW ns) 2),.int .i64 (gw (zW ns) 3),.int .i64 (gw (zW ns) 4),.int .i64 (gw (zW ns) 5),.int .i64 (gw (zW ns) 6),.int .i64 (gw (zW ns) 7)] 62)).heap.size=w3.heap.size+2:=by simp
    have HSZ5:=Lib.hid hsz5
    clear hb5 hsz5 HOW
    go_wp2_with fail
    generalize ((w3.alloc (.cells #[.bool his] 4)).alloc (.cells #[.int .i64 (gw (zW ns) 0),.int .i64 (gw (zW ns) 1),.int .i64 (gw (zW ns) 2),.int .i64 (gw (zW ns) 3),.int .i64 (gw (zW ns) 4),.int .i64 (gw (zW ns) 5),.int .i64 (gw (zW ns) 6),.int .i64 (gw (zW ns) 7)] 62))=w5 at *
    clear h0 h1 h2' h3 h4' h5 h6 h7 h8 h9 h10 k3 k4 k5 k6 k7 k8 k9 k10
    have hdel:=del_an (w2.heap.size+2) ga ac (ansN F ws) (othP (zW ns) his) (w3.heap.size+1) w3.heap.size w5 HO5.out (by have:=HSZ5.out; omega) (by rw [ansN_len]; omega) (fun W x _ hW=>why_Oth1 x (zW ns) his (w3.heap.size+1) w3.heap.size W (HG5.out.grown hW (fun e=>by injection e; omega)) ((HH5.out.grown hW (fun e=>by injection e; omega)).cell 0))
    rw [HFO.out,ansN_len] at hdel
    have HDL:=Lib.hid hdel
    clear hdel
    refine HDL.out.mono ?_
    clear HDL
    unfold DelP
    rintro r w6 ⟨rfl,hown6,hg6⟩
    have HB6 : Hid (Below w.heap.size w w6):=Lib.hid (HB5.out.grown hg6 HB5.out.size (fun j hj=>by injection hj; omega))
    have HO6:=Lib.hid hown6
    clear hown6 hg6 HB5 HO5 HG5 HH5
    rw [List.length_map]
    have hoe : othW ns F=match othL ns F with
      | []=>none
      | m :: l=>some (minF (ltW ns) m l):=rfl
    have hol81 : (othL ns F).length≤ws.length:=by
      have h:=congrArg List.length HFO.out
      rw [List.length_map] at h
      rw [← h]
      exact Nat.le_trans (List.length_filter_le _ _) (by rw [ansN_len]; exact Nat.le_refl _)
    have hom:=fun x=>mem_othL (ns:=ns) (F:=F) x
    have HOM:=Lib.hid hom
    clear hom HFO
    rcases hol : othL ns F with _ | ⟨m,ol⟩
    · rw [hol] at hoe
      have HOE:=Lib.hid hoe
      clear hoe hol hol81
      go_wp2_with fail
      have hpost : OthP w w6 (othR l (othW ns F)) (.returned (.tuple #[.slice none 0 0,.slice none 0 0,.int .i64 4])):=by
        rw [HOE.out]
        exact ⟨HB6.out,none,0,none,0,rfl,Own.nil _ _ _ _ _,Own.nil _ _ _ _ _⟩
      try simp only [Exit.inBlock,Exit.then]
      refine bodyPost_ret (v:=.tuple #[.slice none 0 0,.slice none 0 0,.int .i64 4]) ?_ rfl hpost
      simp [results,Tryz.results15,go_sem,]
    · rw [hol] at hoe HO6 HOM hol81
      simp only at hoe
      have hlen : (m :: ol).length=ol.length+1:=rfl
      rw [hlen] at hol81 ⊢
      have hmin:=min_an ns (by have:=HNL.out; omega) ⟨some ⟨ga,0,none⟩,ac,(m :: ol).map (mkA F)⟩ (mkA F m) (ol.map (mkA F)) rfl (by rw [List.length_map]; omega) w6 (HT.out.later HB6.out) ((HO6.out.rd AN.enc_k).mono (fun b hb=>hb.2)) (fun x hx=>by
        simp only at hx
        obtain ⟨y,hy,rfl⟩:=List.mem_map.1 hx
        exact ((HOM.out y).1 hy).1)
      rw [minF_mk] at hmin
      have hxm : minF (ltW ns) m ol ∈ m :: ol:=minF_mem _ _
      have hxv:=((HOM.out _).1 hxm).1
      generalize minF (ltW ns) m ol=xw at *
      simp only [List.length_map,hlen] at hmin
      have hxl:=hxv.1
      have hm16 : maskW xw<16:=by
        have h1:=maskW_lt xw
        have h2:=pow_16 (show xw.length≤4 by rw [hxl,HNL.out]; exact h4)
        omega
      have hbl : bitL 4 (maskW xw)=bitL l.length (maskW xw):=bitL_4 h4 (by have h1:=maskW_lt xw; rw [hxl,HNL.out] at h1; exact h1)
      have HOE:=Lib.hid hoe
      have HMI:=Lib.hid hmin
      have HXV:=Lib.hid hxv
      have HBL:=Lib.hid hbl
      have HXM:=Lib.hid (show (mkA F xw).v=(⟨(F xw).1,(F xw).2,xw⟩ : AN).v from rfl)
      clear hoe hmin hxv hbl hlen hol hxl hxm
      generalize (F xw).1=xi at *
      generalize (F xw).2=xe at *
      have hll : ¬ (((ol.length+1 : Nat) : Int)=0):=by omega
      go_wp2_with fail
      refine HMI.out.mono ?_
      clear HMI
      rintro r w7 ⟨rfl,hb7⟩
      rw [HXM.out]
      simp only [AN.v]
      have HB7:=Lib.hid (HB6.out.trans (hb7.mono HB6.out.size))
      clear hb7 HB6 HO6
      have HX8 : Hid (Blk (w7.alloc (.cells #[.bool xi,.int .i64 xe,.int .i64 (maskW xw : Nat),.int .i64 (gw xw 0),.int .i64 (gw xw 1),.int .i64 (gw xw 2),.int .i64 (gw xw 3),.int .i64 (gw xw 4),.int .i64 (gw xw 5),.int .i64 (gw xw 6),.int .i64 (gw xw 7)] 64)) w7.heap.size 64 (⟨xi,xe,xw⟩ : AN).enc.toArray):=Lib.hid (Blk.new _ _ _)
      have HB8 : Hid (Below w.heap.size w (w7.alloc (.cells #[.bool xi,.int .i64 xe,.int .i64 (maskW xw : Nat),.int .i64 (gw xw 0),.int .i64 (gw xw 1),.int .i64 (gw xw 2),.int .i64 (gw xw 3),.int .i64 (gw xw 4),.int .i64 (gw xw 5),.int .i64 (gw xw 6),.int .i64 (gw xw 7)] 64))):=Lib.hid (HB7.out.alloc HB7.out.size _)
      go_wp2_with fail
      generalize (w7.alloc (.cells #[.bool xi,.int .i64 xe,.int .i64 (maskW xw : Nat),.int .i64 (gw xw 0),.int .i64 (gw xw 1),.int .i64 (gw xw 2),.int .i64 (gw xw 3),.int .i64 (gw xw 4),.int .i64 (gw xw 5),.int .i64 (gw xw 6),.int .i64 (gw xw 7)] 64))=w8 at *
      refine (why_list hm16 w8 (HT.out.later HB8.out)).mono ?_
      unfold ListP
      rw [HBL.out]
      rintro r w9 ⟨hb9,lA,lc,rfl,hown⟩
      have HB9:=Lib.hid (HB8.out.trans (hb9.mono HB8.out.size))
      have HX9:=Lib.hid (HX8.out.later hb9)
      have HO9 : Hid (Rd (· < w9.heap.size) 1 ienc w9 ⟨lA,lc,intL (bitL l.length (maskW xw))⟩):=Lib.hid ((hown.rd ienc_k).mono (fun b hb=>hb.2))
      clear hb9 hown HB8 HX8
      have hbi:=fun i hi=>oth_ix (l:=l) HNS.out.symm HXV.out (i:=i) hi
      have HBI:=Lib.hid hbi
      have hbn : (bitL l.length (maskW xw)).length≤4:=by
        unfold bitL
        exact Nat.le_trans (List.length_filter_le _ _) (by rw [List.length_range]; exact h4)
      have hbi4 : ∀ i,i ∈ bitL l.length (maskW xw)→i<4:=fun i hi=>by have:=(mem_bitL.1 hi).1; omega
      have hpo : chV l xw=(bitL l.length (maskW xw),(bitL l.length (maskW xw)).map (valO l xw),0):=rfl
      have HPO:=Lib.hid hpo
      clear hbi hpo
      generalize bitL l.length (maskW xw)=is at *
      have HB4:=Lib.hid hbi4
      clear hbi4
      rw [intL_len]
      go_wp2_with fail
      go_loopw [16,53] (fun vv iv wr=>∃ (k : Nat) (vA : Option Addr) (vc : Nat) (vl : List Int),k≤is.length∧vv = .slice vA vl.length vc∧iv = .int .i64 k∧Hid (Below w9.heap.size w9 wr)∧Hid (Own w9.heap.size 3 1 ienc wr ⟨vA,vc,vl⟩)∧Hid (vl=(is.take k).map (valO l xw))) (fun _ iv _=>is.length - (intOf iv).toNat)
      case atStart=>exact ⟨0,none,0,[],by omega,rfl,rfl,Lib.hid (Below.refl _ _),Lib.hid (Own.nil _ _ _ _ _),Lib.hid rfl⟩
      case round =>
        obtain ⟨k,vA,vc,vl,hk,rfl,rfl,HB,HO,HVL⟩:=hrel
        by_cases hlt : k<is.length
        · obtain ⟨i,hi⟩ : ∃ i,is[k]=i:=⟨_,rfl⟩
          have him : i ∈ is:=by rw [← hi]; exact List.getElem_mem hlt
          obtain ⟨y,q,hy1,hy2,hy3⟩:=HBI.out i him
          have hi4:=HB4.out i him
          have hnl : vl ++ [valO l xw i]=(is.take (k+1)).map (valO l xw):=by rw [List.take_add_one,List.getElem?_eq_getElem hlt,hi,HVL.out]; simp
          have hvl : vl.length≤4:=by rw [HVL.out,List.length_map,List.length_take]; omega
          have hlk : k<(intL is).length:=by rw [intL_len]; exact hlt
          obtain ⟨b1,o1,hA1,hb1,hc1⟩:=HO9.out.at1 hlk
          have hii : (intL is)[k]=(i : Int):=by simp only [intL,List.getElem_map,hi]
          rw [hii] at hc1
          have hc1:=(hc1.keep (HB.out.block b1 hb1)) 0 _ rfl
          simp only [Nat.mul_one,Nat.add_zero] at hc1
          obtain ⟨hil,hyl⟩:=List.getElem?_eq_some_iff.1 hy1
          obtain ⟨b2,o2,hA2,hb2,hc2⟩:=HL.out.rd.at1 hil
          rw [hyl] at hc2
          have hc2:=(hc2.keep ((HB9.out.trans (HB.out.mono HB9.out.size)).block b2 hb2)) 3 _ rfl
          have hyo:=(HL.out.all y (by rw [← hyl]; exact List.getElem_mem hil)).o
          obtain ⟨hql,hqv⟩:=List.getElem?_eq_some_iff.1 hy3
          obtain ⟨b3,o3,hA3,hb3,hc3⟩:=hyo.at1 hql
          rw [hqv] at hc3
          have hc3:=(hc3.keep ((HB9.out.trans (HB.out.mono HB9.out.size)).block b3 hb3)) 0 _ rfl
          simp only [Nat.mul_one,Nat.add_zero] at hc3
          have hc4:=(HX9.out.later HB.out).cell (3+i)
          have he4:=enc_gw (⟨xi,xe,xw⟩ : AN) (k:=i) (by omega)
          rw [List.getElem?_toArray,he4] at hc4
          simp only [gw,hy2] at hc4
          generalize valO l xw i=v at *
          have hy2l : y.o.l.length≤2:=H2.out y (by rw [← hyl]; exact List.getElem_mem hil)
          obtain ⟨ym,yn,yv,⟨yA,yc,yl⟩⟩:=y
          simp only at hy2l hA1 hA2 hA3 hql
          subst hA1 hA2 hA3
          have HNL2:=Lib.hid hnl
          clear hnl hii hi him hyl hqv hyo he4 hy1 hy2 hy3
          have hk8 : (k : Int)<(is.length : Int):=by omega
          have hi8 : (i : Int)<8:=by omega
          have hil8 : (i : Int)<(l.length : Int):=by omega
          have hql8 : (q : Int)<(yl.length : Int):=by omega
          have hwq : IntKind.i64.wrap (q : Int)=(q : Int):=by rw [IntKind.wrap_i64]; omega
          have hc4' : wr.cell? ⟨w7.heap.size,3+i,none⟩=some (.int .i64 ((q : Int)+1)):=hc4
          go_wp2_with fail
          refine wp_region_T (fun W=>(W.cell? ⟨b2,o2+i * 4+3,none⟩=some (.slice (some ⟨b3,o3,none⟩) yl.length yc)∧W.cell? ⟨w7.heap.size,3+i,none⟩=some (.int .i64 ((q : Int)+1))∧W.cell? ⟨b3,o3+q,none⟩=some (.int .i64 v))) (fun _=>false) (by kernel_rfl) ⟨hc2,hc4',hc3⟩ (fun hHeld=>?_)
          refine qtq 0 ?_
          simp only [qsa,qsb,qsc]
          refine qtq 1 ?_
          simp only [qsa,qsb,qsc]
          refine qtq 2 ?_
          simp only [qsa,qsb,qsc]
          refine qtq 3 ?_
          simp only [qsa,qsb,qsc]
          refine qtq 4 ?_
          simp only [qsa,qsb,qsc]
          refine qtq 5 ?_
          simp only [qsa,qsb,qsc]
          refine qtq 6 ?_
          simp only [qsa,qsb,qsc]
          refine qtq 7 ?_
          simp only [qsa,qsb,qsc]
          refine qtq 8 ?_
          simp only [qsa,qsb,qsc]
          refine qtq 9 ?_
          simp only [qsa,qsb,qsc]
          clear hHeld
          refine qtq 10 ?_
          simp only [qsa,qsb,qsc]
          refine qtq 11 ?_
          simp only [qsa,qsb,qsc]
          refine qtq 12 ?_
          simp only [qsa,qsb,qsc]
          refine wpAnyT_next (i:=13) (by kernel_rfl) rfl ?_
          go_wp2_with fail
          have hba : Below wr.heap.size wr ((wr.alloc (.cells #[.int .i64 v] 3)).drew):=((Below.refl _ _).alloc (Nat.le_refl _) _).drew
          have HB2:=Lib.hid (HB.out.trans (hba.mono HB.out.size))
          have HO2:=Lib.hid (HO.out.below hba)
          have hg2 : Blk ((wr.alloc (.cells #[.int .i64 v] 3)).drew) wr.heap.size 3 #[.int .i64 v]:=Blk.new wr 3 _
          have HG2:=Lib.hid hg2
          replace hc2:=keep_cell hba hc2
          replace hc4':=keep_cell hba hc4'
          replace hc3:=keep_cell hba hc3
          have K2 : Hid (b2<wr.heap.size∧b3<wr.heap.size∧w7.heap.size<w9.heap.size):=Lib.hid ⟨by have:=HB9.out.size; have:=HB.out.size; omega,by have:=HB9.out.size; have:=HB.out.size; omega,HX9.out.lt⟩
          have KB : Hid (b2<w9.heap.size∧b3<w9.heap.size):=Lib.hid ⟨by have:=HB9.out.size; omega,by have:=HB9.out.size; omega⟩
          clear hba hg2 HB HO hc4
          go_wp2_with fail
          refine And.intro (by first | exact fun _=>⟨hc2,hc4',hc3⟩ | exact ⟨hc2,hc4',hc3⟩) ?_
          refine wpAnyT_next (i:=14) (by kernel_rfl) rfl ?_
          generalize ((wr.alloc (.cells #[.int .i64 v] 3)).drew)=w10 at *
          refine wpl_append_sl _ rfl (.tmp 57) (.tmp 70) _ rfl Tryz.underlying37 infoInt (by omega) ienc_k ienc_one ⟨vA,vc,vl⟩ ⟨some ⟨wr.heap.size,0,none⟩,1,[v]⟩ rfl rfl HO2.out (rd_ints HG2.out) (by simp [maxLen]; omega) (by simp; omega) HB2.out.size ?_
          intro A1 c1 w11 hown hg hAA
          have hge:=fun j hj=>own_geI HO2.out j hj
          have hnr : ∀ X,X<w9.heap.size→some X≠(Value.slice vA vl.length vc).ownBlock:=fun X hX e=>by have:=hge X e.symm; omega
          have HB3':=Lib.hid (HB2.out.grown hg HB2.out.size hge)
          have HO3:=Lib.hid hown
          replace hc2:=grown_cell hg hc2 (hnr _ KB.out.1)
          replace hc4':=grown_cell hg hc4' (hnr _ K2.out.2.2)
          replace hc3:=grown_cell hg hc3 (hnr _ KB.out.2)
          simp only [List.length_append,List.length_cons,List.length_nil,Nat.zero_add] at HO3 ⊢
          clear hown hg hAA hge hnr HB2 HO2 HG2
          go_wp2_with fail
          refine And.intro (by first | exact fun _=>⟨hc2,hc4',hc3⟩ | exact ⟨hc2,hc4',hc3⟩) ?_
          refine wpAnyT_next (i:=15) (by kernel_rfl) rfl ?_
          go_wp2_with fail
          refine And.intro (by first | exact fun _=>⟨hc2,hc4',hc3⟩ | exact ⟨hc2,hc4',hc3⟩) ?_
          refine wpAnyT_done (by kernel_rfl) ?_ _
          clear hc2 hc4' hc3 hc1
          go_wp2_with fail
          go_roundw
          case rel=>exact ⟨k+1,A1,c1,vl ++ [v],by omega,by simp,by go_num,HB3',HO3,HNL2⟩
          case measure=>simp [intOf]; omega
        · have hkl : k=is.length:=by omega
          have HVE : Hid (vl=is.map (valO l xw)):=Lib.hid (by rw [HVL.out,hkl,List.take_length])
          have HX10:=Lib.hid (HX9.out.later HB.out)
          have hx2:=HX10.out.cell 2
          simp only [AN.enc,List.getElem?_toArray,List.getElem?_cons_zero,List.getElem?_cons_succ] at hx2
          have HBW:=Lib.hid (HB9.out.trans (HB.out.mono HB9.out.size))
          clear hkl HVL
          go_wp2_with fail
          refine (why_list hm16 wr (HT.out.later HBW.out)).mono ?_
          unfold ListP
          rw [HBL.out]
          rintro r w12 ⟨hb12,A8,c8,rfl,hown8⟩
          have hpost : OthP w w12 (othR l (othW ns F)) (.returned (.tuple #[.slice A8 (intL is).length c8,.slice vA vl.length vc,.int .i64 0])):=by
            rw [HOE.out]
            show OthP w w12 (chV l xw) _
            rw [HPO.out]
            refine ⟨HBW.out.trans (hb12.mono HBW.out.size),A8,c8,vA,vc,by rw [HVE.out],hown8.mono HBW.out.size, ?_⟩
            rw [← HVE.out]
            exact (HO.out.below hb12).mono HB9.out.size
          have HPS:=Lib.hid hpost
          clear hpost hown8 hb12
          go_wp2_with fail
          try simp only [Exit.inBlock,Exit.then]
          refine bodyPost_ret (v:=.tuple #[.slice A8 (intL is).length c8,.slice vA vl.length vc,.int .i64 0]) ?_ rfl HPS.out
          simp [results,Tryz.results15,go_sem,]
  · go_wp2_with fail
    try simp only [Exit.inBlock,Exit.then]
    refine bodyPost_ret (v:=.tuple #[.slice none 0 0,.slice none 0 0,.int .i64 her]) ?_ rfl ⟨HB2.out,none,0,none,0,rfl,Own.nil _ _ _ _ _,Own.nil _ _ _ _ _⟩
    simp [results,Tryz.results15,go_sem,]
end Go.Proofs.YtmomlipmpgcheaaGreatDoor
