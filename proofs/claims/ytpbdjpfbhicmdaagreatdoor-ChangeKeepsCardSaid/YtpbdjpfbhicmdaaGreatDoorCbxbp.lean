/- Cases in memory; walk of change.Breaks. -/
import Derived.Test.YtpbdjpfbhicmdaaGreatDoorCbxbm
import Derived.Test.YtpbdjpfbhicmdaaGreatDoorCbxbo
import Derived.Test.YtpbdjpfbhicmdaaGreatDoorCbxax
set_option linter.unusedSimpArgs false
set_option linter.unusedVariables false
set_option maxRecDepth 100000
set_option maxHeartbeats 6400000
namespace Go.Proofs.YtpbdjpfbhicmdaaGreatDoor
open Go.RowKit
structure CS where
  T : Sl FT
  M : Sl FT
  f : Int
def CS.enc (x : CS) : List Value:=[.slice x.T.A x.T.l.length x.T.c,.slice x.M.A x.M.l.length x.M.c,.int .i64 x.f]
theorem CS.enc_k (x : CS) : x.enc.length=3:=rfl
theorem CS.enc_one (x : CS) : ∀ u ∈ x.enc,u.oneCell'=true:=by
  intro u hu
  simp only [CS.enc,List.mem_cons,List.not_mem_nil,or_false] at hu
  rcases hu with rfl | rfl | rfl <;> rfl
structure CS.At (F : Nat→Prop) (w : World) (x : CS) : Prop where
  T : FactsAt F w x.T
  M : FactsAt F w x.M
structure CasesAt (F : Nat→Prop) (w : World) (s : Sl CS) : Prop where
  rd : Rd F 3 CS.enc w s
  all : ∀ x,x ∈ s.l→CS.At F w x
theorem CS.At.later {w w' : World} {x : CS} (h : CS.At (· < w.heap.size) w x) (hb : Below w.heap.size w w') : CS.At (· < w'.heap.size) w' x:=⟨h.T.later hb,h.M.later hb⟩
theorem CasesAt.later {w w' : World} {s : Sl CS} (h : CasesAt (· < w.heap.size) w s) (hb : Below w.heap.size w w') : CasesAt (· < w'.heap.size) w' s:=⟨h.rd.later hb,fun x hx=>(h.all x hx).later hb⟩
def keptC (b : Byl) (c : CS) : Bool:=decide ((admC b c.T.l c.M.l).2=0) && (decide ((whC b b.fa c.T.l c.M.l).2=0) && ((admC b c.T.l c.M.l).1 && decide ((whC b b.fa c.T.l c.M.l).1≤c.f)))
def brkL (b : Byl) : Nat→List CS→List Int
  | _,[]=>[]
  | i,c :: r=>if keptC b c=true then brkL b (i+1) r else (i : Int) :: brkL b (i+1) r
def BrkP (w w' : World) (l : List Int) (r : Ending) : Prop:=Below w.heap.size w w'∧∃ (A : Option Addr) (c : Nat),r = .returned (.slice A l.length c)∧Own w.heap.size 3 1 ienc w' ⟨A,c,l⟩
theorem ch_Breaks (b : Byl) (l : Sl CS) (w : World) (hb : Byl.At (· < w.heap.size) w b) (h40 : l.l≠[]→b.lets.l.length≤1000000) (hl : CasesAt (· < w.heap.size) w l) (hn : l.l.length≤1000000) :
    Calls Tryz.prog 18 #[b.v,.slice l.A l.l.length l.c] w fun r w'=>BrkP w w' (brkL b 0 l.l) r:=by
  have HP:=Lib.hid hb
  have HL:=Lib.hid hl
  have H40:=Lib.hid h40
  clear hb hl h40
  obtain ⟨A,c,l⟩:=l
  simp only at hn H40 ⊢
  obtain ⟨V,hV⟩ : ∃ V,brkL b 0 l=V:=⟨_,rfl⟩
  rw [hV]
  have HV:=Lib.hid hV
  clear hV
  have HVV : Hid (∃ cs,b.v = .agg cs∧cs.size=25):=Lib.hid (by obtain ⟨nm,ls,ea,eb,ec,ed,q,sh,ch⟩:=b; exact ⟨_,byl_v _ _ _ _ _ _ _ _ _,rfl⟩)
  obtain ⟨cs,hcs,hsz⟩:=HVV.out
  have HCS:=Lib.hid hcs
  rw [hcs]
  clear hcs HVV
  have HB0 : Hid (Below w.heap.size w (w.alloc (.cells cs 28))):=Lib.hid qbl
  have HX0 : Hid (Blk (w.alloc (.cells cs 28)) w.heap.size 28 cs):=Lib.hid (Blk.new _ _ _)
  go_enter Tryz.func18,Tryz.ntmps18
  go_wp2_with fail
  go_loopw [5,14] (fun o i wr=>∃ (k : Nat) (A : Option Addr) (c : Nat) (out : List Int),k≤l.length∧o = .slice A out.length c∧i = .int .i64 k∧Hid (Below w.heap.size w wr)∧Hid (Blk wr w.heap.size 28 cs)∧Hid (Own (w.heap.size+1) 3 1 ienc wr ⟨A,c,out⟩)∧Hid (V=out ++ brkL b k (l.drop k))∧Hid (out.length≤k)) (fun _ i _=>l.length - (intOf i).toNat)
  case atStart=>exact ⟨0,none,0,[],by omega,rfl,rfl,HB0,HX0,Lib.hid (Own.nil _ _ _ _ _),Lib.hid (by rw [List.drop_zero,HV.out]; rfl),Lib.hid (Nat.le_refl _)⟩
  case round =>
    obtain ⟨k,oA,oc,out,hk,rfl,rfl,HB,HX,HO,HG,HOL⟩:=hrel
    clear HB0 HX0
    by_cases hlt : k<l.length
    · obtain ⟨bb,oo,hA,hbb,hcl⟩:=HL.out.rd.at1 hlt
      simp only at hA hbb hcl
      have hcl2:=hcl.keep (HB.out.block bb hbb)
      have hat:=HL.out.all l[k] (List.getElem_mem hlt)
      have HL40:=Lib.hid (H40.out (fun e=>by rw [e] at hlt; simp at hlt))
      have hd : l.drop k=l[k] :: l.drop (k+1):=List.drop_eq_getElem_cons hlt
      have hgo:=HG.out
      rw [hd] at hgo
      have HGO:=Lib.hid hgo
      clear hcl hd hgo HG
      generalize l[k]=x at *
      have HAT:=Lib.hid hat
      obtain ⟨⟨TA,Tc,T⟩,⟨MA,Mc,M⟩,f⟩:=x
      obtain ⟨g0,g1,g2⟩:=Cells.c3 hcl2
      simp only at g0 g1 g2
      have hki : (k : Int)<(l.length : Int):=by omega
      clear hcl2 hat
      subst hA
      go_wp2_with (refine wpList_load_row rfl 28 (.tmp 2) rfl w.heap.size rfl 28 cs (0,0) _ (HX.out.alloc _) Tryz.underlying28 rfl (by rw [hsz]; kernel_rfl) ?_)
      have hbw : Below wr.heap.size wr (wr.alloc (.cells #[.slice TA T.length Tc,.slice MA M.length Mc,.int .i64 f] 60)):=(Below.refl _ _).alloc (Nat.le_refl _) _
      have HC1 : Hid (Blk (wr.alloc (.cells #[.slice TA T.length Tc,.slice MA M.length Mc,.int .i64 f] 60)) wr.heap.size 60 #[.slice TA T.length Tc,.slice MA M.length Mc,.int .i64 f]):=Lib.hid (Blk.new _ _ _)
      replace HB:=Lib.hid (HB.out.trans (hbw.mono HB.out.size))
      replace HX:=Lib.hid (HX.out.later hbw)
      replace HO:=Lib.hid (HO.out.below hbw)
      clear hbw g0 g1 g2
      generalize wr.alloc (.cells #[.slice TA T.length Tc,.slice MA M.length Mc,.int .i64 f] 60)=w1 at *
      generalize wr.heap.size=g7 at *
      have hk1:=fare_Admit b ⟨TA,Tc,T⟩ ⟨MA,Mc,M⟩ w1 (HP.out.later HB.out) HL40.out (HAT.out.T.later HB.out) (HAT.out.M.later HB.out)
      have hk2:=fun W (hW : Below w1.heap.size w1 W)=>fare_Fare b ⟨TA,Tc,T⟩ ⟨MA,Mc,M⟩ W ((HP.out.later HB.out).later hW) HL40.out ((HAT.out.T.later HB.out).later hW) ((HAT.out.M.later HB.out).later hW)
      simp only [HCS.out] at hk1 hk2
      have HKC : Hid (keptC b ⟨⟨TA,Tc,T⟩,⟨MA,Mc,M⟩,f⟩=(decide ((admC b T M).2=0) && (decide ((whC b b.fa T M).2=0) && ((admC b T M).1 && decide ((whC b b.fa T M).1≤f))))):=Lib.hid rfl
      obtain ⟨⟨ab,ae⟩,ha⟩ : ∃ x,admC b T M=x:=⟨_,rfl⟩
      obtain ⟨⟨n,fe⟩,hf⟩ : ∃ x,whC b b.fa T M=x:=⟨_,rfl⟩
      rw [ha,hf] at HKC
      simp only [ha] at hk1
      simp only [hf] at hk2
      have HK2:=Lib.hid hk2
      clear ha hf hk2
      refine hk1.mono ?_
      clear hk1
      rintro r w2 ⟨rfl,hb2⟩
      have hk2:=HK2.out w2 hb2
      replace HB:=Lib.hid (HB.out.trans (hb2.mono HB.out.size))
      replace HX:=Lib.hid (HX.out.later hb2)
      replace HO:=Lib.hid (HO.out.below hb2)
      replace HC1:=Lib.hid (HC1.out.later hb2)
      clear hb2 HK2
      obtain ⟨c0,c1,c2,cf,cz⟩:=HC1.out.b3
      go_wp2_with (refine wpList_load_row rfl 28 (.tmp 2) rfl w.heap.size rfl 28 cs (0,0) _ HX.out Tryz.underlying28 rfl (by rw [hsz]; kernel_rfl) ?_)
      refine hk2.mono ?_
      clear hk2 c0 c1 c2 cf cz
      rintro r w3 ⟨rfl,hb3⟩
      replace HB:=Lib.hid (HB.out.trans (hb3.mono HB.out.size))
      replace HX:=Lib.hid (HX.out.later hb3)
      replace HO:=Lib.hid (HO.out.below hb3)
      replace HC1:=Lib.hid (HC1.out.later hb3)
      clear hb3
      obtain ⟨c0,c1,c2,cf,cz⟩:=HC1.out.b3
      by_cases h1 : ae=0
      · have h1b : (ae != 0)=false:=by rw [h1]; rfl
        by_cases h2 : fe=0
        · have h2b : (fe != 0)=false:=by rw [h2]; rfl
          rcases ab with _ | _
          · have HKB : Hid (keptC b ⟨⟨TA,Tc,T⟩,⟨MA,Mc,M⟩,f⟩=false):=Lib.hid (by rw [HKC.out]; simp)
            clear h1 h2 HKC
            have hol:=HOL.out
            have hbs:=HB.out.size
            have hxl:=HX.out.lt
            have hro:=rd_one (x:=(k : Int)) (Blk.new w3 3 #[.int .i64 (k : Int)])
            go_wp2_with (at_builtin
                         go_must (refine wpl_append_sl _ rfl (.tmp 53) (.tmp 55) _ rfl Tryz.underlying40 infoInt (by omega) ienc_k ienc_one ⟨oA,oc,out⟩ ⟨some ⟨w3.heap.size,0,none⟩,1,[(k : Int)]⟩ rfl rfl (HO.out.alloc _) hro (by simp [maxLen]; omega) (by simp; omega) (by simp; omega) ?_)
                         intro A1 c1 w4 hown hg hAA)
            have hbz:=(HB.out.alloc HB.out.size (.cells #[.int .i64 (k : Int)] 3)).grown hg (by simp; omega) (fun m hm=>by have:=own_ge HO.out m hm; omega)
            have hxz : Blk w4 w.heap.size 28 cs:=(HX.out.alloc (.cells #[.int .i64 (k : Int)] 3)).grown hg (fun e=>by have:=own_ge HO.out w.heap.size e.symm; omega)
            have HB4:=Lib.hid hbz
            have HX4:=Lib.hid hxz
            have HO4:=Lib.hid hown
            clear hbz hxz hown hg hAA hro
            go_wp2_with fail
            go_roundw
            case rel=>exact ⟨k+1,A1,c1,out ++ [(k : Int)],by omega,by simp,by go_num,HB4,HX4,HO4,Lib.hid (by rw [HGO.out,brkL,if_neg (by rw [HKB.out]; decide)]; simp),Lib.hid (by simp; omega)⟩
            case measure=>simp [intOf]; omega
          · by_cases h3 : n≤f
            · have h3b : decide (f<n)=false:=decide_eq_false (by omega)
              have HKB : Hid (keptC b ⟨⟨TA,Tc,T⟩,⟨MA,Mc,M⟩,f⟩=true):=Lib.hid (by rw [HKC.out]; simp [h1,h2,h3])
              clear h1 h2 h3 HKC
              go_wp2_with fail
              go_roundw
              case rel=>exact ⟨k+1,oA,oc,out,by omega,rfl,by go_num,HB,HX,HO,Lib.hid (by rw [HGO.out,brkL,if_pos HKB.out]),Lib.hid (by have:=HOL.out; omega)⟩
              case measure=>simp [intOf]; omega
            · have h3b : decide (f<n)=true:=decide_eq_true (by omega)
              have HKB : Hid (keptC b ⟨⟨TA,Tc,T⟩,⟨MA,Mc,M⟩,f⟩=false):=Lib.hid (by rw [HKC.out]; simp [h3])
              clear h1 h2 h3 HKC
              have hol:=HOL.out
              have hbs:=HB.out.size
              have hxl:=HX.out.lt
              have hro:=rd_one (x:=(k : Int)) (Blk.new w3 3 #[.int .i64 (k : Int)])
              go_wp2_with (at_builtin
                           go_must (refine wpl_append_sl _ rfl (.tmp 53) (.tmp 55) _ rfl Tryz.underlying40 infoInt (by omega) ienc_k ienc_one ⟨oA,oc,out⟩ ⟨some ⟨w3.heap.size,0,none⟩,1,[(k : Int)]⟩ rfl rfl (HO.out.alloc _) hro (by simp [maxLen]; omega) (by simp; omega) (by simp; omega) ?_)
                           intro A1 c1 w4 hown hg hAA)
              have hbz:=(HB.out.alloc HB.out.size (.cells #[.int .i64 (k : Int)] 3)).grown hg (by simp; omega) (fun m hm=>by have:=own_ge HO.out m hm; omega)
              have hxz : Blk w4 w.heap.size 28 cs:=(HX.out.alloc (.cells #[.int .i64 (k : Int)] 3)).grown hg (fun e=>by have:=own_ge HO.out w.heap.size e.symm; omega)
              have HB4:=Lib.hid hbz
              have HX4:=Lib.hid hxz
              have HO4:=Lib.hid hown
              clear hbz hxz hown hg hAA hro
              go_wp2_with fail
              go_roundw
              case rel=>exact ⟨k+1,A1,c1,out ++ [(k : Int)],by omega,by simp,by go_num,HB4,HX4,HO4,Lib.hid (by rw [HGO.out,brkL,if_neg (by rw [HKB.out]; decide)]; simp),Lib.hid (by simp; omega)⟩
              case measure=>simp [intOf]; omega
        · have h2b : (fe != 0)=true:=bne_iff_ne.2 h2
          have HKB : Hid (keptC b ⟨⟨TA,Tc,T⟩,⟨MA,Mc,M⟩,f⟩=false):=Lib.hid (by rw [HKC.out]; simp [h2])
          clear h1 h2 HKC
          have hol:=HOL.out
          have hbs:=HB.out.size
          have hxl:=HX.out.lt
          have hro:=rd_one (x:=(k : Int)) (Blk.new w3 3 #[.int .i64 (k : Int)])
          go_wp2_with (at_builtin
                       go_must (refine wpl_append_sl _ rfl (.tmp 53) (.tmp 55) _ rfl Tryz.underlying40 infoInt (by omega) ienc_k ienc_one ⟨oA,oc,out⟩ ⟨some ⟨w3.heap.size,0,none⟩,1,[(k : Int)]⟩ rfl rfl (HO.out.alloc _) hro (by simp [maxLen]; omega) (by simp; omega) (by simp; omega) ?_)
                       intro A1 c1 w4 hown hg hAA)
          have hbz:=(HB.out.alloc HB.out.size (.cells #[.int .i64 (k : Int)] 3)).grown hg (by simp; omega) (fun m hm=>by have:=own_ge HO.out m hm; omega)
          have hxz : Blk w4 w.heap.size 28 cs:=(HX.out.alloc (.cells #[.int .i64 (k : Int)] 3)).grown hg (fun e=>by have:=own_ge HO.out w.heap.size e.symm; omega)
          have HB4:=Lib.hid hbz
          have HX4:=Lib.hid hxz
          have HO4:=Lib.hid hown
          clear hbz hxz hown hg hAA hro
          go_wp2_with fail
          go_roundw
          case rel=>exact ⟨k+1,A1,c1,out ++ [(k : Int)],by omega,by simp,by go_num,HB4,HX4,HO4,Lib.hid (by rw [HGO.out,brkL,if_neg (by rw [HKB.out]; decide)]; simp),Lib.hid (by simp; omega)⟩
          case measure=>simp [intOf]; omega
      · have h1b : (ae != 0)=true:=bne_iff_ne.2 h1
        have HKB : Hid (keptC b ⟨⟨TA,Tc,T⟩,⟨MA,Mc,M⟩,f⟩=false):=Lib.hid (by rw [HKC.out]; simp [h1])
        clear h1 HKC
        have hol:=HOL.out
        have hbs:=HB.out.size
        have hxl:=HX.out.lt
        have hro:=rd_one (x:=(k : Int)) (Blk.new w3 3 #[.int .i64 (k : Int)])
        go_wp2_with (at_builtin
                     go_must (refine wpl_append_sl _ rfl (.tmp 53) (.tmp 55) _ rfl Tryz.underlying40 infoInt (by omega) ienc_k ienc_one ⟨oA,oc,out⟩ ⟨some ⟨w3.heap.size,0,none⟩,1,[(k : Int)]⟩ rfl rfl (HO.out.alloc _) hro (by simp [maxLen]; omega) (by simp; omega) (by simp; omega) ?_)
                     intro A1 c1 w4 hown hg hAA)
        have hbz:=(HB.out.alloc HB.out.size (.cells #[.int .i64 (k : Int)] 3)).grown hg (by simp; omega) (fun m hm=>by have:=own_ge HO.out m hm; omega)
        have hxz : Blk w4 w.heap.size 28 cs:=(HX.out.alloc (.cells #[.int .i64 (k : Int)] 3)).grown hg (fun e=>by have:=own_ge HO.out w.heap.size e.symm; omega)
        have HB4:=Lib.hid hbz
        have HX4:=Lib.hid hxz
        have HO4:=Lib.hid hown
        clear hbz hxz hown hg hAA hro
        go_wp2_with fail
        go_roundw
        case rel=>exact ⟨k+1,A1,c1,out ++ [(k : Int)],by omega,by simp,by go_num,HB4,HX4,HO4,Lib.hid (by rw [HGO.out,brkL,if_neg (by rw [HKB.out]; decide)]; simp),Lib.hid (by simp; omega)⟩
        case measure=>simp [intOf]; omega
    · have hkl : k=l.length:=by omega
      have HFI : Hid (V=out):=Lib.hid (by rw [HG.out,List.drop_eq_nil_of_le (by omega)]; simp [brkL])
      have hki : ¬ (k : Int)<(l.length : Int):=by omega
      clear hkl HG
      go_wp2_with fail
      go_ret
      rw [HFI.out]
      exact ⟨HB.out,oA,oc,rfl,HO.out.mono (Nat.le_succ _)⟩
def AnyP (w w' : World) (r : Ending) : Prop:=∃ t,r = .returned (.bool t)∧Below w.heap.size w w'
def NodP (w w' : World) (m : Int) (r : Ending) : Prop:=∃ k : Int,r = .returned (.int .i64 k)∧1≤k∧k≤m+1∧Below w.heap.size w w'
def NodIH (d : Nat) : Prop:=∀ (e : PT) (m : Int) (W : World),0≤m→m≤60→PT.At (· < W.heap.size) W e→Calls Tryz.prog 71 #[e.v,.int .i64 m,.int .i64 d] W fun r w'=>NodP W w' m r
theorem nodes_deep : NodIH 0:=by
 rintro ⟨o,a,u,s,A,c,l⟩ m w h0 h1 he;simp only [PT.v];go_enter Tryz.func71,Tryz.ntmps71;go_wp2_with fail;go_ret;exact ⟨m+1,rfl,by omega,by omega,qbl⟩
theorem nodes_more (d : Nat) (hd : d≤15) (ih : NodIH d) : NodIH (d+1):=by
 rintro ⟨o,a,u,s,A,c,l⟩ m w h0 h1 he;have HE:=Zh he;have hsz:=he.str;have hln:=he.rd.len;simp only [PT.s,PT.a] at hsz hln;clear he;simp only [PT.v];(have hd0 : ((d+1 : Nat) : Int)=(d : Int)+1:=by omega);rw [hd0];clear hd0;by_cases hs : (40 : Int)<(s.size : Int)
 ·go_enter Tryz.func71,Tryz.ntmps71;go_wp2_with fail;go_ret;exact ⟨m+1,rfl,by omega,by omega,qbl⟩
 ·go_enter Tryz.func71,Tryz.ntmps71;go_wp2_with fail;have HB1 : Hid (Below w.heap.size w (w.alloc (.cells #[.int .i64 o,.int .i64 a,.int .i64 u,.string s,.slice A l.length c] 26))):=Zh qbl;have HX1:=Zh (Blk.new w 26 #[.int .i64 o,.int .i64 a,.int .i64 u,.string s,.slice A l.length c]);generalize w.alloc (.cells _ 26)=w1 at *;go_loopw [7,8] (fun n i wr=>∃ (j : Nat) (k : Int),j≤l.length∧i = .int .i64 j∧n = .int .i64 k∧1≤k∧k≤m+1∧Below w1.heap.size w1 wr) (fun _ i _=>l.length - (intOf i).toNat)
  case atStart=>exact ⟨0,1,by omega,rfl,rfl,by omega,by omega,Below.refl _ _⟩
  case round =>
   obtain ⟨j,k,hj,rfl,rfl,hk0,hk1,hbel⟩:=hrel;have HBR:=Zt HB1 hbel;have HXR:=Zh (HX1.out.later hbel);obtain ⟨a0,a1,a2,a3,a4,af,az⟩:=HXR.out.b5;by_cases hlt : j<l.length
   ·by_cases hkm : k≤m
    ·have hEW:=HE.out.later HBR.out;obtain ⟨b,q,hA,hbl,hcl⟩:=hEW.rd.at1 hlt;have HX:=Zh (hEW.all _ (List.getElem_mem hlt));simp only [PT.a] at hA hcl HX;clear hEW;generalize l[j]=x at *;obtain ⟨xo,xm,xu,xs,xA,xc,xl⟩:=x;obtain ⟨g0,g1,g2,g3,g4⟩:=Cells.c5 hcl;clear hcl;subst hA;have hcall:=ih ⟨xo,xm,xu,xs,xA,xc,xl⟩ (m - k) wr Zo Zo HX.out;simp only [PT.v] at hcall;go_wp2_with fail;refine hcall.mono ?_;clear hcall;rintro e w2 ⟨k2,rfl,hk20,hk21,hb2⟩;have HB2 : Hid (Below w1.heap.size w1 w2):=Zh (hbel.trans (hb2.mono hbel.size));clear hb2 g0 g1 g2 g3 g4 a0 a1 a2 a3 a4 af az;go_wp2_with fail;go_roundw
     case rel=>exact ⟨j+1,k+k2,by omega,by go_num,rfl,by omega,by omega,HB2.out⟩
     case measure=>simp [intOf]; omega
    ·go_wp2_with fail;go_ret;exact ⟨k,rfl,hk0,hk1,HBR.out⟩
   ·go_wp2_with fail;go_ret;exact ⟨k,rfl,hk0,hk1,HBR.out⟩
theorem nodes_any : ∀ d : Nat,d≤16→NodIH d
 | 0,_=>nodes_deep
 | d+1,h=>nodes_more d Zo (nodes_any d Zo)
theorem few_exp (e : PT) (w : World) (he : PT.At (· < w.heap.size) w e) : Calls Tryz.prog 45 #[e.v] w fun r w'=>AnyP w w' r:=by
 have hb : Below w.heap.size w (w.alloc (.cells e.enc.toArray 26)):=qbl;have hcall:=nodes_any 16 Zl e 60 _ Zo Zo (he.later hb);have HB:=Zh hb;clear hb he;obtain ⟨o,a,u,s,A,c,l⟩:=e;simp only [PT.v,PT.enc] at hcall HB ⊢;go_enter Tryz.func45,Tryz.ntmps45;go_wp2_with fail;refine hcall.mono ?_;clear hcall;rintro e w2 ⟨k,rfl,_,_,hb2⟩;have HB2:=Zt HB hb2;clear hb2;go_wp2_with fail;go_ret;exact ⟨_,rfl,HB2.out⟩
theorem few_names (l : Sl FT) (w : World) (hl : FactsAt (· < w.heap.size) w l) : Calls Tryz.prog 46 #[.slice l.A l.l.length l.c] w fun r w'=>AnyP w w' r:=by
 have hn:=hl.rd.len;have HR:=Zh hl;clear hl;obtain ⟨A,c,l⟩:=l;simp only at hn;simp only;go_enter Tryz.func46,Tryz.ntmps46;go_wp2_with fail;go_loopw [3] (fun i wr=>∃ (k : Nat),k≤l.length∧i = .int .i64 k∧Below w.heap.size w wr) (fun i _=>l.length - (intOf i).toNat)
 case atStart=>exact ⟨0,by omega,rfl,qbl⟩
 case round =>
  obtain ⟨k,hk,rfl,hbel⟩:=hrel;by_cases hlt : k<l.length
  ·obtain ⟨b,o,hA,hb,hcl⟩:=(HR.out.later hbel).rd.at1 hlt;have hsz:=HR.out.all _ (List.getElem_mem hlt);simp only at hA hcl hsz;subst hA;generalize l[k]=x at *;obtain ⟨xn,xv⟩:=x;obtain ⟨g0,g1⟩:=Cells.c2 hcl;simp only at hsz;clear hcl;by_cases h40 : (40 : Int)<(xn.size : Int)
   ·go_wp2_with fail;go_ret;exact ⟨_,rfl,hbel⟩
   ·go_wp2_with fail;go_roundw
    case rel=>exact ⟨k+1,by omega,by go_num,hbel⟩
    case measure=>simp [intOf]; omega
  ·go_wp2_with fail;go_ret;exact ⟨_,rfl,hbel⟩
def FewP (w w' : World) (P : Prop) (r : Ending) : Prop:=∃ t,r = .returned (.bool t)∧(t=true→P)∧Below w.heap.size w w'
theorem few32 (L : Sl LT) (T M : Sl FT) (w : World) (hL : LetsAt (· < w.heap.size) w L) (hT : FactsAt (· < w.heap.size) w T) (hM : FactsAt (· < w.heap.size) w M) : Calls Tryz.prog 27 #[.slice L.A L.l.length L.c,.slice T.A T.l.length T.c,.slice M.A M.l.length M.c] w fun r w'=>FewP w w' (L.l.length≤6∧T.l.length≤20∧M.l.length≤20) r:=by
 have hn:=hL.rd.len;have hnT:=hT.rd.len;have hnM:=hM.rd.len;have HL:=Zh hL;have HT:=Zh hT;have HM:=Zh hM;clear hL hT hM;obtain ⟨A,c,L⟩:=L;simp only at hn;simp only;by_cases h6 : (6 : Int)<(L.length : Int)
 ·go_enter Tryz.func27,Tryz.ntmps27;go_wp2_with fail;go_ret;exact ⟨false,rfl,by simp,Below.refl _ _⟩
 by_cases hT20 : (20 : Int)<(T.l.length : Int)
 ·go_enter Tryz.func27,Tryz.ntmps27;go_wp2_with fail;go_ret;exact ⟨false,rfl,by simp,Below.refl _ _⟩
 by_cases hM20 : (20 : Int)<(M.l.length : Int)
 ·go_enter Tryz.func27,Tryz.ntmps27;go_wp2_with fail;go_ret;exact ⟨false,rfl,by simp,Below.refl _ _⟩
 have HLE : Hid (L.length≤6∧T.l.length≤20∧M.l.length≤20):=Zh Zo;go_enter Tryz.func27,Tryz.ntmps27;go_wp2_with fail;go_loopw [7] (fun i wr=>∃ (k : Nat),k≤L.length∧i = .int .i64 k∧Below w.heap.size w wr) (fun i _=>L.length - (intOf i).toNat)
 case atStart=>exact ⟨0,by omega,rfl,qbl⟩
 case round =>
  obtain ⟨k,hk,rfl,hbel⟩:=hrel;have hhe : w.heap.size≤wr.heap.size:=hbel.size;by_cases hlt : k<L.length
  ·have hLW:=HL.out.later hbel;obtain ⟨b,o,hA,hb,hcl⟩:=hLW.rd.at1 hlt;have HX:=Zh (hLW.all _ (List.getElem_mem hlt));simp only at hA hcl HX;subst hA;clear hLW;generalize L[k]=x at *;obtain ⟨xn,xo,xm,xu,xs,xA,xc,xl⟩:=x;have hsz:=HX.out.nm;simp only at hsz;obtain ⟨g0,g1,g2,g3,g4,g5⟩:=Cells.c6 hcl;clear hcl;by_cases h40 : (40 : Int)<(xn.size : Int)
   ·go_wp2_with fail;go_ret;exact ⟨false,rfl,by simp,hbel⟩
   ·go_wp2_with fail;refine (few_exp ⟨xo,xm,xu,xs,xA,xc,xl⟩ wr HX.out.b).mono ?_;rintro e w2 ⟨t,rfl,hb2⟩;have HB2 : Hid (Below w.heap.size w w2):=Zh (hbel.trans (hb2.mono hhe));clear hb2 g0 g1 g2 g3 g4 g5;rcases t
    ·go_wp2_with fail;go_ret;exact ⟨false,rfl,by simp,HB2.out⟩
    ·go_wp2_with fail;go_roundw
     case rel=>exact ⟨k+1,by omega,by go_num,HB2.out⟩
     case measure=>simp [intOf]; omega
  ·go_wp2_with fail;refine (few_names T wr (HT.out.later hbel)).mono ?_;rintro e w2 ⟨t,rfl,hb2⟩;have HB2 : Hid (Below w.heap.size w w2):=Zh (hbel.trans (hb2.mono hhe));clear hb2;rcases t
   ·go_wp2_with fail;go_ret;exact ⟨false,rfl,by simp,HB2.out⟩
   ·go_wp2_with fail;refine (few_names M w2 (HM.out.later HB2.out)).mono ?_;rintro e w3 ⟨t,rfl,hb3⟩;have HB3:=Zt HB2 hb3;clear hb3;go_wp2_with fail;go_ret;exact ⟨t,rfl,fun _=>HLE.out,HB3.out⟩
theorem few30 (b : Byl) (w : World) (hb : Byl.At (· < w.heap.size) w b) : Calls Tryz.prog 28 #[b.v] w fun r w'=>AnyP w w' r:=by
 have HP:=Zh hb;have hsz:=hb.nm;have hn:=hb.lets.rd.len;clear hb;obtain ⟨nm,⟨LA,Lc,L⟩,⟨o,n,u,s,A,c,l⟩,⟨oB,nB,uB,sB,AB,cB,lB⟩,⟨oC,nC,uC,sC,AC,cC,lC⟩,⟨oD,nD,uD,sD,AD,cD,lD⟩,q,sh,ch⟩:=b;simp only at hsz hn;simp only [Byl.v];have HB : Hid (Below w.heap.size w (w.alloc (.cells #[.string nm,.slice LA L.length Lc,.int .i64 o,.int .i64 n,.int .i64 u,.string s,.slice A l.length c,.int .i64 oB,.int .i64 nB,.int .i64 uB,.string sB,.slice AB lB.length cB,.int .i64 oC,.int .i64 nC,.int .i64 uC,.string sC,.slice AC lC.length cC,.int .i64 oD,.int .i64 nD,.int .i64 uD,.string sD,.slice AD lD.length cD,.int .i64 q,.int .i64 sh,.int .i64 ch] 28))):=Zh qbl;have HA:=Zh (Blk.new w 28 #[.string nm,.slice LA L.length Lc,.int .i64 o,.int .i64 n,.int .i64 u,.string s,.slice A l.length c,.int .i64 oB,.int .i64 nB,.int .i64 uB,.string sB,.slice AB lB.length cB,.int .i64 oC,.int .i64 nC,.int .i64 uC,.string sC,.slice AC lC.length cC,.int .i64 oD,.int .i64 nD,.int .i64 uD,.string sD,.slice AD lD.length cD,.int .i64 q,.int .i64 sh,.int .i64 ch]);by_cases h22 : (22 : Int)<(L.length : Int)
 ·go_enter Tryz.func28,Tryz.ntmps28;go_wp2_with fail;go_ret;exact ⟨false,rfl,HB.out⟩
 by_cases h40 : (40 : Int)<(nm.size : Int)
 ·go_enter Tryz.func28,Tryz.ntmps28;go_wp2_with fail;go_ret;exact ⟨false,rfl,HB.out⟩
 go_enter Tryz.func28,Tryz.ntmps28;go_wp2_with fail;generalize w.alloc (.cells _ 28)=w1 at *;refine (few_exp ⟨o,n,u,s,A,c,l⟩ _ (HP.out.ad.later HB.out)).mono ?_;rintro e w2 ⟨t,rfl,hb2⟩;have HB2:=Zt HB hb2;have HA2:=Zh (HA.out.later hb2);clear hb2 HA HB;rcases t
 ·go_wp2_with fail;go_ret;exact ⟨false,rfl,HB2.out⟩
 obtain ⟨y0,y1,y2,y3,y4,y5,y6,y7,y8,y9,y10,y11,y12,y13,y14,y15,y16,y17,y18,y19,y20,y21,y22,y23,y24,yf,yz⟩:=HA2.out.b25;clear y0 y2 y3 y4 y5 y6 y12 y13 y14 y15 y16 y17 y18 y19 y20 y21 y22 y23 y24;go_wp2_with fail;refine (few_exp ⟨oB,nB,uB,sB,AB,cB,lB⟩ _ (HP.out.fa.later HB2.out)).mono ?_;rintro e w3 ⟨t,rfl,hb3⟩;have HB3:=Zt HB2 hb3;have HA3:=Zh (HA2.out.later hb3);clear hb3 HA2 HB2 y1 y7 y8 y9 y10 y11 yf yz;rcases t
 ·go_wp2_with fail;go_ret;exact ⟨false,rfl,HB3.out⟩
 obtain ⟨y0,y1,y2,y3,y4,y5,y6,y7,y8,y9,y10,y11,y12,y13,y14,y15,y16,y17,y18,y19,y20,y21,y22,y23,y24,yf,yz⟩:=HA3.out.b25;clear y0 y2 y3 y4 y5 y6 y7 y8 y9 y10 y11 y17 y18 y19 y20 y21 y22 y23 y24;go_wp2_with fail;refine (few_exp ⟨oC,nC,uC,sC,AC,cC,lC⟩ _ (HP.out.la.later HB3.out)).mono ?_;rintro e w4 ⟨t,rfl,hb4⟩;have HB4:=Zt HB3 hb4;have HA4:=Zh (HA3.out.later hb4);clear hb4 HA3 HB3 y1 y12 y13 y14 y15 y16 yf yz;rcases t
 ·go_wp2_with fail;go_ret;exact ⟨false,rfl,HB4.out⟩
 obtain ⟨y0,y1,y2,y3,y4,y5,y6,y7,y8,y9,y10,y11,y12,y13,y14,y15,y16,y17,y18,y19,y20,y21,y22,y23,y24,yf,yz⟩:=HA4.out.b25;clear y0 y2 y3 y4 y5 y6 y7 y8 y9 y10 y11 y12 y13 y14 y15 y16 y22 y23 y24;go_wp2_with fail;refine (few_exp ⟨oD,nD,uD,sD,AD,cD,lD⟩ _ (HP.out.no.later HB4.out)).mono ?_;rintro e w5 ⟨t,rfl,hb5⟩;have HB5:=Zt HB4 hb5;have HA5:=Zh (HA4.out.later hb5);clear hb5 HA4 HB4 y1 y17 y18 y19 y20 y21 yf yz;rcases t
 ·go_wp2_with fail;go_ret;exact ⟨false,rfl,HB5.out⟩
 go_wp2_with fail;go_loopw [3] (fun i wr=>∃ (k : Nat),k≤L.length∧i = .int .i64 k∧Below w5.heap.size w5 wr) (fun i _=>L.length - (intOf i).toNat)
 case atStart=>exact ⟨0,by omega,rfl,Below.refl _ _⟩
 case round =>
  obtain ⟨k,hk,rfl,hbel⟩:=hrel;have HBR:=Zt HB5 hbel;have HAR:=Zh (HA5.out.later hbel);have y1:=HAR.out.cell 1;have yz:=HAR.out.lt;by_cases hlt : k<L.length
  ·have hLW:=HP.out.lets.later HBR.out;obtain ⟨b,p,hA,hb,hcl⟩:=hLW.rd.at1 hlt;have HX:=Zh (hLW.all _ (List.getElem_mem hlt));simp only at hA hcl HX;subst hA;clear hLW;generalize L[k]=x at *;obtain ⟨xn,xo,xm,xu,xs,xA,xc,xl⟩:=x;have hsx:=HX.out.nm;simp only at hsx;obtain ⟨g0,g1,g2,g3,g4,g5⟩:=Cells.c6 hcl;clear hcl;by_cases hx40 : (40 : Int)<(xn.size : Int)
   ·go_wp2_with fail;go_ret;exact ⟨false,rfl,HBR.out⟩
   ·go_wp2_with fail;refine (few_exp ⟨xo,xm,xu,xs,xA,xc,xl⟩ wr HX.out.b).mono ?_;rintro e w6 ⟨t,rfl,hb6⟩;have HB6 : Hid (Below w5.heap.size w5 w6):=Zh (hbel.trans (hb6.mono hbel.size));clear hb6 g0 g1 g2 g3 g4 g5 y1 yz;rcases t
    ·go_wp2_with fail;go_ret;exact ⟨false,rfl,HB5.out.trans (HB6.out.mono HB5.out.size)⟩
    ·go_wp2_with fail;go_roundw
     case rel=>exact ⟨k+1,by omega,by go_num,HB6.out⟩
     case measure=>simp [intOf]; omega
  ·go_wp2_with fail;go_ret;exact ⟨true,rfl,HBR.out⟩
end Go.Proofs.YtpbdjpfbhicmdaaGreatDoor
