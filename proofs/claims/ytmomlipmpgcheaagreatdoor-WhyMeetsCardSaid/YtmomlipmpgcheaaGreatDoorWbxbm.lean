/- Walk: slices.MinFunc of answers. -/
import Derived.Test.YtmomlipmpgcheaaGreatDoorWbxbl
set_option linter.unusedSimpArgs false
set_option linter.unusedVariables false
set_option maxRecDepth 100000
set_option maxHeartbeats 6400000
namespace Go.Proofs.YtmomlipmpgcheaaGreatDoor
open Go.RowKit
def ltA (ns : List Nat) (x y : AN) : Bool:=ltW ns x.w y.w
theorem row_belowW {W : World} {B g : Nat} {cs : Array Value} (h : B≤g) : Below B W (W.setRow g cs):=⟨rfl,rfl,rfl,by simp [World.setRow],fun k hk=>setRow_other _ _ k _ (by omega)⟩
theorem minF_take {α : Type} {lt : α→α→Bool} : ∀ (l : List α) (m : α) {k : Nat} {x : α},l[k]? = some x→minF lt m (l.take (k+1))=if lt x (minF lt m (l.take k))=true then x else minF lt m (l.take k)
  | [],m,k,x,h=>by simp at h
  | y :: r,m,0,x,h=>by
    simp only [List.getElem?_cons_zero,Option.some.injEq] at h
    subst h
    simp [minF]
  | y :: r,m,k+1,x,h=>by
    rw [List.take_succ_cons,List.take_succ_cons,minF,minF]
    exact minF_take r _ (by simpa using h)
theorem min_an (ns : List Nat) (h4 : ns.length≤4) (s : Sl AN) (m : AN) (r : List AN) (hs : s.l=m :: r) (hlen : r.length≤1000) (w : World) (ht : TabW w) (hr : Rd (· < w.heap.size) 11 AN.enc w s) (hv : ∀ x,x ∈ s.l→ValW ns x.w) :
    Calls Tryz.prog 41 #[.slice s.A s.l.length s.c,.func (.func 42) #[] #[]] w fun e w'=>e = .returned (minF (ltA ns) m r).v∧Below w.heap.size w w':=by
  have HT:=Lib.hid ht
  have HR:=Lib.hid hr
  have hv':=hv
  rw [hs] at hv'
  have HV:=Lib.hid hv'
  obtain ⟨A,c,l⟩:=s
  simp only at hs
  have HS:=Lib.hid hs
  have hl : l.length=r.length+1:=by rw [hs]; rfl
  clear ht hr hv hv' hs
  simp only
  have h0l : 0<l.length:=by omega
  obtain ⟨bb,oo,hA,hbb,hcl⟩:=HR.out.at1 h0l
  simp only at hA hcl
  subst hA
  have hm : l[0]=m:=by have h:=HS.out; subst h; rfl
  rw [hm,Nat.zero_mul,Nat.add_zero] at hcl
  clear hm
  have hzl : ¬ ((l.length : Int)<1):=by omega
  have hz8 : (0 : Int)<(l.length : Int):=by omega
  obtain ⟨M,hM⟩ : ∃ M,minF (ltA ns) m r=M:=⟨_,rfl⟩
  rw [hM]
  have HM:=Lib.hid hM
  have HVM:=Lib.hid (HV.out m (by simp))
  clear hM
  have hl1 : l.length≤1001:=by omega
  have HLN:=Lib.hid hl
  clear hl
  go_enter Tryz.func41,Tryz.ntmps41
  have hcl2:=hcl
  obtain ⟨mi,me,mw⟩:=m
  obtain ⟨h0,h1,h2',h3,h4',h5,h6,h7,h8,h9,h10⟩:=Cells.c11 hcl
  clear hcl hcl2
  go_wp2_with fail
  have HB : Hid (Below w.heap.size w ((w.alloc (.cells #[.bool false,.int .i64 0,.int .i64 0,.int .i64 0,.int .i64 0,.int .i64 0,.int .i64 0,.int .i64 0,.int .i64 0,.int .i64 0,.int .i64 0] 64)).alloc (.cells #[.bool mi,.int .i64 me,.int .i64 (maskW mw : Nat),.int .i64 (gw mw 0),.int .i64 (gw mw 1),.int .i64 (gw mw 2),.int .i64 (gw mw 3),.int .i64 (gw mw 4),.int .i64 (gw mw 5),.int .i64 (gw mw 6),.int .i64 (gw mw 7)] 64))):=Lib.hid (qbl)
  have HZ : Hid (Blk ((w.alloc (.cells #[.bool false,.int .i64 0,.int .i64 0,.int .i64 0,.int .i64 0,.int .i64 0,.int .i64 0,.int .i64 0,.int .i64 0,.int .i64 0,.int .i64 0] 64)).alloc (.cells #[.bool mi,.int .i64 me,.int .i64 (maskW mw : Nat),.int .i64 (gw mw 0),.int .i64 (gw mw 1),.int .i64 (gw mw 2),.int .i64 (gw mw 3),.int .i64 (gw mw 4),.int .i64 (gw mw 5),.int .i64 (gw mw 6),.int .i64 (gw mw 7)] 64)) w.heap.size 64 #[.bool false,.int .i64 0,.int .i64 0,.int .i64 0,.int .i64 0,.int .i64 0,.int .i64 0,.int .i64 0,.int .i64 0,.int .i64 0,.int .i64 0]):=Lib.hid ((Blk.new _ _ _).alloc _)
  have HX : Hid (Blk ((w.alloc (.cells #[.bool false,.int .i64 0,.int .i64 0,.int .i64 0,.int .i64 0,.int .i64 0,.int .i64 0,.int .i64 0,.int .i64 0,.int .i64 0,.int .i64 0] 64)).alloc (.cells #[.bool mi,.int .i64 me,.int .i64 (maskW mw : Nat),.int .i64 (gw mw 0),.int .i64 (gw mw 1),.int .i64 (gw mw 2),.int .i64 (gw mw 3),.int .i64 (gw mw 4),.int .i64 (gw mw 5),.int .i64 (gw mw 6),.int .i64 (gw mw 7)] 64)) (w.heap.size+1) 64 (⟨mi,me,mw⟩ : AN).enc.toArray):=Lib.hid (Blk.new' (by simp))
  generalize ((w.alloc (.cells #[.bool false,.int .i64 0,.int .i64 0,.int .i64 0,.int .i64 0,.int .i64 0,.int .i64 0,.int .i64 0,.int .i64 0,.int .i64 0,.int .i64 0] 64)).alloc (.cells #[.bool mi,.int .i64 me,.int .i64 (maskW mw : Nat),.int .i64 (gw mw 0),.int .i64 (gw mw 1),.int .i64 (gw mw 2),.int .i64 (gw mw 3),.int .i64 (gw mw 4),.int .i64 (gw mw 5),.int .i64 (gw mw 6),.int .i64 (gw mw 7)] 64))=w2 at *
  clear h0 h1 h2' h3 h4' h5 h6 h7 h8 h9 h10
  go_loopw [6] (fun iv wr=>∃ (i : Nat) (b : AN),1≤i∧i≤l.length∧iv = .int .i64 i∧Hid (Below w.heap.size w wr)∧Hid (Blk wr w.heap.size 64 #[.bool false,.int .i64 0,.int .i64 0,.int .i64 0,.int .i64 0,.int .i64 0,.int .i64 0,.int .i64 0,.int .i64 0,.int .i64 0,.int .i64 0])∧Hid (Blk wr (w.heap.size+1) 64 b.enc.toArray)∧Hid (b=minF (ltA ns) ⟨mi,me,mw⟩ (r.take (i - 1)))) (fun iv _=>l.length - (intOf iv).toNat)
  case atStart=>exact ⟨1,⟨mi,me,mw⟩,by omega,by omega,rfl,HB,HZ,HX,Lib.hid rfl⟩
  case round =>
    clear HB HZ HX
    obtain ⟨i,b,hi1,hil,rfl,HB,HZ,HX,HG⟩:=hrel
    by_cases hlt : i<l.length
    · obtain ⟨b2,o2,hA,hb2,hcl⟩:=HR.out.at1 hlt
      simp only at hA
      injection hA with hA
      injection hA with hA1 hA2
      subst hA1 hA2
      have hli : r[i - 1]? = some l[i]:=by
        have h:=List.getElem?_eq_getElem hlt
        rw [← h,HS.out]
        obtain ⟨j,rfl⟩ : ∃ j,i=j+1:=⟨i - 1,by omega⟩
        rfl
      have hmt:=minF_take (lt:=ltA ns) r ⟨mi,me,mw⟩ hli
      rw [show i - 1+1=i by omega,← HG.out] at hmt
      have hvx:=HV.out l[i] (List.mem_cons_of_mem _ (List.mem_of_getElem? hli))
      have hvb:=HV.out b (by rw [HG.out]; exact (List.mem_cons.1 (minF_mem (lt:=ltA ns) (r.take (i - 1)) ⟨mi,me,mw⟩)).elim (fun h=>by rw [h]; simp) (fun h=>List.mem_cons_of_mem _ (List.mem_of_mem_take h)))
      have hcl2:=hcl.keep (HB.out.block _ hb2)
      simp only at hcl2
      generalize l[i]=x at *
      obtain ⟨xi,xe,xw⟩:=x
      obtain ⟨bi,be,bw⟩:=b
      have HCL:=Lib.hid hcl2
      have HMT:=Lib.hid hmt
      have m16:=pow_16 h4
      have mx:=maskW_lt xw
      have mb:=maskW_lt bw
      have hxl:=hvx.1
      have hbl:=hvb.1
      simp only at hxl hbl
      rw [hxl] at mx
      rw [hbl] at mb
      have hcm : cmpA xw bw<0↔ltA ns ⟨xi,xe,xw⟩ ⟨bi,be,bw⟩=true:=cmpA_lt hvx hvb h4
      have hca:=fun W (hW : Below w.heap.size w W)=>why_Oth2 ⟨xi,xe,xw⟩ ⟨bi,be,bw⟩ W (HT.out.later hW) (show maskW xw<16 by omega) (show maskW bw<16 by omega)
      simp only [AN.v] at hca
      have HCA:=Lib.hid hca
      generalize cmpA xw bw=q at *
      have HCM:=Lib.hid hcm
      clear hca hcm mx mb hxl hbl hvx hvb hcl hcl2 hmt hli m16
      have hx0:=HX.out
      simp only [AN.enc] at hx0
      obtain ⟨y0,y1,y2,y3,y4,y5,y6,y7,y8,y9,y10, -⟩:=Blk.b11 hx0
      clear hx0
      have hil8 : (i : Int)<(l.length : Int):=by omega
      go_wp2_with fail
      refine wp_region_T (fun W=>((W.cell? ⟨bb,oo+i * 11,none⟩=some (.bool xi)∧W.cell? ⟨bb,oo+i * 11+1,none⟩=some (.int .i64 xe)∧W.cell? ⟨bb,oo+i * 11+2,none⟩=some (.int .i64 (maskW xw : Nat))∧W.cell? ⟨bb,oo+i * 11+3,none⟩=some (.int .i64 (gw xw 0))∧W.cell? ⟨bb,oo+i * 11+4,none⟩=some (.int .i64 (gw xw 1))∧W.cell? ⟨bb,oo+i * 11+5,none⟩=some (.int .i64 (gw xw 2))∧W.cell? ⟨bb,oo+i * 11+6,none⟩=some (.int .i64 (gw xw 3))∧W.cell? ⟨bb,oo+i * 11+7,none⟩=some (.int .i64 (gw xw 4))∧W.cell? ⟨bb,oo+i * 11+8,none⟩=some (.int .i64 (gw xw 5))∧W.cell? ⟨bb,oo+i * 11+9,none⟩=some (.int .i64 (gw xw 6))∧W.cell? ⟨bb,oo+i * 11+10,none⟩=some (.int .i64 (gw xw 7)))∧(W.cell? ⟨w.heap.size+1,0,none⟩=some (.bool bi)∧W.cell? ⟨w.heap.size+1,1,none⟩=some (.int .i64 be)∧W.cell? ⟨w.heap.size+1,2,none⟩=some (.int .i64 (maskW bw : Nat))∧W.cell? ⟨w.heap.size+1,3,none⟩=some (.int .i64 (gw bw 0))∧W.cell? ⟨w.heap.size+1,4,none⟩=some (.int .i64 (gw bw 1))∧W.cell? ⟨w.heap.size+1,5,none⟩=some (.int .i64 (gw bw 2))∧W.cell? ⟨w.heap.size+1,6,none⟩=some (.int .i64 (gw bw 3))∧W.cell? ⟨w.heap.size+1,7,none⟩=some (.int .i64 (gw bw 4))∧W.cell? ⟨w.heap.size+1,8,none⟩=some (.int .i64 (gw bw 5))∧W.cell? ⟨w.heap.size+1,9,none⟩=some (.int .i64 (gw bw 6))∧W.cell? ⟨w.heap.size+1,10,none⟩=some (.int .i64 (gw bw 7))))) (fun _=>false) (by kernel_rfl) ⟨Cells.c11 (w:=wr.drew) HCL.out,y0,y1,y2,y3,y4,y5,y6,y7,y8,y9,y10⟩ (fun hHeld=>?_)
      refine qtq 0 ?_
      simp only [qsa,qsb,qsc]
      refine qtq 1 ?_
      simp only [qsa,qsb,qsc]
      refine qtq 2 ?_
      simp only [qsa,qsb,qsc]
      refine qtq 3 ?_
      simp only [qsa,qsb,qsc]
      refine qtq 4 ?_
      simp only [qsa,qsb,qsc]
      refine qtq 5 ?_
      simp only [qsa,qsb,qsc]
      clear hHeld
      refine wpAnyT_next (i:=6) (by kernel_rfl) rfl ?_
      go_wp2_with fail
      refine (HCA.out _ HB.out.drew).mono ?_
      clear HCA y0 y1 y2 y3 y4 y5 y6 y7 y8 y9 y10
      rintro e w3 ⟨rfl,hb3⟩
      have hcl3:=HCL.out.keep (hb3.block bb (Nat.lt_of_lt_of_le hbb HB.out.size))
      have HB3:=Lib.hid (HB.out.drew.trans (hb3.mono HB.out.size))
      have HX3:=Lib.hid (HX.out.drew.later hb3)
      have HZ3:=Lib.hid (HZ.out.drew.later hb3)
      have HCL3:=Lib.hid hcl3
      clear hb3 hcl3 HX HB HZ HCL
      have hx0:=HX3.out
      simp only [AN.enc] at hx0
      obtain ⟨y0,y1,y2,y3,y4,y5,y6,y7,y8,y9,y10, -⟩:=Blk.b11 hx0
      obtain ⟨x0,x1,x2,x3,x4,x5,x6,x7,x8,x9,x10⟩:=Cells.c11 HCL3.out
      clear hx0
      go_wp2_with fail
      refine And.intro (by first | exact fun _=>⟨⟨x0,x1,x2,x3,x4,x5,x6,x7,x8,x9,x10⟩,y0,y1,y2,y3,y4,y5,y6,y7,y8,y9,y10⟩ | exact ⟨⟨x0,x1,x2,x3,x4,x5,x6,x7,x8,x9,x10⟩,y0,y1,y2,y3,y4,y5,y6,y7,y8,y9,y10⟩) ?_
      have hHeld:=And.intro (And.intro x0 (And.intro x1 (And.intro x2 (And.intro x3 (And.intro x4 (And.intro x5 (And.intro x6 (And.intro x7 (And.intro x8 (And.intro x9 x10)))))))))) (And.intro y0 (And.intro y1 (And.intro y2 (And.intro y3 (And.intro y4 (And.intro y5 (And.intro y6 (And.intro y7 (And.intro y8 (And.intro y9 y10))))))))))
      by_cases hq : q<0
      · have hlt2:=HCM.out.1 hq
        have HG2 : Hid (⟨xi,xe,xw⟩=minF (ltA ns) ⟨mi,me,mw⟩ (r.take (i+1 - 1))):=Lib.hid (by rw [Nat.add_sub_cancel,HMT.out,if_pos hlt2])
        refine wpAnyT_take2 (i:=7) (v:=.bool true) rfl rfl (by kernel_rfl) (by kernel_rfl) (by kernel_rfl) (by kernel_rfl) (fun _ _ _ h=>h) (Or.inl ⟨by rfl, ?_⟩) (by first | assumption | trivial) ?_
        · (intro w hSw; (try dsimp only at hSw); go_simp) <;> (first | (with_reducible rfl) | assumption | (simp; done) | (simp [*]; done) | (simp; omega))
        simp only [qsa,qsb,qsc]
        refine wpAnyT_done (by kernel_rfl) ?_ _
        clear hHeld hlt2 y0 y1 y2 y3 y4 y5 y6 y7 y8 y9 y10
        have hone : (⟨xi,xe,xw⟩ : AN).enc.toArray.all (·.oneCell')=true:=all_oneCell_toArray (AN.enc_one _)
        have hinf : (Tryz.prog.info? 64).map (·.size)=some (⟨xi,xe,xw⟩ : AN).enc.toArray.size:=by kernel_rfl
        have hold : (⟨bi,be,bw⟩ : AN).enc.toArray.size=(⟨xi,xe,xw⟩ : AN).enc.toArray.size:=rfl
        simp only [AN.enc] at hone hinf hold
        have HON:=Lib.hid hone
        have HIN:=Lib.hid hinf
        have HOL:=Lib.hid hold
        clear hone hinf hold
        go_wp2_with (refine wpList_store_row rfl 64 (.tmp 5) (.tmp 31) rfl (w.heap.size+1) #[.bool xi,.int .i64 xe,.int .i64 (maskW xw : Nat),.int .i64 (gw xw 0),.int .i64 (gw xw 1),.int .i64 (gw xw 2),.int .i64 (gw xw 3),.int .i64 (gw xw 4),.int .i64 (gw xw 5),.int .i64 (gw xw 6),.int .i64 (gw xw 7)] rfl rfl 64 _ HX3.out HIN.out HOL.out HON.out ?_; apply Hid.out)
        have hr:=setRow_heap w3 (w.heap.size+1) (⟨bi,be,bw⟩ : AN).enc.toArray (⟨xi,xe,xw⟩ : AN).enc.toArray 64 (0,0) HX3.out
        have HX4 : Hid (Blk (w3.setRow (w.heap.size+1) (⟨xi,xe,xw⟩ : AN).enc.toArray) (w.heap.size+1) 64 (⟨xi,xe,xw⟩ : AN).enc.toArray):=Lib.hid hr
        have hbr : Below (w.heap.size+1) w3 (w3.setRow (w.heap.size+1) (⟨xi,xe,xw⟩ : AN).enc.toArray):=row_belowW (Nat.le_refl _)
        have HB4:=Lib.hid (HB3.out.trans (hbr.mono (Nat.le_succ _)))
        have HZ4:=Lib.hid (HZ3.out.below hbr (Nat.lt_succ_self _))
        clear hr hbr x0 x1 x2 x3 x4 x5 x6 x7 x8 x9 x10 HON HIN HOL HX3 HB3 HZ3
        simp only [AN.enc] at HX4 HB4 HZ4
        generalize (w3.setRow (w.heap.size+1) _)=w4 at *
        refine Lib.hid ?_
        go_wp2_with fail
        go_roundw
        case rel=>exact ⟨i+1,⟨xi,xe,xw⟩,by omega,by omega,by go_num,HB4,HZ4,HX4,HG2⟩
        case measure=>simp [intOf]; omega
      · have hlt2 : ltA ns ⟨xi,xe,xw⟩ ⟨bi,be,bw⟩=false:=by
          rcases h : ltA ns ⟨xi,xe,xw⟩ ⟨bi,be,bw⟩ with _ | _
          · rfl
          · exact absurd (HCM.out.2 h) hq
        have HG2 : Hid (⟨bi,be,bw⟩=minF (ltA ns) ⟨mi,me,mw⟩ (r.take (i+1 - 1))):=Lib.hid (by rw [Nat.add_sub_cancel,HMT.out,hlt2]; rfl)
        refine wpAnyT_take2 (i:=7) (v:=.bool false) rfl rfl (by kernel_rfl) (by kernel_rfl) (by kernel_rfl) (by kernel_rfl) (fun _ _ _ h=>h) (Or.inl ⟨by rfl, ?_⟩) (by first | assumption | trivial) ?_
        · (intro w hSw; (try dsimp only at hSw); go_simp) <;> (first | (with_reducible rfl) | assumption | (simp; done) | (simp [*]; done) | (simp; omega))
        simp only [qsa,qsb,qsc]
        refine wpAnyT_done (by kernel_rfl) ?_ _
        clear hHeld hlt2 y0 y1 y2 y3 y4 y5 y6 y7 y8 y9 y10 x0 x1 x2 x3 x4 x5 x6 x7 x8 x9 x10
        go_wp2_with fail
        go_roundw
        case rel=>exact ⟨i+1,⟨bi,be,bw⟩,by omega,by omega,by go_num,HB3,HZ3,HX3,HG2⟩
        case measure=>simp [intOf]; omega
    · have hil2 : i=l.length:=by omega
      have HBM : Hid (b=M):=Lib.hid (by rw [← HM.out,HG.out,hil2,HLN.out,Nat.add_sub_cancel,List.take_length])
      clear hil2 HG
      obtain ⟨bi,be,bw⟩:=b
      have hone : (⟨bi,be,bw⟩ : AN).enc.toArray.all (·.oneCell')=true:=all_oneCell_toArray (AN.enc_one _)
      have hinf : (Tryz.prog.info? 64).map (·.size)=some (⟨bi,be,bw⟩ : AN).enc.toArray.size:=by kernel_rfl
      simp only [AN.enc] at hone hinf HX
      have HON:=Lib.hid hone
      have HIN:=Lib.hid hinf
      clear hone hinf
      go_wp2_with (first
        | (refine wpList_load_row rfl 64 (.tmp 5) rfl (w.heap.size+1) rfl 64 #[.bool bi,.int .i64 be,.int .i64 (maskW bw : Nat),.int .i64 (gw bw 0),.int .i64 (gw bw 1),.int .i64 (gw bw 2),.int .i64 (gw bw 3),.int .i64 (gw bw 4),.int .i64 (gw bw 5),.int .i64 (gw bw 6),.int .i64 (gw bw 7)] (0,0) _ HX.out Tryz.underlying64 rfl (by kernel_rfl) ?_)
        | (refine wpList_store_row rfl 64 (.tmp 4) (.tmp 32) rfl w.heap.size #[.bool bi,.int .i64 be,.int .i64 (maskW bw : Nat),.int .i64 (gw bw 0),.int .i64 (gw bw 1),.int .i64 (gw bw 2),.int .i64 (gw bw 3),.int .i64 (gw bw 4),.int .i64 (gw bw 5),.int .i64 (gw bw 6),.int .i64 (gw bw 7)] rfl rfl 64 _ HZ.out HIN.out rfl HON.out ?_; apply Hid.out))
      have hr:=setRow_heap wr w.heap.size #[.bool false,.int .i64 0,.int .i64 0,.int .i64 0,.int .i64 0,.int .i64 0,.int .i64 0,.int .i64 0,.int .i64 0,.int .i64 0,.int .i64 0] (⟨bi,be,bw⟩ : AN).enc.toArray 64 (0,0) HZ.out
      have HZ4 : Hid (Blk (wr.setRow w.heap.size (⟨bi,be,bw⟩ : AN).enc.toArray) w.heap.size 64 (⟨bi,be,bw⟩ : AN).enc.toArray):=Lib.hid hr
      have hbr : Below w.heap.size wr (wr.setRow w.heap.size (⟨bi,be,bw⟩ : AN).enc.toArray):=row_belowW (Nat.le_refl _)
      have HB4:=Lib.hid (HB.out.trans hbr)
      clear hr hbr HON HIN HX HB HZ
      simp only [AN.enc] at HB4 HZ4
      generalize (wr.setRow w.heap.size _)=w4 at *
      refine Lib.hid ?_
      go_wp2_with fail
      refine bodyPost_ret (results_cell_row rfl _ _ w.heap.size 64 #[.bool bi,.int .i64 be,.int .i64 (maskW bw : Nat),.int .i64 (gw bw 0),.int .i64 (gw bw 1),.int .i64 (gw bw 2),.int .i64 (gw bw 3),.int .i64 (gw bw 4),.int .i64 (gw bw 5),.int .i64 (gw bw 6),.int .i64 (gw bw 7)] (0,0) _ rfl HZ4.out Tryz.underlying64 rfl (by kernel_rfl)) rfl ?_
      exact ⟨by rw [← HBM.out]; rfl,HB4.out⟩
def mkA (F : List Nat→Bool × Int) (x : List Nat) : AN:=⟨(F x).1,(F x).2,x⟩
theorem ansN_mk (F : List Nat→Bool × Int) (ws : List (List Nat)) : ansN F ws=ws.map (mkA F):=rfl
theorem sameW_eq {ns w : List Nat} (hw : ValW ns w) (h4 : ns.length≤4) (h : sameW w (zW ns)=true) : w=zW ns:=by
  refine zeros_of hw fun i=>?_
  by_cases hi : i<8
  · have h1:=List.all_eq_true.1 h i (List.mem_range.2 hi)
    rw [beq_iff_eq] at h1
    unfold gw at h1
    have h2 : (zW ns).getD i 0=0:=by
      unfold zW
      rw [List.getD_eq_getElem?_getD,List.getElem?_replicate]
      split <;> rfl
    rw [h2] at h1
    omega
  · rw [List.getD_eq_getElem?_getD,List.getElem?_eq_none (by rw [hw.1]; omega)]
    rfl
theorem othP_to {ns : List Nat} {F : List Nat→Bool × Int} {w : List Nat} (hw : ValW ns w) (h4 : ns.length≤4) : (!othP (zW ns) (F (zW ns)).1 (mkA F w))=toB ns F w:=by
  unfold othP toB mkA
  simp only
  rcases hs : sameW w (zW ns) with _ | _
  · rcases h1 : (F w).2 == 0 with _ | _
    · have : ((F w).2 != 0)=true:=by rw [bne,h1]; rfl
      simp [this]
    · have : ((F w).2 != 0)=false:=by rw [bne,h1]; rfl
      simp [this,bne]
      exact fun _=>beq_iff_eq.1 h1
  · have he:=sameW_eq hw h4 hs
    rw [he]
    simp
theorem filter_oth {ns : List Nat} (F : List Nat→Bool × Int) (h4 : ns.length≤4) : (ansN F (enumW ns)).filter (fun x=>!othP (zW ns) (F (zW ns)).1 x)=(othL ns F).map (mkA F):=by
  rw [ansN_mk,List.filter_map]
  unfold othL
  congr 1
  refine List.filter_congr fun w hw=>?_
  exact othP_to ((mem_enumW _ _).1 hw) h4
theorem minF_mk (ns : List Nat) (F : List Nat→Bool × Int) : ∀ (l : List (List Nat)) (m : List Nat),minF (ltA ns) (mkA F m) (l.map (mkA F))=mkA F (minF (ltW ns) m l)
  | [],_=>rfl
  | x :: r,m=>by
    rw [List.map_cons,minF,minF]
    have h : ltA ns (mkA F x) (mkA F m)=ltW ns x m:=rfl
    rw [h]
    split
    · exact minF_mk ns F r x
    · exact minF_mk ns F r m
def valO (l : List TH) (x : List Nat) (i : Nat) : Int:=match l[i]? with
  | some y=>y.o.l.getD (x.getD i 0 - 1) 0
  | none=>0
def chV (l : List TH) (x : List Nat) : List Nat × List Int × Int:=(bitL l.length (maskW x),(bitL l.length (maskW x)).map (valO l x),0)
def othR (l : List TH) : Option (List Nat)→List Nat × List Int × Int
  | none=>([],[],4)
  | some x=>chV l x
def OthV (L : List LT) (e : PT) (l : List TH) : List Nat × List Int × Int:=if (HolV L e l).2≠0 then ([],[],(HolV L e l).2) else othR l (othW (nsT l) (ansW L e l))
def OthP (w w' : World) (v : List Nat × List Int × Int) (r : Ending) : Prop:=Below w.heap.size w w'∧∃ (A : Option Addr) (c : Nat) (B : Option Addr) (d : Nat),r = .returned (.tuple #[.slice A (intL v.1).length c,.slice B v.2.1.length d,.int .i64 v.2.2])∧Own w.heap.size 3 1 ienc w' ⟨A,c,intL v.1⟩∧Own w.heap.size 3 1 ienc w' ⟨B,d,v.2.1⟩
theorem oth_ix {ns x : List Nat} {l : List TH} (hl : ns=nsT l) (hx : ValW ns x) {i : Nat} (hi : i ∈ bitL l.length (maskW x)) : ∃ (y : TH) (q : Nat),l[i]? = some y∧x.getD i 0=q+1∧y.o.l[q]? = some (valO l x i):=by
  obtain ⟨h1,h2⟩:=mem_bitL.1 hi
  rw [maskW_bit,decide_eq_true_iff] at h2
  have hn : ns[i]? = some (l[i].o.l.length):=by rw [hl]; unfold nsT; rw [List.getElem?_map,List.getElem?_eq_getElem h1]; rfl
  have hxl : i<x.length:=by rw [hx.1,hl]; unfold nsT; rw [List.length_map]; exact h1
  have hg : x.getD i 0=x[i]:=by rw [List.getD_eq_getElem?_getD,List.getElem?_eq_getElem hxl]; rfl
  have hle:=hx.2 i _ _ (List.getElem?_eq_getElem hxl) hn
  rw [hg] at h2
  refine ⟨l[i],x[i] - 1,List.getElem?_eq_getElem h1,by rw [hg]; omega, ?_⟩
  unfold valO
  rw [List.getElem?_eq_getElem h1]
  simp only [hg]
  rw [List.getD_eq_getElem?_getD,List.getElem?_eq_getElem (by omega)]
  rfl
end Go.Proofs.YtmomlipmpgcheaaGreatDoor
