/- Walk of why.Right. -/
import Derived.Test.YtmomlipmpgcheaaGreatDoorWbxbg
set_option linter.unusedSimpArgs false
set_option linter.unusedVariables false
set_option maxRecDepth 100000
set_option maxHeartbeats 6400000
namespace Go.Proofs.YtmomlipmpgcheaaGreatDoor
open Go.RowKit
def okT (x : TH) : Bool:=nameB x.nm && (!wideB (x.v :: x.o.l) && decide (x.v :: x.o.l).Nodup)
def rightT : List TH→List TH→Bool
  | _,[]=>true
  | pre,x :: r=>(okT x && !pre.any (sameT x)) && rightT (pre ++ [x]) r
theorem why_Right (l : Sl TH) (w : World) (hl : ThsAt (· < w.heap.size) w l) (h4 : l.l.length≤4) (h2 : ∀ x,x ∈ l.l→x.o.l.length≤2) :
    Calls Tryz.prog 18 #[.slice l.A l.l.length l.c] w fun r w'=>r = .returned (.bool (rightT [] l.l))∧Below w.heap.size w w':=by
  have HL:=Lib.hid hl
  have H2:=Lib.hid h2
  clear hl h2
  obtain ⟨A,c,l⟩:=l
  simp only at h4 H2 ⊢
  obtain ⟨V,hV⟩ : ∃ V,rightT [] l=V:=⟨_,rfl⟩
  rw [hV]
  have HV:=Lib.hid hV
  clear hV
  have h8 : (l.length : Int)≤8:=by omega
  go_enter Tryz.func18,Tryz.ntmps18
  go_wp2_with fail
  go_loopw [3,14] (fun o i wr=>∃ (k n : Nat),k≤l.length∧o = .int .i64 n∧i = .int .i64 k∧1≤n∧n≤3 ^ k∧Below w.heap.size w wr∧Hid (V=rightT (l.take k) (l.drop k))) (fun _ i _=>l.length - (intOf i).toNat)
  case atStart=>exact ⟨0,1,by omega,rfl,rfl,by omega,by simp,qbl,Lib.hid HV.out.symm⟩
  case round =>
    obtain ⟨k,n,hk,rfl,rfl,hn1,hn3,hbel,HG⟩:=hrel
    by_cases hlt : k<l.length
    · obtain ⟨bb,oo,hA,hbb,hcl⟩:=HL.out.rd.at1 hlt
      simp only at hA hbb hcl
      have hcl2:=hcl.keep (hbel.block bb hbb)
      have hat:=HL.out.all l[k] (List.getElem_mem hlt)
      have h2:=H2.out l[k] (List.getElem_mem hlt)
      have hd : l.drop k=l[k] :: l.drop (k+1):=List.drop_eq_getElem_cons hlt
      have hgo:=HG.out
      have ht : l.take (k+1)=l.take k ++ [l[k]]:=by rw [List.take_add_one,List.getElem?_eq_getElem hlt]; rfl
      rw [hd,rightT,← ht] at hgo
      have HGO:=Lib.hid hgo
      have hpre:=(HL.out.later hbel).rd.takeN k
      simp only at hpre
      have HPRE:=Lib.hid hpre
      clear hcl hd hgo HG hpre ht
      generalize l[k]=x at *
      have hat0:=hat.later hbel
      obtain ⟨xm,xn,xv,xA,xc,xl⟩:=x
      obtain ⟨g0,g1,g2,g3⟩:=Cells.c4 hcl2
      simp only at g0 g1 g2 g3 h2
      clear hcl2 hat
      subst hA
      have hxn:=hat0.nm
      have HXO:=Lib.hid hat0.o
      have hxo:=hat0.o.len
      clear hat0
      simp only at hxn hxo
      have hk8 : (k : Int)<(l.length : Int):=by omega
      have HBX : Hid (Below w.heap.size w (wr.alloc (.cells #[.bool xm,.string xn,.int .i64 xv,.slice xA xl.length xc] 61))):=Lib.hid (hbel.alloc hbel.size _)
      have HX : Hid (Blk (wr.alloc (.cells #[.bool xm,.string xn,.int .i64 xv,.slice xA xl.length xc] 61)) wr.heap.size 61 #[.bool xm,.string xn,.int .i64 xv,.slice xA xl.length xc]):=Lib.hid (Blk.new _ _ _)
      have HXS : Hid ((wr.alloc (.cells #[.bool xm,.string xn,.int .i64 xv,.slice xA xl.length xc] 61)).heap.size=wr.heap.size+1):=Lib.hid (by simp)
      have hrx : Rd (· < wr.heap.size) 1 ienc wr ⟨xA,xc,xl⟩:=HXO.out
      have hrx1:=(hrx.lt_alloc (.cells #[.bool xm,.string xn,.int .i64 xv,.slice xA xl.length xc] 61)).lt_alloc (.cells #[.int .i64 xv] 3)
      have hown0 : Own (wr.heap.size+1) 3 1 ienc ((wr.alloc (.cells #[.bool xm,.string xn,.int .i64 xv,.slice xA xl.length xc] 61)).alloc (.cells #[.int .i64 xv] 3)) ⟨some ⟨wr.heap.size+1,0,none⟩,1,[xv]⟩:=by simpa using Own.lit (e:=3) (base:=wr.heap.size+1) (wr.alloc (.cells #[.bool xm,.string xn,.int .i64 xv,.slice xA xl.length xc] 61)) #[.int .i64 xv] [xv] (by simp) (by simp [maxLen]) rfl ienc_k
      have HW1 : Below wr.heap.size wr ((wr.alloc (.cells #[.bool xm,.string xn,.int .i64 xv,.slice xA xl.length xc] 61)).alloc (.cells #[.int .i64 xv] 3)):=by exact ((Below.refl _ _).alloc (Nat.le_refl _) _).alloc (by simp) _
      go_wp2_with (at_builtin
                   go_must (refine wpl_append_sl _ rfl (.tmp 21) (.tmp 23) _ rfl Tryz.underlying37 infoInt (by omega) ienc_k ienc_one ⟨some ⟨wr.heap.size+1,0,none⟩,1,[xv]⟩ ⟨xA,xc,xl⟩ rfl rfl hown0 hrx1 (by simp [maxLen]; omega) (by simp; omega) (by simp) ?_)
                   intro A1 c1 w1 hown hg hAA)
      have HB1 : Hid (Below w.heap.size w w1):=Lib.hid ((HBX.out.alloc (by have:=hbel.size; simp; omega) (.cells #[.int .i64 xv] 3)).grown hg (by have:=hbel.size; simp; omega) (fun j hj=>by have:=hbel.size; simp [Value.ownBlock] at hj; omega))
      have HX1 : Hid (Blk w1 wr.heap.size 61 #[.bool xm,.string xn,.int .i64 xv,.slice xA xl.length xc]):=Lib.hid ((HX.out.alloc (.cells #[.int .i64 xv] 3)).grown hg (fun e=>by simp [Value.ownBlock] at e))
      have HPRE1:=Lib.hid (HPRE.out.keep (fun b hb=>(HW1.grown hg (Nat.le_trans (Nat.le_succ _) (by simp)) (fun j hj=>by simp [Value.ownBlock] at hj; omega)).block b hb))
      obtain ⟨z,hz⟩ : ∃ z,xv :: xl=z:=⟨_,rfl⟩
      have hown1 : Own (wr.heap.size+1) 3 1 ienc w1 ⟨A1,c1,z⟩:=hz ▸ hown
      have hzl : xl.length+1=z.length:=by rw [← hz]; rfl
      have hz3 : z.length≤3:=by omega
      have hz1 : 1≤z.length:=by omega
      have HZ:=Lib.hid hz
      have hg5 : w1.heap.size ≥ wr.heap.size+1:=HX1.out.lt
      rcases hown1.form with ⟨_,_,h0⟩ | ⟨gv,hA1,hgv,hgv2,_,_⟩
      · simp only at h0; rw [h0] at hz1; simp at hz1
      simp only at hA1
      subst hA1
      rw [hzl]
      have HZL:=Lib.hid hzl
      clear hg hAA hown hown0 hrx1 hrx HW1 hz hzl HBX HX HXS HPRE
      refine (sort_own (wr.heap.size+1) gv c1 z w1 hown1 (by omega) hg5).mono ?_
      clear hown1
      rintro e w2 ⟨rfl,hown2,hb2⟩
      obtain ⟨t,ht,htp,htl,htn,htw⟩:=sort3 z hz1 hz3
      rw [ht] at hown2
      rw [← htl]
      have HB2 : Hid (Below w.heap.size w w2):=Lib.hid (HB1.out.trans (hb2.mono (by have:=hbel.size; omega)))
      have HX2:=Lib.hid (HX1.out.below hb2 (Nat.lt_succ_self _))
      have HO2:=Lib.hid hown2
      have hpre2:=(HPRE1.out.keep (fun b hb=>hb2.block b (Nat.lt_succ_of_lt hb))).mono (G:=(· < w2.heap.size)) (fun b hb=>by have:=HX2.out.lt; omega)
      have htk : (l.take k).length=k:=by rw [List.length_take]; omega
      have hcon:=hasT_1 ⟨some ⟨bb,oo,none⟩,c,l.take k⟩ (sameT ⟨xm,xn,xv,⟨xA,xc,xl⟩⟩) wr.heap.size w2 hpre2 (fun W y hy hW=>why_Right1 y ⟨xm,xn,xv,⟨xA,xc,xl⟩⟩ wr.heap.size W (HX2.out.later hW))
      simp only [htk] at hcon
      obtain ⟨tw,htw1⟩ : ∃ b,(l.take k).any (sameT ⟨xm,xn,xv,⟨xA,xc,xl⟩⟩)=b:=⟨_,rfl⟩
      obtain ⟨nb,hnb⟩ : ∃ b,nameB xn=b:=⟨_,rfl⟩
      rw [htw1] at hcon
      have HCON:=Lib.hid hcon
      have HTW:=Lib.hid htw1
      have HNB:=Lib.hid hnb
      have HTW0:=Lib.hid htw
      have HTN:=Lib.hid htn
      have hcs:=(hown2.rd ienc_k)
      have hcc : (k : Int)≤(c : Int):=by have:=HL.out.rd.lecap; simp only at this; omega
      have hlc:=HL.out.rd.cap
      simp only at hlc
      have HTL:=Lib.hid htl
      clear htl htk hcon htw1 hnb hown2 hb2 hpre2 HPRE1 HX1 HB1 htw htn ht
      rcases t with _ | ⟨a,_ | ⟨b,_ | ⟨d,_ | ⟨d2,tt⟩⟩⟩⟩
      · have h0:=HTL.out; simp at h0; omega
      · obtain ⟨_,_,hA,_,c0⟩:=hcs.geti (i:=0) (by simp)
        injection hA with hA
        injection hA with hA1 hA2
        subst hA1 hA2
        simp only [Nat.zero_add,List.getElem_cons_zero,List.getElem_cons_succ] at c0
        have hxl : xl.length=0:=by have h0:=HTL.out; have h1:=HZL.out; simp at h0; omega
        rw [hxl] at HX2 ⊢
        have hw1:=wide_1 a
        obtain ⟨m,hm⟩ : ∃ m,(Lib.compact [a]).length=m:=⟨_,rfl⟩
        have hcmp:=fun W hO hB=>compact_own (wr.heap.size+1) gv c1 [a] W hO (by simp) hB
        simp only [hm] at hcmp
        have HCMP:=Lib.hid hcmp
        have HDD:=Lib.hid (nod_1 HTN.out hm)
        have hn27 : n≤27:=Nat.le_trans hn3 (Nat.pow_le_pow_right (by omega : 0<3) (by omega : k≤3))
        clear hcmp hm htp
        by_cases h1 : a < -1000000000000000
        · have HWZ : Hid (wideB z=true):=Lib.hid (by rw [← HTW0.out,hw1,decide_eq_true h1]; rfl)
          clear hw1 hcs
          have HOK : Hid ((okT ⟨xm,xn,xv,⟨xA,xc,xl⟩⟩ && !(l.take k).any (sameT ⟨xm,xn,xv,⟨xA,xc,xl⟩⟩))=(nb && (!true && decide z.Nodup) && !tw)):=Lib.hid (by unfold okT; simp only [HZ.out,HTW.out,HWZ.out,HNB.out])
          go_wp2_with fail
          refine HCON.out.mono ?_
          rintro e w3 ⟨rfl,hb3⟩
          have HB3 : Hid (Below w.heap.size w w3):=Lib.hid (HB2.out.trans (hb3.mono HB2.out.size))
          have HX3:=Lib.hid (HX2.out.later hb3)
          have HO3:=Lib.hid (HO2.out.below hb3)
          clear hb3 HCON
          obtain ⟨x0,x1,x2,x3,xf,xz⟩:=Blk.b4 HX3.out
          go_wp2_with fail
          refine wp_region_T (fun W=>True) (fun _=>false) (by kernel_rfl) trivial (fun hHeld=>?_)
          refine qtq 0 ?_
          simp only [qsa,qsb,qsc]
          refine qtq 1 ?_
          simp only [qsa,qsb,qsc]
          clear hHeld
          refine qtn 2 ?_
          simp only [qsa,qsb,qsc]
          refine qtq 3 ?_
          simp only [qsa,qsb,qsc]
          refine qtq 4 ?_
          simp only [qsa,qsb,qsc]
          refine qtn 5 ?_
          simp only [qsa,qsb,qsc]
          refine qtn 6 ?_
          simp only [qsa,qsb,qsc]
          refine qtn 7 ?_
          simp only [qsa,qsb,qsc]
          refine qtn 8 ?_
          simp only [qsa,qsb,qsc]
          refine qtq 9 ?_
          simp only [qsa,qsb,qsc]
          refine qtq 10 ?_
          simp only [qsa,qsb,qsc]
          refine qtn 11 ?_
          simp only [qsa,qsb,qsc]
          refine qtn 12 ?_
          simp only [qsa,qsb,qsc]
          refine qtn 13 ?_
          simp only [qsa,qsb,qsc]
          refine qtn 14 ?_
          simp only [qsa,qsb,qsc]
          refine qtq 15 ?_
          simp only [qsa,qsb,qsc]
          refine qtq 16 ?_
          simp only [qsa,qsb,qsc]
          refine qtn 17 ?_
          simp only [qsa,qsb,qsc]
          refine qtn 18 ?_
          simp only [qsa,qsb,qsc]
          refine qtn 19 ?_
          simp only [qsa,qsb,qsc]
          refine qtn 20 ?_
          simp only [qsa,qsb,qsc]
          refine qtn 21 ?_
          simp only [qsa,qsb,qsc]
          refine qtn 22 ?_
          simp only [qsa,qsb,qsc]
          refine qtn 23 ?_
          simp only [qsa,qsb,qsc]
          refine qtq 24 ?_
          simp only [qsa,qsb,qsc]
          refine wpAnyT_done (by kernel_rfl) ?_ _
          have HF : Hid (false=V):=Lib.hid (by rw [HGO.out,HOK.out]; simp)
          have hBQ:=HB3.out
          go_wp2_with fail
          try simp only [Exit.inBlock,Exit.then]
          refine bodyPost_ret (v:=.bool false) ?_ rfl ⟨ret_bool HF.out,qbv⟩
          simp [results,Tryz.results18,go_sem]
        · by_cases h2' : 1000000000000000<a
          · have HWZ : Hid (wideB z=true):=Lib.hid (by rw [← HTW0.out,hw1,decide_eq_true h2']; simp)
            clear hw1 hcs
            have HOK : Hid ((okT ⟨xm,xn,xv,⟨xA,xc,xl⟩⟩ && !(l.take k).any (sameT ⟨xm,xn,xv,⟨xA,xc,xl⟩⟩))=(nb && (!true && decide z.Nodup) && !tw)):=Lib.hid (by unfold okT; simp only [HZ.out,HTW.out,HWZ.out,HNB.out])
            go_wp2_with fail
            refine HCON.out.mono ?_
            rintro e w3 ⟨rfl,hb3⟩
            have HB3 : Hid (Below w.heap.size w w3):=Lib.hid (HB2.out.trans (hb3.mono HB2.out.size))
            have HX3:=Lib.hid (HX2.out.later hb3)
            have HO3:=Lib.hid (HO2.out.below hb3)
            clear hb3 HCON
            obtain ⟨x0,x1,x2,x3,xf,xz⟩:=Blk.b4 HX3.out
            go_wp2_with fail
            refine wp_region_T (fun W=>True) (fun _=>false) (by kernel_rfl) trivial (fun hHeld=>?_)
            refine qtq 0 ?_
            simp only [qsa,qsb,qsc]
            refine qtq 1 ?_
            simp only [qsa,qsb,qsc]
            clear hHeld
            refine qtn 2 ?_
            simp only [qsa,qsb,qsc]
            refine qtq 3 ?_
            simp only [qsa,qsb,qsc]
            refine qtq 4 ?_
            simp only [qsa,qsb,qsc]
            refine qtn 5 ?_
            simp only [qsa,qsb,qsc]
            refine qtn 6 ?_
            simp only [qsa,qsb,qsc]
            refine qtn 7 ?_
            simp only [qsa,qsb,qsc]
            refine qtn 8 ?_
            simp only [qsa,qsb,qsc]
            refine qtq 9 ?_
            simp only [qsa,qsb,qsc]
            refine qtq 10 ?_
            simp only [qsa,qsb,qsc]
            refine qtn 11 ?_
            simp only [qsa,qsb,qsc]
            refine qtn 12 ?_
            simp only [qsa,qsb,qsc]
            refine qtn 13 ?_
            simp only [qsa,qsb,qsc]
            refine qtn 14 ?_
            simp only [qsa,qsb,qsc]
            refine qtq 15 ?_
            simp only [qsa,qsb,qsc]
            refine qtq 16 ?_
            simp only [qsa,qsb,qsc]
            refine qtn 17 ?_
            simp only [qsa,qsb,qsc]
            refine qtn 18 ?_
            simp only [qsa,qsb,qsc]
            refine qtn 19 ?_
            simp only [qsa,qsb,qsc]
            refine qtn 20 ?_
            simp only [qsa,qsb,qsc]
            refine qtn 21 ?_
            simp only [qsa,qsb,qsc]
            refine qtn 22 ?_
            simp only [qsa,qsb,qsc]
            refine qtn 23 ?_
            simp only [qsa,qsb,qsc]
            refine qtq 24 ?_
            simp only [qsa,qsb,qsc]
            refine wpAnyT_done (by kernel_rfl) ?_ _
            have HF : Hid (false=V):=Lib.hid (by rw [HGO.out,HOK.out]; simp)
            have hBQ:=HB3.out
            go_wp2_with fail
            try simp only [Exit.inBlock,Exit.then]
            refine bodyPost_ret (v:=.bool false) ?_ rfl ⟨ret_bool HF.out,qbv⟩
            simp [results,Tryz.results18,go_sem]
          · have HWZ : Hid (wideB z=false):=Lib.hid (by rw [← HTW0.out,hw1,decide_eq_false h1,decide_eq_false h2']; rfl)
            clear hw1 hcs
            have HOK : Hid ((okT ⟨xm,xn,xv,⟨xA,xc,xl⟩⟩ && !(l.take k).any (sameT ⟨xm,xn,xv,⟨xA,xc,xl⟩⟩))=(nb && (!false && decide z.Nodup) && !tw)):=Lib.hid (by unfold okT; simp only [HZ.out,HTW.out,HWZ.out,HNB.out])
            go_wp2_with fail
            refine HCON.out.mono ?_
            rintro e w3 ⟨rfl,hb3⟩
            have HB3 : Hid (Below w.heap.size w w3):=Lib.hid (HB2.out.trans (hb3.mono HB2.out.size))
            have HX3:=Lib.hid (HX2.out.later hb3)
            have HO3:=Lib.hid (HO2.out.below hb3)
            clear hb3 HCON
            obtain ⟨x0,x1,x2,x3,xf,xz⟩:=Blk.b4 HX3.out
            go_wp2_with fail
            rcases tw with _ | _
            · rcases nb with _ | _
              · have hsyn:=fun W=>syn_name xn W hxn
                rw [HNB.out] at hsyn
                refine wp_region_T (fun W=>W.cell? ⟨wr.heap.size,1,none⟩=some (.string xn)) (fun _=>false) (by kernel_rfl) x1 (fun hHeld=>?_)
                refine qtq 0 ?_
                simp only [qsa,qsb,qsc]
                clear hHeld
                refine wpAnyT_take2 (i:=1) (v:=.bool false) rfl rfl (by kernel_rfl) (by kernel_rfl) (by kernel_rfl) (by kernel_rfl) (fun _ _ _ h=>h) (Or.inl ⟨by rfl, ?_⟩) (by first | assumption | trivial) ?_
                · (intro w hSw; (try dsimp only at hSw); go_simp) <;> (first | (with_reducible rfl) | assumption | (simp; done) | (simp [*]; done) | (simp; omega))
                simp only [qsa,qsb,qsc]
                refine qtq 2 ?_
                simp only [qsa,qsb,qsc]
                refine qtq 3 ?_
                simp only [qsa,qsb,qsc]
                refine qtq 4 ?_
                simp only [qsa,qsb,qsc]
                refine qtq 5 ?_
                simp only [qsa,qsb,qsc]
                refine qtq 6 ?_
                simp only [qsa,qsb,qsc]
                refine wpAnyT_next (i:=7) (by kernel_rfl) rfl ?_
                go_wp2_with fail
                refine (hsyn _).mono ?_
                rintro e w4 ⟨rfl,hb4⟩
                have HB4 : Hid (Below w.heap.size w w4):=Lib.hid (HB3.out.drew.trans (hb4.mono (show w.heap.size≤w3.heap.size from HB3.out.size)))
                have HX4:=Lib.hid (HX3.out.drew.later hb4)
                have HO4:=Lib.hid (HO3.out.drew.below hb4)
                clear hb4
                obtain ⟨y0,y1,y2,y3,yf,yz⟩:=Blk.b4 HX4.out
                go_wp2_with fail
                refine And.intro (by first | exact fun _=>y1 | exact y1) ?_
                refine qtq 8 ?_
                simp only [qsa,qsb,qsc]
                refine qtq 9 ?_
                simp only [qsa,qsb,qsc]
                refine qtq 10 ?_
                simp only [qsa,qsb,qsc]
                refine qtn 11 ?_
                simp only [qsa,qsb,qsc]
                refine qtn 12 ?_
                simp only [qsa,qsb,qsc]
                refine qtn 13 ?_
                simp only [qsa,qsb,qsc]
                refine qtn 14 ?_
                simp only [qsa,qsb,qsc]
                refine qtq 15 ?_
                simp only [qsa,qsb,qsc]
                refine qtq 16 ?_
                simp only [qsa,qsb,qsc]
                refine qtn 17 ?_
                simp only [qsa,qsb,qsc]
                refine qtn 18 ?_
                simp only [qsa,qsb,qsc]
                refine qtn 19 ?_
                simp only [qsa,qsb,qsc]
                refine qtn 20 ?_
                simp only [qsa,qsb,qsc]
                refine qtn 21 ?_
                simp only [qsa,qsb,qsc]
                refine qtn 22 ?_
                simp only [qsa,qsb,qsc]
                refine qtn 23 ?_
                simp only [qsa,qsb,qsc]
                refine qtq 24 ?_
                simp only [qsa,qsb,qsc]
                refine wpAnyT_done (by kernel_rfl) ?_ _
                have HF : Hid (false=V):=Lib.hid (by rw [HGO.out,HOK.out]; simp)
                have hBQ:=HB4.out
                go_wp2_with fail
                try simp only [Exit.inBlock,Exit.then]
                refine bodyPost_ret (v:=.bool false) ?_ rfl ⟨ret_bool HF.out,qbv⟩
                simp [results,Tryz.results18,go_sem]
              · have hsyn:=fun W=>syn_name xn W hxn
                rw [HNB.out] at hsyn
                refine wp_region_T (fun W=>(W.cell? ⟨wr.heap.size,1,none⟩=some (.string xn)∧W.cell? ⟨wr.heap.size,3,none⟩=some (.slice xA 0 xc))) (fun _=>false) (by kernel_rfl) ⟨x1,x3⟩ (fun hHeld=>?_)
                refine qtq 0 ?_
                simp only [qsa,qsb,qsc]
                clear hHeld
                refine wpAnyT_take2 (i:=1) (v:=.bool false) rfl rfl (by kernel_rfl) (by kernel_rfl) (by kernel_rfl) (by kernel_rfl) (fun _ _ _ h=>h) (Or.inl ⟨by rfl, ?_⟩) (by first | assumption | trivial) ?_
                · (intro w hSw; (try dsimp only at hSw); go_simp) <;> (first | (with_reducible rfl) | assumption | (simp; done) | (simp [*]; done) | (simp; omega))
                simp only [qsa,qsb,qsc]
                refine qtq 2 ?_
                simp only [qsa,qsb,qsc]
                refine qtq 3 ?_
                simp only [qsa,qsb,qsc]
                refine qtq 4 ?_
                simp only [qsa,qsb,qsc]
                refine qtq 5 ?_
                simp only [qsa,qsb,qsc]
                refine qtq 6 ?_
                simp only [qsa,qsb,qsc]
                refine wpAnyT_next (i:=7) (by kernel_rfl) rfl ?_
                go_wp2_with fail
                refine (hsyn _).mono ?_
                rintro e w4 ⟨rfl,hb4⟩
                have HB4 : Hid (Below w.heap.size w w4):=Lib.hid (HB3.out.drew.trans (hb4.mono (show w.heap.size≤w3.heap.size from HB3.out.size)))
                have HX4:=Lib.hid (HX3.out.drew.later hb4)
                have HO4:=Lib.hid (HO3.out.drew.below hb4)
                clear hb4
                obtain ⟨y0,y1,y2,y3,yf,yz⟩:=Blk.b4 HX4.out
                go_wp2_with fail
                refine And.intro (by first | exact fun _=>⟨y1,y3⟩ | exact ⟨y1,y3⟩) ?_
                refine qtq 8 ?_
                simp only [qsa,qsb,qsc]
                refine qtq 9 ?_
                simp only [qsa,qsb,qsc]
                refine qtq 10 ?_
                simp only [qsa,qsb,qsc]
                refine qtq 11 ?_
                simp only [qsa,qsb,qsc]
                refine qtq 12 ?_
                simp only [qsa,qsb,qsc]
                refine qtq 13 ?_
                simp only [qsa,qsb,qsc]
                refine wpAnyT_take2 (i:=14) (v:=.bool false) rfl rfl (by kernel_rfl) (by kernel_rfl) (by kernel_rfl) (by kernel_rfl) (fun _ _ _ h=>h) (Or.inl ⟨by rfl, ?_⟩) (by first | assumption | trivial) ?_
                · (intro w hSw; (try dsimp only at hSw); go_simp) <;> (first | (with_reducible rfl) | assumption | (simp; done) | (simp [*]; done) | (simp; omega))
                simp only [qsa,qsb,qsc]
                refine qtq 15 ?_
                simp only [qsa,qsb,qsc]
                refine qtq 16 ?_
                simp only [qsa,qsb,qsc]
                refine qtq 17 ?_
                simp only [qsa,qsb,qsc]
                refine qtq 20 ?_
                simp only [qsa,qsb,qsc]
                refine qtq 21 ?_
                simp only [qsa,qsb,qsc]
                refine qtq 22 ?_
                simp only [qsa,qsb,qsc]
                refine wpAnyT_next (i:=18) (by kernel_rfl) rfl ?_
                go_wp2_with fail
                refine (HCMP.out _ HO4.out (by have:=HX4.out.lt; show wr.heap.size+1≤w4.heap.size; omega)).mono ?_
                rintro e w5 ⟨rfl,hb5⟩
                have HB5 : Hid (Below w.heap.size w w5):=Lib.hid (HB4.out.trans (hb5.mono (by have:=hbel.size; omega)))
                have HX5:=Lib.hid (HX4.out.below hb5 (Nat.lt_succ_self _))
                clear hb5
                obtain ⟨z0,z1,z2,z3,zf,zz⟩:=Blk.b4 HX5.out
                go_wp2_with fail
                refine And.intro (by first | exact fun _=>⟨z1,z3⟩ | exact ⟨z1,z3⟩) ?_
                refine qtq 19 ?_
                simp only [qsa,qsb,qsc]
                by_cases hnd : z.Nodup
                · rw [decide_eq_true hnd] at HOK
                  have hdd:=HDD.out.1 hnd
                  refine wpAnyT_take2 (i:=23) (v:=.bool false) rfl rfl (by kernel_rfl) (by kernel_rfl) (by kernel_rfl) (by kernel_rfl) (fun _ _ _ h=>h) (Or.inl ⟨by rfl, ?_⟩) (by first | assumption | trivial) ?_
                  · (intro w hSw; (try dsimp only at hSw); go_simp) <;> (first | (with_reducible rfl) | assumption | (simp; done) | (simp [*]; done) | (simp; omega))
                  simp only [qsa,qsb,qsc]
                  refine qtq 24 ?_
                  simp only [qsa,qsb,qsc]
                  refine wpAnyT_done (by kernel_rfl) ?_ _
                  clear hdd hnd x0 x1 x2 x3 xf xz y0 y1 y2 y3 yf yz
                  have HV2 : Hid (V=rightT (l.take (k+1)) (l.drop (k+1))):=Lib.hid (by rw [HGO.out,HOK.out]; rfl)
                  go_wp2_with fail
                  go_roundw
                  case rel=>exact ⟨k+1,n * 1,by omega,by first | rfl | (congr 1; push_cast; omega),by go_num,by omega,by rw [Nat.pow_succ]; omega,HB5.out,HV2⟩
                  case measure=>simp [intOf]; omega
                · rw [decide_eq_false hnd] at HOK
                  have hdd:=HDD.out.2 hnd
                  refine wpAnyT_take2 (i:=23) (v:=.bool true) rfl rfl (by kernel_rfl) (by kernel_rfl) (by kernel_rfl) (by kernel_rfl) (fun _ _ _ h=>h) (Or.inl ⟨by rfl, ?_⟩) (by first | assumption | trivial) ?_
                  · (intro w hSw; (try dsimp only at hSw); go_simp) <;> (first | (with_reducible rfl) | assumption | (simp; done) | (simp [*]; done) | (simp; omega))
                  simp only [qsa,qsb,qsc]
                  refine qtq 24 ?_
                  simp only [qsa,qsb,qsc]
                  refine wpAnyT_done (by kernel_rfl) ?_ _
                  have HF : Hid (false=V):=Lib.hid (by rw [HGO.out,HOK.out]; simp)
                  have hBQ:=HB5.out
                  go_wp2_with fail
                  try simp only [Exit.inBlock,Exit.then]
                  refine bodyPost_ret (v:=.bool false) ?_ rfl ⟨ret_bool HF.out,qbv⟩
                  simp [results,Tryz.results18,go_sem]
            · skip
              refine wp_region_T (fun W=>True) (fun _=>false) (by kernel_rfl) trivial (fun hHeld=>?_)
              refine qtq 0 ?_
              simp only [qsa,qsb,qsc]
              clear hHeld
              refine wpAnyT_take2 (i:=1) (v:=.bool false) rfl rfl (by kernel_rfl) (by kernel_rfl) (by kernel_rfl) (by kernel_rfl) (fun _ _ _ h=>h) (Or.inl ⟨by rfl, ?_⟩) (by first | assumption | trivial) ?_
              · (intro w hSw; (try dsimp only at hSw); go_simp) <;> (first | (with_reducible rfl) | assumption | (simp; done) | (simp [*]; done) | (simp; omega))
              simp only [qsa,qsb,qsc]
              refine qtq 2 ?_
              simp only [qsa,qsb,qsc]
              refine wpAnyT_take2 (i:=3) (v:=.bool true) rfl rfl (by kernel_rfl) (by kernel_rfl) (by kernel_rfl) (by kernel_rfl) (fun _ _ _ h=>h) (Or.inl ⟨by rfl, ?_⟩) (by first | assumption | trivial) ?_
              · (intro w hSw; (try dsimp only at hSw); go_simp) <;> (first | (with_reducible rfl) | assumption | (simp; done) | (simp [*]; done) | (simp; omega))
              simp only [qsa,qsb,qsc]
              refine qtq 4 ?_
              simp only [qsa,qsb,qsc]
              refine qtn 5 ?_
              simp only [qsa,qsb,qsc]
              refine qtn 6 ?_
              simp only [qsa,qsb,qsc]
              refine qtn 7 ?_
              simp only [qsa,qsb,qsc]
              refine qtn 8 ?_
              simp only [qsa,qsb,qsc]
              refine qtq 9 ?_
              simp only [qsa,qsb,qsc]
              refine qtq 10 ?_
              simp only [qsa,qsb,qsc]
              refine qtn 11 ?_
              simp only [qsa,qsb,qsc]
              refine qtn 12 ?_
              simp only [qsa,qsb,qsc]
              refine qtn 13 ?_
              simp only [qsa,qsb,qsc]
              refine qtn 14 ?_
              simp only [qsa,qsb,qsc]
              refine qtq 15 ?_
              simp only [qsa,qsb,qsc]
              refine qtq 16 ?_
              simp only [qsa,qsb,qsc]
              refine qtn 17 ?_
              simp only [qsa,qsb,qsc]
              refine qtn 18 ?_
              simp only [qsa,qsb,qsc]
              refine qtn 19 ?_
              simp only [qsa,qsb,qsc]
              refine qtn 20 ?_
              simp only [qsa,qsb,qsc]
              refine qtn 21 ?_
              simp only [qsa,qsb,qsc]
              refine qtn 22 ?_
              simp only [qsa,qsb,qsc]
              refine qtn 23 ?_
              simp only [qsa,qsb,qsc]
              refine qtq 24 ?_
              simp only [qsa,qsb,qsc]
              refine wpAnyT_done (by kernel_rfl) ?_ _
              have HF : Hid (false=V):=Lib.hid (by rw [HGO.out,HOK.out]; simp)
              have hBQ:=HB3.out
              go_wp2_with fail
              try simp only [Exit.inBlock,Exit.then]
              refine bodyPost_ret (v:=.bool false) ?_ rfl ⟨ret_bool HF.out,qbv⟩
              simp [results,Tryz.results18,go_sem]
      · obtain ⟨_,_,hA,_,c0⟩:=hcs.geti (i:=0) (by simp)
        injection hA with hA
        injection hA with hA1 hA2
        subst hA1 hA2
        obtain ⟨_,_,hA,_,c1'⟩:=hcs.geti (i:=1) (by simp)
        injection hA with hA
        injection hA with hA1 hA2
        subst hA1 hA2
        simp only [Nat.zero_add,List.getElem_cons_zero,List.getElem_cons_succ] at c0 c1'
        have hxl : xl.length=1:=by have h0:=HTL.out; have h1:=HZL.out; simp at h0; omega
        rw [hxl] at HX2 ⊢
        have hw1:=wide_2 htp
        obtain ⟨m,hm⟩ : ∃ m,(Lib.compact [a,b]).length=m:=⟨_,rfl⟩
        have hcmp:=fun W hO hB=>compact_own (wr.heap.size+1) gv c1 [a,b] W hO (by simp) hB
        simp only [hm] at hcmp
        have HCMP:=Lib.hid hcmp
        have HDD:=Lib.hid (nod_2 htp HTN.out hm)
        have hn27 : n≤27:=Nat.le_trans hn3 (Nat.pow_le_pow_right (by omega : 0<3) (by omega : k≤3))
        clear hcmp hm htp
        by_cases h1 : a < -1000000000000000
        · have HWZ : Hid (wideB z=true):=Lib.hid (by rw [← HTW0.out,hw1,decide_eq_true h1]; rfl)
          clear hw1 hcs
          have HOK : Hid ((okT ⟨xm,xn,xv,⟨xA,xc,xl⟩⟩ && !(l.take k).any (sameT ⟨xm,xn,xv,⟨xA,xc,xl⟩⟩))=(nb && (!true && decide z.Nodup) && !tw)):=Lib.hid (by unfold okT; simp only [HZ.out,HTW.out,HWZ.out,HNB.out])
          go_wp2_with fail
          refine HCON.out.mono ?_
          rintro e w3 ⟨rfl,hb3⟩
          have HB3 : Hid (Below w.heap.size w w3):=Lib.hid (HB2.out.trans (hb3.mono HB2.out.size))
          have HX3:=Lib.hid (HX2.out.later hb3)
          have HO3:=Lib.hid (HO2.out.below hb3)
          clear hb3 HCON
          obtain ⟨x0,x1,x2,x3,xf,xz⟩:=Blk.b4 HX3.out
          go_wp2_with fail
          refine wp_region_T (fun W=>True) (fun _=>false) (by kernel_rfl) trivial (fun hHeld=>?_)
          refine qtq 0 ?_
          simp only [qsa,qsb,qsc]
          refine qtq 1 ?_
          simp only [qsa,qsb,qsc]
          clear hHeld
          refine qtn 2 ?_
          simp only [qsa,qsb,qsc]
          refine qtq 3 ?_
          simp only [qsa,qsb,qsc]
          refine qtq 4 ?_
          simp only [qsa,qsb,qsc]
          refine qtn 5 ?_
          simp only [qsa,qsb,qsc]
          refine qtn 6 ?_
          simp only [qsa,qsb,qsc]
          refine qtn 7 ?_
          simp only [qsa,qsb,qsc]
          refine qtn 8 ?_
          simp only [qsa,qsb,qsc]
          refine qtq 9 ?_
          simp only [qsa,qsb,qsc]
          refine qtq 10 ?_
          simp only [qsa,qsb,qsc]
          refine qtn 11 ?_
          simp only [qsa,qsb,qsc]
          refine qtn 12 ?_
          simp only [qsa,qsb,qsc]
          refine qtn 13 ?_
          simp only [qsa,qsb,qsc]
          refine qtn 14 ?_
          simp only [qsa,qsb,qsc]
          refine qtq 15 ?_
          simp only [qsa,qsb,qsc]
          refine qtq 16 ?_
          simp only [qsa,qsb,qsc]
          refine qtn 17 ?_
          simp only [qsa,qsb,qsc]
          refine qtn 18 ?_
          simp only [qsa,qsb,qsc]
          refine qtn 19 ?_
          simp only [qsa,qsb,qsc]
          refine qtn 20 ?_
          simp only [qsa,qsb,qsc]
          refine qtn 21 ?_
          simp only [qsa,qsb,qsc]
          refine qtn 22 ?_
          simp only [qsa,qsb,qsc]
          refine qtn 23 ?_
          simp only [qsa,qsb,qsc]
          refine qtq 24 ?_
          simp only [qsa,qsb,qsc]
          refine wpAnyT_done (by kernel_rfl) ?_ _
          have HF : Hid (false=V):=Lib.hid (by rw [HGO.out,HOK.out]; simp)
          have hBQ:=HB3.out
          go_wp2_with fail
          try simp only [Exit.inBlock,Exit.then]
          refine bodyPost_ret (v:=.bool false) ?_ rfl ⟨ret_bool HF.out,qbv⟩
          simp [results,Tryz.results18,go_sem]
        · by_cases h2' : 1000000000000000<b
          · have HWZ : Hid (wideB z=true):=Lib.hid (by rw [← HTW0.out,hw1,decide_eq_true h2']; simp)
            clear hw1 hcs
            have HOK : Hid ((okT ⟨xm,xn,xv,⟨xA,xc,xl⟩⟩ && !(l.take k).any (sameT ⟨xm,xn,xv,⟨xA,xc,xl⟩⟩))=(nb && (!true && decide z.Nodup) && !tw)):=Lib.hid (by unfold okT; simp only [HZ.out,HTW.out,HWZ.out,HNB.out])
            go_wp2_with fail
            refine HCON.out.mono ?_
            rintro e w3 ⟨rfl,hb3⟩
            have HB3 : Hid (Below w.heap.size w w3):=Lib.hid (HB2.out.trans (hb3.mono HB2.out.size))
            have HX3:=Lib.hid (HX2.out.later hb3)
            have HO3:=Lib.hid (HO2.out.below hb3)
            clear hb3 HCON
            obtain ⟨x0,x1,x2,x3,xf,xz⟩:=Blk.b4 HX3.out
            go_wp2_with fail
            refine wp_region_T (fun W=>True) (fun _=>false) (by kernel_rfl) trivial (fun hHeld=>?_)
            refine qtq 0 ?_
            simp only [qsa,qsb,qsc]
            refine qtq 1 ?_
            simp only [qsa,qsb,qsc]
            clear hHeld
            refine qtn 2 ?_
            simp only [qsa,qsb,qsc]
            refine qtq 3 ?_
            simp only [qsa,qsb,qsc]
            refine qtq 4 ?_
            simp only [qsa,qsb,qsc]
            refine qtn 5 ?_
            simp only [qsa,qsb,qsc]
            refine qtn 6 ?_
            simp only [qsa,qsb,qsc]
            refine qtn 7 ?_
            simp only [qsa,qsb,qsc]
            refine qtn 8 ?_
            simp only [qsa,qsb,qsc]
            refine qtq 9 ?_
            simp only [qsa,qsb,qsc]
            refine qtq 10 ?_
            simp only [qsa,qsb,qsc]
            refine qtn 11 ?_
            simp only [qsa,qsb,qsc]
            refine qtn 12 ?_
            simp only [qsa,qsb,qsc]
            refine qtn 13 ?_
            simp only [qsa,qsb,qsc]
            refine qtn 14 ?_
            simp only [qsa,qsb,qsc]
            refine qtq 15 ?_
            simp only [qsa,qsb,qsc]
            refine qtq 16 ?_
            simp only [qsa,qsb,qsc]
            refine qtn 17 ?_
            simp only [qsa,qsb,qsc]
            refine qtn 18 ?_
            simp only [qsa,qsb,qsc]
            refine qtn 19 ?_
            simp only [qsa,qsb,qsc]
            refine qtn 20 ?_
            simp only [qsa,qsb,qsc]
            refine qtn 21 ?_
            simp only [qsa,qsb,qsc]
            refine qtn 22 ?_
            simp only [qsa,qsb,qsc]
            refine qtn 23 ?_
            simp only [qsa,qsb,qsc]
            refine qtq 24 ?_
            simp only [qsa,qsb,qsc]
            refine wpAnyT_done (by kernel_rfl) ?_ _
            have HF : Hid (false=V):=Lib.hid (by rw [HGO.out,HOK.out]; simp)
            have hBQ:=HB3.out
            go_wp2_with fail
            try simp only [Exit.inBlock,Exit.then]
            refine bodyPost_ret (v:=.bool false) ?_ rfl ⟨ret_bool HF.out,qbv⟩
            simp [results,Tryz.results18,go_sem]
          · have HWZ : Hid (wideB z=false):=Lib.hid (by rw [← HTW0.out,hw1,decide_eq_false h1,decide_eq_false h2']; rfl)
            clear hw1 hcs
            have HOK : Hid ((okT ⟨xm,xn,xv,⟨xA,xc,xl⟩⟩ && !(l.take k).any (sameT ⟨xm,xn,xv,⟨xA,xc,xl⟩⟩))=(nb && (!false && decide z.Nodup) && !tw)):=Lib.hid (by unfold okT; simp only [HZ.out,HTW.out,HWZ.out,HNB.out])
            go_wp2_with fail
            refine HCON.out.mono ?_
            rintro e w3 ⟨rfl,hb3⟩
            have HB3 : Hid (Below w.heap.size w w3):=Lib.hid (HB2.out.trans (hb3.mono HB2.out.size))
            have HX3:=Lib.hid (HX2.out.later hb3)
            have HO3:=Lib.hid (HO2.out.below hb3)
            clear hb3 HCON
            obtain ⟨x0,x1,x2,x3,xf,xz⟩:=Blk.b4 HX3.out
            go_wp2_with fail
            rcases tw with _ | _
            · rcases nb with _ | _
              · have hsyn:=fun W=>syn_name xn W hxn
                rw [HNB.out] at hsyn
                refine wp_region_T (fun W=>W.cell? ⟨wr.heap.size,1,none⟩=some (.string xn)) (fun _=>false) (by kernel_rfl) x1 (fun hHeld=>?_)
                refine qtq 0 ?_
                simp only [qsa,qsb,qsc]
                clear hHeld
                refine wpAnyT_take2 (i:=1) (v:=.bool false) rfl rfl (by kernel_rfl) (by kernel_rfl) (by kernel_rfl) (by kernel_rfl) (fun _ _ _ h=>h) (Or.inl ⟨by rfl, ?_⟩) (by first | assumption | trivial) ?_
                · (intro w hSw; (try dsimp only at hSw); go_simp) <;> (first | (with_reducible rfl) | assumption | (simp; done) | (simp [*]; done) | (simp; omega))
                simp only [qsa,qsb,qsc]
                refine qtq 2 ?_
                simp only [qsa,qsb,qsc]
                refine qtq 3 ?_
                simp only [qsa,qsb,qsc]
                refine qtq 4 ?_
                simp only [qsa,qsb,qsc]
                refine qtq 5 ?_
                simp only [qsa,qsb,qsc]
                refine qtq 6 ?_
                simp only [qsa,qsb,qsc]
                refine wpAnyT_next (i:=7) (by kernel_rfl) rfl ?_
                go_wp2_with fail
                refine (hsyn _).mono ?_
                rintro e w4 ⟨rfl,hb4⟩
                have HB4 : Hid (Below w.heap.size w w4):=Lib.hid (HB3.out.drew.trans (hb4.mono (show w.heap.size≤w3.heap.size from HB3.out.size)))
                have HX4:=Lib.hid (HX3.out.drew.later hb4)
                have HO4:=Lib.hid (HO3.out.drew.below hb4)
                clear hb4
                obtain ⟨y0,y1,y2,y3,yf,yz⟩:=Blk.b4 HX4.out
                go_wp2_with fail
                refine And.intro (by first | exact fun _=>y1 | exact y1) ?_
                refine qtq 8 ?_
                simp only [qsa,qsb,qsc]
                refine qtq 9 ?_
                simp only [qsa,qsb,qsc]
                refine qtq 10 ?_
                simp only [qsa,qsb,qsc]
                refine qtn 11 ?_
                simp only [qsa,qsb,qsc]
                refine qtn 12 ?_
                simp only [qsa,qsb,qsc]
                refine qtn 13 ?_
                simp only [qsa,qsb,qsc]
                refine qtn 14 ?_
                simp only [qsa,qsb,qsc]
                refine qtq 15 ?_
                simp only [qsa,qsb,qsc]
                refine qtq 16 ?_
                simp only [qsa,qsb,qsc]
                refine qtn 17 ?_
                simp only [qsa,qsb,qsc]
                refine qtn 18 ?_
                simp only [qsa,qsb,qsc]
                refine qtn 19 ?_
                simp only [qsa,qsb,qsc]
                refine qtn 20 ?_
                simp only [qsa,qsb,qsc]
                refine qtn 21 ?_
                simp only [qsa,qsb,qsc]
                refine qtn 22 ?_
                simp only [qsa,qsb,qsc]
                refine qtn 23 ?_
                simp only [qsa,qsb,qsc]
                refine qtq 24 ?_
                simp only [qsa,qsb,qsc]
                refine wpAnyT_done (by kernel_rfl) ?_ _
                have HF : Hid (false=V):=Lib.hid (by rw [HGO.out,HOK.out]; simp)
                have hBQ:=HB4.out
                go_wp2_with fail
                try simp only [Exit.inBlock,Exit.then]
                refine bodyPost_ret (v:=.bool false) ?_ rfl ⟨ret_bool HF.out,qbv⟩
                simp [results,Tryz.results18,go_sem]
              · have hsyn:=fun W=>syn_name xn W hxn
                rw [HNB.out] at hsyn
                refine wp_region_T (fun W=>(W.cell? ⟨wr.heap.size,1,none⟩=some (.string xn)∧W.cell? ⟨wr.heap.size,3,none⟩=some (.slice xA 1 xc))) (fun _=>false) (by kernel_rfl) ⟨x1,x3⟩ (fun hHeld=>?_)
                refine qtq 0 ?_
                simp only [qsa,qsb,qsc]
                clear hHeld
                refine wpAnyT_take2 (i:=1) (v:=.bool false) rfl rfl (by kernel_rfl) (by kernel_rfl) (by kernel_rfl) (by kernel_rfl) (fun _ _ _ h=>h) (Or.inl ⟨by rfl, ?_⟩) (by first | assumption | trivial) ?_
                · (intro w hSw; (try dsimp only at hSw); go_simp) <;> (first | (with_reducible rfl) | assumption | (simp; done) | (simp [*]; done) | (simp; omega))
                simp only [qsa,qsb,qsc]
                refine qtq 2 ?_
                simp only [qsa,qsb,qsc]
                refine qtq 3 ?_
                simp only [qsa,qsb,qsc]
                refine qtq 4 ?_
                simp only [qsa,qsb,qsc]
                refine qtq 5 ?_
                simp only [qsa,qsb,qsc]
                refine qtq 6 ?_
                simp only [qsa,qsb,qsc]
                refine wpAnyT_next (i:=7) (by kernel_rfl) rfl ?_
                go_wp2_with fail
                refine (hsyn _).mono ?_
                rintro e w4 ⟨rfl,hb4⟩
                have HB4 : Hid (Below w.heap.size w w4):=Lib.hid (HB3.out.drew.trans (hb4.mono (show w.heap.size≤w3.heap.size from HB3.out.size)))
                have HX4:=Lib.hid (HX3.out.drew.later hb4)
                have HO4:=Lib.hid (HO3.out.drew.below hb4)
                clear hb4
                obtain ⟨y0,y1,y2,y3,yf,yz⟩:=Blk.b4 HX4.out
                go_wp2_with fail
                refine And.intro (by first | exact fun _=>⟨y1,y3⟩ | exact ⟨y1,y3⟩) ?_
                refine qtq 8 ?_
                simp only [qsa,qsb,qsc]
                refine qtq 9 ?_
                simp only [qsa,qsb,qsc]
                refine qtq 10 ?_
                simp only [qsa,qsb,qsc]
                refine qtq 11 ?_
                simp only [qsa,qsb,qsc]
                refine qtq 12 ?_
                simp only [qsa,qsb,qsc]
                refine qtq 13 ?_
                simp only [qsa,qsb,qsc]
                refine wpAnyT_take2 (i:=14) (v:=.bool false) rfl rfl (by kernel_rfl) (by kernel_rfl) (by kernel_rfl) (by kernel_rfl) (fun _ _ _ h=>h) (Or.inl ⟨by rfl, ?_⟩) (by first | assumption | trivial) ?_
                · (intro w hSw; (try dsimp only at hSw); go_simp) <;> (first | (with_reducible rfl) | assumption | (simp; done) | (simp [*]; done) | (simp; omega))
                simp only [qsa,qsb,qsc]
                refine qtq 15 ?_
                simp only [qsa,qsb,qsc]
                refine qtq 16 ?_
                simp only [qsa,qsb,qsc]
                refine qtq 17 ?_
                simp only [qsa,qsb,qsc]
                refine qtq 20 ?_
                simp only [qsa,qsb,qsc]
                refine qtq 21 ?_
                simp only [qsa,qsb,qsc]
                refine qtq 22 ?_
                simp only [qsa,qsb,qsc]
                refine wpAnyT_next (i:=18) (by kernel_rfl) rfl ?_
                go_wp2_with fail
                refine (HCMP.out _ HO4.out (by have:=HX4.out.lt; show wr.heap.size+1≤w4.heap.size; omega)).mono ?_
                rintro e w5 ⟨rfl,hb5⟩
                have HB5 : Hid (Below w.heap.size w w5):=Lib.hid (HB4.out.trans (hb5.mono (by have:=hbel.size; omega)))
                have HX5:=Lib.hid (HX4.out.below hb5 (Nat.lt_succ_self _))
                clear hb5
                obtain ⟨z0,z1,z2,z3,zf,zz⟩:=Blk.b4 HX5.out
                go_wp2_with fail
                refine And.intro (by first | exact fun _=>⟨z1,z3⟩ | exact ⟨z1,z3⟩) ?_
                refine qtq 19 ?_
                simp only [qsa,qsb,qsc]
                by_cases hnd : z.Nodup
                · rw [decide_eq_true hnd] at HOK
                  have hdd:=HDD.out.1 hnd
                  refine wpAnyT_take2 (i:=23) (v:=.bool false) rfl rfl (by kernel_rfl) (by kernel_rfl) (by kernel_rfl) (by kernel_rfl) (fun _ _ _ h=>h) (Or.inl ⟨by rfl, ?_⟩) (by first | assumption | trivial) ?_
                  · (intro w hSw; (try dsimp only at hSw); go_simp) <;> (first | (with_reducible rfl) | assumption | (simp; done) | (simp [*]; done) | (simp; omega))
                  simp only [qsa,qsb,qsc]
                  refine qtq 24 ?_
                  simp only [qsa,qsb,qsc]
                  refine wpAnyT_done (by kernel_rfl) ?_ _
                  clear hdd hnd x0 x1 x2 x3 xf xz y0 y1 y2 y3 yf yz
                  have HV2 : Hid (V=rightT (l.take (k+1)) (l.drop (k+1))):=Lib.hid (by rw [HGO.out,HOK.out]; rfl)
                  go_wp2_with fail
                  go_roundw
                  case rel=>exact ⟨k+1,n * 2,by omega,by first | rfl | (congr 1; push_cast; omega),by go_num,by omega,by rw [Nat.pow_succ]; omega,HB5.out,HV2⟩
                  case measure=>simp [intOf]; omega
                · rw [decide_eq_false hnd] at HOK
                  have hdd:=HDD.out.2 hnd
                  refine wpAnyT_take2 (i:=23) (v:=.bool true) rfl rfl (by kernel_rfl) (by kernel_rfl) (by kernel_rfl) (by kernel_rfl) (fun _ _ _ h=>h) (Or.inl ⟨by rfl, ?_⟩) (by first | assumption | trivial) ?_
                  · (intro w hSw; (try dsimp only at hSw); go_simp) <;> (first | (with_reducible rfl) | assumption | (simp; done) | (simp [*]; done) | (simp; omega))
                  simp only [qsa,qsb,qsc]
                  refine qtq 24 ?_
                  simp only [qsa,qsb,qsc]
                  refine wpAnyT_done (by kernel_rfl) ?_ _
                  have HF : Hid (false=V):=Lib.hid (by rw [HGO.out,HOK.out]; simp)
                  have hBQ:=HB5.out
                  go_wp2_with fail
                  try simp only [Exit.inBlock,Exit.then]
                  refine bodyPost_ret (v:=.bool false) ?_ rfl ⟨ret_bool HF.out,qbv⟩
                  simp [results,Tryz.results18,go_sem]
            · skip
              refine wp_region_T (fun W=>True) (fun _=>false) (by kernel_rfl) trivial (fun hHeld=>?_)
              refine qtq 0 ?_
              simp only [qsa,qsb,qsc]
              clear hHeld
              refine wpAnyT_take2 (i:=1) (v:=.bool false) rfl rfl (by kernel_rfl) (by kernel_rfl) (by kernel_rfl) (by kernel_rfl) (fun _ _ _ h=>h) (Or.inl ⟨by rfl, ?_⟩) (by first | assumption | trivial) ?_
              · (intro w hSw; (try dsimp only at hSw); go_simp) <;> (first | (with_reducible rfl) | assumption | (simp; done) | (simp [*]; done) | (simp; omega))
              simp only [qsa,qsb,qsc]
              refine qtq 2 ?_
              simp only [qsa,qsb,qsc]
              refine wpAnyT_take2 (i:=3) (v:=.bool true) rfl rfl (by kernel_rfl) (by kernel_rfl) (by kernel_rfl) (by kernel_rfl) (fun _ _ _ h=>h) (Or.inl ⟨by rfl, ?_⟩) (by first | assumption | trivial) ?_
              · (intro w hSw; (try dsimp only at hSw); go_simp) <;> (first | (with_reducible rfl) | assumption | (simp; done) | (simp [*]; done) | (simp; omega))
              simp only [qsa,qsb,qsc]
              refine qtq 4 ?_
              simp only [qsa,qsb,qsc]
              refine qtn 5 ?_
              simp only [qsa,qsb,qsc]
              refine qtn 6 ?_
              simp only [qsa,qsb,qsc]
              refine qtn 7 ?_
              simp only [qsa,qsb,qsc]
              refine qtn 8 ?_
              simp only [qsa,qsb,qsc]
              refine qtq 9 ?_
              simp only [qsa,qsb,qsc]
              refine qtq 10 ?_
              simp only [qsa,qsb,qsc]
              refine qtn 11 ?_
              simp only [qsa,qsb,qsc]
              refine qtn 12 ?_
              simp only [qsa,qsb,qsc]
              refine qtn 13 ?_
              simp only [qsa,qsb,qsc]
              refine qtn 14 ?_
              simp only [qsa,qsb,qsc]
              refine qtq 15 ?_
              simp only [qsa,qsb,qsc]
              refine qtq 16 ?_
              simp only [qsa,qsb,qsc]
              refine qtn 17 ?_
              simp only [qsa,qsb,qsc]
              refine qtn 18 ?_
              simp only [qsa,qsb,qsc]
              refine qtn 19 ?_
              simp only [qsa,qsb,qsc]
              refine qtn 20 ?_
              simp only [qsa,qsb,qsc]
              refine qtn 21 ?_
              simp only [qsa,qsb,qsc]
              refine qtn 22 ?_
              simp only [qsa,qsb,qsc]
              refine qtn 23 ?_
              simp only [qsa,qsb,qsc]
              refine qtq 24 ?_
              simp only [qsa,qsb,qsc]
              refine wpAnyT_done (by kernel_rfl) ?_ _
              have HF : Hid (false=V):=Lib.hid (by rw [HGO.out,HOK.out]; simp)
              have hBQ:=HB3.out
              go_wp2_with fail
              try simp only [Exit.inBlock,Exit.then]
              refine bodyPost_ret (v:=.bool false) ?_ rfl ⟨ret_bool HF.out,qbv⟩
              simp [results,Tryz.results18,go_sem]
      · obtain ⟨_,_,hA,_,c0⟩:=hcs.geti (i:=0) (by simp)
        injection hA with hA
        injection hA with hA1 hA2
        subst hA1 hA2
        obtain ⟨_,_,hA,_,c1'⟩:=hcs.geti (i:=2) (by simp)
        injection hA with hA
        injection hA with hA1 hA2
        subst hA1 hA2
        simp only [Nat.zero_add,List.getElem_cons_zero,List.getElem_cons_succ] at c0 c1'
        have hxl : xl.length=2:=by have h0:=HTL.out; have h1:=HZL.out; simp at h0; omega
        rw [hxl] at HX2 ⊢
        have hw1:=wide_3 htp
        obtain ⟨m,hm⟩ : ∃ m,(Lib.compact [a,b,d]).length=m:=⟨_,rfl⟩
        have hcmp:=fun W hO hB=>compact_own (wr.heap.size+1) gv c1 [a,b,d] W hO (by simp) hB
        simp only [hm] at hcmp
        have HCMP:=Lib.hid hcmp
        have HDD:=Lib.hid (nod_3 htp HTN.out hm)
        have hn27 : n≤27:=Nat.le_trans hn3 (Nat.pow_le_pow_right (by omega : 0<3) (by omega : k≤3))
        clear hcmp hm htp
        by_cases h1 : a < -1000000000000000
        · have HWZ : Hid (wideB z=true):=Lib.hid (by rw [← HTW0.out,hw1,decide_eq_true h1]; rfl)
          clear hw1 hcs
          have HOK : Hid ((okT ⟨xm,xn,xv,⟨xA,xc,xl⟩⟩ && !(l.take k).any (sameT ⟨xm,xn,xv,⟨xA,xc,xl⟩⟩))=(nb && (!true && decide z.Nodup) && !tw)):=Lib.hid (by unfold okT; simp only [HZ.out,HTW.out,HWZ.out,HNB.out])
          go_wp2_with fail
          refine HCON.out.mono ?_
          rintro e w3 ⟨rfl,hb3⟩
          have HB3 : Hid (Below w.heap.size w w3):=Lib.hid (HB2.out.trans (hb3.mono HB2.out.size))
          have HX3:=Lib.hid (HX2.out.later hb3)
          have HO3:=Lib.hid (HO2.out.below hb3)
          clear hb3 HCON
          obtain ⟨x0,x1,x2,x3,xf,xz⟩:=Blk.b4 HX3.out
          go_wp2_with fail
          refine wp_region_T (fun W=>True) (fun _=>false) (by kernel_rfl) trivial (fun hHeld=>?_)
          refine qtq 0 ?_
          simp only [qsa,qsb,qsc]
          refine qtq 1 ?_
          simp only [qsa,qsb,qsc]
          clear hHeld
          refine qtn 2 ?_
          simp only [qsa,qsb,qsc]
          refine qtq 3 ?_
          simp only [qsa,qsb,qsc]
          refine qtq 4 ?_
          simp only [qsa,qsb,qsc]
          refine qtn 5 ?_
          simp only [qsa,qsb,qsc]
          refine qtn 6 ?_
          simp only [qsa,qsb,qsc]
          refine qtn 7 ?_
          simp only [qsa,qsb,qsc]
          refine qtn 8 ?_
          simp only [qsa,qsb,qsc]
          refine qtq 9 ?_
          simp only [qsa,qsb,qsc]
          refine qtq 10 ?_
          simp only [qsa,qsb,qsc]
          refine qtn 11 ?_
          simp only [qsa,qsb,qsc]
          refine qtn 12 ?_
          simp only [qsa,qsb,qsc]
          refine qtn 13 ?_
          simp only [qsa,qsb,qsc]
          refine qtn 14 ?_
          simp only [qsa,qsb,qsc]
          refine qtq 15 ?_
          simp only [qsa,qsb,qsc]
          refine qtq 16 ?_
          simp only [qsa,qsb,qsc]
          refine qtn 17 ?_
          simp only [qsa,qsb,qsc]
          refine qtn 18 ?_
          simp only [qsa,qsb,qsc]
          refine qtn 19 ?_
          simp only [qsa,qsb,qsc]
          refine qtn 20 ?_
          simp only [qsa,qsb,qsc]
          refine qtn 21 ?_
          simp only [qsa,qsb,qsc]
          refine qtn 22 ?_
          simp only [qsa,qsb,qsc]
          refine qtn 23 ?_
          simp only [qsa,qsb,qsc]
          refine qtq 24 ?_
          simp only [qsa,qsb,qsc]
          refine wpAnyT_done (by kernel_rfl) ?_ _
          have HF : Hid (false=V):=Lib.hid (by rw [HGO.out,HOK.out]; simp)
          have hBQ:=HB3.out
          go_wp2_with fail
          try simp only [Exit.inBlock,Exit.then]
          refine bodyPost_ret (v:=.bool false) ?_ rfl ⟨ret_bool HF.out,qbv⟩
          simp [results,Tryz.results18,go_sem]
        · by_cases h2' : 1000000000000000<d
          · have HWZ : Hid (wideB z=true):=Lib.hid (by rw [← HTW0.out,hw1,decide_eq_true h2']; simp)
            clear hw1 hcs
            have HOK : Hid ((okT ⟨xm,xn,xv,⟨xA,xc,xl⟩⟩ && !(l.take k).any (sameT ⟨xm,xn,xv,⟨xA,xc,xl⟩⟩))=(nb && (!true && decide z.Nodup) && !tw)):=Lib.hid (by unfold okT; simp only [HZ.out,HTW.out,HWZ.out,HNB.out])
            go_wp2_with fail
            refine HCON.out.mono ?_
            rintro e w3 ⟨rfl,hb3⟩
            have HB3 : Hid (Below w.heap.size w w3):=Lib.hid (HB2.out.trans (hb3.mono HB2.out.size))
            have HX3:=Lib.hid (HX2.out.later hb3)
            have HO3:=Lib.hid (HO2.out.below hb3)
            clear hb3 HCON
            obtain ⟨x0,x1,x2,x3,xf,xz⟩:=Blk.b4 HX3.out
            go_wp2_with fail
            refine wp_region_T (fun W=>True) (fun _=>false) (by kernel_rfl) trivial (fun hHeld=>?_)
            refine qtq 0 ?_
            simp only [qsa,qsb,qsc]
            refine qtq 1 ?_
            simp only [qsa,qsb,qsc]
            clear hHeld
            refine qtn 2 ?_
            simp only [qsa,qsb,qsc]
            refine qtq 3 ?_
            simp only [qsa,qsb,qsc]
            refine qtq 4 ?_
            simp only [qsa,qsb,qsc]
            refine qtn 5 ?_
            simp only [qsa,qsb,qsc]
            refine qtn 6 ?_
            simp only [qsa,qsb,qsc]
            refine qtn 7 ?_
            simp only [qsa,qsb,qsc]
            refine qtn 8 ?_
            simp only [qsa,qsb,qsc]
            refine qtq 9 ?_
            simp only [qsa,qsb,qsc]
            refine qtq 10 ?_
            simp only [qsa,qsb,qsc]
            refine qtn 11 ?_
            simp only [qsa,qsb,qsc]
            refine qtn 12 ?_
            simp only [qsa,qsb,qsc]
            refine qtn 13 ?_
            simp only [qsa,qsb,qsc]
            refine qtn 14 ?_
            simp only [qsa,qsb,qsc]
            refine qtq 15 ?_
            simp only [qsa,qsb,qsc]
            refine qtq 16 ?_
            simp only [qsa,qsb,qsc]
            refine qtn 17 ?_
            simp only [qsa,qsb,qsc]
            refine qtn 18 ?_
            simp only [qsa,qsb,qsc]
            refine qtn 19 ?_
            simp only [qsa,qsb,qsc]
            refine qtn 20 ?_
            simp only [qsa,qsb,qsc]
            refine qtn 21 ?_
            simp only [qsa,qsb,qsc]
            refine qtn 22 ?_
            simp only [qsa,qsb,qsc]
            refine qtn 23 ?_
            simp only [qsa,qsb,qsc]
            refine qtq 24 ?_
            simp only [qsa,qsb,qsc]
            refine wpAnyT_done (by kernel_rfl) ?_ _
            have HF : Hid (false=V):=Lib.hid (by rw [HGO.out,HOK.out]; simp)
            have hBQ:=HB3.out
            go_wp2_with fail
            try simp only [Exit.inBlock,Exit.then]
            refine bodyPost_ret (v:=.bool false) ?_ rfl ⟨ret_bool HF.out,qbv⟩
            simp [results,Tryz.results18,go_sem]
          · have HWZ : Hid (wideB z=false):=Lib.hid (by rw [← HTW0.out,hw1,decide_eq_false h1,decide_eq_false h2']; rfl)
            clear hw1 hcs
            have HOK : Hid ((okT ⟨xm,xn,xv,⟨xA,xc,xl⟩⟩ && !(l.take k).any (sameT ⟨xm,xn,xv,⟨xA,xc,xl⟩⟩))=(nb && (!false && decide z.Nodup) && !tw)):=Lib.hid (by unfold okT; simp only [HZ.out,HTW.out,HWZ.out,HNB.out])
            go_wp2_with fail
            refine HCON.out.mono ?_
            rintro e w3 ⟨rfl,hb3⟩
            have HB3 : Hid (Below w.heap.size w w3):=Lib.hid (HB2.out.trans (hb3.mono HB2.out.size))
            have HX3:=Lib.hid (HX2.out.later hb3)
            have HO3:=Lib.hid (HO2.out.below hb3)
            clear hb3 HCON
            obtain ⟨x0,x1,x2,x3,xf,xz⟩:=Blk.b4 HX3.out
            go_wp2_with fail
            rcases tw with _ | _
            · rcases nb with _ | _
              · have hsyn:=fun W=>syn_name xn W hxn
                rw [HNB.out] at hsyn
                refine wp_region_T (fun W=>W.cell? ⟨wr.heap.size,1,none⟩=some (.string xn)) (fun _=>false) (by kernel_rfl) x1 (fun hHeld=>?_)
                refine qtq 0 ?_
                simp only [qsa,qsb,qsc]
                clear hHeld
                refine wpAnyT_take2 (i:=1) (v:=.bool false) rfl rfl (by kernel_rfl) (by kernel_rfl) (by kernel_rfl) (by kernel_rfl) (fun _ _ _ h=>h) (Or.inl ⟨by rfl, ?_⟩) (by first | assumption | trivial) ?_
                · (intro w hSw; (try dsimp only at hSw); go_simp) <;> (first | (with_reducible rfl) | assumption | (simp; done) | (simp [*]; done) | (simp; omega))
                simp only [qsa,qsb,qsc]
                refine qtq 2 ?_
                simp only [qsa,qsb,qsc]
                refine qtq 3 ?_
                simp only [qsa,qsb,qsc]
                refine qtq 4 ?_
                simp only [qsa,qsb,qsc]
                refine qtq 5 ?_
                simp only [qsa,qsb,qsc]
                refine qtq 6 ?_
                simp only [qsa,qsb,qsc]
                refine wpAnyT_next (i:=7) (by kernel_rfl) rfl ?_
                go_wp2_with fail
                refine (hsyn _).mono ?_
                rintro e w4 ⟨rfl,hb4⟩
                have HB4 : Hid (Below w.heap.size w w4):=Lib.hid (HB3.out.drew.trans (hb4.mono (show w.heap.size≤w3.heap.size from HB3.out.size)))
                have HX4:=Lib.hid (HX3.out.drew.later hb4)
                have HO4:=Lib.hid (HO3.out.drew.below hb4)
                clear hb4
                obtain ⟨y0,y1,y2,y3,yf,yz⟩:=Blk.b4 HX4.out
                go_wp2_with fail
                refine And.intro (by first | exact fun _=>y1 | exact y1) ?_
                refine qtq 8 ?_
                simp only [qsa,qsb,qsc]
                refine qtq 9 ?_
                simp only [qsa,qsb,qsc]
                refine qtq 10 ?_
                simp only [qsa,qsb,qsc]
                refine qtn 11 ?_
                simp only [qsa,qsb,qsc]
                refine qtn 12 ?_
                simp only [qsa,qsb,qsc]
                refine qtn 13 ?_
                simp only [qsa,qsb,qsc]
                refine qtn 14 ?_
                simp only [qsa,qsb,qsc]
                refine qtq 15 ?_
                simp only [qsa,qsb,qsc]
                refine qtq 16 ?_
                simp only [qsa,qsb,qsc]
                refine qtn 17 ?_
                simp only [qsa,qsb,qsc]
                refine qtn 18 ?_
                simp only [qsa,qsb,qsc]
                refine qtn 19 ?_
                simp only [qsa,qsb,qsc]
                refine qtn 20 ?_
                simp only [qsa,qsb,qsc]
                refine qtn 21 ?_
                simp only [qsa,qsb,qsc]
                refine qtn 22 ?_
                simp only [qsa,qsb,qsc]
                refine qtn 23 ?_
                simp only [qsa,qsb,qsc]
                refine qtq 24 ?_
                simp only [qsa,qsb,qsc]
                refine wpAnyT_done (by kernel_rfl) ?_ _
                have HF : Hid (false=V):=Lib.hid (by rw [HGO.out,HOK.out]; simp)
                have hBQ:=HB4.out
                go_wp2_with fail
                try simp only [Exit.inBlock,Exit.then]
                refine bodyPost_ret (v:=.bool false) ?_ rfl ⟨ret_bool HF.out,qbv⟩
                simp [results,Tryz.results18,go_sem]
              · have hsyn:=fun W=>syn_name xn W hxn
                rw [HNB.out] at hsyn
                refine wp_region_T (fun W=>(W.cell? ⟨wr.heap.size,1,none⟩=some (.string xn)∧W.cell? ⟨wr.heap.size,3,none⟩=some (.slice xA 2 xc))) (fun _=>false) (by kernel_rfl) ⟨x1,x3⟩ (fun hHeld=>?_)
                refine qtq 0 ?_
                simp only [qsa,qsb,qsc]
                clear hHeld
                refine wpAnyT_take2 (i:=1) (v:=.bool false) rfl rfl (by kernel_rfl) (by kernel_rfl) (by kernel_rfl) (by kernel_rfl) (fun _ _ _ h=>h) (Or.inl ⟨by rfl, ?_⟩) (by first | assumption | trivial) ?_
                · (intro w hSw; (try dsimp only at hSw); go_simp) <;> (first | (with_reducible rfl) | assumption | (simp; done) | (simp [*]; done) | (simp; omega))
                simp only [qsa,qsb,qsc]
                refine qtq 2 ?_
                simp only [qsa,qsb,qsc]
                refine qtq 3 ?_
                simp only [qsa,qsb,qsc]
                refine qtq 4 ?_
                simp only [qsa,qsb,qsc]
                refine qtq 5 ?_
                simp only [qsa,qsb,qsc]
                refine qtq 6 ?_
                simp only [qsa,qsb,qsc]
                refine wpAnyT_next (i:=7) (by kernel_rfl) rfl ?_
                go_wp2_with fail
                refine (hsyn _).mono ?_
                rintro e w4 ⟨rfl,hb4⟩
                have HB4 : Hid (Below w.heap.size w w4):=Lib.hid (HB3.out.drew.trans (hb4.mono (show w.heap.size≤w3.heap.size from HB3.out.size)))
                have HX4:=Lib.hid (HX3.out.drew.later hb4)
                have HO4:=Lib.hid (HO3.out.drew.below hb4)
                clear hb4
                obtain ⟨y0,y1,y2,y3,yf,yz⟩:=Blk.b4 HX4.out
                go_wp2_with fail
                refine And.intro (by first | exact fun _=>⟨y1,y3⟩ | exact ⟨y1,y3⟩) ?_
                refine qtq 8 ?_
                simp only [qsa,qsb,qsc]
                refine qtq 9 ?_
                simp only [qsa,qsb,qsc]
                refine qtq 10 ?_
                simp only [qsa,qsb,qsc]
                refine qtq 11 ?_
                simp only [qsa,qsb,qsc]
                refine qtq 12 ?_
                simp only [qsa,qsb,qsc]
                refine qtq 13 ?_
                simp only [qsa,qsb,qsc]
                refine wpAnyT_take2 (i:=14) (v:=.bool false) rfl rfl (by kernel_rfl) (by kernel_rfl) (by kernel_rfl) (by kernel_rfl) (fun _ _ _ h=>h) (Or.inl ⟨by rfl, ?_⟩) (by first | assumption | trivial) ?_
                · (intro w hSw; (try dsimp only at hSw); go_simp) <;> (first | (with_reducible rfl) | assumption | (simp; done) | (simp [*]; done) | (simp; omega))
                simp only [qsa,qsb,qsc]
                refine qtq 15 ?_
                simp only [qsa,qsb,qsc]
                refine qtq 16 ?_
                simp only [qsa,qsb,qsc]
                refine qtq 17 ?_
                simp only [qsa,qsb,qsc]
                refine qtq 20 ?_
                simp only [qsa,qsb,qsc]
                refine qtq 21 ?_
                simp only [qsa,qsb,qsc]
                refine qtq 22 ?_
                simp only [qsa,qsb,qsc]
                refine wpAnyT_next (i:=18) (by kernel_rfl) rfl ?_
                go_wp2_with fail
                refine (HCMP.out _ HO4.out (by have:=HX4.out.lt; show wr.heap.size+1≤w4.heap.size; omega)).mono ?_
                rintro e w5 ⟨rfl,hb5⟩
                have HB5 : Hid (Below w.heap.size w w5):=Lib.hid (HB4.out.trans (hb5.mono (by have:=hbel.size; omega)))
                have HX5:=Lib.hid (HX4.out.below hb5 (Nat.lt_succ_self _))
                clear hb5
                obtain ⟨z0,z1,z2,z3,zf,zz⟩:=Blk.b4 HX5.out
                go_wp2_with fail
                refine And.intro (by first | exact fun _=>⟨z1,z3⟩ | exact ⟨z1,z3⟩) ?_
                refine qtq 19 ?_
                simp only [qsa,qsb,qsc]
                by_cases hnd : z.Nodup
                · rw [decide_eq_true hnd] at HOK
                  have hdd:=HDD.out.1 hnd
                  refine wpAnyT_take2 (i:=23) (v:=.bool false) rfl rfl (by kernel_rfl) (by kernel_rfl) (by kernel_rfl) (by kernel_rfl) (fun _ _ _ h=>h) (Or.inl ⟨by rfl, ?_⟩) (by first | assumption | trivial) ?_
                  · (intro w hSw; (try dsimp only at hSw); go_simp) <;> (first | (with_reducible rfl) | assumption | (simp; done) | (simp [*]; done) | (simp; omega))
                  simp only [qsa,qsb,qsc]
                  refine qtq 24 ?_
                  simp only [qsa,qsb,qsc]
                  refine wpAnyT_done (by kernel_rfl) ?_ _
                  clear hdd hnd x0 x1 x2 x3 xf xz y0 y1 y2 y3 yf yz
                  have HV2 : Hid (V=rightT (l.take (k+1)) (l.drop (k+1))):=Lib.hid (by rw [HGO.out,HOK.out]; rfl)
                  go_wp2_with fail
                  go_roundw
                  case rel=>exact ⟨k+1,n * 3,by omega,by first | rfl | (congr 1; push_cast; omega),by go_num,by omega,by rw [Nat.pow_succ]; omega,HB5.out,HV2⟩
                  case measure=>simp [intOf]; omega
                · rw [decide_eq_false hnd] at HOK
                  have hdd:=HDD.out.2 hnd
                  refine wpAnyT_take2 (i:=23) (v:=.bool true) rfl rfl (by kernel_rfl) (by kernel_rfl) (by kernel_rfl) (by kernel_rfl) (fun _ _ _ h=>h) (Or.inl ⟨by rfl, ?_⟩) (by first | assumption | trivial) ?_
                  · (intro w hSw; (try dsimp only at hSw); go_simp) <;> (first | (with_reducible rfl) | assumption | (simp; done) | (simp [*]; done) | (simp; omega))
                  simp only [qsa,qsb,qsc]
                  refine qtq 24 ?_
                  simp only [qsa,qsb,qsc]
                  refine wpAnyT_done (by kernel_rfl) ?_ _
                  have HF : Hid (false=V):=Lib.hid (by rw [HGO.out,HOK.out]; simp)
                  have hBQ:=HB5.out
                  go_wp2_with fail
                  try simp only [Exit.inBlock,Exit.then]
                  refine bodyPost_ret (v:=.bool false) ?_ rfl ⟨ret_bool HF.out,qbv⟩
                  simp [results,Tryz.results18,go_sem]
            · skip
              refine wp_region_T (fun W=>True) (fun _=>false) (by kernel_rfl) trivial (fun hHeld=>?_)
              refine qtq 0 ?_
              simp only [qsa,qsb,qsc]
              clear hHeld
              refine wpAnyT_take2 (i:=1) (v:=.bool false) rfl rfl (by kernel_rfl) (by kernel_rfl) (by kernel_rfl) (by kernel_rfl) (fun _ _ _ h=>h) (Or.inl ⟨by rfl, ?_⟩) (by first | assumption | trivial) ?_
              · (intro w hSw; (try dsimp only at hSw); go_simp) <;> (first | (with_reducible rfl) | assumption | (simp; done) | (simp [*]; done) | (simp; omega))
              simp only [qsa,qsb,qsc]
              refine qtq 2 ?_
              simp only [qsa,qsb,qsc]
              refine wpAnyT_take2 (i:=3) (v:=.bool true) rfl rfl (by kernel_rfl) (by kernel_rfl) (by kernel_rfl) (by kernel_rfl) (fun _ _ _ h=>h) (Or.inl ⟨by rfl, ?_⟩) (by first | assumption | trivial) ?_
              · (intro w hSw; (try dsimp only at hSw); go_simp) <;> (first | (with_reducible rfl) | assumption | (simp; done) | (simp [*]; done) | (simp; omega))
              simp only [qsa,qsb,qsc]
              refine qtq 4 ?_
              simp only [qsa,qsb,qsc]
              refine qtn 5 ?_
              simp only [qsa,qsb,qsc]
              refine qtn 6 ?_
              simp only [qsa,qsb,qsc]
              refine qtn 7 ?_
              simp only [qsa,qsb,qsc]
              refine qtn 8 ?_
              simp only [qsa,qsb,qsc]
              refine qtq 9 ?_
              simp only [qsa,qsb,qsc]
              refine qtq 10 ?_
              simp only [qsa,qsb,qsc]
              refine qtn 11 ?_
              simp only [qsa,qsb,qsc]
              refine qtn 12 ?_
              simp only [qsa,qsb,qsc]
              refine qtn 13 ?_
              simp only [qsa,qsb,qsc]
              refine qtn 14 ?_
              simp only [qsa,qsb,qsc]
              refine qtq 15 ?_
              simp only [qsa,qsb,qsc]
              refine qtq 16 ?_
              simp only [qsa,qsb,qsc]
              refine qtn 17 ?_
              simp only [qsa,qsb,qsc]
              refine qtn 18 ?_
              simp only [qsa,qsb,qsc]
              refine qtn 19 ?_
              simp only [qsa,qsb,qsc]
              refine qtn 20 ?_
              simp only [qsa,qsb,qsc]
              refine qtn 21 ?_
              simp only [qsa,qsb,qsc]
              refine qtn 22 ?_
              simp only [qsa,qsb,qsc]
              refine qtn 23 ?_
              simp only [qsa,qsb,qsc]
              refine qtq 24 ?_
              simp only [qsa,qsb,qsc]
              refine wpAnyT_done (by kernel_rfl) ?_ _
              have HF : Hid (false=V):=Lib.hid (by rw [HGO.out,HOK.out]; simp)
              have hBQ:=HB3.out
              go_wp2_with fail
              try simp only [Exit.inBlock,Exit.then]
              refine bodyPost_ret (v:=.bool false) ?_ rfl ⟨ret_bool HF.out,qbv⟩
              simp [results,Tryz.results18,go_sem]
      · have h0:=HTL.out; simp at h0; omega
    · have hkl : k=l.length:=by omega
      subst hkl
      have HV2 : Hid (V=true):=Lib.hid (by rw [HG.out,List.drop_length]; unfold rightT; rfl)
      have hn81 : n≤81:=Nat.le_trans hn3 (Nat.pow_le_pow_right (by omega : 0<3) (by omega : l.length≤4))
      clear HG hn3
      go_wp2_with fail
      go_ret
      exact ⟨ret_bool (by rw [HV2.out]; exact decide_eq_true (by omega)),hbel⟩
end Go.Proofs.YtmomlipmpgcheaaGreatDoor
