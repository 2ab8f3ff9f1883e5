/- The walk of HierMore (printed in part by gen_hmw.py). -/
import Derived.Test.YtlbihfbeamlacaaMoremxaa
import Derived.Test.YtlbihfbeamlacaaHbxbt
set_option linter.unusedSimpArgs false
set_option linter.unusedVariables false
set_option maxRecDepth 100000
set_option maxHeartbeats 6400000
namespace Go.Proofs.Ytlbihfbeamlacaa
open Go.RowKit
theorem hiermore (n : Int) (es : Sl ED) (R O : Sl Int) (e : ED) (w : World) (hr : Rd (· < w.heap.size) 4 ED.enc w es) (hR : Rd (· < w.heap.size) 1 ienc w R) (hO : Rd (· < w.heap.size) 1 ienc w O) (_he : EDok e) :
    Calls Try.prog 7 #[.int .i64 n,.slice es.A es.l.length es.c,.slice R.A R.l.length R.c,.slice O.A O.l.length O.c,e.v'] w fun r w'=>r = .returned (.bool true)∧Below w.heap.size w w':=by
  obtain ⟨xf,xt,xn,xv⟩:=e
  obtain ⟨EA0,Ec0,es⟩:=es
  have HE:=Lib.hid hr
  have HR:=Lib.hid hR
  have HOt:=Lib.hid hO
  have hl1:=hr.len
  have hl2:=hR.len
  have hl3:=hO.len
  simp only at hl1 ⊢
  simp only [ED.v']
  clear hr hR hO _he
  go_enter Try.func7,Try.ntmps7
  go_wp2_with fail
  have HB : Hid (Below w.heap.size w (w.alloc (.cells #[.int .i64 xf,.int .i64 xt,.int .i64 xn,.int .i64 xv] 44))):=Lib.hid (by repeat (first | (with_reducible exact Below.refl _ _) | ((with_reducible refine below_setr ?_ ?_); focus (first | (simp; done) | (simp; omega) | omega)) | ((with_reducible refine below_allocr ?_ ?_); focus (first | (simp; done) | (simp; omega) | omega)) | (with_reducible refine Below.drew ?_) | (with_reducible refine below_drewN ?_ _)))
  have HXM : Hid (Blk (w.alloc (.cells #[.int .i64 xf,.int .i64 xt,.int .i64 xn,.int .i64 xv] 44)) w.heap.size 44 #[.int .i64 xf,.int .i64 xt,.int .i64 xn,.int .i64 xv]):=Lib.hid (Blk.new _ _ _)
  generalize w.alloc (.cells #[.int .i64 xf,.int .i64 xt,.int .i64 xn,.int .i64 xv] 44)=w1 at *
  refine (law_small w1).mono ?_
  rintro r w2 ⟨rfl,hb⟩
  replace HB:=Lib.hid (HB.out.trans (hb.mono HB.out.size))
  try replace HXM:=Lib.hid (HXM.out.later hb)
  try replace HX:=Lib.hid (HX.out.later hb)
  try replace HO1:=Lib.hid (HO1.out.below hb)
  try replace HO2:=Lib.hid (HO2.out.below hb)
  clear hb
  go_wp2_with fail
  have hfw:=fun w=>law_few n ⟨EA0,Ec0,es⟩ R w hl1 hl2
  simp only at hfw
  refine (hfw w2).mono ?_
  clear hfw
  rintro r w3 ⟨rfl,hb⟩
  replace HB:=Lib.hid (HB.out.trans (hb.mono HB.out.size))
  try replace HXM:=Lib.hid (HXM.out.later hb)
  try replace HX:=Lib.hid (HX.out.later hb)
  try replace HO1:=Lib.hid (HO1.out.below hb)
  try replace HO2:=Lib.hid (HO2.out.below hb)
  clear hb
  obtain ⟨fb,hfb⟩ : ∃ b,fewB n es R.l=b:=⟨_,rfl⟩
  rw [hfb]
  have HFB:=Lib.hid hfb
  clear hfb
  rcases fb
  · go_wp2_with fail
    go_ret
    exact ⟨rfl,HB.out⟩
  · by_cases h23 : 23<es.length
    · have h23' : (23 : Int)<(es.length : Int):=by omega
      go_wp2_with fail
      go_ret
      exact ⟨rfl,HB.out⟩
    · have h23' : ¬ (23 : Int)<(es.length : Int):=by omega
      by_cases h10 : 10<O.l.length
      · have h10' : (10 : Int)<(O.l.length : Int):=by omega
        go_wp2_with fail
        go_ret
        exact ⟨rfl,HB.out⟩
      · have h10' : ¬ (10 : Int)<(O.l.length : Int):=by omega
        obtain ⟨h9,h24,hR10⟩:=few_nine HFB.out
        replace hR10 : R.l.length≤10000:=by omega
        have hO10 : O.l.length≤10000:=by omega
        obtain ⟨es2,hes2⟩ : ∃ x,es ++ [(⟨xf,xt,xn,xv⟩ : ED)]=x:=⟨_,rfl⟩
        have HES2:=Lib.hid hes2
        have H9:=Lib.hid h9
        have H92 : Hid (graphB n es2=true→n≤9):=Lib.hid (few_nine2 HFB.out es2)
        clear h9 hes2
        go_wp2_with fail
        have hbc:=fun w a=>hier_Build n ⟨EA0,Ec0,es⟩ R w a
        simp only at hbc
        refine (hbc w3 (HE.out.later HB.out (Nat.le_refl _)) (HR.out.later HB.out (Nat.le_refl _)) hR10 H9.out).mono ?_
        clear hbc
        rintro r w4 ⟨RA,EA,Rc,Ec,rfl,ho1,ho2,hb⟩
        obtain ⟨⟨R3,E3,c3⟩,hv3⟩ : ∃ v,bldV n es R.l=v:=⟨_,rfl⟩
        obtain ⟨⟨R5,E5,c5⟩,hv5⟩ : ∃ v,bldV n es2 R.l=v:=⟨_,rfl⟩
        obtain ⟨⟨R6,E6,c6⟩,hv6⟩ : ∃ v,bldV n es O.l=v:=⟨_,rfl⟩
        simp only [hv3] at ho1 ho2 ⊢
        have HV3:=Lib.hid hv3
        have HV5:=Lib.hid hv5
        have HV6:=Lib.hid hv6
        have HO1:=Lib.hid ho1
        have HO2:=Lib.hid ho2
        clear ho1 ho2 hv3 hv5 hv6
        replace HB:=Lib.hid (HB.out.trans (hb.mono HB.out.size))
        replace HXM:=Lib.hid (HXM.out.later hb)
        clear hb
        go_wp2_with fail
        have HX : Hid (Blk (w4.alloc (.cells #[.slice RA R3.length Rc,.slice EA E3.length Ec] 25)) w4.heap.size 25 #[.slice RA R3.length Rc,.slice EA E3.length Ec]):=Lib.hid (Blk.new _ _ _)
        have hb : Below w4.heap.size w4 (w4.alloc (.cells #[.slice RA R3.length Rc,.slice EA E3.length Ec] 25)):=(Below.refl _ _).alloc (Nat.le_refl _) _
        replace HB:=Lib.hid (HB.out.trans (hb.mono HB.out.size))
        replace HXM:=Lib.hid (HXM.out.later hb)
        replace HO1:=Lib.hid (HO1.out.below hb)
        replace HO2:=Lib.hid (HO2.out.below hb)
        clear hb
        generalize w4.alloc (.cells #[.slice RA R3.length Rc,.slice EA E3.length Ec] 25)=wu at *
        generalize w4.heap.size=g1 at *
        have HEr:=Lib.hid (HE.out.later HB.out (Nat.le_refl _))
        have HBu:=HB
        obtain ⟨gm,hgm⟩ : ∃ x,x=w.heap.size:=⟨_,rfl⟩
        rw [← hgm] at HXM ⊢
        have HGM:=Lib.hid hgm
        clear hgm
        refine wp_region_T (fun W=>W.cell? ⟨gm,0,none⟩=some (.int .i64 xf)∧W.cell? ⟨gm,1,none⟩=some (.int .i64 xt)∧W.cell? ⟨gm,2,none⟩=some (.int .i64 xn)∧W.cell? ⟨gm,3,none⟩=some (.int .i64 xv)) (fun _=>false) (by kernel_rfl) ⟨HXM.out.cell 0,HXM.out.cell 1,HXM.out.cell 2,HXM.out.cell 3⟩ (fun hHeld=>?_)
        refine wpAnyT_take2 (i:=0) (v:=?_) rfl rfl (by kernel_rfl) (by kernel_rfl) (by kernel_rfl) (by kernel_rfl) (fun _ _ _ h=>h) (Or.inl ⟨by rfl, ?_⟩) (by first | assumption | trivial) ?_
        rotate_left
        · (intro w hSw; (try dsimp only at hSw); go_simp) <;> (with_reducible rfl)
        simp only [List.setIfInBounds_toArray,List.set_cons_zero,List.set_cons_succ]
        refine wpAnyT_take2 (i:=2) (v:=?_) rfl rfl (by kernel_rfl) (by kernel_rfl) (by kernel_rfl) (by kernel_rfl) (fun _ _ _ h=>h) (Or.inl ⟨by rfl, ?_⟩) (by first | assumption | trivial) ?_
        rotate_left
        · (intro w hSw; (try dsimp only at hSw); go_simp) <;> (with_reducible rfl)
        simp only [List.setIfInBounds_toArray,List.set_cons_zero,List.set_cons_succ]
        refine wpAnyT_take2 (i:=4) (v:=?_) rfl rfl (by kernel_rfl) (by kernel_rfl) (by kernel_rfl) (by kernel_rfl) (fun _ _ _ h=>h) (Or.inl ⟨by rfl, ?_⟩) (by first | assumption | trivial) ?_
        rotate_left
        · (intro w hSw; (try dsimp only at hSw); go_simp) <;> (with_reducible rfl)
        simp only [List.setIfInBounds_toArray,List.set_cons_zero,List.set_cons_succ]
        refine wpAnyT_take2 (i:=7) (v:=?_) rfl rfl (by kernel_rfl) (by kernel_rfl) (by kernel_rfl) (by kernel_rfl) (fun _ _ _ h=>h) (Or.inl ⟨by rfl, ?_⟩) (by first | assumption | trivial) ?_
        rotate_left
        · (intro w hSw; (try dsimp only at hSw); go_simp) <;> (with_reducible rfl)
        simp only [List.setIfInBounds_toArray,List.set_cons_zero,List.set_cons_succ]
        clear hHeld
        have HUU : Hid (Below wu.heap.size wu wu.drew):=Lib.hid (Below.drew (Below.refl _ _))
        obtain ⟨v0,hv0⟩ : ∃ x,x=wu.drew:=⟨_,rfl⟩
        rw [← hv0] at HUU ⊢
        clear hv0 h23 h23' h10 h10' hl2 hl3
        apply cutT
        · intro fin0
          have FIN:=Lib.hid fin0
          clear fin0
          refine wpAnyT_three (i:=1) (j:=5) (l:=12) (by kernel_rfl) rfl rfl rfl ?_ ?_ ?_
          · skip
            go_wp2_with fail
            have hal : Below v0.heap.size v0 (v0.alloc (.cells #[] 44)):=(Below.refl _ _).alloc (Nat.le_refl _) _
            have HR1 : Hid (Own wu.heap.size 44 4 ED.enc (v0.alloc (.cells #[] 44)) ⟨some ⟨v0.heap.size,0,none⟩,0,[]⟩):=Lib.hid (Own.lit v0 #[] [] HUU.out.size (by simp) rfl ED.k)
            replace HUU:=Lib.hid (HUU.out.trans (hal.mono HUU.out.size))
            clear hal
            generalize v0.alloc (.cells #[] 44)=v1 at *
            generalize v0.heap.size=g0 at *
            refine And.intro (by first | exact ⟨(HXM.out.later HUU.out).cell 0,(HXM.out.later HUU.out).cell 1,(HXM.out.later HUU.out).cell 2,(HXM.out.later HUU.out).cell 3⟩ | exact fun _=>⟨(HXM.out.later HUU.out).cell 0,(HXM.out.later HUU.out).cell 1,(HXM.out.later HUU.out).cell 2,(HXM.out.later HUU.out).cell 3⟩) ?_
            refine wpAnyT_three (i:=3) (j:=5) (l:=12) (by kernel_rfl) rfl rfl rfl ?_ ?_ ?_
            · skip
              have hb2:=HUU.out.size
              refine wpl_append_sl _ rfl (.tmp 49) (.tmp 50) _ rfl Try.underlying22 infoEdge (by omega) ED.k ED.one ⟨some ⟨g0,0,none⟩,0,[]⟩ ⟨EA0,Ec0,es⟩ rfl rfl HR1.out (HEr.out.below HUU.out) (by simp [maxLen]; omega) (by simp; omega) hb2 ?_
              intro A1 c1 v2 hown hg hAA
              simp only [List.nil_append] at hown hg
              simp only [List.nil_append]
              have hro:=fun q hq=>(own_row HR1.out q hq).2.1
              have HUU0:=HUU
              replace HUU:=Lib.hid (HUU.out.trans (below_of_grown hg hb2 hro))
              replace HR1:=Lib.hid hown
              clear hown hg hro hb2 hAA HUU0
              go_wp2_with fail
              refine And.intro (by first | exact ⟨(HXM.out.later HUU.out).cell 0,(HXM.out.later HUU.out).cell 1,(HXM.out.later HUU.out).cell 2,(HXM.out.later HUU.out).cell 3⟩ | exact fun _=>⟨(HXM.out.later HUU.out).cell 0,(HXM.out.later HUU.out).cell 1,(HXM.out.later HUU.out).cell 2,(HXM.out.later HUU.out).cell 3⟩) ?_
              refine wpAnyT_two (i:=5) (j:=12) (by kernel_rfl) rfl rfl ?_ ?_
              · skip
                go_wp2_with fail
                have hal : Below v2.heap.size v2 (v2.alloc (.cells #[.int .i64 xf,.int .i64 xt,.int .i64 xn,.int .i64 xv] 44)):=(Below.refl _ _).alloc (Nat.le_refl _) _
                have HE5 : Hid (Blk (v2.alloc (.cells #[.int .i64 xf,.int .i64 xt,.int .i64 xn,.int .i64 xv] 44)) v2.heap.size 44 #[.int .i64 xf,.int .i64 xt,.int .i64 xn,.int .i64 xv]):=Lib.hid (Blk.new _ _ _)
                have HN5 : Hid (A1≠some ⟨v2.heap.size,0,none⟩):=Lib.hid (fun e=>absurd (HR1.out.bound _ e) (Nat.lt_irrefl _))
                replace HUU:=Lib.hid (HUU.out.trans (hal.mono HUU.out.size))
                replace HR1:=Lib.hid (HR1.out.below hal)
                clear hal
                generalize v2.alloc (.cells #[.int .i64 xf,.int .i64 xt,.int .i64 xn,.int .i64 xv] 44)=v3 at *
                generalize v2.heap.size=g5 at *
                refine And.intro (by first | exact ⟨(HXM.out.later HUU.out).cell 0,(HXM.out.later HUU.out).cell 1,(HXM.out.later HUU.out).cell 2,(HXM.out.later HUU.out).cell 3⟩ | exact fun _=>⟨(HXM.out.later HUU.out).cell 0,(HXM.out.later HUU.out).cell 1,(HXM.out.later HUU.out).cell 2,(HXM.out.later HUU.out).cell 3⟩) ?_
                refine wpAnyT_two (i:=6) (j:=12) (by kernel_rfl) rfl rfl ?_ ?_
                · skip
                  have hb2:=HUU.out.size
                  refine wpl_append_sl _ rfl (.tmp 51) (.tmp 53) _ rfl Try.underlying22 infoEdge (by omega) ED.k ED.one ⟨A1,c1,es⟩ ⟨some ⟨g5,0,none⟩,1,[⟨xf,xt,xn,xv⟩]⟩ rfl rfl HR1.out (rd_ed1 HE5.out) (by simp [maxLen]; omega) (by simp; omega) hb2 ?_
                  intro A2 c2 v4 hown hg hAA
                  simp only at hown hg
                  simp only [HES2.out] at hown ⊢
                  have hro:=fun q hq=>(own_row HR1.out q hq).2.1
                  have HUU0:=HUU
                  replace HUU:=Lib.hid (HUU.out.trans (below_of_grown hg hb2 hro))
                  have HR2:=Lib.hid hown
                  clear hown hg hro hb2 hAA HUU0 HR1 HE5 HN5
                  go_wp2_with fail
                  refine And.intro (by first | exact ⟨(HXM.out.later HUU.out).cell 0,(HXM.out.later HUU.out).cell 1,(HXM.out.later HUU.out).cell 2,(HXM.out.later HUU.out).cell 3⟩ | exact fun _=>⟨(HXM.out.later HUU.out).cell 0,(HXM.out.later HUU.out).cell 1,(HXM.out.later HUU.out).cell 2,(HXM.out.later HUU.out).cell 3⟩) ?_
                  refine wpAnyT_two (i:=8) (j:=12) (by kernel_rfl) rfl rfl ?_ ?_
                  · skip
                    go_wp2_with fail
                    refine (hier_Build n ⟨A2,c2,es2⟩ R v4 ((Own.rd ED.k HR2.out).mono fun b hb=>hb.2) (HR.out.later (HBu.out.trans (HUU.out.mono HBu.out.size)) (Nat.le_refl _)) hR10 H92.out).mono ?_
                    rintro r v5 ⟨GA,GE,Gc,Gd,rfl,hp1,hp2,hal⟩
                    simp only [HV5.out] at hp1 hp2 ⊢
                    have HP1:=Lib.hid (hp1.mono HUU.out.size)
                    have HP2:=Lib.hid (hp2.mono HUU.out.size)
                    clear hp1 hp2 HR2
                    replace HUU:=Lib.hid (HUU.out.trans (hal.mono HUU.out.size))
                    clear hal
                    go_wp2_with fail
                    refine And.intro (by first | exact ⟨(HXM.out.later HUU.out).cell 0,(HXM.out.later HUU.out).cell 1,(HXM.out.later HUU.out).cell 2,(HXM.out.later HUU.out).cell 3⟩ | exact fun _=>⟨(HXM.out.later HUU.out).cell 0,(HXM.out.later HUU.out).cell 1,(HXM.out.later HUU.out).cell 2,(HXM.out.later HUU.out).cell 3⟩) ?_
                    have hHeld:=And.intro ((HXM.out.later HUU.out).cell 0) (And.intro ((HXM.out.later HUU.out).cell 1) (And.intro ((HXM.out.later HUU.out).cell 2) ((HXM.out.later HUU.out).cell 3)))
                    refine wpAnyT_take2 (i:=9) (v:=?_) rfl rfl (by kernel_rfl) (by kernel_rfl) (by kernel_rfl) (by kernel_rfl) (fun _ _ _ h=>h) (Or.inl ⟨by rfl, ?_⟩) (by first | assumption | trivial) ?_
                    rotate_left
                    · (intro w hSw; (try dsimp only at hSw); go_simp) <;> (with_reducible rfl)
                    simp only [List.setIfInBounds_toArray,List.set_cons_zero,List.set_cons_succ]
                    refine wpAnyT_take2 (i:=10) (v:=?_) rfl rfl (by kernel_rfl) (by kernel_rfl) (by kernel_rfl) (by kernel_rfl) (fun _ _ _ h=>h) (Or.inl ⟨by rfl, ?_⟩) (by first | assumption | trivial) ?_
                    rotate_left
                    · (intro w hSw; (try dsimp only at hSw); go_simp) <;> (with_reducible rfl)
                    simp only [List.setIfInBounds_toArray,List.set_cons_zero,List.set_cons_succ]
                    refine wpAnyT_take2 (i:=11) (v:=?_) rfl rfl (by kernel_rfl) (by kernel_rfl) (by kernel_rfl) (by kernel_rfl) (fun _ _ _ h=>h) (Or.inl ⟨by rfl, ?_⟩) (by first | assumption | trivial) ?_
                    rotate_left
                    · (intro w hSw; (try dsimp only at hSw); go_simp) <;> (with_reducible rfl)
                    simp only [List.setIfInBounds_toArray,List.set_cons_zero,List.set_cons_succ]
                    clear hHeld
                    refine wpAnyT_next (i:=12) (by kernel_rfl) rfl ?_
                    go_wp2_with fail
                    have hal : Below v5.heap.size v5 (v5.alloc (.cells #[.slice none 0 0,.slice none 0 0] 25)):=(Below.refl _ _).alloc (Nat.le_refl _) _
                    have HK : Hid (Blk (v5.alloc (.cells #[.slice none 0 0,.slice none 0 0] 25)) v5.heap.size 25 #[.slice none 0 0,.slice none 0 0]):=Lib.hid (Blk.new _ _ _)
                    have HKB : Hid (wu.heap.size≤v5.heap.size):=Lib.hid HUU.out.size
                    have HNG : Hid (GA≠some ⟨v5.heap.size,0,none⟩∧GE≠some ⟨v5.heap.size,0,none⟩):=Lib.hid ⟨fun e=>absurd (HP1.out.bound _ e) (Nat.lt_irrefl _),fun e=>absurd (HP2.out.bound _ e) (Nat.lt_irrefl _)⟩
                    replace HUU:=Lib.hid (HUU.out.trans (hal.mono HUU.out.size))
                    replace HP1:=Lib.hid (HP1.out.below hal)
                    replace HP2:=Lib.hid (HP2.out.below hal)
                    clear hal
                    generalize v5.alloc (.cells #[.slice none 0 0,.slice none 0 0] 25)=v6 at *
                    generalize v5.heap.size=g12 at *
                    refine And.intro (by first | exact ⟨(HXM.out.later HUU.out).cell 0,(HXM.out.later HUU.out).cell 1,(HXM.out.later HUU.out).cell 2,(HXM.out.later HUU.out).cell 3⟩ | exact fun _=>⟨(HXM.out.later HUU.out).cell 0,(HXM.out.later HUU.out).cell 1,(HXM.out.later HUU.out).cell 2,(HXM.out.later HUU.out).cell 3⟩) ?_
                    revert HK
                    revert HNG
                    revert HP2
                    revert HP1
                    revert HKB
                    revert HUU
                    revert g12
                    revert Gd
                    revert Gc
                    revert GE
                    revert GA
                    revert c2
                    revert A2
                    revert g5
                    revert c1
                    revert A1
                    revert g0
                    revert v6
                    exact FIN.out
                  · skip
                    go_wp2_with fail
                    have hal : Below v4.heap.size v4 (v4.alloc (.cells #[.slice none 0 0,.slice none 0 0] 25)):=(Below.refl _ _).alloc (Nat.le_refl _) _
                    have HK : Hid (Blk (v4.alloc (.cells #[.slice none 0 0,.slice none 0 0] 25)) v4.heap.size 25 #[.slice none 0 0,.slice none 0 0]):=Lib.hid (Blk.new _ _ _)
                    have HKB : Hid (wu.heap.size≤v4.heap.size):=Lib.hid HUU.out.size
                    replace HUU:=Lib.hid (HUU.out.trans (hal.mono HUU.out.size))
                    replace HR2:=Lib.hid (HR2.out.below hal)
                    clear hal
                    generalize v4.alloc (.cells #[.slice none 0 0,.slice none 0 0] 25)=v5 at *
                    generalize v4.heap.size=g12 at *
                    refine And.intro (by first | exact ⟨(HXM.out.later HUU.out).cell 0,(HXM.out.later HUU.out).cell 1,(HXM.out.later HUU.out).cell 2,(HXM.out.later HUU.out).cell 3⟩ | exact fun _=>⟨(HXM.out.later HUU.out).cell 0,(HXM.out.later HUU.out).cell 1,(HXM.out.later HUU.out).cell 2,(HXM.out.later HUU.out).cell 3⟩) ?_
                    refine wpAnyT_next (i:=8) (by kernel_rfl) rfl ?_
                    go_wp2_with fail
                    refine (hier_Build n ⟨A2,c2,es2⟩ R v5 ((Own.rd ED.k HR2.out).mono fun b hb=>hb.2) (HR.out.later (HBu.out.trans (HUU.out.mono HBu.out.size)) (Nat.le_refl _)) hR10 H92.out).mono ?_
                    rintro r v6 ⟨GA,GE,Gc,Gd,rfl,hp1,hp2,hal⟩
                    simp only [HV5.out] at hp1 hp2 ⊢
                    have HNG : Hid (GA≠some ⟨g12,0,none⟩∧GE≠some ⟨g12,0,none⟩):=Lib.hid ⟨own_ge_ne hp1 HK.out.lt,own_ge_ne hp2 HK.out.lt⟩
                    have HP1:=Lib.hid (hp1.mono HUU.out.size)
                    have HP2:=Lib.hid (hp2.mono HUU.out.size)
                    clear hp1 hp2 HR2
                    replace HUU:=Lib.hid (HUU.out.trans (hal.mono HUU.out.size))
                    replace HK:=Lib.hid (HK.out.later hal)
                    clear hal
                    go_wp2_with fail
                    refine And.intro (by first | exact ⟨(HXM.out.later HUU.out).cell 0,(HXM.out.later HUU.out).cell 1,(HXM.out.later HUU.out).cell 2,(HXM.out.later HUU.out).cell 3⟩ | exact fun _=>⟨(HXM.out.later HUU.out).cell 0,(HXM.out.later HUU.out).cell 1,(HXM.out.later HUU.out).cell 2,(HXM.out.later HUU.out).cell 3⟩) ?_
                    have hHeld:=And.intro ((HXM.out.later HUU.out).cell 0) (And.intro ((HXM.out.later HUU.out).cell 1) (And.intro ((HXM.out.later HUU.out).cell 2) ((HXM.out.later HUU.out).cell 3)))
                    refine wpAnyT_take2 (i:=9) (v:=?_) rfl rfl (by kernel_rfl) (by kernel_rfl) (by kernel_rfl) (by kernel_rfl) (fun _ _ _ h=>h) (Or.inl ⟨by rfl, ?_⟩) (by first | assumption | trivial) ?_
                    rotate_left
                    · (intro w hSw; (try dsimp only at hSw); go_simp) <;> (with_reducible rfl)
                    simp only [List.setIfInBounds_toArray,List.set_cons_zero,List.set_cons_succ]
                    refine wpAnyT_take2 (i:=10) (v:=?_) rfl rfl (by kernel_rfl) (by kernel_rfl) (by kernel_rfl) (by kernel_rfl) (fun _ _ _ h=>h) (Or.inl ⟨by rfl, ?_⟩) (by first | assumption | trivial) ?_
                    rotate_left
                    · (intro w hSw; (try dsimp only at hSw); go_simp) <;> (with_reducible rfl)
                    simp only [List.setIfInBounds_toArray,List.set_cons_zero,List.set_cons_succ]
                    refine wpAnyT_take2 (i:=11) (v:=?_) rfl rfl (by kernel_rfl) (by kernel_rfl) (by kernel_rfl) (by kernel_rfl) (fun _ _ _ h=>h) (Or.inl ⟨by rfl, ?_⟩) (by first | assumption | trivial) ?_
                    rotate_left
                    · (intro w hSw; (try dsimp only at hSw); go_simp) <;> (with_reducible rfl)
                    simp only [List.setIfInBounds_toArray,List.set_cons_zero,List.set_cons_succ]
                    clear hHeld
                    exact wpAnyT_listed (by kernel_rfl) (FIN.out v6 g0 A1 c1 g5 A2 c2 GA GE Gc Gd g12 HUU HKB HP1 HP2 HNG HK)
                · skip
                  go_wp2_with fail
                  have hal : Below v3.heap.size v3 (v3.alloc (.cells #[.slice none 0 0,.slice none 0 0] 25)):=(Below.refl _ _).alloc (Nat.le_refl _) _
                  have HK : Hid (Blk (v3.alloc (.cells #[.slice none 0 0,.slice none 0 0] 25)) v3.heap.size 25 #[.slice none 0 0,.slice none 0 0]):=Lib.hid (Blk.new _ _ _)
                  have HKB : Hid (wu.heap.size≤v3.heap.size):=Lib.hid HUU.out.size
                  have HNK : Hid (A1≠some ⟨v3.heap.size,0,none⟩):=Lib.hid (fun e=>absurd (HR1.out.bound _ e) (Nat.lt_irrefl _))
                  replace HUU:=Lib.hid (HUU.out.trans (hal.mono HUU.out.size))
                  replace HR1:=Lib.hid (HR1.out.below hal)
                  replace HE5:=Lib.hid (HE5.out.later hal)
                  clear hal
                  generalize v3.alloc (.cells #[.slice none 0 0,.slice none 0 0] 25)=v4 at *
                  generalize v3.heap.size=g12 at *
                  refine And.intro (by first | exact ⟨(HXM.out.later HUU.out).cell 0,(HXM.out.later HUU.out).cell 1,(HXM.out.later HUU.out).cell 2,(HXM.out.later HUU.out).cell 3⟩ | exact fun _=>⟨(HXM.out.later HUU.out).cell 0,(HXM.out.later HUU.out).cell 1,(HXM.out.later HUU.out).cell 2,(HXM.out.later HUU.out).cell 3⟩) ?_
                  refine wpAnyT_next (i:=6) (by kernel_rfl) rfl ?_
                  have hb2:=HUU.out.size
                  refine wpl_append_sl _ rfl (.tmp 51) (.tmp 53) _ rfl Try.underlying22 infoEdge (by omega) ED.k ED.one ⟨A1,c1,es⟩ ⟨some ⟨g5,0,none⟩,1,[⟨xf,xt,xn,xv⟩]⟩ rfl rfl HR1.out (rd_ed1 HE5.out) (by simp [maxLen]; omega) (by simp; omega) hb2 ?_
                  intro A2 c2 v5 hown hg hAA
                  simp only at hown hg
                  simp only [HES2.out] at hown ⊢
                  have hro:=fun q hq=>(own_row HR1.out q hq).2.1
                  have HUU0:=HUU
                  replace HUU:=Lib.hid (HUU.out.trans (below_of_grown hg hb2 hro))
                  replace HK:=Lib.hid (HK.out.grown hg (own_ne_of HR1.out HNK.out))
                  clear HNK
                  have HR2:=Lib.hid hown
                  clear hown hg hro hb2 hAA HUU0 HR1 HE5 HN5
                  go_wp2_with fail
                  refine And.intro (by first | exact ⟨(HXM.out.later HUU.out).cell 0,(HXM.out.later HUU.out).cell 1,(HXM.out.later HUU.out).cell 2,(HXM.out.later HUU.out).cell 3⟩ | exact fun _=>⟨(HXM.out.later HUU.out).cell 0,(HXM.out.later HUU.out).cell 1,(HXM.out.later HUU.out).cell 2,(HXM.out.later HUU.out).cell 3⟩) ?_
                  refine wpAnyT_next (i:=8) (by kernel_rfl) rfl ?_
                  go_wp2_with fail
                  refine (hier_Build n ⟨A2,c2,es2⟩ R v5 ((Own.rd ED.k HR2.out).mono fun b hb=>hb.2) (HR.out.later (HBu.out.trans (HUU.out.mono HBu.out.size)) (Nat.le_refl _)) hR10 H92.out).mono ?_
                  rintro r v6 ⟨GA,GE,Gc,Gd,rfl,hp1,hp2,hal⟩
                  simp only [HV5.out] at hp1 hp2 ⊢
                  have HNG : Hid (GA≠some ⟨g12,0,none⟩∧GE≠some ⟨g12,0,none⟩):=Lib.hid ⟨own_ge_ne hp1 HK.out.lt,own_ge_ne hp2 HK.out.lt⟩
                  have HP1:=Lib.hid (hp1.mono HUU.out.size)
                  have HP2:=Lib.hid (hp2.mono HUU.out.size)
                  clear hp1 hp2 HR2
                  replace HUU:=Lib.hid (HUU.out.trans (hal.mono HUU.out.size))
                  replace HK:=Lib.hid (HK.out.later hal)
                  clear hal
                  go_wp2_with fail
                  refine And.intro (by first | exact ⟨(HXM.out.later HUU.out).cell 0,(HXM.out.later HUU.out).cell 1,(HXM.out.later HUU.out).cell 2,(HXM.out.later HUU.out).cell 3⟩ | exact fun _=>⟨(HXM.out.later HUU.out).cell 0,(HXM.out.later HUU.out).cell 1,(HXM.out.later HUU.out).cell 2,(HXM.out.later HUU.out).cell 3⟩) ?_
                  have hHeld:=And.intro ((HXM.out.later HUU.out).cell 0) (And.intro ((HXM.out.later HUU.out).cell 1) (And.intro ((HXM.out.later HUU.out).cell 2) ((HXM.out.later HUU.out).cell 3)))
                  refine wpAnyT_take2 (i:=9) (v:=?_) rfl rfl (by kernel_rfl) (by kernel_rfl) (by kernel_rfl) (by kernel_rfl) (fun _ _ _ h=>h) (Or.inl ⟨by rfl, ?_⟩) (by first | assumption | trivial) ?_
                  rotate_left
                  · (intro w hSw; (try dsimp only at hSw); go_simp) <;> (with_reducible rfl)
                  simp only [List.setIfInBounds_toArray,List.set_cons_zero,List.set_cons_succ]
                  refine wpAnyT_take2 (i:=10) (v:=?_) rfl rfl (by kernel_rfl) (by kernel_rfl) (by kernel_rfl) (by kernel_rfl) (fun _ _ _ h=>h) (Or.inl ⟨by rfl, ?_⟩) (by first | assumption | trivial) ?_
                  rotate_left
                  · (intro w hSw; (try dsimp only at hSw); go_simp) <;> (with_reducible rfl)
                  simp only [List.setIfInBounds_toArray,List.set_cons_zero,List.set_cons_succ]
                  refine wpAnyT_take2 (i:=11) (v:=?_) rfl rfl (by kernel_rfl) (by kernel_rfl) (by kernel_rfl) (by kernel_rfl) (fun _ _ _ h=>h) (Or.inl ⟨by rfl, ?_⟩) (by first | assumption | trivial) ?_
                  rotate_left
                  · (intro w hSw; (try dsimp only at hSw); go_simp) <;> (with_reducible rfl)
                  simp only [List.setIfInBounds_toArray,List.set_cons_zero,List.set_cons_succ]
                  clear hHeld
                  exact wpAnyT_listed (by kernel_rfl) (FIN.out v6 g0 A1 c1 g5 A2 c2 GA GE Gc Gd g12 HUU HKB HP1 HP2 HNG HK)
              · skip
                go_wp2_with fail
                have hal : Below v2.heap.size v2 (v2.alloc (.cells #[.slice none 0 0,.slice none 0 0] 25)):=(Below.refl _ _).alloc (Nat.le_refl _) _
                have HK : Hid (Blk (v2.alloc (.cells #[.slice none 0 0,.slice none 0 0] 25)) v2.heap.size 25 #[.slice none 0 0,.slice none 0 0]):=Lib.hid (Blk.new _ _ _)
                have HKB : Hid (wu.heap.size≤v2.heap.size):=Lib.hid HUU.out.size
                have HNK : Hid (A1≠some ⟨v2.heap.size,0,none⟩):=Lib.hid (fun e=>absurd (HR1.out.bound _ e) (Nat.lt_irrefl _))
                replace HUU:=Lib.hid (HUU.out.trans (hal.mono HUU.out.size))
                replace HR1:=Lib.hid (HR1.out.below hal)
                clear hal
                generalize v2.alloc (.cells #[.slice none 0 0,.slice none 0 0] 25)=v3 at *
                generalize v2.heap.size=g12 at *
                refine And.intro (by first | exact ⟨(HXM.out.later HUU.out).cell 0,(HXM.out.later HUU.out).cell 1,(HXM.out.later HUU.out).cell 2,(HXM.out.later HUU.out).cell 3⟩ | exact fun _=>⟨(HXM.out.later HUU.out).cell 0,(HXM.out.later HUU.out).cell 1,(HXM.out.later HUU.out).cell 2,(HXM.out.later HUU.out).cell 3⟩) ?_
                refine wpAnyT_next (i:=5) (by kernel_rfl) rfl ?_
                go_wp2_with fail
                have hal : Below v3.heap.size v3 (v3.alloc (.cells #[.int .i64 xf,.int .i64 xt,.int .i64 xn,.int .i64 xv] 44)):=(Below.refl _ _).alloc (Nat.le_refl _) _
                have HE5 : Hid (Blk (v3.alloc (.cells #[.int .i64 xf,.int .i64 xt,.int .i64 xn,.int .i64 xv] 44)) v3.heap.size 44 #[.int .i64 xf,.int .i64 xt,.int .i64 xn,.int .i64 xv]):=Lib.hid (Blk.new _ _ _)
                have HN5 : Hid (A1≠some ⟨v3.heap.size,0,none⟩):=Lib.hid (fun e=>absurd (HR1.out.bound _ e) (Nat.lt_irrefl _))
                replace HUU:=Lib.hid (HUU.out.trans (hal.mono HUU.out.size))
                replace HR1:=Lib.hid (HR1.out.below hal)
                replace HK:=Lib.hid (HK.out.later hal)
                clear hal
                generalize v3.alloc (.cells #[.int .i64 xf,.int .i64 xt,.int .i64 xn,.int .i64 xv] 44)=v4 at *
                generalize v3.heap.size=g5 at *
                refine And.intro (by first | exact ⟨(HXM.out.later HUU.out).cell 0,(HXM.out.later HUU.out).cell 1,(HXM.out.later HUU.out).cell 2,(HXM.out.later HUU.out).cell 3⟩ | exact fun _=>⟨(HXM.out.later HUU.out).cell 0,(HXM.out.later HUU.out).cell 1,(HXM.out.later HUU.out).cell 2,(HXM.out.later HUU.out).cell 3⟩) ?_
                refine wpAnyT_next (i:=6) (by kernel_rfl) rfl ?_
                have hb2:=HUU.out.size
                refine wpl_append_sl _ rfl (.tmp 51) (.tmp 53) _ rfl Try.underlying22 infoEdge (by omega) ED.k ED.one ⟨A1,c1,es⟩ ⟨some ⟨g5,0,none⟩,1,[⟨xf,xt,xn,xv⟩]⟩ rfl rfl HR1.out (rd_ed1 HE5.out) (by simp [maxLen]; omega) (by simp; omega) hb2 ?_
                intro A2 c2 v5 hown hg hAA
                simp only at hown hg
                simp only [HES2.out] at hown ⊢
                have hro:=fun q hq=>(own_row HR1.out q hq).2.1
                have HUU0:=HUU
                replace HUU:=Lib.hid (HUU.out.trans (below_of_grown hg hb2 hro))
                replace HK:=Lib.hid (HK.out.grown hg (own_ne_of HR1.out HNK.out))
                clear HNK
                have HR2:=Lib.hid hown
                clear hown hg hro hb2 hAA HUU0 HR1 HE5 HN5
                go_wp2_with fail
                refine And.intro (by first | exact ⟨(HXM.out.later HUU.out).cell 0,(HXM.out.later HUU.out).cell 1,(HXM.out.later HUU.out).cell 2,(HXM.out.later HUU.out).cell 3⟩ | exact fun _=>⟨(HXM.out.later HUU.out).cell 0,(HXM.out.later HUU.out).cell 1,(HXM.out.later HUU.out).cell 2,(HXM.out.later HUU.out).cell 3⟩) ?_
                refine wpAnyT_next (i:=8) (by kernel_rfl) rfl ?_
                go_wp2_with fail
                refine (hier_Build n ⟨A2,c2,es2⟩ R v5 ((Own.rd ED.k HR2.out).mono fun b hb=>hb.2) (HR.out.later (HBu.out.trans (HUU.out.mono HBu.out.size)) (Nat.le_refl _)) hR10 H92.out).mono ?_
                rintro r v6 ⟨GA,GE,Gc,Gd,rfl,hp1,hp2,hal⟩
                simp only [HV5.out] at hp1 hp2 ⊢
                have HNG : Hid (GA≠some ⟨g12,0,none⟩∧GE≠some ⟨g12,0,none⟩):=Lib.hid ⟨own_ge_ne hp1 HK.out.lt,own_ge_ne hp2 HK.out.lt⟩
                have HP1:=Lib.hid (hp1.mono HUU.out.size)
                have HP2:=Lib.hid (hp2.mono HUU.out.size)
                clear hp1 hp2 HR2
                replace HUU:=Lib.hid (HUU.out.trans (hal.mono HUU.out.size))
                replace HK:=Lib.hid (HK.out.later hal)
                clear hal
                go_wp2_with fail
                refine And.intro (by first | exact ⟨(HXM.out.later HUU.out).cell 0,(HXM.out.later HUU.out).cell 1,(HXM.out.later HUU.out).cell 2,(HXM.out.later HUU.out).cell 3⟩ | exact fun _=>⟨(HXM.out.later HUU.out).cell 0,(HXM.out.later HUU.out).cell 1,(HXM.out.later HUU.out).cell 2,(HXM.out.later HUU.out).cell 3⟩) ?_
                have hHeld:=And.intro ((HXM.out.later HUU.out).cell 0) (And.intro ((HXM.out.later HUU.out).cell 1) (And.intro ((HXM.out.later HUU.out).cell 2) ((HXM.out.later HUU.out).cell 3)))
                refine wpAnyT_take2 (i:=9) (v:=?_) rfl rfl (by kernel_rfl) (by kernel_rfl) (by kernel_rfl) (by kernel_rfl) (fun _ _ _ h=>h) (Or.inl ⟨by rfl, ?_⟩) (by first | assumption | trivial) ?_
                rotate_left
                · (intro w hSw; (try dsimp only at hSw); go_simp) <;> (with_reducible rfl)
                simp only [List.setIfInBounds_toArray,List.set_cons_zero,List.set_cons_succ]
                refine wpAnyT_take2 (i:=10) (v:=?_) rfl rfl (by kernel_rfl) (by kernel_rfl) (by kernel_rfl) (by kernel_rfl) (fun _ _ _ h=>h) (Or.inl ⟨by rfl, ?_⟩) (by first | assumption | trivial) ?_
                rotate_left
                · (intro w hSw; (try dsimp only at hSw); go_simp) <;> (with_reducible rfl)
                simp only [List.setIfInBounds_toArray,List.set_cons_zero,List.set_cons_succ]
                refine wpAnyT_take2 (i:=11) (v:=?_) rfl rfl (by kernel_rfl) (by kernel_rfl) (by kernel_rfl) (by kernel_rfl) (fun _ _ _ h=>h) (Or.inl ⟨by rfl, ?_⟩) (by first | assumption | trivial) ?_
                rotate_left
                · (intro w hSw; (try dsimp only at hSw); go_simp) <;> (with_reducible rfl)
                simp only [List.setIfInBounds_toArray,List.set_cons_zero,List.set_cons_succ]
                clear hHeld
                exact wpAnyT_listed (by kernel_rfl) (FIN.out v6 g0 A1 c1 g5 A2 c2 GA GE Gc Gd g12 HUU HKB HP1 HP2 HNG HK)
            · skip
              go_wp2_with fail
              have hal : Below v1.heap.size v1 (v1.alloc (.cells #[.int .i64 xf,.int .i64 xt,.int .i64 xn,.int .i64 xv] 44)):=(Below.refl _ _).alloc (Nat.le_refl _) _
              have HE5 : Hid (Blk (v1.alloc (.cells #[.int .i64 xf,.int .i64 xt,.int .i64 xn,.int .i64 xv] 44)) v1.heap.size 44 #[.int .i64 xf,.int .i64 xt,.int .i64 xn,.int .i64 xv]):=Lib.hid (Blk.new _ _ _)
              have HN5 : Hid ((some (⟨g0,0,none⟩ : Addr))≠some ⟨v1.heap.size,0,none⟩):=Lib.hid (fun e=>absurd (HR1.out.bound _ e) (Nat.lt_irrefl _))
              replace HUU:=Lib.hid (HUU.out.trans (hal.mono HUU.out.size))
              replace HR1:=Lib.hid (HR1.out.below hal)
              clear hal
              generalize v1.alloc (.cells #[.int .i64 xf,.int .i64 xt,.int .i64 xn,.int .i64 xv] 44)=v2 at *
              generalize v1.heap.size=g5 at *
              refine And.intro (by first | exact ⟨(HXM.out.later HUU.out).cell 0,(HXM.out.later HUU.out).cell 1,(HXM.out.later HUU.out).cell 2,(HXM.out.later HUU.out).cell 3⟩ | exact fun _=>⟨(HXM.out.later HUU.out).cell 0,(HXM.out.later HUU.out).cell 1,(HXM.out.later HUU.out).cell 2,(HXM.out.later HUU.out).cell 3⟩) ?_
              refine wpAnyT_two (i:=3) (j:=12) (by kernel_rfl) rfl rfl ?_ ?_
              · skip
                have hb2:=HUU.out.size
                refine wpl_append_sl _ rfl (.tmp 49) (.tmp 50) _ rfl Try.underlying22 infoEdge (by omega) ED.k ED.one ⟨some ⟨g0,0,none⟩,0,[]⟩ ⟨EA0,Ec0,es⟩ rfl rfl HR1.out (HEr.out.below HUU.out) (by simp [maxLen]; omega) (by simp; omega) hb2 ?_
                intro A1 c1 v3 hown hg hAA
                simp only [List.nil_append] at hown hg
                simp only [List.nil_append]
                have hro:=fun q hq=>(own_row HR1.out q hq).2.1
                have HUU0:=HUU
                replace HUU:=Lib.hid (HUU.out.trans (below_of_grown hg hb2 hro))
                have HN5b : Hid (A1≠some ⟨g5,0,none⟩):=Lib.hid (addr_or hAA HN5.out HE5.out.lt)
                replace HE5:=Lib.hid (HE5.out.grown hg (own_ne_of HR1.out HN5.out))
                replace HN5:=HN5b
                clear HN5b
                replace HR1:=Lib.hid hown
                clear hown hg hro hb2 hAA HUU0
                go_wp2_with fail
                refine And.intro (by first | exact ⟨(HXM.out.later HUU.out).cell 0,(HXM.out.later HUU.out).cell 1,(HXM.out.later HUU.out).cell 2,(HXM.out.later HUU.out).cell 3⟩ | exact fun _=>⟨(HXM.out.later HUU.out).cell 0,(HXM.out.later HUU.out).cell 1,(HXM.out.later HUU.out).cell 2,(HXM.out.later HUU.out).cell 3⟩) ?_
                refine wpAnyT_two (i:=6) (j:=12) (by kernel_rfl) rfl rfl ?_ ?_
                · skip
                  have hb2:=HUU.out.size
                  refine wpl_append_sl _ rfl (.tmp 51) (.tmp 53) _ rfl Try.underlying22 infoEdge (by omega) ED.k ED.one ⟨A1,c1,es⟩ ⟨some ⟨g5,0,none⟩,1,[⟨xf,xt,xn,xv⟩]⟩ rfl rfl HR1.out (rd_ed1 HE5.out) (by simp [maxLen]; omega) (by simp; omega) hb2 ?_
                  intro A2 c2 v4 hown hg hAA
                  simp only at hown hg
                  simp only [HES2.out] at hown ⊢
                  have hro:=fun q hq=>(own_row HR1.out q hq).2.1
                  have HUU0:=HUU
                  replace HUU:=Lib.hid (HUU.out.trans (below_of_grown hg hb2 hro))
                  have HR2:=Lib.hid hown
                  clear hown hg hro hb2 hAA HUU0 HR1 HE5 HN5
                  go_wp2_with fail
                  refine And.intro (by first | exact ⟨(HXM.out.later HUU.out).cell 0,(HXM.out.later HUU.out).cell 1,(HXM.out.later HUU.out).cell 2,(HXM.out.later HUU.out).cell 3⟩ | exact fun _=>⟨(HXM.out.later HUU.out).cell 0,(HXM.out.later HUU.out).cell 1,(HXM.out.later HUU.out).cell 2,(HXM.out.later HUU.out).cell 3⟩) ?_
                  refine wpAnyT_two (i:=8) (j:=12) (by kernel_rfl) rfl rfl ?_ ?_
                  · skip
                    go_wp2_with fail
                    refine (hier_Build n ⟨A2,c2,es2⟩ R v4 ((Own.rd ED.k HR2.out).mono fun b hb=>hb.2) (HR.out.later (HBu.out.trans (HUU.out.mono HBu.out.size)) (Nat.le_refl _)) hR10 H92.out).mono ?_
                    rintro r v5 ⟨GA,GE,Gc,Gd,rfl,hp1,hp2,hal⟩
                    simp only [HV5.out] at hp1 hp2 ⊢
                    have HP1:=Lib.hid (hp1.mono HUU.out.size)
                    have HP2:=Lib.hid (hp2.mono HUU.out.size)
                    clear hp1 hp2 HR2
                    replace HUU:=Lib.hid (HUU.out.trans (hal.mono HUU.out.size))
                    clear hal
                    go_wp2_with fail
                    refine And.intro (by first | exact ⟨(HXM.out.later HUU.out).cell 0,(HXM.out.later HUU.out).cell 1,(HXM.out.later HUU.out).cell 2,(HXM.out.later HUU.out).cell 3⟩ | exact fun _=>⟨(HXM.out.later HUU.out).cell 0,(HXM.out.later HUU.out).cell 1,(HXM.out.later HUU.out).cell 2,(HXM.out.later HUU.out).cell 3⟩) ?_
                    have hHeld:=And.intro ((HXM.out.later HUU.out).cell 0) (And.intro ((HXM.out.later HUU.out).cell 1) (And.intro ((HXM.out.later HUU.out).cell 2) ((HXM.out.later HUU.out).cell 3)))
                    refine wpAnyT_take2 (i:=9) (v:=?_) rfl rfl (by kernel_rfl) (by kernel_rfl) (by kernel_rfl) (by kernel_rfl) (fun _ _ _ h=>h) (Or.inl ⟨by rfl, ?_⟩) (by first | assumption | trivial) ?_
                    rotate_left
                    · (intro w hSw; (try dsimp only at hSw); go_simp) <;> (with_reducible rfl)
                    simp only [List.setIfInBounds_toArray,List.set_cons_zero,List.set_cons_succ]
                    refine wpAnyT_take2 (i:=10) (v:=?_) rfl rfl (by kernel_rfl) (by kernel_rfl) (by kernel_rfl) (by kernel_rfl) (fun _ _ _ h=>h) (Or.inl ⟨by rfl, ?_⟩) (by first | assumption | trivial) ?_
                    rotate_left
                    · (intro w hSw; (try dsimp only at hSw); go_simp) <;> (with_reducible rfl)
                    simp only [List.setIfInBounds_toArray,List.set_cons_zero,List.set_cons_succ]
                    refine wpAnyT_take2 (i:=11) (v:=?_) rfl rfl (by kernel_rfl) (by kernel_rfl) (by kernel_rfl) (by kernel_rfl) (fun _ _ _ h=>h) (Or.inl ⟨by rfl, ?_⟩) (by first | assumption | trivial) ?_
                    rotate_left
                    · (intro w hSw; (try dsimp only at hSw); go_simp) <;> (with_reducible rfl)
                    simp only [List.setIfInBounds_toArray,List.set_cons_zero,List.set_cons_succ]
                    clear hHeld
                    refine wpAnyT_next (i:=12) (by kernel_rfl) rfl ?_
                    go_wp2_with fail
                    have hal : Below v5.heap.size v5 (v5.alloc (.cells #[.slice none 0 0,.slice none 0 0] 25)):=(Below.refl _ _).alloc (Nat.le_refl _) _
                    have HK : Hid (Blk (v5.alloc (.cells #[.slice none 0 0,.slice none 0 0] 25)) v5.heap.size 25 #[.slice none 0 0,.slice none 0 0]):=Lib.hid (Blk.new _ _ _)
                    have HKB : Hid (wu.heap.size≤v5.heap.size):=Lib.hid HUU.out.size
                    have HNG : Hid (GA≠some ⟨v5.heap.size,0,none⟩∧GE≠some ⟨v5.heap.size,0,none⟩):=Lib.hid ⟨fun e=>absurd (HP1.out.bound _ e) (Nat.lt_irrefl _),fun e=>absurd (HP2.out.bound _ e) (Nat.lt_irrefl _)⟩
                    replace HUU:=Lib.hid (HUU.out.trans (hal.mono HUU.out.size))
                    replace HP1:=Lib.hid (HP1.out.below hal)
                    replace HP2:=Lib.hid (HP2.out.below hal)
                    clear hal
                    generalize v5.alloc (.cells #[.slice none 0 0,.slice none 0 0] 25)=v6 at *
                    generalize v5.heap.size=g12 at *
                    refine And.intro (by first | exact ⟨(HXM.out.later HUU.out).cell 0,(HXM.out.later HUU.out).cell 1,(HXM.out.later HUU.out).cell 2,(HXM.out.later HUU.out).cell 3⟩ | exact fun _=>⟨(HXM.out.later HUU.out).cell 0,(HXM.out.later HUU.out).cell 1,(HXM.out.later HUU.out).cell 2,(HXM.out.later HUU.out).cell 3⟩) ?_
                    exact wpAnyT_listed (by kernel_rfl) (FIN.out v6 g0 A1 c1 g5 A2 c2 GA GE Gc Gd g12 HUU HKB HP1 HP2 HNG HK)
                  · skip
                    go_wp2_with fail
                    have hal : Below v4.heap.size v4 (v4.alloc (.cells #[.slice none 0 0,.slice none 0 0] 25)):=(Below.refl _ _).alloc (Nat.le_refl _) _
                    have HK : Hid (Blk (v4.alloc (.cells #[.slice none 0 0,.slice none 0 0] 25)) v4.heap.size 25 #[.slice none 0 0,.slice none 0 0]):=Lib.hid (Blk.new _ _ _)
                    have HKB : Hid (wu.heap.size≤v4.heap.size):=Lib.hid HUU.out.size
                    replace HUU:=Lib.hid (HUU.out.trans (hal.mono HUU.out.size))
                    replace HR2:=Lib.hid (HR2.out.below hal)
                    clear hal
                    generalize v4.alloc (.cells #[.slice none 0 0,.slice none 0 0] 25)=v5 at *
                    generalize v4.heap.size=g12 at *
                    refine And.intro (by first | exact ⟨(HXM.out.later HUU.out).cell 0,(HXM.out.later HUU.out).cell 1,(HXM.out.later HUU.out).cell 2,(HXM.out.later HUU.out).cell 3⟩ | exact fun _=>⟨(HXM.out.later HUU.out).cell 0,(HXM.out.later HUU.out).cell 1,(HXM.out.later HUU.out).cell 2,(HXM.out.later HUU.out).cell 3⟩) ?_
                    refine wpAnyT_next (i:=8) (by kernel_rfl) rfl ?_
                    go_wp2_with fail
                    refine (hier_Build n ⟨A2,c2,es2⟩ R v5 ((Own.rd ED.k HR2.out).mono fun b hb=>hb.2) (HR.out.later (HBu.out.trans (HUU.out.mono HBu.out.size)) (Nat.le_refl _)) hR10 H92.out).mono ?_
                    rintro r v6 ⟨GA,GE,Gc,Gd,rfl,hp1,hp2,hal⟩
                    simp only [HV5.out] at hp1 hp2 ⊢
                    have HNG : Hid (GA≠some ⟨g12,0,none⟩∧GE≠some ⟨g12,0,none⟩):=Lib.hid ⟨own_ge_ne hp1 HK.out.lt,own_ge_ne hp2 HK.out.lt⟩
                    have HP1:=Lib.hid (hp1.mono HUU.out.size)
                    have HP2:=Lib.hid (hp2.mono HUU.out.size)
                    clear hp1 hp2 HR2
                    replace HUU:=Lib.hid (HUU.out.trans (hal.mono HUU.out.size))
                    replace HK:=Lib.hid (HK.out.later hal)
                    clear hal
                    go_wp2_with fail
                    refine And.intro (by first | exact ⟨(HXM.out.later HUU.out).cell 0,(HXM.out.later HUU.out).cell 1,(HXM.out.later HUU.out).cell 2,(HXM.out.later HUU.out).cell 3⟩ | exact fun _=>⟨(HXM.out.later HUU.out).cell 0,(HXM.out.later HUU.out).cell 1,(HXM.out.later HUU.out).cell 2,(HXM.out.later HUU.out).cell 3⟩) ?_
                    have hHeld:=And.intro ((HXM.out.later HUU.out).cell 0) (And.intro ((HXM.out.later HUU.out).cell 1) (And.intro ((HXM.out.later HUU.out).cell 2) ((HXM.out.later HUU.out).cell 3)))
                    refine wpAnyT_take2 (i:=9) (v:=?_) rfl rfl (by kernel_rfl) (by kernel_rfl) (by kernel_rfl) (by kernel_rfl) (fun _ _ _ h=>h) (Or.inl ⟨by rfl, ?_⟩) (by first | assumption | trivial) ?_
                    rotate_left
                    · (intro w hSw; (try dsimp only at hSw); go_simp) <;> (with_reducible rfl)
                    simp only [List.setIfInBounds_toArray,List.set_cons_zero,List.set_cons_succ]
                    refine wpAnyT_take2 (i:=10) (v:=?_) rfl rfl (by kernel_rfl) (by kernel_rfl) (by kernel_rfl) (by kernel_rfl) (fun _ _ _ h=>h) (Or.inl ⟨by rfl, ?_⟩) (by first | assumption | trivial) ?_
                    rotate_left
                    · (intro w hSw; (try dsimp only at hSw); go_simp) <;> (with_reducible rfl)
                    simp only [List.setIfInBounds_toArray,List.set_cons_zero,List.set_cons_succ]
                    refine wpAnyT_take2 (i:=11) (v:=?_) rfl rfl (by kernel_rfl) (by kernel_rfl) (by kernel_rfl) (by kernel_rfl) (fun _ _ _ h=>h) (Or.inl ⟨by rfl, ?_⟩) (by first | assumption | trivial) ?_
                    rotate_left
                    · (intro w hSw; (try dsimp only at hSw); go_simp) <;> (with_reducible rfl)
                    simp only [List.setIfInBounds_toArray,List.set_cons_zero,List.set_cons_succ]
                    clear hHeld
                    exact wpAnyT_listed (by kernel_rfl) (FIN.out v6 g0 A1 c1 g5 A2 c2 GA GE Gc Gd g12 HUU HKB HP1 HP2 HNG HK)
                · skip
                  go_wp2_with fail
                  have hal : Below v3.heap.size v3 (v3.alloc (.cells #[.slice none 0 0,.slice none 0 0] 25)):=(Below.refl _ _).alloc (Nat.le_refl _) _
                  have HK : Hid (Blk (v3.alloc (.cells #[.slice none 0 0,.slice none 0 0] 25)) v3.heap.size 25 #[.slice none 0 0,.slice none 0 0]):=Lib.hid (Blk.new _ _ _)
                  have HKB : Hid (wu.heap.size≤v3.heap.size):=Lib.hid HUU.out.size
                  have HNK : Hid (A1≠some ⟨v3.heap.size,0,none⟩):=Lib.hid (fun e=>absurd (HR1.out.bound _ e) (Nat.lt_irrefl _))
                  replace HUU:=Lib.hid (HUU.out.trans (hal.mono HUU.out.size))
                  replace HR1:=Lib.hid (HR1.out.below hal)
                  replace HE5:=Lib.hid (HE5.out.later hal)
                  clear hal
                  generalize v3.alloc (.cells #[.slice none 0 0,.slice none 0 0] 25)=v4 at *
                  generalize v3.heap.size=g12 at *
                  refine And.intro (by first | exact ⟨(HXM.out.later HUU.out).cell 0,(HXM.out.later HUU.out).cell 1,(HXM.out.later HUU.out).cell 2,(HXM.out.later HUU.out).cell 3⟩ | exact fun _=>⟨(HXM.out.later HUU.out).cell 0,(HXM.out.later HUU.out).cell 1,(HXM.out.later HUU.out).cell 2,(HXM.out.later HUU.out).cell 3⟩) ?_
                  refine wpAnyT_next (i:=6) (by kernel_rfl) rfl ?_
                  have hb2:=HUU.out.size
                  refine wpl_append_sl _ rfl (.tmp 51) (.tmp 53) _ rfl Try.underlying22 infoEdge (by omega) ED.k ED.one ⟨A1,c1,es⟩ ⟨some ⟨g5,0,none⟩,1,[⟨xf,xt,xn,xv⟩]⟩ rfl rfl HR1.out (rd_ed1 HE5.out) (by simp [maxLen]; omega) (by simp; omega) hb2 ?_
                  intro A2 c2 v5 hown hg hAA
                  simp only at hown hg
                  simp only [HES2.out] at hown ⊢
                  have hro:=fun q hq=>(own_row HR1.out q hq).2.1
                  have HUU0:=HUU
                  replace HUU:=Lib.hid (HUU.out.trans (below_of_grown hg hb2 hro))
                  replace HK:=Lib.hid (HK.out.grown hg (own_ne_of HR1.out HNK.out))
                  clear HNK
                  have HR2:=Lib.hid hown
                  clear hown hg hro hb2 hAA HUU0 HR1 HE5 HN5
                  go_wp2_with fail
                  refine And.intro (by first | exact ⟨(HXM.out.later HUU.out).cell 0,(HXM.out.later HUU.out).cell 1,(HXM.out.later HUU.out).cell 2,(HXM.out.later HUU.out).cell 3⟩ | exact fun _=>⟨(HXM.out.later HUU.out).cell 0,(HXM.out.later HUU.out).cell 1,(HXM.out.later HUU.out).cell 2,(HXM.out.later HUU.out).cell 3⟩) ?_
                  refine wpAnyT_next (i:=8) (by kernel_rfl) rfl ?_
                  go_wp2_with fail
                  refine (hier_Build n ⟨A2,c2,es2⟩ R v5 ((Own.rd ED.k HR2.out).mono fun b hb=>hb.2) (HR.out.later (HBu.out.trans (HUU.out.mono HBu.out.size)) (Nat.le_refl _)) hR10 H92.out).mono ?_
                  rintro r v6 ⟨GA,GE,Gc,Gd,rfl,hp1,hp2,hal⟩
                  simp only [HV5.out] at hp1 hp2 ⊢
                  have HNG : Hid (GA≠some ⟨g12,0,none⟩∧GE≠some ⟨g12,0,none⟩):=Lib.hid ⟨own_ge_ne hp1 HK.out.lt,own_ge_ne hp2 HK.out.lt⟩
                  have HP1:=Lib.hid (hp1.mono HUU.out.size)
                  have HP2:=Lib.hid (hp2.mono HUU.out.size)
                  clear hp1 hp2 HR2
                  replace HUU:=Lib.hid (HUU.out.trans (hal.mono HUU.out.size))
                  replace HK:=Lib.hid (HK.out.later hal)
                  clear hal
                  go_wp2_with fail
                  refine And.intro (by first | exact ⟨(HXM.out.later HUU.out).cell 0,(HXM.out.later HUU.out).cell 1,(HXM.out.later HUU.out).cell 2,(HXM.out.later HUU.out).cell 3⟩ | exact fun _=>⟨(HXM.out.later HUU.out).cell 0,(HXM.out.later HUU.out).cell 1,(HXM.out.later HUU.out).cell 2,(HXM.out.later HUU.out).cell 3⟩) ?_
                  have hHeld:=And.intro ((HXM.out.later HUU.out).cell 0) (And.intro ((HXM.out.later HUU.out).cell 1) (And.intro ((HXM.out.later HUU.out).cell 2) ((HXM.out.later HUU.out).cell 3)))
                  refine wpAnyT_take2 (i:=9) (v:=?_) rfl rfl (by kernel_rfl) (by kernel_rfl) (by kernel_rfl) (by kernel_rfl) (fun _ _ _ h=>h) (Or.inl ⟨by rfl, ?_⟩) (by first | assumption | trivial) ?_
                  rotate_left
                  · (intro w hSw; (try dsimp only at hSw); go_simp) <;> (with_reducible rfl)
                  simp only [List.setIfInBounds_toArray,List.set_cons_zero,List.set_cons_succ]
                  refine wpAnyT_take2 (i:=10) (v:=?_) rfl rfl (by kernel_rfl) (by kernel_rfl) (by kernel_rfl) (by kernel_rfl) (fun _ _ _ h=>h) (Or.inl ⟨by rfl, ?_⟩) (by first | assumption | trivial) ?_
                  rotate_left
                  · (intro w hSw; (try dsimp only at hSw); go_simp) <;> (with_reducible rfl)
                  simp only [List.setIfInBounds_toArray,List.set_cons_zero,List.set_cons_succ]
                  refine wpAnyT_take2 (i:=11) (v:=?_) rfl rfl (by kernel_rfl) (by kernel_rfl) (by kernel_rfl) (by kernel_rfl) (fun _ _ _ h=>h) (Or.inl ⟨by rfl, ?_⟩) (by first | assumption | trivial) ?_
                  rotate_left
                  · (intro w hSw; (try dsimp only at hSw); go_simp) <;> (with_reducible rfl)
                  simp only [List.setIfInBounds_toArray,List.set_cons_zero,List.set_cons_succ]
                  clear hHeld
                  exact wpAnyT_listed (by kernel_rfl) (FIN.out v6 g0 A1 c1 g5 A2 c2 GA GE Gc Gd g12 HUU HKB HP1 HP2 HNG HK)
              · skip
                go_wp2_with fail
                have hal : Below v2.heap.size v2 (v2.alloc (.cells #[.slice none 0 0,.slice none 0 0] 25)):=(Below.refl _ _).alloc (Nat.le_refl _) _
                have HK : Hid (Blk (v2.alloc (.cells #[.slice none 0 0,.slice none 0 0] 25)) v2.heap.size 25 #[.slice none 0 0,.slice none 0 0]):=Lib.hid (Blk.new _ _ _)
                have HKB : Hid (wu.heap.size≤v2.heap.size):=Lib.hid HUU.out.size
                have HNK : Hid ((some (⟨g0,0,none⟩ : Addr))≠some ⟨v2.heap.size,0,none⟩):=Lib.hid (fun e=>absurd (HR1.out.bound _ e) (Nat.lt_irrefl _))
                replace HUU:=Lib.hid (HUU.out.trans (hal.mono HUU.out.size))
                replace HR1:=Lib.hid (HR1.out.below hal)
                replace HE5:=Lib.hid (HE5.out.later hal)
                clear hal
                generalize v2.alloc (.cells #[.slice none 0 0,.slice none 0 0] 25)=v3 at *
                generalize v2.heap.size=g12 at *
                refine And.intro (by first | exact ⟨(HXM.out.later HUU.out).cell 0,(HXM.out.later HUU.out).cell 1,(HXM.out.later HUU.out).cell 2,(HXM.out.later HUU.out).cell 3⟩ | exact fun _=>⟨(HXM.out.later HUU.out).cell 0,(HXM.out.later HUU.out).cell 1,(HXM.out.later HUU.out).cell 2,(HXM.out.later HUU.out).cell 3⟩) ?_
                refine wpAnyT_next (i:=3) (by kernel_rfl) rfl ?_
                have hb2:=HUU.out.size
                refine wpl_append_sl _ rfl (.tmp 49) (.tmp 50) _ rfl Try.underlying22 infoEdge (by omega) ED.k ED.one ⟨some ⟨g0,0,none⟩,0,[]⟩ ⟨EA0,Ec0,es⟩ rfl rfl HR1.out (HEr.out.below HUU.out) (by simp [maxLen]; omega) (by simp; omega) hb2 ?_
                intro A1 c1 v4 hown hg hAA
                simp only [List.nil_append] at hown hg
                simp only [List.nil_append]
                have hro:=fun q hq=>(own_row HR1.out q hq).2.1
                have HUU0:=HUU
                replace HUU:=Lib.hid (HUU.out.trans (below_of_grown hg hb2 hro))
                have HN5b : Hid (A1≠some ⟨g5,0,none⟩):=Lib.hid (addr_or hAA HN5.out HE5.out.lt)
                replace HE5:=Lib.hid (HE5.out.grown hg (own_ne_of HR1.out HN5.out))
                replace HN5:=HN5b
                clear HN5b
                have HNKb : Hid (A1≠some ⟨g12,0,none⟩):=Lib.hid (addr_or hAA HNK.out HK.out.lt)
                replace HK:=Lib.hid (HK.out.grown hg (own_ne_of HR1.out HNK.out))
                replace HNK:=HNKb
                clear HNKb
                replace HR1:=Lib.hid hown
                clear hown hg hro hb2 hAA HUU0
                go_wp2_with fail
                refine And.intro (by first | exact ⟨(HXM.out.later HUU.out).cell 0,(HXM.out.later HUU.out).cell 1,(HXM.out.later HUU.out).cell 2,(HXM.out.later HUU.out).cell 3⟩ | exact fun _=>⟨(HXM.out.later HUU.out).cell 0,(HXM.out.later HUU.out).cell 1,(HXM.out.later HUU.out).cell 2,(HXM.out.later HUU.out).cell 3⟩) ?_
                refine wpAnyT_next (i:=6) (by kernel_rfl) rfl ?_
                have hb2:=HUU.out.size
                refine wpl_append_sl _ rfl (.tmp 51) (.tmp 53) _ rfl Try.underlying22 infoEdge (by omega) ED.k ED.one ⟨A1,c1,es⟩ ⟨some ⟨g5,0,none⟩,1,[⟨xf,xt,xn,xv⟩]⟩ rfl rfl HR1.out (rd_ed1 HE5.out) (by simp [maxLen]; omega) (by simp; omega) hb2 ?_
                intro A2 c2 v5 hown hg hAA
                simp only at hown hg
                simp only [HES2.out] at hown ⊢
                have hro:=fun q hq=>(own_row HR1.out q hq).2.1
                have HUU0:=HUU
                replace HUU:=Lib.hid (HUU.out.trans (below_of_grown hg hb2 hro))
                replace HK:=Lib.hid (HK.out.grown hg (own_ne_of HR1.out HNK.out))
                clear HNK
                have HR2:=Lib.hid hown
                clear hown hg hro hb2 hAA HUU0 HR1 HE5 HN5
                go_wp2_with fail
                refine And.intro (by first | exact ⟨(HXM.out.later HUU.out).cell 0,(HXM.out.later HUU.out).cell 1,(HXM.out.later HUU.out).cell 2,(HXM.out.later HUU.out).cell 3⟩ | exact fun _=>⟨(HXM.out.later HUU.out).cell 0,(HXM.out.later HUU.out).cell 1,(HXM.out.later HUU.out).cell 2,(HXM.out.later HUU.out).cell 3⟩) ?_
                refine wpAnyT_next (i:=8) (by kernel_rfl) rfl ?_
                go_wp2_with fail
                refine (hier_Build n ⟨A2,c2,es2⟩ R v5 ((Own.rd ED.k HR2.out).mono fun b hb=>hb.2) (HR.out.later (HBu.out.trans (HUU.out.mono HBu.out.size)) (Nat.le_refl _)) hR10 H92.out).mono ?_
                rintro r v6 ⟨GA,GE,Gc,Gd,rfl,hp1,hp2,hal⟩
                simp only [HV5.out] at hp1 hp2 ⊢
                have HNG : Hid (GA≠some ⟨g12,0,none⟩∧GE≠some ⟨g12,0,none⟩):=Lib.hid ⟨own_ge_ne hp1 HK.out.lt,own_ge_ne hp2 HK.out.lt⟩
                have HP1:=Lib.hid (hp1.mono HUU.out.size)
                have HP2:=Lib.hid (hp2.mono HUU.out.size)
                clear hp1 hp2 HR2
                replace HUU:=Lib.hid (HUU.out.trans (hal.mono HUU.out.size))
                replace HK:=Lib.hid (HK.out.later hal)
                clear hal
                go_wp2_with fail
                refine And.intro (by first | exact ⟨(HXM.out.later HUU.out).cell 0,(HXM.out.later HUU.out).cell 1,(HXM.out.later HUU.out).cell 2,(HXM.out.later HUU.out).cell 3⟩ | exact fun _=>⟨(HXM.out.later HUU.out).cell 0,(HXM.out.later HUU.out).cell 1,(HXM.out.later HUU.out).cell 2,(HXM.out.later HUU.out).cell 3⟩) ?_
                have hHeld:=And.intro ((HXM.out.later HUU.out).cell 0) (And.intro ((HXM.out.later HUU.out).cell 1) (And.intro ((HXM.out.later HUU.out).cell 2) ((HXM.out.later HUU.out).cell 3)))
                refine wpAnyT_take2 (i:=9) (v:=?_) rfl rfl (by kernel_rfl) (by kernel_rfl) (by kernel_rfl) (by kernel_rfl) (fun _ _ _ h=>h) (Or.inl ⟨by rfl, ?_⟩) (by first | assumption | trivial) ?_
                rotate_left
                · (intro w hSw; (try dsimp only at hSw); go_simp) <;> (with_reducible rfl)
                simp only [List.setIfInBounds_toArray,List.set_cons_zero,List.set_cons_succ]
                refine wpAnyT_take2 (i:=10) (v:=?_) rfl rfl (by kernel_rfl) (by kernel_rfl) (by kernel_rfl) (by kernel_rfl) (fun _ _ _ h=>h) (Or.inl ⟨by rfl, ?_⟩) (by first | assumption | trivial) ?_
                rotate_left
                · (intro w hSw; (try dsimp only at hSw); go_simp) <;> (with_reducible rfl)
                simp only [List.setIfInBounds_toArray,List.set_cons_zero,List.set_cons_succ]
                refine wpAnyT_take2 (i:=11) (v:=?_) rfl rfl (by kernel_rfl) (by kernel_rfl) (by kernel_rfl) (by kernel_rfl) (fun _ _ _ h=>h) (Or.inl ⟨by rfl, ?_⟩) (by first | assumption | trivial) ?_
                rotate_left
                · (intro w hSw; (try dsimp only at hSw); go_simp) <;> (with_reducible rfl)
                simp only [List.setIfInBounds_toArray,List.set_cons_zero,List.set_cons_succ]
                clear hHeld
                exact wpAnyT_listed (by kernel_rfl) (FIN.out v6 g0 A1 c1 g5 A2 c2 GA GE Gc Gd g12 HUU HKB HP1 HP2 HNG HK)
            · skip
              go_wp2_with fail
              have hal : Below v1.heap.size v1 (v1.alloc (.cells #[.slice none 0 0,.slice none 0 0] 25)):=(Below.refl _ _).alloc (Nat.le_refl _) _
              have HK : Hid (Blk (v1.alloc (.cells #[.slice none 0 0,.slice none 0 0] 25)) v1.heap.size 25 #[.slice none 0 0,.slice none 0 0]):=Lib.hid (Blk.new _ _ _)
              have HKB : Hid (wu.heap.size≤v1.heap.size):=Lib.hid HUU.out.size
              have HNK : Hid ((some (⟨g0,0,none⟩ : Addr))≠some ⟨v1.heap.size,0,none⟩):=Lib.hid (fun e=>absurd (HR1.out.bound _ e) (Nat.lt_irrefl _))
              replace HUU:=Lib.hid (HUU.out.trans (hal.mono HUU.out.size))
              replace HR1:=Lib.hid (HR1.out.below hal)
              clear hal
              generalize v1.alloc (.cells #[.slice none 0 0,.slice none 0 0] 25)=v2 at *
              generalize v1.heap.size=g12 at *
              refine And.intro (by first | exact ⟨(HXM.out.later HUU.out).cell 0,(HXM.out.later HUU.out).cell 1,(HXM.out.later HUU.out).cell 2,(HXM.out.later HUU.out).cell 3⟩ | exact fun _=>⟨(HXM.out.later HUU.out).cell 0,(HXM.out.later HUU.out).cell 1,(HXM.out.later HUU.out).cell 2,(HXM.out.later HUU.out).cell 3⟩) ?_
              refine wpAnyT_two (i:=3) (j:=5) (by kernel_rfl) rfl rfl ?_ ?_
              · skip
                have hb2:=HUU.out.size
                refine wpl_append_sl _ rfl (.tmp 49) (.tmp 50) _ rfl Try.underlying22 infoEdge (by omega) ED.k ED.one ⟨some ⟨g0,0,none⟩,0,[]⟩ ⟨EA0,Ec0,es⟩ rfl rfl HR1.out (HEr.out.below HUU.out) (by simp [maxLen]; omega) (by simp; omega) hb2 ?_
                intro A1 c1 v3 hown hg hAA
                simp only [List.nil_append] at hown hg
                simp only [List.nil_append]
                have hro:=fun q hq=>(own_row HR1.out q hq).2.1
                have HUU0:=HUU
                replace HUU:=Lib.hid (HUU.out.trans (below_of_grown hg hb2 hro))
                have HNKb : Hid (A1≠some ⟨g12,0,none⟩):=Lib.hid (addr_or hAA HNK.out HK.out.lt)
                replace HK:=Lib.hid (HK.out.grown hg (own_ne_of HR1.out HNK.out))
                replace HNK:=HNKb
                clear HNKb
                replace HR1:=Lib.hid hown
                clear hown hg hro hb2 hAA HUU0
                go_wp2_with fail
                refine And.intro (by first | exact ⟨(HXM.out.later HUU.out).cell 0,(HXM.out.later HUU.out).cell 1,(HXM.out.later HUU.out).cell 2,(HXM.out.later HUU.out).cell 3⟩ | exact fun _=>⟨(HXM.out.later HUU.out).cell 0,(HXM.out.later HUU.out).cell 1,(HXM.out.later HUU.out).cell 2,(HXM.out.later HUU.out).cell 3⟩) ?_
                refine wpAnyT_next (i:=5) (by kernel_rfl) rfl ?_
                go_wp2_with fail
                have hal : Below v3.heap.size v3 (v3.alloc (.cells #[.int .i64 xf,.int .i64 xt,.int .i64 xn,.int .i64 xv] 44)):=(Below.refl _ _).alloc (Nat.le_refl _) _
                have HE5 : Hid (Blk (v3.alloc (.cells #[.int .i64 xf,.int .i64 xt,.int .i64 xn,.int .i64 xv] 44)) v3.heap.size 44 #[.int .i64 xf,.int .i64 xt,.int .i64 xn,.int .i64 xv]):=Lib.hid (Blk.new _ _ _)
                have HN5 : Hid (A1≠some ⟨v3.heap.size,0,none⟩):=Lib.hid (fun e=>absurd (HR1.out.bound _ e) (Nat.lt_irrefl _))
                replace HUU:=Lib.hid (HUU.out.trans (hal.mono HUU.out.size))
                replace HR1:=Lib.hid (HR1.out.below hal)
                replace HK:=Lib.hid (HK.out.later hal)
                clear hal
                generalize v3.alloc (.cells #[.int .i64 xf,.int .i64 xt,.int .i64 xn,.int .i64 xv] 44)=v4 at *
                generalize v3.heap.size=g5 at *
                refine And.intro (by first | exact ⟨(HXM.out.later HUU.out).cell 0,(HXM.out.later HUU.out).cell 1,(HXM.out.later HUU.out).cell 2,(HXM.out.later HUU.out).cell 3⟩ | exact fun _=>⟨(HXM.out.later HUU.out).cell 0,(HXM.out.later HUU.out).cell 1,(HXM.out.later HUU.out).cell 2,(HXM.out.later HUU.out).cell 3⟩) ?_
                refine wpAnyT_next (i:=6) (by kernel_rfl) rfl ?_
                have hb2:=HUU.out.size
                refine wpl_append_sl _ rfl (.tmp 51) (.tmp 53) _ rfl Try.underlying22 infoEdge (by omega) ED.k ED.one ⟨A1,c1,es⟩ ⟨some ⟨g5,0,none⟩,1,[⟨xf,xt,xn,xv⟩]⟩ rfl rfl HR1.out (rd_ed1 HE5.out) (by simp [maxLen]; omega) (by simp; omega) hb2 ?_
                intro A2 c2 v5 hown hg hAA
                simp only at hown hg
                simp only [HES2.out] at hown ⊢
                have hro:=fun q hq=>(own_row HR1.out q hq).2.1
                have HUU0:=HUU
                replace HUU:=Lib.hid (HUU.out.trans (below_of_grown hg hb2 hro))
                replace HK:=Lib.hid (HK.out.grown hg (own_ne_of HR1.out HNK.out))
                clear HNK
                have HR2:=Lib.hid hown
                clear hown hg hro hb2 hAA HUU0 HR1 HE5 HN5
                go_wp2_with fail
                refine And.intro (by first | exact ⟨(HXM.out.later HUU.out).cell 0,(HXM.out.later HUU.out).cell 1,(HXM.out.later HUU.out).cell 2,(HXM.out.later HUU.out).cell 3⟩ | exact fun _=>⟨(HXM.out.later HUU.out).cell 0,(HXM.out.later HUU.out).cell 1,(HXM.out.later HUU.out).cell 2,(HXM.out.later HUU.out).cell 3⟩) ?_
                refine wpAnyT_next (i:=8) (by kernel_rfl) rfl ?_
                go_wp2_with fail
                refine (hier_Build n ⟨A2,c2,es2⟩ R v5 ((Own.rd ED.k HR2.out).mono fun b hb=>hb.2) (HR.out.later (HBu.out.trans (HUU.out.mono HBu.out.size)) (Nat.le_refl _)) hR10 H92.out).mono ?_
                rintro r v6 ⟨GA,GE,Gc,Gd,rfl,hp1,hp2,hal⟩
                simp only [HV5.out] at hp1 hp2 ⊢
                have HNG : Hid (GA≠some ⟨g12,0,none⟩∧GE≠some ⟨g12,0,none⟩):=Lib.hid ⟨own_ge_ne hp1 HK.out.lt,own_ge_ne hp2 HK.out.lt⟩
                have HP1:=Lib.hid (hp1.mono HUU.out.size)
                have HP2:=Lib.hid (hp2.mono HUU.out.size)
                clear hp1 hp2 HR2
                replace HUU:=Lib.hid (HUU.out.trans (hal.mono HUU.out.size))
                replace HK:=Lib.hid (HK.out.later hal)
                clear hal
                go_wp2_with fail
                refine And.intro (by first | exact ⟨(HXM.out.later HUU.out).cell 0,(HXM.out.later HUU.out).cell 1,(HXM.out.later HUU.out).cell 2,(HXM.out.later HUU.out).cell 3⟩ | exact fun _=>⟨(HXM.out.later HUU.out).cell 0,(HXM.out.later HUU.out).cell 1,(HXM.out.later HUU.out).cell 2,(HXM.out.later HUU.out).cell 3⟩) ?_
                have hHeld:=And.intro ((HXM.out.later HUU.out).cell 0) (And.intro ((HXM.out.later HUU.out).cell 1) (And.intro ((HXM.out.later HUU.out).cell 2) ((HXM.out.later HUU.out).cell 3)))
                refine wpAnyT_take2 (i:=9) (v:=?_) rfl rfl (by kernel_rfl) (by kernel_rfl) (by kernel_rfl) (by kernel_rfl) (fun _ _ _ h=>h) (Or.inl ⟨by rfl, ?_⟩) (by first | assumption | trivial) ?_
                rotate_left
                · (intro w hSw; (try dsimp only at hSw); go_simp) <;> (with_reducible rfl)
                simp only [List.setIfInBounds_toArray,List.set_cons_zero,List.set_cons_succ]
                refine wpAnyT_take2 (i:=10) (v:=?_) rfl rfl (by kernel_rfl) (by kernel_rfl) (by kernel_rfl) (by kernel_rfl) (fun _ _ _ h=>h) (Or.inl ⟨by rfl, ?_⟩) (by first | assumption | trivial) ?_
                rotate_left
                · (intro w hSw; (try dsimp only at hSw); go_simp) <;> (with_reducible rfl)
                simp only [List.setIfInBounds_toArray,List.set_cons_zero,List.set_cons_succ]
                refine wpAnyT_take2 (i:=11) (v:=?_) rfl rfl (by kernel_rfl) (by kernel_rfl) (by kernel_rfl) (by kernel_rfl) (fun _ _ _ h=>h) (Or.inl ⟨by rfl, ?_⟩) (by first | assumption | trivial) ?_
                rotate_left
                · (intro w hSw; (try dsimp only at hSw); go_simp) <;> (with_reducible rfl)
                simp only [List.setIfInBounds_toArray,List.set_cons_zero,List.set_cons_succ]
                clear hHeld
                exact wpAnyT_listed (by kernel_rfl) (FIN.out v6 g0 A1 c1 g5 A2 c2 GA GE Gc Gd g12 HUU HKB HP1 HP2 HNG HK)
              · skip
                go_wp2_with fail
                have hal : Below v2.heap.size v2 (v2.alloc (.cells #[.int .i64 xf,.int .i64 xt,.int .i64 xn,.int .i64 xv] 44)):=(Below.refl _ _).alloc (Nat.le_refl _) _
                have HE5 : Hid (Blk (v2.alloc (.cells #[.int .i64 xf,.int .i64 xt,.int .i64 xn,.int .i64 xv] 44)) v2.heap.size 44 #[.int .i64 xf,.int .i64 xt,.int .i64 xn,.int .i64 xv]):=Lib.hid (Blk.new _ _ _)
                have HN5 : Hid ((some (⟨g0,0,none⟩ : Addr))≠some ⟨v2.heap.size,0,none⟩):=Lib.hid (fun e=>absurd (HR1.out.bound _ e) (Nat.lt_irrefl _))
                replace HUU:=Lib.hid (HUU.out.trans (hal.mono HUU.out.size))
                replace HR1:=Lib.hid (HR1.out.below hal)
                replace HK:=Lib.hid (HK.out.later hal)
                clear hal
                generalize v2.alloc (.cells #[.int .i64 xf,.int .i64 xt,.int .i64 xn,.int .i64 xv] 44)=v3 at *
                generalize v2.heap.size=g5 at *
                refine And.intro (by first | exact ⟨(HXM.out.later HUU.out).cell 0,(HXM.out.later HUU.out).cell 1,(HXM.out.later HUU.out).cell 2,(HXM.out.later HUU.out).cell 3⟩ | exact fun _=>⟨(HXM.out.later HUU.out).cell 0,(HXM.out.later HUU.out).cell 1,(HXM.out.later HUU.out).cell 2,(HXM.out.later HUU.out).cell 3⟩) ?_
                refine wpAnyT_next (i:=3) (by kernel_rfl) rfl ?_
                have hb2:=HUU.out.size
                refine wpl_append_sl _ rfl (.tmp 49) (.tmp 50) _ rfl Try.underlying22 infoEdge (by omega) ED.k ED.one ⟨some ⟨g0,0,none⟩,0,[]⟩ ⟨EA0,Ec0,es⟩ rfl rfl HR1.out (HEr.out.below HUU.out) (by simp [maxLen]; omega) (by simp; omega) hb2 ?_
                intro A1 c1 v4 hown hg hAA
                simp only [List.nil_append] at hown hg
                simp only [List.nil_append]
                have hro:=fun q hq=>(own_row HR1.out q hq).2.1
                have HUU0:=HUU
                replace HUU:=Lib.hid (HUU.out.trans (below_of_grown hg hb2 hro))
                have HN5b : Hid (A1≠some ⟨g5,0,none⟩):=Lib.hid (addr_or hAA HN5.out HE5.out.lt)
                replace HE5:=Lib.hid (HE5.out.grown hg (own_ne_of HR1.out HN5.out))
                replace HN5:=HN5b
                clear HN5b
                have HNKb : Hid (A1≠some ⟨g12,0,none⟩):=Lib.hid (addr_or hAA HNK.out HK.out.lt)
                replace HK:=Lib.hid (HK.out.grown hg (own_ne_of HR1.out HNK.out))
                replace HNK:=HNKb
                clear HNKb
                replace HR1:=Lib.hid hown
                clear hown hg hro hb2 hAA HUU0
                go_wp2_with fail
                refine And.intro (by first | exact ⟨(HXM.out.later HUU.out).cell 0,(HXM.out.later HUU.out).cell 1,(HXM.out.later HUU.out).cell 2,(HXM.out.later HUU.out).cell 3⟩ | exact fun _=>⟨(HXM.out.later HUU.out).cell 0,(HXM.out.later HUU.out).cell 1,(HXM.out.later HUU.out).cell 2,(HXM.out.later HUU.out).cell 3⟩) ?_
                refine wpAnyT_next (i:=6) (by kernel_rfl) rfl ?_
                have hb2:=HUU.out.size
                refine wpl_append_sl _ rfl (.tmp 51) (.tmp 53) _ rfl Try.underlying22 infoEdge (by omega) ED.k ED.one ⟨A1,c1,es⟩ ⟨some ⟨g5,0,none⟩,1,[⟨xf,xt,xn,xv⟩]⟩ rfl rfl HR1.out (rd_ed1 HE5.out) (by simp [maxLen]; omega) (by simp; omega) hb2 ?_
                intro A2 c2 v5 hown hg hAA
                simp only at hown hg
                simp only [HES2.out] at hown ⊢
                have hro:=fun q hq=>(own_row HR1.out q hq).2.1
                have HUU0:=HUU
                replace HUU:=Lib.hid (HUU.out.trans (below_of_grown hg hb2 hro))
                replace HK:=Lib.hid (HK.out.grown hg (own_ne_of HR1.out HNK.out))
                clear HNK
                have HR2:=Lib.hid hown
                clear hown hg hro hb2 hAA HUU0 HR1 HE5 HN5
                go_wp2_with fail
                refine And.intro (by first | exact ⟨(HXM.out.later HUU.out).cell 0,(HXM.out.later HUU.out).cell 1,(HXM.out.later HUU.out).cell 2,(HXM.out.later HUU.out).cell 3⟩ | exact fun _=>⟨(HXM.out.later HUU.out).cell 0,(HXM.out.later HUU.out).cell 1,(HXM.out.later HUU.out).cell 2,(HXM.out.later HUU.out).cell 3⟩) ?_
                refine wpAnyT_next (i:=8) (by kernel_rfl) rfl ?_
                go_wp2_with fail
                refine (hier_Build n ⟨A2,c2,es2⟩ R v5 ((Own.rd ED.k HR2.out).mono fun b hb=>hb.2) (HR.out.later (HBu.out.trans (HUU.out.mono HBu.out.size)) (Nat.le_refl _)) hR10 H92.out).mono ?_
                rintro r v6 ⟨GA,GE,Gc,Gd,rfl,hp1,hp2,hal⟩
                simp only [HV5.out] at hp1 hp2 ⊢
                have HNG : Hid (GA≠some ⟨g12,0,none⟩∧GE≠some ⟨g12,0,none⟩):=Lib.hid ⟨own_ge_ne hp1 HK.out.lt,own_ge_ne hp2 HK.out.lt⟩
                have HP1:=Lib.hid (hp1.mono HUU.out.size)
                have HP2:=Lib.hid (hp2.mono HUU.out.size)
                clear hp1 hp2 HR2
                replace HUU:=Lib.hid (HUU.out.trans (hal.mono HUU.out.size))
                replace HK:=Lib.hid (HK.out.later hal)
                clear hal
                go_wp2_with fail
                refine And.intro (by first | exact ⟨(HXM.out.later HUU.out).cell 0,(HXM.out.later HUU.out).cell 1,(HXM.out.later HUU.out).cell 2,(HXM.out.later HUU.out).cell 3⟩ | exact fun _=>⟨(HXM.out.later HUU.out).cell 0,(HXM.out.later HUU.out).cell 1,(HXM.out.later HUU.out).cell 2,(HXM.out.later HUU.out).cell 3⟩) ?_
                have hHeld:=And.intro ((HXM.out.later HUU.out).cell 0) (And.intro ((HXM.out.later HUU.out).cell 1) (And.intro ((HXM.out.later HUU.out).cell 2) ((HXM.out.later HUU.out).cell 3)))
                refine wpAnyT_take2 (i:=9) (v:=?_) rfl rfl (by kernel_rfl) (by kernel_rfl) (by kernel_rfl) (by kernel_rfl) (fun _ _ _ h=>h) (Or.inl ⟨by rfl, ?_⟩) (by first | assumption | trivial) ?_
                rotate_left
                · (intro w hSw; (try dsimp only at hSw); go_simp) <;> (with_reducible rfl)
                simp only [List.setIfInBounds_toArray,List.set_cons_zero,List.set_cons_succ]
                refine wpAnyT_take2 (i:=10) (v:=?_) rfl rfl (by kernel_rfl) (by kernel_rfl) (by kernel_rfl) (by kernel_rfl) (fun _ _ _ h=>h) (Or.inl ⟨by rfl, ?_⟩) (by first | assumption | trivial) ?_
                rotate_left
                · (intro w hSw; (try dsimp only at hSw); go_simp) <;> (with_reducible rfl)
                simp only [List.setIfInBounds_toArray,List.set_cons_zero,List.set_cons_succ]
                refine wpAnyT_take2 (i:=11) (v:=?_) rfl rfl (by kernel_rfl) (by kernel_rfl) (by kernel_rfl) (by kernel_rfl) (fun _ _ _ h=>h) (Or.inl ⟨by rfl, ?_⟩) (by first | assumption | trivial) ?_
                rotate_left
                · (intro w hSw; (try dsimp only at hSw); go_simp) <;> (with_reducible rfl)
                simp only [List.setIfInBounds_toArray,List.set_cons_zero,List.set_cons_succ]
                clear hHeld
                exact wpAnyT_listed (by kernel_rfl) (FIN.out v6 g0 A1 c1 g5 A2 c2 GA GE Gc Gd g12 HUU HKB HP1 HP2 HNG HK)
          · skip
            go_wp2_with fail
            have hal : Below v0.heap.size v0 (v0.alloc (.cells #[.int .i64 xf,.int .i64 xt,.int .i64 xn,.int .i64 xv] 44)):=(Below.refl _ _).alloc (Nat.le_refl _) _
            have HE5 : Hid (Blk (v0.alloc (.cells #[.int .i64 xf,.int .i64 xt,.int .i64 xn,.int .i64 xv] 44)) v0.heap.size 44 #[.int .i64 xf,.int .i64 xt,.int .i64 xn,.int .i64 xv]):=Lib.hid (Blk.new _ _ _)
            replace HUU:=Lib.hid (HUU.out.trans (hal.mono HUU.out.size))
            clear hal
            generalize v0.alloc (.cells #[.int .i64 xf,.int .i64 xt,.int .i64 xn,.int .i64 xv] 44)=v1 at *
            generalize v0.heap.size=g5 at *
            refine And.intro (by first | exact ⟨(HXM.out.later HUU.out).cell 0,(HXM.out.later HUU.out).cell 1,(HXM.out.later HUU.out).cell 2,(HXM.out.later HUU.out).cell 3⟩ | exact fun _=>⟨(HXM.out.later HUU.out).cell 0,(HXM.out.later HUU.out).cell 1,(HXM.out.later HUU.out).cell 2,(HXM.out.later HUU.out).cell 3⟩) ?_
            refine wpAnyT_two (i:=1) (j:=12) (by kernel_rfl) rfl rfl ?_ ?_
            · skip
              go_wp2_with fail
              have hal : Below v1.heap.size v1 (v1.alloc (.cells #[] 44)):=(Below.refl _ _).alloc (Nat.le_refl _) _
              have HR1 : Hid (Own wu.heap.size 44 4 ED.enc (v1.alloc (.cells #[] 44)) ⟨some ⟨v1.heap.size,0,none⟩,0,[]⟩):=Lib.hid (Own.lit v1 #[] [] HUU.out.size (by simp) rfl ED.k)
              have HN5 : Hid ((some (⟨v1.heap.size,0,none⟩ : Addr))≠some ⟨g5,0,none⟩):=Lib.hid (addr_gt HE5.out.lt)
              replace HUU:=Lib.hid (HUU.out.trans (hal.mono HUU.out.size))
              replace HE5:=Lib.hid (HE5.out.later hal)
              clear hal
              generalize v1.alloc (.cells #[] 44)=v2 at *
              generalize v1.heap.size=g0 at *
              refine And.intro (by first | exact ⟨(HXM.out.later HUU.out).cell 0,(HXM.out.later HUU.out).cell 1,(HXM.out.later HUU.out).cell 2,(HXM.out.later HUU.out).cell 3⟩ | exact fun _=>⟨(HXM.out.later HUU.out).cell 0,(HXM.out.later HUU.out).cell 1,(HXM.out.later HUU.out).cell 2,(HXM.out.later HUU.out).cell 3⟩) ?_
              refine wpAnyT_two (i:=3) (j:=12) (by kernel_rfl) rfl rfl ?_ ?_
              · skip
                have hb2:=HUU.out.size
                refine wpl_append_sl _ rfl (.tmp 49) (.tmp 50) _ rfl Try.underlying22 infoEdge (by omega) ED.k ED.one ⟨some ⟨g0,0,none⟩,0,[]⟩ ⟨EA0,Ec0,es⟩ rfl rfl HR1.out (HEr.out.below HUU.out) (by simp [maxLen]; omega) (by simp; omega) hb2 ?_
                intro A1 c1 v3 hown hg hAA
                simp only [List.nil_append] at hown hg
                simp only [List.nil_append]
                have hro:=fun q hq=>(own_row HR1.out q hq).2.1
                have HUU0:=HUU
                replace HUU:=Lib.hid (HUU.out.trans (below_of_grown hg hb2 hro))
                have HN5b : Hid (A1≠some ⟨g5,0,none⟩):=Lib.hid (addr_or hAA HN5.out HE5.out.lt)
                replace HE5:=Lib.hid (HE5.out.grown hg (own_ne_of HR1.out HN5.out))
                replace HN5:=HN5b
                clear HN5b
                replace HR1:=Lib.hid hown
                clear hown hg hro hb2 hAA HUU0
                go_wp2_with fail
                refine And.intro (by first | exact ⟨(HXM.out.later HUU.out).cell 0,(HXM.out.later HUU.out).cell 1,(HXM.out.later HUU.out).cell 2,(HXM.out.later HUU.out).cell 3⟩ | exact fun _=>⟨(HXM.out.later HUU.out).cell 0,(HXM.out.later HUU.out).cell 1,(HXM.out.later HUU.out).cell 2,(HXM.out.later HUU.out).cell 3⟩) ?_
                refine wpAnyT_two (i:=6) (j:=12) (by kernel_rfl) rfl rfl ?_ ?_
                · skip
                  have hb2:=HUU.out.size
                  refine wpl_append_sl _ rfl (.tmp 51) (.tmp 53) _ rfl Try.underlying22 infoEdge (by omega) ED.k ED.one ⟨A1,c1,es⟩ ⟨some ⟨g5,0,none⟩,1,[⟨xf,xt,xn,xv⟩]⟩ rfl rfl HR1.out (rd_ed1 HE5.out) (by simp [maxLen]; omega) (by simp; omega) hb2 ?_
                  intro A2 c2 v4 hown hg hAA
                  simp only at hown hg
                  simp only [HES2.out] at hown ⊢
                  have hro:=fun q hq=>(own_row HR1.out q hq).2.1
                  have HUU0:=HUU
                  replace HUU:=Lib.hid (HUU.out.trans (below_of_grown hg hb2 hro))
                  have HR2:=Lib.hid hown
                  clear hown hg hro hb2 hAA HUU0 HR1 HE5 HN5
                  go_wp2_with fail
                  refine And.intro (by first | exact ⟨(HXM.out.later HUU.out).cell 0,(HXM.out.later HUU.out).cell 1,(HXM.out.later HUU.out).cell 2,(HXM.out.later HUU.out).cell 3⟩ | exact fun _=>⟨(HXM.out.later HUU.out).cell 0,(HXM.out.later HUU.out).cell 1,(HXM.out.later HUU.out).cell 2,(HXM.out.later HUU.out).cell 3⟩) ?_
                  refine wpAnyT_two (i:=8) (j:=12) (by kernel_rfl) rfl rfl ?_ ?_
                  · skip
                    go_wp2_with fail
                    refine (hier_Build n ⟨A2,c2,es2⟩ R v4 ((Own.rd ED.k HR2.out).mono fun b hb=>hb.2) (HR.out.later (HBu.out.trans (HUU.out.mono HBu.out.size)) (Nat.le_refl _)) hR10 H92.out).mono ?_
                    rintro r v5 ⟨GA,GE,Gc,Gd,rfl,hp1,hp2,hal⟩
                    simp only [HV5.out] at hp1 hp2 ⊢
                    have HP1:=Lib.hid (hp1.mono HUU.out.size)
                    have HP2:=Lib.hid (hp2.mono HUU.out.size)
                    clear hp1 hp2 HR2
                    replace HUU:=Lib.hid (HUU.out.trans (hal.mono HUU.out.size))
                    clear hal
                    go_wp2_with fail
                    refine And.intro (by first | exact ⟨(HXM.out.later HUU.out).cell 0,(HXM.out.later HUU.out).cell 1,(HXM.out.later HUU.out).cell 2,(HXM.out.later HUU.out).cell 3⟩ | exact fun _=>⟨(HXM.out.later HUU.out).cell 0,(HXM.out.later HUU.out).cell 1,(HXM.out.later HUU.out).cell 2,(HXM.out.later HUU.out).cell 3⟩) ?_
                    have hHeld:=And.intro ((HXM.out.later HUU.out).cell 0) (And.intro ((HXM.out.later HUU.out).cell 1) (And.intro ((HXM.out.later HUU.out).cell 2) ((HXM.out.later HUU.out).cell 3)))
                    refine wpAnyT_take2 (i:=9) (v:=?_) rfl rfl (by kernel_rfl) (by kernel_rfl) (by kernel_rfl) (by kernel_rfl) (fun _ _ _ h=>h) (Or.inl ⟨by rfl, ?_⟩) (by first | assumption | trivial) ?_
                    rotate_left
                    · (intro w hSw; (try dsimp only at hSw); go_simp) <;> (with_reducible rfl)
                    simp only [List.setIfInBounds_toArray,List.set_cons_zero,List.set_cons_succ]
                    refine wpAnyT_take2 (i:=10) (v:=?_) rfl rfl (by kernel_rfl) (by kernel_rfl) (by kernel_rfl) (by kernel_rfl) (fun _ _ _ h=>h) (Or.inl ⟨by rfl, ?_⟩) (by first | assumption | trivial) ?_
                    rotate_left
                    · (intro w hSw; (try dsimp only at hSw); go_simp) <;> (with_reducible rfl)
                    simp only [List.setIfInBounds_toArray,List.set_cons_zero,List.set_cons_succ]
                    refine wpAnyT_take2 (i:=11) (v:=?_) rfl rfl (by kernel_rfl) (by kernel_rfl) (by kernel_rfl) (by kernel_rfl) (fun _ _ _ h=>h) (Or.inl ⟨by rfl, ?_⟩) (by first | assumption | trivial) ?_
                    rotate_left
                    · (intro w hSw; (try dsimp only at hSw); go_simp) <;> (with_reducible rfl)
                    simp only [List.setIfInBounds_toArray,List.set_cons_zero,List.set_cons_succ]
                    clear hHeld
                    refine wpAnyT_next (i:=12) (by kernel_rfl) rfl ?_
                    go_wp2_with fail
                    have hal : Below v5.heap.size v5 (v5.alloc (.cells #[.slice none 0 0,.slice none 0 0] 25)):=(Below.refl _ _).alloc (Nat.le_refl _) _
                    have HK : Hid (Blk (v5.alloc (.cells #[.slice none 0 0,.slice none 0 0] 25)) v5.heap.size 25 #[.slice none 0 0,.slice none 0 0]):=Lib.hid (Blk.new _ _ _)
                    have HKB : Hid (wu.heap.size≤v5.heap.size):=Lib.hid HUU.out.size
                    have HNG : Hid (GA≠some ⟨v5.heap.size,0,none⟩∧GE≠some ⟨v5.heap.size,0,none⟩):=Lib.hid ⟨fun e=>absurd (HP1.out.bound _ e) (Nat.lt_irrefl _),fun e=>absurd (HP2.out.bound _ e) (Nat.lt_irrefl _)⟩
                    replace HUU:=Lib.hid (HUU.out.trans (hal.mono HUU.out.size))
                    replace HP1:=Lib.hid (HP1.out.below hal)
                    replace HP2:=Lib.hid (HP2.out.below hal)
                    clear hal
                    generalize v5.alloc (.cells #[.slice none 0 0,.slice none 0 0] 25)=v6 at *
                    generalize v5.heap.size=g12 at *
                    refine And.intro (by first | exact ⟨(HXM.out.later HUU.out).cell 0,(HXM.out.later HUU.out).cell 1,(HXM.out.later HUU.out).cell 2,(HXM.out.later HUU.out).cell 3⟩ | exact fun _=>⟨(HXM.out.later HUU.out).cell 0,(HXM.out.later HUU.out).cell 1,(HXM.out.later HUU.out).cell 2,(HXM.out.later HUU.out).cell 3⟩) ?_
                    exact wpAnyT_listed (by kernel_rfl) (FIN.out v6 g0 A1 c1 g5 A2 c2 GA GE Gc Gd g12 HUU HKB HP1 HP2 HNG HK)
                  · skip
                    go_wp2_with fail
                    have hal : Below v4.heap.size v4 (v4.alloc (.cells #[.slice none 0 0,.slice none 0 0] 25)):=(Below.refl _ _).alloc (Nat.le_refl _) _
                    have HK : Hid (Blk (v4.alloc (.cells #[.slice none 0 0,.slice none 0 0] 25)) v4.heap.size 25 #[.slice none 0 0,.slice none 0 0]):=Lib.hid (Blk.new _ _ _)
                    have HKB : Hid (wu.heap.size≤v4.heap.size):=Lib.hid HUU.out.size
                    replace HUU:=Lib.hid (HUU.out.trans (hal.mono HUU.out.size))
                    replace HR2:=Lib.hid (HR2.out.below hal)
                    clear hal
                    generalize v4.alloc (.cells #[.slice none 0 0,.slice none 0 0] 25)=v5 at *
                    generalize v4.heap.size=g12 at *
                    refine And.intro (by first | exact ⟨(HXM.out.later HUU.out).cell 0,(HXM.out.later HUU.out).cell 1,(HXM.out.later HUU.out).cell 2,(HXM.out.later HUU.out).cell 3⟩ | exact fun _=>⟨(HXM.out.later HUU.out).cell 0,(HXM.out.later HUU.out).cell 1,(HXM.out.later HUU.out).cell 2,(HXM.out.later HUU.out).cell 3⟩) ?_
                    refine wpAnyT_next (i:=8) (by kernel_rfl) rfl ?_
                    go_wp2_with fail
                    refine (hier_Build n ⟨A2,c2,es2⟩ R v5 ((Own.rd ED.k HR2.out).mono fun b hb=>hb.2) (HR.out.later (HBu.out.trans (HUU.out.mono HBu.out.size)) (Nat.le_refl _)) hR10 H92.out).mono ?_
                    rintro r v6 ⟨GA,GE,Gc,Gd,rfl,hp1,hp2,hal⟩
                    simp only [HV5.out] at hp1 hp2 ⊢
                    have HNG : Hid (GA≠some ⟨g12,0,none⟩∧GE≠some ⟨g12,0,none⟩):=Lib.hid ⟨own_ge_ne hp1 HK.out.lt,own_ge_ne hp2 HK.out.lt⟩
                    have HP1:=Lib.hid (hp1.mono HUU.out.size)
                    have HP2:=Lib.hid (hp2.mono HUU.out.size)
                    clear hp1 hp2 HR2
                    replace HUU:=Lib.hid (HUU.out.trans (hal.mono HUU.out.size))
                    replace HK:=Lib.hid (HK.out.later hal)
                    clear hal
                    go_wp2_with fail
                    refine And.intro (by first | exact ⟨(HXM.out.later HUU.out).cell 0,(HXM.out.later HUU.out).cell 1,(HXM.out.later HUU.out).cell 2,(HXM.out.later HUU.out).cell 3⟩ | exact fun _=>⟨(HXM.out.later HUU.out).cell 0,(HXM.out.later HUU.out).cell 1,(HXM.out.later HUU.out).cell 2,(HXM.out.later HUU.out).cell 3⟩) ?_
                    have hHeld:=And.intro ((HXM.out.later HUU.out).cell 0) (And.intro ((HXM.out.later HUU.out).cell 1) (And.intro ((HXM.out.later HUU.out).cell 2) ((HXM.out.later HUU.out).cell 3)))
                    refine wpAnyT_take2 (i:=9) (v:=?_) rfl rfl (by kernel_rfl) (by kernel_rfl) (by kernel_rfl) (by kernel_rfl) (fun _ _ _ h=>h) (Or.inl ⟨by rfl, ?_⟩) (by first | assumption | trivial) ?_
                    rotate_left
                    · (intro w hSw; (try dsimp only at hSw); go_simp) <;> (with_reducible rfl)
                    simp only [List.setIfInBounds_toArray,List.set_cons_zero,List.set_cons_succ]
                    refine wpAnyT_take2 (i:=10) (v:=?_) rfl rfl (by kernel_rfl) (by kernel_rfl) (by kernel_rfl) (by kernel_rfl) (fun _ _ _ h=>h) (Or.inl ⟨by rfl, ?_⟩) (by first | assumption | trivial) ?_
                    rotate_left
                    · (intro w hSw; (try dsimp only at hSw); go_simp) <;> (with_reducible rfl)
                    simp only [List.setIfInBounds_toArray,List.set_cons_zero,List.set_cons_succ]
                    refine wpAnyT_take2 (i:=11) (v:=?_) rfl rfl (by kernel_rfl) (by kernel_rfl) (by kernel_rfl) (by kernel_rfl) (fun _ _ _ h=>h) (Or.inl ⟨by rfl, ?_⟩) (by first | assumption | trivial) ?_
                    rotate_left
                    · (intro w hSw; (try dsimp only at hSw); go_simp) <;> (with_reducible rfl)
                    simp only [List.setIfInBounds_toArray,List.set_cons_zero,List.set_cons_succ]
                    clear hHeld
                    exact wpAnyT_listed (by kernel_rfl) (FIN.out v6 g0 A1 c1 g5 A2 c2 GA GE Gc Gd g12 HUU HKB HP1 HP2 HNG HK)
                · skip
                  go_wp2_with fail
                  have hal : Below v3.heap.size v3 (v3.alloc (.cells #[.slice none 0 0,.slice none 0 0] 25)):=(Below.refl _ _).alloc (Nat.le_refl _) _
                  have HK : Hid (Blk (v3.alloc (.cells #[.slice none 0 0,.slice none 0 0] 25)) v3.heap.size 25 #[.slice none 0 0,.slice none 0 0]):=Lib.hid (Blk.new _ _ _)
                  have HKB : Hid (wu.heap.size≤v3.heap.size):=Lib.hid HUU.out.size
                  have HNK : Hid (A1≠some ⟨v3.heap.size,0,none⟩):=Lib.hid (fun e=>absurd (HR1.out.bound _ e) (Nat.lt_irrefl _))
                  replace HUU:=Lib.hid (HUU.out.trans (hal.mono HUU.out.size))
                  replace HR1:=Lib.hid (HR1.out.below hal)
                  replace HE5:=Lib.hid (HE5.out.later hal)
                  clear hal
                  generalize v3.alloc (.cells #[.slice none 0 0,.slice none 0 0] 25)=v4 at *
                  generalize v3.heap.size=g12 at *
                  refine And.intro (by first | exact ⟨(HXM.out.later HUU.out).cell 0,(HXM.out.later HUU.out).cell 1,(HXM.out.later HUU.out).cell 2,(HXM.out.later HUU.out).cell 3⟩ | exact fun _=>⟨(HXM.out.later HUU.out).cell 0,(HXM.out.later HUU.out).cell 1,(HXM.out.later HUU.out).cell 2,(HXM.out.later HUU.out).cell 3⟩) ?_
                  refine wpAnyT_next (i:=6) (by kernel_rfl) rfl ?_
                  have hb2:=HUU.out.size
                  refine wpl_append_sl _ rfl (.tmp 51) (.tmp 53) _ rfl Try.underlying22 infoEdge (by omega) ED.k ED.one ⟨A1,c1,es⟩ ⟨some ⟨g5,0,none⟩,1,[⟨xf,xt,xn,xv⟩]⟩ rfl rfl HR1.out (rd_ed1 HE5.out) (by simp [maxLen]; omega) (by simp; omega) hb2 ?_
                  intro A2 c2 v5 hown hg hAA
                  simp only at hown hg
                  simp only [HES2.out] at hown ⊢
                  have hro:=fun q hq=>(own_row HR1.out q hq).2.1
                  have HUU0:=HUU
                  replace HUU:=Lib.hid (HUU.out.trans (below_of_grown hg hb2 hro))
                  replace HK:=Lib.hid (HK.out.grown hg (own_ne_of HR1.out HNK.out))
                  clear HNK
                  have HR2:=Lib.hid hown
                  clear hown hg hro hb2 hAA HUU0 HR1 HE5 HN5
                  go_wp2_with fail
                  refine And.intro (by first | exact ⟨(HXM.out.later HUU.out).cell 0,(HXM.out.later HUU.out).cell 1,(HXM.out.later HUU.out).cell 2,(HXM.out.later HUU.out).cell 3⟩ | exact fun _=>⟨(HXM.out.later HUU.out).cell 0,(HXM.out.later HUU.out).cell 1,(HXM.out.later HUU.out).cell 2,(HXM.out.later HUU.out).cell 3⟩) ?_
                  refine wpAnyT_next (i:=8) (by kernel_rfl) rfl ?_
                  go_wp2_with fail
                  refine (hier_Build n ⟨A2,c2,es2⟩ R v5 ((Own.rd ED.k HR2.out).mono fun b hb=>hb.2) (HR.out.later (HBu.out.trans (HUU.out.mono HBu.out.size)) (Nat.le_refl _)) hR10 H92.out).mono ?_
                  rintro r v6 ⟨GA,GE,Gc,Gd,rfl,hp1,hp2,hal⟩
                  simp only [HV5.out] at hp1 hp2 ⊢
                  have HNG : Hid (GA≠some ⟨g12,0,none⟩∧GE≠some ⟨g12,0,none⟩):=Lib.hid ⟨own_ge_ne hp1 HK.out.lt,own_ge_ne hp2 HK.out.lt⟩
                  have HP1:=Lib.hid (hp1.mono HUU.out.size)
                  have HP2:=Lib.hid (hp2.mono HUU.out.size)
                  clear hp1 hp2 HR2
                  replace HUU:=Lib.hid (HUU.out.trans (hal.mono HUU.out.size))
                  replace HK:=Lib.hid (HK.out.later hal)
                  clear hal
                  go_wp2_with fail
                  refine And.intro (by first | exact ⟨(HXM.out.later HUU.out).cell 0,(HXM.out.later HUU.out).cell 1,(HXM.out.later HUU.out).cell 2,(HXM.out.later HUU.out).cell 3⟩ | exact fun _=>⟨(HXM.out.later HUU.out).cell 0,(HXM.out.later HUU.out).cell 1,(HXM.out.later HUU.out).cell 2,(HXM.out.later HUU.out).cell 3⟩) ?_
                  have hHeld:=And.intro ((HXM.out.later HUU.out).cell 0) (And.intro ((HXM.out.later HUU.out).cell 1) (And.intro ((HXM.out.later HUU.out).cell 2) ((HXM.out.later HUU.out).cell 3)))
                  refine wpAnyT_take2 (i:=9) (v:=?_) rfl rfl (by kernel_rfl) (by kernel_rfl) (by kernel_rfl) (by kernel_rfl) (fun _ _ _ h=>h) (Or.inl ⟨by rfl, ?_⟩) (by first | assumption | trivial) ?_
                  rotate_left
                  · (intro w hSw; (try dsimp only at hSw); go_simp) <;> (with_reducible rfl)
                  simp only [List.setIfInBounds_toArray,List.set_cons_zero,List.set_cons_succ]
                  refine wpAnyT_take2 (i:=10) (v:=?_) rfl rfl (by kernel_rfl) (by kernel_rfl) (by kernel_rfl) (by kernel_rfl) (fun _ _ _ h=>h) (Or.inl ⟨by rfl, ?_⟩) (by first | assumption | trivial) ?_
                  rotate_left
                  · (intro w hSw; (try dsimp only at hSw); go_simp) <;> (with_reducible rfl)
                  simp only [List.setIfInBounds_toArray,List.set_cons_zero,List.set_cons_succ]
                  refine wpAnyT_take2 (i:=11) (v:=?_) rfl rfl (by kernel_rfl) (by kernel_rfl) (by kernel_rfl) (by kernel_rfl) (fun _ _ _ h=>h) (Or.inl ⟨by rfl, ?_⟩) (by first | assumption | trivial) ?_
                  rotate_left
                  · (intro w hSw; (try dsimp only at hSw); go_simp) <;> (with_reducible rfl)
                  simp only [List.setIfInBounds_toArray,List.set_cons_zero,List.set_cons_succ]
                  clear hHeld
                  exact wpAnyT_listed (by kernel_rfl) (FIN.out v6 g0 A1 c1 g5 A2 c2 GA GE Gc Gd g12 HUU HKB HP1 HP2 HNG HK)
              · skip
                go_wp2_with fail
                have hal : Below v2.heap.size v2 (v2.alloc (.cells #[.slice none 0 0,.slice none 0 0] 25)):=(Below.refl _ _).alloc (Nat.le_refl _) _
                have HK : Hid (Blk (v2.alloc (.cells #[.slice none 0 0,.slice none 0 0] 25)) v2.heap.size 25 #[.slice none 0 0,.slice none 0 0]):=Lib.hid (Blk.new _ _ _)
                have HKB : Hid (wu.heap.size≤v2.heap.size):=Lib.hid HUU.out.size
                have HNK : Hid ((some (⟨g0,0,none⟩ : Addr))≠some ⟨v2.heap.size,0,none⟩):=Lib.hid (fun e=>absurd (HR1.out.bound _ e) (Nat.lt_irrefl _))
                replace HUU:=Lib.hid (HUU.out.trans (hal.mono HUU.out.size))
                replace HR1:=Lib.hid (HR1.out.below hal)
                replace HE5:=Lib.hid (HE5.out.later hal)
                clear hal
                generalize v2.alloc (.cells #[.slice none 0 0,.slice none 0 0] 25)=v3 at *
                generalize v2.heap.size=g12 at *
                refine And.intro (by first | exact ⟨(HXM.out.later HUU.out).cell 0,(HXM.out.later HUU.out).cell 1,(HXM.out.later HUU.out).cell 2,(HXM.out.later HUU.out).cell 3⟩ | exact fun _=>⟨(HXM.out.later HUU.out).cell 0,(HXM.out.later HUU.out).cell 1,(HXM.out.later HUU.out).cell 2,(HXM.out.later HUU.out).cell 3⟩) ?_
                refine wpAnyT_next (i:=3) (by kernel_rfl) rfl ?_
                have hb2:=HUU.out.size
                refine wpl_append_sl _ rfl (.tmp 49) (.tmp 50) _ rfl Try.underlying22 infoEdge (by omega) ED.k ED.one ⟨some ⟨g0,0,none⟩,0,[]⟩ ⟨EA0,Ec0,es⟩ rfl rfl HR1.out (HEr.out.below HUU.out) (by simp [maxLen]; omega) (by simp; omega) hb2 ?_
                intro A1 c1 v4 hown hg hAA
                simp only [List.nil_append] at hown hg
                simp only [List.nil_append]
                have hro:=fun q hq=>(own_row HR1.out q hq).2.1
                have HUU0:=HUU
                replace HUU:=Lib.hid (HUU.out.trans (below_of_grown hg hb2 hro))
                have HN5b : Hid (A1≠some ⟨g5,0,none⟩):=Lib.hid (addr_or hAA HN5.out HE5.out.lt)
                replace HE5:=Lib.hid (HE5.out.grown hg (own_ne_of HR1.out HN5.out))
                replace HN5:=HN5b
                clear HN5b
                have HNKb : Hid (A1≠some ⟨g12,0,none⟩):=Lib.hid (addr_or hAA HNK.out HK.out.lt)
                replace HK:=Lib.hid (HK.out.grown hg (own_ne_of HR1.out HNK.out))
                replace HNK:=HNKb
                clear HNKb
                replace HR1:=Lib.hid hown
                clear hown hg hro hb2 hAA HUU0
                go_wp2_with fail
                refine And.intro (by first | exact ⟨(HXM.out.later HUU.out).cell 0,(HXM.out.later HUU.out).cell 1,(HXM.out.later HUU.out).cell 2,(HXM.out.later HUU.out).cell 3⟩ | exact fun _=>⟨(HXM.out.later HUU.out).cell 0,(HXM.out.later HUU.out).cell 1,(HXM.out.later HUU.out).cell 2,(HXM.out.later HUU.out).cell 3⟩) ?_
                refine wpAnyT_next (i:=6) (by kernel_rfl) rfl ?_
                have hb2:=HUU.out.size
                refine wpl_append_sl _ rfl (.tmp 51) (.tmp 53) _ rfl Try.underlying22 infoEdge (by omega) ED.k ED.one ⟨A1,c1,es⟩ ⟨some ⟨g5,0,none⟩,1,[⟨xf,xt,xn,xv⟩]⟩ rfl rfl HR1.out (rd_ed1 HE5.out) (by simp [maxLen]; omega) (by simp; omega) hb2 ?_
                intro A2 c2 v5 hown hg hAA
                simp only at hown hg
                simp only [HES2.out] at hown ⊢
                have hro:=fun q hq=>(own_row HR1.out q hq).2.1
                have HUU0:=HUU
                replace HUU:=Lib.hid (HUU.out.trans (below_of_grown hg hb2 hro))
                replace HK:=Lib.hid (HK.out.grown hg (own_ne_of HR1.out HNK.out))
                clear HNK
                have HR2:=Lib.hid hown
                clear hown hg hro hb2 hAA HUU0 HR1 HE5 HN5
                go_wp2_with fail
                refine And.intro (by first | exact ⟨(HXM.out.later HUU.out).cell 0,(HXM.out.later HUU.out).cell 1,(HXM.out.later HUU.out).cell 2,(HXM.out.later HUU.out).cell 3⟩ | exact fun _=>⟨(HXM.out.later HUU.out).cell 0,(HXM.out.later HUU.out).cell 1,(HXM.out.later HUU.out).cell 2,(HXM.out.later HUU.out).cell 3⟩) ?_
                refine wpAnyT_next (i:=8) (by kernel_rfl) rfl ?_
                go_wp2_with fail
                refine (hier_Build n ⟨A2,c2,es2⟩ R v5 ((Own.rd ED.k HR2.out).mono fun b hb=>hb.2) (HR.out.later (HBu.out.trans (HUU.out.mono HBu.out.size)) (Nat.le_refl _)) hR10 H92.out).mono ?_
                rintro r v6 ⟨GA,GE,Gc,Gd,rfl,hp1,hp2,hal⟩
                simp only [HV5.out] at hp1 hp2 ⊢
                have HNG : Hid (GA≠some ⟨g12,0,none⟩∧GE≠some ⟨g12,0,none⟩):=Lib.hid ⟨own_ge_ne hp1 HK.out.lt,own_ge_ne hp2 HK.out.lt⟩
                have HP1:=Lib.hid (hp1.mono HUU.out.size)
                have HP2:=Lib.hid (hp2.mono HUU.out.size)
                clear hp1 hp2 HR2
                replace HUU:=Lib.hid (HUU.out.trans (hal.mono HUU.out.size))
                replace HK:=Lib.hid (HK.out.later hal)
                clear hal
                go_wp2_with fail
                refine And.intro (by first | exact ⟨(HXM.out.later HUU.out).cell 0,(HXM.out.later HUU.out).cell 1,(HXM.out.later HUU.out).cell 2,(HXM.out.later HUU.out).cell 3⟩ | exact fun _=>⟨(HXM.out.later HUU.out).cell 0,(HXM.out.later HUU.out).cell 1,(HXM.out.later HUU.out).cell 2,(HXM.out.later HUU.out).cell 3⟩) ?_
                have hHeld:=And.intro ((HXM.out.later HUU.out).cell 0) (And.intro ((HXM.out.later HUU.out).cell 1) (And.intro ((HXM.out.later HUU.out).cell 2) ((HXM.out.later HUU.out).cell 3)))
                refine wpAnyT_take2 (i:=9) (v:=?_) rfl rfl (by kernel_rfl) (by kernel_rfl) (by kernel_rfl) (by kernel_rfl) (fun _ _ _ h=>h) (Or.inl ⟨by rfl, ?_⟩) (by first | assumption | trivial) ?_
                rotate_left
                · (intro w hSw; (try dsimp only at hSw); go_simp) <;> (with_reducible rfl)
                simp only [List.setIfInBounds_toArray,List.set_cons_zero,List.set_cons_succ]
                refine wpAnyT_take2 (i:=10) (v:=?_) rfl rfl (by kernel_rfl) (by kernel_rfl) (by kernel_rfl) (by kernel_rfl) (fun _ _ _ h=>h) (Or.inl ⟨by rfl, ?_⟩) (by first | assumption | trivial) ?_
                rotate_left
                · (intro w hSw; (try dsimp only at hSw); go_simp) <;> (with_reducible rfl)
                simp only [List.setIfInBounds_toArray,List.set_cons_zero,List.set_cons_succ]
                refine wpAnyT_take2 (i:=11) (v:=?_) rfl rfl (by kernel_rfl) (by kernel_rfl) (by kernel_rfl) (by kernel_rfl) (fun _ _ _ h=>h) (Or.inl ⟨by rfl, ?_⟩) (by first | assumption | trivial) ?_
                rotate_left
                · (intro w hSw; (try dsimp only at hSw); go_simp) <;> (with_reducible rfl)
                simp only [List.setIfInBounds_toArray,List.set_cons_zero,List.set_cons_succ]
                clear hHeld
                exact wpAnyT_listed (by kernel_rfl) (FIN.out v6 g0 A1 c1 g5 A2 c2 GA GE Gc Gd g12 HUU HKB HP1 HP2 HNG HK)
            · skip
              go_wp2_with fail
              have hal : Below v1.heap.size v1 (v1.alloc (.cells #[.slice none 0 0,.slice none 0 0] 25)):=(Below.refl _ _).alloc (Nat.le_refl _) _
              have HK : Hid (Blk (v1.alloc (.cells #[.slice none 0 0,.slice none 0 0] 25)) v1.heap.size 25 #[.slice none 0 0,.slice none 0 0]):=Lib.hid (Blk.new _ _ _)
              have HKB : Hid (wu.heap.size≤v1.heap.size):=Lib.hid HUU.out.size
              replace HUU:=Lib.hid (HUU.out.trans (hal.mono HUU.out.size))
              replace HE5:=Lib.hid (HE5.out.later hal)
              clear hal
              generalize v1.alloc (.cells #[.slice none 0 0,.slice none 0 0] 25)=v2 at *
              generalize v1.heap.size=g12 at *
              refine And.intro (by first | exact ⟨(HXM.out.later HUU.out).cell 0,(HXM.out.later HUU.out).cell 1,(HXM.out.later HUU.out).cell 2,(HXM.out.later HUU.out).cell 3⟩ | exact fun _=>⟨(HXM.out.later HUU.out).cell 0,(HXM.out.later HUU.out).cell 1,(HXM.out.later HUU.out).cell 2,(HXM.out.later HUU.out).cell 3⟩) ?_
              refine wpAnyT_next (i:=1) (by kernel_rfl) rfl ?_
              go_wp2_with fail
              have hal : Below v2.heap.size v2 (v2.alloc (.cells #[] 44)):=(Below.refl _ _).alloc (Nat.le_refl _) _
              have HR1 : Hid (Own wu.heap.size 44 4 ED.enc (v2.alloc (.cells #[] 44)) ⟨some ⟨v2.heap.size,0,none⟩,0,[]⟩):=Lib.hid (Own.lit v2 #[] [] HUU.out.size (by simp) rfl ED.k)
              have HN5 : Hid ((some (⟨v2.heap.size,0,none⟩ : Addr))≠some ⟨g5,0,none⟩):=Lib.hid (addr_gt HE5.out.lt)
              have HNK : Hid ((some (⟨v2.heap.size,0,none⟩ : Addr))≠some ⟨g12,0,none⟩):=Lib.hid (addr_gt HK.out.lt)
              replace HUU:=Lib.hid (HUU.out.trans (hal.mono HUU.out.size))
              replace HE5:=Lib.hid (HE5.out.later hal)
              replace HK:=Lib.hid (HK.out.later hal)
              clear hal
              generalize v2.alloc (.cells #[] 44)=v3 at *
              generalize v2.heap.size=g0 at *
              refine And.intro (by first | exact ⟨(HXM.out.later HUU.out).cell 0,(HXM.out.later HUU.out).cell 1,(HXM.out.later HUU.out).cell 2,(HXM.out.later HUU.out).cell 3⟩ | exact fun _=>⟨(HXM.out.later HUU.out).cell 0,(HXM.out.later HUU.out).cell 1,(HXM.out.later HUU.out).cell 2,(HXM.out.later HUU.out).cell 3⟩) ?_
              refine wpAnyT_next (i:=3) (by kernel_rfl) rfl ?_
              have hb2:=HUU.out.size
              refine wpl_append_sl _ rfl (.tmp 49) (.tmp 50) _ rfl Try.underlying22 infoEdge (by omega) ED.k ED.one ⟨some ⟨g0,0,none⟩,0,[]⟩ ⟨EA0,Ec0,es⟩ rfl rfl HR1.out (HEr.out.below HUU.out) (by simp [maxLen]; omega) (by simp; omega) hb2 ?_
              intro A1 c1 v4 hown hg hAA
              simp only [List.nil_append] at hown hg
              simp only [List.nil_append]
              have hro:=fun q hq=>(own_row HR1.out q hq).2.1
              have HUU0:=HUU
              replace HUU:=Lib.hid (HUU.out.trans (below_of_grown hg hb2 hro))
              have HN5b : Hid (A1≠some ⟨g5,0,none⟩):=Lib.hid (addr_or hAA HN5.out HE5.out.lt)
              replace HE5:=Lib.hid (HE5.out.grown hg (own_ne_of HR1.out HN5.out))
              replace HN5:=HN5b
              clear HN5b
              have HNKb : Hid (A1≠some ⟨g12,0,none⟩):=Lib.hid (addr_or hAA HNK.out HK.out.lt)
              replace HK:=Lib.hid (HK.out.grown hg (own_ne_of HR1.out HNK.out))
              replace HNK:=HNKb
              clear HNKb
              replace HR1:=Lib.hid hown
              clear hown hg hro hb2 hAA HUU0
              go_wp2_with fail
              refine And.intro (by first | exact ⟨(HXM.out.later HUU.out).cell 0,(HXM.out.later HUU.out).cell 1,(HXM.out.later HUU.out).cell 2,(HXM.out.later HUU.out).cell 3⟩ | exact fun _=>⟨(HXM.out.later HUU.out).cell 0,(HXM.out.later HUU.out).cell 1,(HXM.out.later HUU.out).cell 2,(HXM.out.later HUU.out).cell 3⟩) ?_
              refine wpAnyT_next (i:=6) (by kernel_rfl) rfl ?_
              have hb2:=HUU.out.size
              refine wpl_append_sl _ rfl (.tmp 51) (.tmp 53) _ rfl Try.underlying22 infoEdge (by omega) ED.k ED.one ⟨A1,c1,es⟩ ⟨some ⟨g5,0,none⟩,1,[⟨xf,xt,xn,xv⟩]⟩ rfl rfl HR1.out (rd_ed1 HE5.out) (by simp [maxLen]; omega) (by simp; omega) hb2 ?_
              intro A2 c2 v5 hown hg hAA
              simp only at hown hg
              simp only [HES2.out] at hown ⊢
              have hro:=fun q hq=>(own_row HR1.out q hq).2.1
              have HUU0:=HUU
              replace HUU:=Lib.hid (HUU.out.trans (below_of_grown hg hb2 hro))
              replace HK:=Lib.hid (HK.out.grown hg (own_ne_of HR1.out HNK.out))
              clear HNK
              have HR2:=Lib.hid hown
              clear hown hg hro hb2 hAA HUU0 HR1 HE5 HN5
              go_wp2_with fail
              refine And.intro (by first | exact ⟨(HXM.out.later HUU.out).cell 0,(HXM.out.later HUU.out).cell 1,(HXM.out.later HUU.out).cell 2,(HXM.out.later HUU.out).cell 3⟩ | exact fun _=>⟨(HXM.out.later HUU.out).cell 0,(HXM.out.later HUU.out).cell 1,(HXM.out.later HUU.out).cell 2,(HXM.out.later HUU.out).cell 3⟩) ?_
              refine wpAnyT_next (i:=8) (by kernel_rfl) rfl ?_
              go_wp2_with fail
              refine (hier_Build n ⟨A2,c2,es2⟩ R v5 ((Own.rd ED.k HR2.out).mono fun b hb=>hb.2) (HR.out.later (HBu.out.trans (HUU.out.mono HBu.out.size)) (Nat.le_refl _)) hR10 H92.out).mono ?_
              rintro r v6 ⟨GA,GE,Gc,Gd,rfl,hp1,hp2,hal⟩
              simp only [HV5.out] at hp1 hp2 ⊢
              have HNG : Hid (GA≠some ⟨g12,0,none⟩∧GE≠some ⟨g12,0,none⟩):=Lib.hid ⟨own_ge_ne hp1 HK.out.lt,own_ge_ne hp2 HK.out.lt⟩
              have HP1:=Lib.hid (hp1.mono HUU.out.size)
              have HP2:=Lib.hid (hp2.mono HUU.out.size)
              clear hp1 hp2 HR2
              replace HUU:=Lib.hid (HUU.out.trans (hal.mono HUU.out.size))
              replace HK:=Lib.hid (HK.out.later hal)
              clear hal
              go_wp2_with fail
              refine And.intro (by first | exact ⟨(HXM.out.later HUU.out).cell 0,(HXM.out.later HUU.out).cell 1,(HXM.out.later HUU.out).cell 2,(HXM.out.later HUU.out).cell 3⟩ | exact fun _=>⟨(HXM.out.later HUU.out).cell 0,(HXM.out.later HUU.out).cell 1,(HXM.out.later HUU.out).cell 2,(HXM.out.later HUU.out).cell 3⟩) ?_
              have hHeld:=And.intro ((HXM.out.later HUU.out).cell 0) (And.intro ((HXM.out.later HUU.out).cell 1) (And.intro ((HXM.out.later HUU.out).cell 2) ((HXM.out.later HUU.out).cell 3)))
              refine wpAnyT_take2 (i:=9) (v:=?_) rfl rfl (by kernel_rfl) (by kernel_rfl) (by kernel_rfl) (by kernel_rfl) (fun _ _ _ h=>h) (Or.inl ⟨by rfl, ?_⟩) (by first | assumption | trivial) ?_
              rotate_left
              · (intro w hSw; (try dsimp only at hSw); go_simp) <;> (with_reducible rfl)
              simp only [List.setIfInBounds_toArray,List.set_cons_zero,List.set_cons_succ]
              refine wpAnyT_take2 (i:=10) (v:=?_) rfl rfl (by kernel_rfl) (by kernel_rfl) (by kernel_rfl) (by kernel_rfl) (fun _ _ _ h=>h) (Or.inl ⟨by rfl, ?_⟩) (by first | assumption | trivial) ?_
              rotate_left
              · (intro w hSw; (try dsimp only at hSw); go_simp) <;> (with_reducible rfl)
              simp only [List.setIfInBounds_toArray,List.set_cons_zero,List.set_cons_succ]
              refine wpAnyT_take2 (i:=11) (v:=?_) rfl rfl (by kernel_rfl) (by kernel_rfl) (by kernel_rfl) (by kernel_rfl) (fun _ _ _ h=>h) (Or.inl ⟨by rfl, ?_⟩) (by first | assumption | trivial) ?_
              rotate_left
              · (intro w hSw; (try dsimp only at hSw); go_simp) <;> (with_reducible rfl)
              simp only [List.setIfInBounds_toArray,List.set_cons_zero,List.set_cons_succ]
              clear hHeld
              exact wpAnyT_listed (by kernel_rfl) (FIN.out v6 g0 A1 c1 g5 A2 c2 GA GE Gc Gd g12 HUU HKB HP1 HP2 HNG HK)
          · skip
            go_wp2_with fail
            have hal : Below v0.heap.size v0 (v0.alloc (.cells #[.slice none 0 0,.slice none 0 0] 25)):=(Below.refl _ _).alloc (Nat.le_refl _) _
            have HK : Hid (Blk (v0.alloc (.cells #[.slice none 0 0,.slice none 0 0] 25)) v0.heap.size 25 #[.slice none 0 0,.slice none 0 0]):=Lib.hid (Blk.new _ _ _)
            have HKB : Hid (wu.heap.size≤v0.heap.size):=Lib.hid HUU.out.size
            replace HUU:=Lib.hid (HUU.out.trans (hal.mono HUU.out.size))
            clear hal
            generalize v0.alloc (.cells #[.slice none 0 0,.slice none 0 0] 25)=v1 at *
            generalize v0.heap.size=g12 at *
            refine And.intro (by first | exact ⟨(HXM.out.later HUU.out).cell 0,(HXM.out.later HUU.out).cell 1,(HXM.out.later HUU.out).cell 2,(HXM.out.later HUU.out).cell 3⟩ | exact fun _=>⟨(HXM.out.later HUU.out).cell 0,(HXM.out.later HUU.out).cell 1,(HXM.out.later HUU.out).cell 2,(HXM.out.later HUU.out).cell 3⟩) ?_
            refine wpAnyT_two (i:=1) (j:=5) (by kernel_rfl) rfl rfl ?_ ?_
            · skip
              go_wp2_with fail
              have hal : Below v1.heap.size v1 (v1.alloc (.cells #[] 44)):=(Below.refl _ _).alloc (Nat.le_refl _) _
              have HR1 : Hid (Own wu.heap.size 44 4 ED.enc (v1.alloc (.cells #[] 44)) ⟨some ⟨v1.heap.size,0,none⟩,0,[]⟩):=Lib.hid (Own.lit v1 #[] [] HUU.out.size (by simp) rfl ED.k)
              have HNK : Hid ((some (⟨v1.heap.size,0,none⟩ : Addr))≠some ⟨g12,0,none⟩):=Lib.hid (addr_gt HK.out.lt)
              replace HUU:=Lib.hid (HUU.out.trans (hal.mono HUU.out.size))
              replace HK:=Lib.hid (HK.out.later hal)
              clear hal
              generalize v1.alloc (.cells #[] 44)=v2 at *
              generalize v1.heap.size=g0 at *
              refine And.intro (by first | exact ⟨(HXM.out.later HUU.out).cell 0,(HXM.out.later HUU.out).cell 1,(HXM.out.later HUU.out).cell 2,(HXM.out.later HUU.out).cell 3⟩ | exact fun _=>⟨(HXM.out.later HUU.out).cell 0,(HXM.out.later HUU.out).cell 1,(HXM.out.later HUU.out).cell 2,(HXM.out.later HUU.out).cell 3⟩) ?_
              refine wpAnyT_two (i:=3) (j:=5) (by kernel_rfl) rfl rfl ?_ ?_
              · skip
                have hb2:=HUU.out.size
                refine wpl_append_sl _ rfl (.tmp 49) (.tmp 50) _ rfl Try.underlying22 infoEdge (by omega) ED.k ED.one ⟨some ⟨g0,0,none⟩,0,[]⟩ ⟨EA0,Ec0,es⟩ rfl rfl HR1.out (HEr.out.below HUU.out) (by simp [maxLen]; omega) (by simp; omega) hb2 ?_
                intro A1 c1 v3 hown hg hAA
                simp only [List.nil_append] at hown hg
                simp only [List.nil_append]
                have hro:=fun q hq=>(own_row HR1.out q hq).2.1
                have HUU0:=HUU
                replace HUU:=Lib.hid (HUU.out.trans (below_of_grown hg hb2 hro))
                have HNKb : Hid (A1≠some ⟨g12,0,none⟩):=Lib.hid (addr_or hAA HNK.out HK.out.lt)
                replace HK:=Lib.hid (HK.out.grown hg (own_ne_of HR1.out HNK.out))
                replace HNK:=HNKb
                clear HNKb
                replace HR1:=Lib.hid hown
                clear hown hg hro hb2 hAA HUU0
                go_wp2_with fail
                refine And.intro (by first | exact ⟨(HXM.out.later HUU.out).cell 0,(HXM.out.later HUU.out).cell 1,(HXM.out.later HUU.out).cell 2,(HXM.out.later HUU.out).cell 3⟩ | exact fun _=>⟨(HXM.out.later HUU.out).cell 0,(HXM.out.later HUU.out).cell 1,(HXM.out.later HUU.out).cell 2,(HXM.out.later HUU.out).cell 3⟩) ?_
                refine wpAnyT_next (i:=5) (by kernel_rfl) rfl ?_
                go_wp2_with fail
                have hal : Below v3.heap.size v3 (v3.alloc (.cells #[.int .i64 xf,.int .i64 xt,.int .i64 xn,.int .i64 xv] 44)):=(Below.refl _ _).alloc (Nat.le_refl _) _
                have HE5 : Hid (Blk (v3.alloc (.cells #[.int .i64 xf,.int .i64 xt,.int .i64 xn,.int .i64 xv] 44)) v3.heap.size 44 #[.int .i64 xf,.int .i64 xt,.int .i64 xn,.int .i64 xv]):=Lib.hid (Blk.new _ _ _)
                have HN5 : Hid (A1≠some ⟨v3.heap.size,0,none⟩):=Lib.hid (fun e=>absurd (HR1.out.bound _ e) (Nat.lt_irrefl _))
                replace HUU:=Lib.hid (HUU.out.trans (hal.mono HUU.out.size))
                replace HR1:=Lib.hid (HR1.out.below hal)
                replace HK:=Lib.hid (HK.out.later hal)
                clear hal
                generalize v3.alloc (.cells #[.int .i64 xf,.int .i64 xt,.int .i64 xn,.int .i64 xv] 44)=v4 at *
                generalize v3.heap.size=g5 at *
                refine And.intro (by first | exact ⟨(HXM.out.later HUU.out).cell 0,(HXM.out.later HUU.out).cell 1,(HXM.out.later HUU.out).cell 2,(HXM.out.later HUU.out).cell 3⟩ | exact fun _=>⟨(HXM.out.later HUU.out).cell 0,(HXM.out.later HUU.out).cell 1,(HXM.out.later HUU.out).cell 2,(HXM.out.later HUU.out).cell 3⟩) ?_
                refine wpAnyT_next (i:=6) (by kernel_rfl) rfl ?_
                have hb2:=HUU.out.size
                refine wpl_append_sl _ rfl (.tmp 51) (.tmp 53) _ rfl Try.underlying22 infoEdge (by omega) ED.k ED.one ⟨A1,c1,es⟩ ⟨some ⟨g5,0,none⟩,1,[⟨xf,xt,xn,xv⟩]⟩ rfl rfl HR1.out (rd_ed1 HE5.out) (by simp [maxLen]; omega) (by simp; omega) hb2 ?_
                intro A2 c2 v5 hown hg hAA
                simp only at hown hg
                simp only [HES2.out] at hown ⊢
                have hro:=fun q hq=>(own_row HR1.out q hq).2.1
                have HUU0:=HUU
                replace HUU:=Lib.hid (HUU.out.trans (below_of_grown hg hb2 hro))
                replace HK:=Lib.hid (HK.out.grown hg (own_ne_of HR1.out HNK.out))
                clear HNK
                have HR2:=Lib.hid hown
                clear hown hg hro hb2 hAA HUU0 HR1 HE5 HN5
                go_wp2_with fail
                refine And.intro (by first | exact ⟨(HXM.out.later HUU.out).cell 0,(HXM.out.later HUU.out).cell 1,(HXM.out.later HUU.out).cell 2,(HXM.out.later HUU.out).cell 3⟩ | exact fun _=>⟨(HXM.out.later HUU.out).cell 0,(HXM.out.later HUU.out).cell 1,(HXM.out.later HUU.out).cell 2,(HXM.out.later HUU.out).cell 3⟩) ?_
                refine wpAnyT_next (i:=8) (by kernel_rfl) rfl ?_
                go_wp2_with fail
                refine (hier_Build n ⟨A2,c2,es2⟩ R v5 ((Own.rd ED.k HR2.out).mono fun b hb=>hb.2) (HR.out.later (HBu.out.trans (HUU.out.mono HBu.out.size)) (Nat.le_refl _)) hR10 H92.out).mono ?_
                rintro r v6 ⟨GA,GE,Gc,Gd,rfl,hp1,hp2,hal⟩
                simp only [HV5.out] at hp1 hp2 ⊢
                have HNG : Hid (GA≠some ⟨g12,0,none⟩∧GE≠some ⟨g12,0,none⟩):=Lib.hid ⟨own_ge_ne hp1 HK.out.lt,own_ge_ne hp2 HK.out.lt⟩
                have HP1:=Lib.hid (hp1.mono HUU.out.size)
                have HP2:=Lib.hid (hp2.mono HUU.out.size)
                clear hp1 hp2 HR2
                replace HUU:=Lib.hid (HUU.out.trans (hal.mono HUU.out.size))
                replace HK:=Lib.hid (HK.out.later hal)
                clear hal
                go_wp2_with fail
                refine And.intro (by first | exact ⟨(HXM.out.later HUU.out).cell 0,(HXM.out.later HUU.out).cell 1,(HXM.out.later HUU.out).cell 2,(HXM.out.later HUU.out).cell 3⟩ | exact fun _=>⟨(HXM.out.later HUU.out).cell 0,(HXM.out.later HUU.out).cell 1,(HXM.out.later HUU.out).cell 2,(HXM.out.later HUU.out).cell 3⟩) ?_
                have hHeld:=And.intro ((HXM.out.later HUU.out).cell 0) (And.intro ((HXM.out.later HUU.out).cell 1) (And.intro ((HXM.out.later HUU.out).cell 2) ((HXM.out.later HUU.out).cell 3)))
                refine wpAnyT_take2 (i:=9) (v:=?_) rfl rfl (by kernel_rfl) (by kernel_rfl) (by kernel_rfl) (by kernel_rfl) (fun _ _ _ h=>h) (Or.inl ⟨by rfl, ?_⟩) (by first | assumption | trivial) ?_
                rotate_left
                · (intro w hSw; (try dsimp only at hSw); go_simp) <;> (with_reducible rfl)
                simp only [List.setIfInBounds_toArray,List.set_cons_zero,List.set_cons_succ]
                refine wpAnyT_take2 (i:=10) (v:=?_) rfl rfl (by kernel_rfl) (by kernel_rfl) (by kernel_rfl) (by kernel_rfl) (fun _ _ _ h=>h) (Or.inl ⟨by rfl, ?_⟩) (by first | assumption | trivial) ?_
                rotate_left
                · (intro w hSw; (try dsimp only at hSw); go_simp) <;> (with_reducible rfl)
                simp only [List.setIfInBounds_toArray,List.set_cons_zero,List.set_cons_succ]
                refine wpAnyT_take2 (i:=11) (v:=?_) rfl rfl (by kernel_rfl) (by kernel_rfl) (by kernel_rfl) (by kernel_rfl) (fun _ _ _ h=>h) (Or.inl ⟨by rfl, ?_⟩) (by first | assumption | trivial) ?_
                rotate_left
                · (intro w hSw; (try dsimp only at hSw); go_simp) <;> (with_reducible rfl)
                simp only [List.setIfInBounds_toArray,List.set_cons_zero,List.set_cons_succ]
                clear hHeld
                exact wpAnyT_listed (by kernel_rfl) (FIN.out v6 g0 A1 c1 g5 A2 c2 GA GE Gc Gd g12 HUU HKB HP1 HP2 HNG HK)
              · skip
                go_wp2_with fail
                have hal : Below v2.heap.size v2 (v2.alloc (.cells #[.int .i64 xf,.int .i64 xt,.int .i64 xn,.int .i64 xv] 44)):=(Below.refl _ _).alloc (Nat.le_refl _) _
                have HE5 : Hid (Blk (v2.alloc (.cells #[.int .i64 xf,.int .i64 xt,.int .i64 xn,.int .i64 xv] 44)) v2.heap.size 44 #[.int .i64 xf,.int .i64 xt,.int .i64 xn,.int .i64 xv]):=Lib.hid (Blk.new _ _ _)
                have HN5 : Hid ((some (⟨g0,0,none⟩ : Addr))≠some ⟨v2.heap.size,0,none⟩):=Lib.hid (fun e=>absurd (HR1.out.bound _ e) (Nat.lt_irrefl _))
                replace HUU:=Lib.hid (HUU.out.trans (hal.mono HUU.out.size))
                replace HR1:=Lib.hid (HR1.out.below hal)
                replace HK:=Lib.hid (HK.out.later hal)
                clear hal
                generalize v2.alloc (.cells #[.int .i64 xf,.int .i64 xt,.int .i64 xn,.int .i64 xv] 44)=v3 at *
                generalize v2.heap.size=g5 at *
                refine And.intro (by first | exact ⟨(HXM.out.later HUU.out).cell 0,(HXM.out.later HUU.out).cell 1,(HXM.out.later HUU.out).cell 2,(HXM.out.later HUU.out).cell 3⟩ | exact fun _=>⟨(HXM.out.later HUU.out).cell 0,(HXM.out.later HUU.out).cell 1,(HXM.out.later HUU.out).cell 2,(HXM.out.later HUU.out).cell 3⟩) ?_
                refine wpAnyT_next (i:=3) (by kernel_rfl) rfl ?_
                have hb2:=HUU.out.size
                refine wpl_append_sl _ rfl (.tmp 49) (.tmp 50) _ rfl Try.underlying22 infoEdge (by omega) ED.k ED.one ⟨some ⟨g0,0,none⟩,0,[]⟩ ⟨EA0,Ec0,es⟩ rfl rfl HR1.out (HEr.out.below HUU.out) (by simp [maxLen]; omega) (by simp; omega) hb2 ?_
                intro A1 c1 v4 hown hg hAA
                simp only [List.nil_append] at hown hg
                simp only [List.nil_append]
                have hro:=fun q hq=>(own_row HR1.out q hq).2.1
                have HUU0:=HUU
                replace HUU:=Lib.hid (HUU.out.trans (below_of_grown hg hb2 hro))
                have HN5b : Hid (A1≠some ⟨g5,0,none⟩):=Lib.hid (addr_or hAA HN5.out HE5.out.lt)
                replace HE5:=Lib.hid (HE5.out.grown hg (own_ne_of HR1.out HN5.out))
                replace HN5:=HN5b
                clear HN5b
                have HNKb : Hid (A1≠some ⟨g12,0,none⟩):=Lib.hid (addr_or hAA HNK.out HK.out.lt)
                replace HK:=Lib.hid (HK.out.grown hg (own_ne_of HR1.out HNK.out))
                replace HNK:=HNKb
                clear HNKb
                replace HR1:=Lib.hid hown
                clear hown hg hro hb2 hAA HUU0
                go_wp2_with fail
                refine And.intro (by first | exact ⟨(HXM.out.later HUU.out).cell 0,(HXM.out.later HUU.out).cell 1,(HXM.out.later HUU.out).cell 2,(HXM.out.later HUU.out).cell 3⟩ | exact fun _=>⟨(HXM.out.later HUU.out).cell 0,(HXM.out.later HUU.out).cell 1,(HXM.out.later HUU.out).cell 2,(HXM.out.later HUU.out).cell 3⟩) ?_
                refine wpAnyT_next (i:=6) (by kernel_rfl) rfl ?_
                have hb2:=HUU.out.size
                refine wpl_append_sl _ rfl (.tmp 51) (.tmp 53) _ rfl Try.underlying22 infoEdge (by omega) ED.k ED.one ⟨A1,c1,es⟩ ⟨some ⟨g5,0,none⟩,1,[⟨xf,xt,xn,xv⟩]⟩ rfl rfl HR1.out (rd_ed1 HE5.out) (by simp [maxLen]; omega) (by simp; omega) hb2 ?_
                intro A2 c2 v5 hown hg hAA
                simp only at hown hg
                simp only [HES2.out] at hown ⊢
                have hro:=fun q hq=>(own_row HR1.out q hq).2.1
                have HUU0:=HUU
                replace HUU:=Lib.hid (HUU.out.trans (below_of_grown hg hb2 hro))
                replace HK:=Lib.hid (HK.out.grown hg (own_ne_of HR1.out HNK.out))
                clear HNK
                have HR2:=Lib.hid hown
                clear hown hg hro hb2 hAA HUU0 HR1 HE5 HN5
                go_wp2_with fail
                refine And.intro (by first | exact ⟨(HXM.out.later HUU.out).cell 0,(HXM.out.later HUU.out).cell 1,(HXM.out.later HUU.out).cell 2,(HXM.out.later HUU.out).cell 3⟩ | exact fun _=>⟨(HXM.out.later HUU.out).cell 0,(HXM.out.later HUU.out).cell 1,(HXM.out.later HUU.out).cell 2,(HXM.out.later HUU.out).cell 3⟩) ?_
                refine wpAnyT_next (i:=8) (by kernel_rfl) rfl ?_
                go_wp2_with fail
                refine (hier_Build n ⟨A2,c2,es2⟩ R v5 ((Own.rd ED.k HR2.out).mono fun b hb=>hb.2) (HR.out.later (HBu.out.trans (HUU.out.mono HBu.out.size)) (Nat.le_refl _)) hR10 H92.out).mono ?_
                rintro r v6 ⟨GA,GE,Gc,Gd,rfl,hp1,hp2,hal⟩
                simp only [HV5.out] at hp1 hp2 ⊢
                have HNG : Hid (GA≠some ⟨g12,0,none⟩∧GE≠some ⟨g12,0,none⟩):=Lib.hid ⟨own_ge_ne hp1 HK.out.lt,own_ge_ne hp2 HK.out.lt⟩
                have HP1:=Lib.hid (hp1.mono HUU.out.size)
                have HP2:=Lib.hid (hp2.mono HUU.out.size)
                clear hp1 hp2 HR2
                replace HUU:=Lib.hid (HUU.out.trans (hal.mono HUU.out.size))
                replace HK:=Lib.hid (HK.out.later hal)
                clear hal
                go_wp2_with fail
                refine And.intro (by first | exact ⟨(HXM.out.later HUU.out).cell 0,(HXM.out.later HUU.out).cell 1,(HXM.out.later HUU.out).cell 2,(HXM.out.later HUU.out).cell 3⟩ | exact fun _=>⟨(HXM.out.later HUU.out).cell 0,(HXM.out.later HUU.out).cell 1,(HXM.out.later HUU.out).cell 2,(HXM.out.later HUU.out).cell 3⟩) ?_
                have hHeld:=And.intro ((HXM.out.later HUU.out).cell 0) (And.intro ((HXM.out.later HUU.out).cell 1) (And.intro ((HXM.out.later HUU.out).cell 2) ((HXM.out.later HUU.out).cell 3)))
                refine wpAnyT_take2 (i:=9) (v:=?_) rfl rfl (by kernel_rfl) (by kernel_rfl) (by kernel_rfl) (by kernel_rfl) (fun _ _ _ h=>h) (Or.inl ⟨by rfl, ?_⟩) (by first | assumption | trivial) ?_
                rotate_left
                · (intro w hSw; (try dsimp only at hSw); go_simp) <;> (with_reducible rfl)
                simp only [List.setIfInBounds_toArray,List.set_cons_zero,List.set_cons_succ]
                refine wpAnyT_take2 (i:=10) (v:=?_) rfl rfl (by kernel_rfl) (by kernel_rfl) (by kernel_rfl) (by kernel_rfl) (fun _ _ _ h=>h) (Or.inl ⟨by rfl, ?_⟩) (by first | assumption | trivial) ?_
                rotate_left
                · (intro w hSw; (try dsimp only at hSw); go_simp) <;> (with_reducible rfl)
                simp only [List.setIfInBounds_toArray,List.set_cons_zero,List.set_cons_succ]
                refine wpAnyT_take2 (i:=11) (v:=?_) rfl rfl (by kernel_rfl) (by kernel_rfl) (by kernel_rfl) (by kernel_rfl) (fun _ _ _ h=>h) (Or.inl ⟨by rfl, ?_⟩) (by first | assumption | trivial) ?_
                rotate_left
                · (intro w hSw; (try dsimp only at hSw); go_simp) <;> (with_reducible rfl)
                simp only [List.setIfInBounds_toArray,List.set_cons_zero,List.set_cons_succ]
                clear hHeld
                exact wpAnyT_listed (by kernel_rfl) (FIN.out v6 g0 A1 c1 g5 A2 c2 GA GE Gc Gd g12 HUU HKB HP1 HP2 HNG HK)
            · skip
              go_wp2_with fail
              have hal : Below v1.heap.size v1 (v1.alloc (.cells #[.int .i64 xf,.int .i64 xt,.int .i64 xn,.int .i64 xv] 44)):=(Below.refl _ _).alloc (Nat.le_refl _) _
              have HE5 : Hid (Blk (v1.alloc (.cells #[.int .i64 xf,.int .i64 xt,.int .i64 xn,.int .i64 xv] 44)) v1.heap.size 44 #[.int .i64 xf,.int .i64 xt,.int .i64 xn,.int .i64 xv]):=Lib.hid (Blk.new _ _ _)
              replace HUU:=Lib.hid (HUU.out.trans (hal.mono HUU.out.size))
              replace HK:=Lib.hid (HK.out.later hal)
              clear hal
              generalize v1.alloc (.cells #[.int .i64 xf,.int .i64 xt,.int .i64 xn,.int .i64 xv] 44)=v2 at *
              generalize v1.heap.size=g5 at *
              refine And.intro (by first | exact ⟨(HXM.out.later HUU.out).cell 0,(HXM.out.later HUU.out).cell 1,(HXM.out.later HUU.out).cell 2,(HXM.out.later HUU.out).cell 3⟩ | exact fun _=>⟨(HXM.out.later HUU.out).cell 0,(HXM.out.later HUU.out).cell 1,(HXM.out.later HUU.out).cell 2,(HXM.out.later HUU.out).cell 3⟩) ?_
              refine wpAnyT_next (i:=1) (by kernel_rfl) rfl ?_
              go_wp2_with fail
              have hal : Below v2.heap.size v2 (v2.alloc (.cells #[] 44)):=(Below.refl _ _).alloc (Nat.le_refl _) _
              have HR1 : Hid (Own wu.heap.size 44 4 ED.enc (v2.alloc (.cells #[] 44)) ⟨some ⟨v2.heap.size,0,none⟩,0,[]⟩):=Lib.hid (Own.lit v2 #[] [] HUU.out.size (by simp) rfl ED.k)
              have HN5 : Hid ((some (⟨v2.heap.size,0,none⟩ : Addr))≠some ⟨g5,0,none⟩):=Lib.hid (addr_gt HE5.out.lt)
              have HNK : Hid ((some (⟨v2.heap.size,0,none⟩ : Addr))≠some ⟨g12,0,none⟩):=Lib.hid (addr_gt HK.out.lt)
              replace HUU:=Lib.hid (HUU.out.trans (hal.mono HUU.out.size))
              replace HE5:=Lib.hid (HE5.out.later hal)
              replace HK:=Lib.hid (HK.out.later hal)
              clear hal
              generalize v2.alloc (.cells #[] 44)=v3 at *
              generalize v2.heap.size=g0 at *
              refine And.intro (by first | exact ⟨(HXM.out.later HUU.out).cell 0,(HXM.out.later HUU.out).cell 1,(HXM.out.later HUU.out).cell 2,(HXM.out.later HUU.out).cell 3⟩ | exact fun _=>⟨(HXM.out.later HUU.out).cell 0,(HXM.out.later HUU.out).cell 1,(HXM.out.later HUU.out).cell 2,(HXM.out.later HUU.out).cell 3⟩) ?_
              refine wpAnyT_next (i:=3) (by kernel_rfl) rfl ?_
              have hb2:=HUU.out.size
              refine wpl_append_sl _ rfl (.tmp 49) (.tmp 50) _ rfl Try.underlying22 infoEdge (by omega) ED.k ED.one ⟨some ⟨g0,0,none⟩,0,[]⟩ ⟨EA0,Ec0,es⟩ rfl rfl HR1.out (HEr.out.below HUU.out) (by simp [maxLen]; omega) (by simp; omega) hb2 ?_
              intro A1 c1 v4 hown hg hAA
              simp only [List.nil_append] at hown hg
              simp only [List.nil_append]
              have hro:=fun q hq=>(own_row HR1.out q hq).2.1
              have HUU0:=HUU
              replace HUU:=Lib.hid (HUU.out.trans (below_of_grown hg hb2 hro))
              have HN5b : Hid (A1≠some ⟨g5,0,none⟩):=Lib.hid (addr_or hAA HN5.out HE5.out.lt)
              replace HE5:=Lib.hid (HE5.out.grown hg (own_ne_of HR1.out HN5.out))
              replace HN5:=HN5b
              clear HN5b
              have HNKb : Hid (A1≠some ⟨g12,0,none⟩):=Lib.hid (addr_or hAA HNK.out HK.out.lt)
              replace HK:=Lib.hid (HK.out.grown hg (own_ne_of HR1.out HNK.out))
              replace HNK:=HNKb
              clear HNKb
              replace HR1:=Lib.hid hown
              clear hown hg hro hb2 hAA HUU0
              go_wp2_with fail
              refine And.intro (by first | exact ⟨(HXM.out.later HUU.out).cell 0,(HXM.out.later HUU.out).cell 1,(HXM.out.later HUU.out).cell 2,(HXM.out.later HUU.out).cell 3⟩ | exact fun _=>⟨(HXM.out.later HUU.out).cell 0,(HXM.out.later HUU.out).cell 1,(HXM.out.later HUU.out).cell 2,(HXM.out.later HUU.out).cell 3⟩) ?_
              refine wpAnyT_next (i:=6) (by kernel_rfl) rfl ?_
              have hb2:=HUU.out.size
              refine wpl_append_sl _ rfl (.tmp 51) (.tmp 53) _ rfl Try.underlying22 infoEdge (by omega) ED.k ED.one ⟨A1,c1,es⟩ ⟨some ⟨g5,0,none⟩,1,[⟨xf,xt,xn,xv⟩]⟩ rfl rfl HR1.out (rd_ed1 HE5.out) (by simp [maxLen]; omega) (by simp; omega) hb2 ?_
              intro A2 c2 v5 hown hg hAA
              simp only at hown hg
              simp only [HES2.out] at hown ⊢
              have hro:=fun q hq=>(own_row HR1.out q hq).2.1
              have HUU0:=HUU
              replace HUU:=Lib.hid (HUU.out.trans (below_of_grown hg hb2 hro))
              replace HK:=Lib.hid (HK.out.grown hg (own_ne_of HR1.out HNK.out))
              clear HNK
              have HR2:=Lib.hid hown
              clear hown hg hro hb2 hAA HUU0 HR1 HE5 HN5
              go_wp2_with fail
              refine And.intro (by first | exact ⟨(HXM.out.later HUU.out).cell 0,(HXM.out.later HUU.out).cell 1,(HXM.out.later HUU.out).cell 2,(HXM.out.later HUU.out).cell 3⟩ | exact fun _=>⟨(HXM.out.later HUU.out).cell 0,(HXM.out.later HUU.out).cell 1,(HXM.out.later HUU.out).cell 2,(HXM.out.later HUU.out).cell 3⟩) ?_
              refine wpAnyT_next (i:=8) (by kernel_rfl) rfl ?_
              go_wp2_with fail
              refine (hier_Build n ⟨A2,c2,es2⟩ R v5 ((Own.rd ED.k HR2.out).mono fun b hb=>hb.2) (HR.out.later (HBu.out.trans (HUU.out.mono HBu.out.size)) (Nat.le_refl _)) hR10 H92.out).mono ?_
              rintro r v6 ⟨GA,GE,Gc,Gd,rfl,hp1,hp2,hal⟩
              simp only [HV5.out] at hp1 hp2 ⊢
              have HNG : Hid (GA≠some ⟨g12,0,none⟩∧GE≠some ⟨g12,0,none⟩):=Lib.hid ⟨own_ge_ne hp1 HK.out.lt,own_ge_ne hp2 HK.out.lt⟩
              have HP1:=Lib.hid (hp1.mono HUU.out.size)
              have HP2:=Lib.hid (hp2.mono HUU.out.size)
              clear hp1 hp2 HR2
              replace HUU:=Lib.hid (HUU.out.trans (hal.mono HUU.out.size))
              replace HK:=Lib.hid (HK.out.later hal)
              clear hal
              go_wp2_with fail
              refine And.intro (by first | exact ⟨(HXM.out.later HUU.out).cell 0,(HXM.out.later HUU.out).cell 1,(HXM.out.later HUU.out).cell 2,(HXM.out.later HUU.out).cell 3⟩ | exact fun _=>⟨(HXM.out.later HUU.out).cell 0,(HXM.out.later HUU.out).cell 1,(HXM.out.later HUU.out).cell 2,(HXM.out.later HUU.out).cell 3⟩) ?_
              have hHeld:=And.intro ((HXM.out.later HUU.out).cell 0) (And.intro ((HXM.out.later HUU.out).cell 1) (And.intro ((HXM.out.later HUU.out).cell 2) ((HXM.out.later HUU.out).cell 3)))
              refine wpAnyT_take2 (i:=9) (v:=?_) rfl rfl (by kernel_rfl) (by kernel_rfl) (by kernel_rfl) (by kernel_rfl) (fun _ _ _ h=>h) (Or.inl ⟨by rfl, ?_⟩) (by first | assumption | trivial) ?_
              rotate_left
              · (intro w hSw; (try dsimp only at hSw); go_simp) <;> (with_reducible rfl)
              simp only [List.setIfInBounds_toArray,List.set_cons_zero,List.set_cons_succ]
              refine wpAnyT_take2 (i:=10) (v:=?_) rfl rfl (by kernel_rfl) (by kernel_rfl) (by kernel_rfl) (by kernel_rfl) (fun _ _ _ h=>h) (Or.inl ⟨by rfl, ?_⟩) (by first | assumption | trivial) ?_
              rotate_left
              · (intro w hSw; (try dsimp only at hSw); go_simp) <;> (with_reducible rfl)
              simp only [List.setIfInBounds_toArray,List.set_cons_zero,List.set_cons_succ]
              refine wpAnyT_take2 (i:=11) (v:=?_) rfl rfl (by kernel_rfl) (by kernel_rfl) (by kernel_rfl) (by kernel_rfl) (fun _ _ _ h=>h) (Or.inl ⟨by rfl, ?_⟩) (by first | assumption | trivial) ?_
              rotate_left
              · (intro w hSw; (try dsimp only at hSw); go_simp) <;> (with_reducible rfl)
              simp only [List.setIfInBounds_toArray,List.set_cons_zero,List.set_cons_succ]
              clear hHeld
              exact wpAnyT_listed (by kernel_rfl) (FIN.out v6 g0 A1 c1 g5 A2 c2 GA GE Gc Gd g12 HUU HKB HP1 HP2 HNG HK)
        · intro W g0 A1 c1 g5 A2 c2 GA GE Gc Gd g12 HUU HKB HP1 HP2 HNG HK
          have hgk : gm≠g12:=by have h1:=HXM.out.lt; have h2:=HKB.out; omega
          obtain ⟨k0,k1,kf,kz⟩:=HK.out.b2
          refine wpAnyT_next (i:=13) (by kernel_rfl) rfl ?_
          go_wp2_with fail
          clear k0 k1 kf kz
          have HKw : Hid (Blk ((W.setCell ⟨g12,0,none⟩ (.slice GA R5.length Gc)).setCell ⟨g12,1,none⟩ (.slice GE E5.length Gd)) g12 25 #[.slice GA R5.length Gc,.slice GE E5.length Gd]):=Lib.hid ((HK.out.set_ 0 _).set_ 1 _)
          have HUw : Hid (Below wu.heap.size wu ((W.setCell ⟨g12,0,none⟩ (.slice GA R5.length Gc)).setCell ⟨g12,1,none⟩ (.slice GE E5.length Gd))):=Lib.hid ((HUU.out.setCell (p:=⟨g12,0,none⟩) HKB.out _).setCell (p:=⟨g12,1,none⟩) HKB.out _)
          have HG1:=Lib.hid ((HP1.out.other (a:=⟨g12,0,none⟩) (fun g hA hc=>HNG.out.1 (hA.trans (by rw [show g=g12 from hc]))) (.slice GA R5.length Gc)).other (a:=⟨g12,1,none⟩) (fun g hA hc=>HNG.out.1 (hA.trans (by rw [show g=g12 from hc]))) (.slice GE E5.length Gd))
          have HG2:=Lib.hid ((HP2.out.other (a:=⟨g12,0,none⟩) (fun g hA hc=>HNG.out.2 (hA.trans (by rw [show g=g12 from hc]))) (.slice GA R5.length Gc)).other (a:=⟨g12,1,none⟩) (fun g hA hc=>HNG.out.2 (hA.trans (by rw [show g=g12 from hc]))) (.slice GE E5.length Gd))
          clear HP1 HP2 HNG HK HUU HKB
          generalize (W.setCell ⟨g12,0,none⟩ (.slice GA R5.length Gc)).setCell ⟨g12,1,none⟩ (.slice GE E5.length Gd)=W2 at *
          replace HB:=Lib.hid (HBu.out.trans (HUw.out.mono HBu.out.size))
          replace HXM:=Lib.hid (HXM.out.later HUw.out)
          replace HX:=Lib.hid (HX.out.later HUw.out)
          replace HO1:=Lib.hid (HO1.out.below HUw.out)
          replace HO2:=Lib.hid (HO2.out.below HUw.out)
          clear HUw HBu hgk HEr
          refine And.intro (by first | exact ⟨HXM.out.cell 0,HXM.out.cell 1,HXM.out.cell 2,HXM.out.cell 3⟩ | exact fun _=>⟨HXM.out.cell 0,HXM.out.cell 1,HXM.out.cell 2,HXM.out.cell 3⟩) ?_
          have hHeld:=And.intro (HXM.out.cell 0) (And.intro (HXM.out.cell 1) (And.intro (HXM.out.cell 2) (HXM.out.cell 3)))
          refine wpAnyT_take2 (i:=14) (v:=?_) rfl rfl (by kernel_rfl) (by kernel_rfl) (by kernel_rfl) (by kernel_rfl) (fun _ _ _ h=>h) (Or.inl ⟨by rfl, ?_⟩) (by first | assumption | trivial) ?_
          rotate_left
          · (intro w hSw; (try dsimp only at hSw); go_simp) <;> (with_reducible rfl)
          simp only [List.setIfInBounds_toArray,List.set_cons_zero,List.set_cons_succ]
          clear hHeld
          refine wpAnyT_done (by kernel_rfl) ?_ _
          go_wp2_with fail
          have hbc:=fun w a=>hier_Build n ⟨EA0,Ec0,es⟩ O w a
          simp only at hbc
          refine (hbc W2 (HE.out.later HB.out (Nat.le_refl _)) (HOt.out.later HB.out (Nat.le_refl _)) hO10 H9.out).mono ?_
          clear hbc
          rintro r w9 ⟨QA,QE,Qc,Qd,rfl,hq1,hq2,hb⟩
          simp only [HV6.out] at hq1 hq2 ⊢
          have HQ1:=Lib.hid hq1
          have HQ2:=Lib.hid hq2
          replace HG1:=Lib.hid (HG1.out.below hb)
          replace HG2:=Lib.hid (HG2.out.below hb)
          replace HKw:=Lib.hid (HKw.out.later hb)
          clear hq1 hq2
          replace HB:=Lib.hid (HB.out.trans (hb.mono HB.out.size))
          try replace HXM:=Lib.hid (HXM.out.later hb)
          try replace HX:=Lib.hid (HX.out.later hb)
          try replace HO1:=Lib.hid (HO1.out.below hb)
          try replace HO2:=Lib.hid (HO2.out.below hb)
          clear hb
          rcases bldV_cases n es R.l with ⟨hgb,hrp,hv⟩ | hv
          · rw [HV3.out,Prod.mk.injEq,Prod.mk.injEq] at hv
            obtain ⟨e1,e2,e3⟩:=hv
            subst e1 e2 e3
            obtain ⟨h0,h20,hel,hgd⟩:=graphB_ok hgb
            obtain ⟨m,rfl⟩:=Int.eq_ofNat_of_zero_le h0
            rw [Int.toNat_natCast] at hgd
            have hm9 : m≤9:=by have:=H9.out hgb; omega
            have HH:=Lib.hid (bld_right hgd (RkP.ok hrp) hm9)
            have HGD:=Lib.hid hgd
            have hm9' : ¬ (9 : Int)<(m : Int):=by omega
            have hm0' : ¬ (m : Int)<0:=by omega
            obtain ⟨E3,hE3⟩ : ∃ x,bldL (m : Int).toNat es R.l=x:=⟨_,rfl⟩
            rw [hE3] at HX HO2 ⊢
            rw [Int.toNat_natCast] at hE3
            rw [hE3] at HH
            clear hE3 hgb hrp h0 h20 hgd HFB H9 H92 HV3
            go_wp2_with fail
            have HZ : Hid (Blk (w9.alloc (.cells #[.slice QA R6.length Qc,.slice QE E6.length Qd] 25)) w9.heap.size 25 #[.slice QA R6.length Qc,.slice QE E6.length Qd]):=Lib.hid (Blk.new _ _ _)
            have hb : Below w9.heap.size w9 (w9.alloc (.cells #[.slice QA R6.length Qc,.slice QE E6.length Qd] 25)):=(Below.refl _ _).alloc (Nat.le_refl _) _
            replace HG1:=Lib.hid (HG1.out.below hb)
            replace HG2:=Lib.hid (HG2.out.below hb)
            replace HKw:=Lib.hid (HKw.out.later hb)
            replace HQ1:=Lib.hid (HQ1.out.below hb)
            replace HQ2:=Lib.hid (HQ2.out.below hb)
            replace HB:=Lib.hid (HB.out.trans (hb.mono HB.out.size))
            try replace HXM:=Lib.hid (HXM.out.later hb)
            try replace HX:=Lib.hid (HX.out.later hb)
            try replace HO1:=Lib.hid (HO1.out.below hb)
            try replace HO2:=Lib.hid (HO2.out.below hb)
            clear hb
            generalize w9.alloc (.cells #[.slice QA R6.length Qc,.slice QE E6.length Qd] 25)=wx at *
            generalize w9.heap.size=g16 at *
            go_loopw [18] (fun Y wr=>∃ (u : Nat),u≤m∧Y = .int .i64 u∧Hid (Below wx.heap.size wx wr)) (fun Y _=>m - (intOf Y).toNat)
            case atStart=>exact ⟨0,by omega,rfl,Lib.hid (Below.refl _ _)⟩
            case round =>
              obtain ⟨u,hu,rfl,HU⟩:=hrel
              by_cases hum : u<m
              · have hum' : (u : Int)<(m : Int):=by omega
                go_wp2_with fail
                go_loopw [19] (fun Y wr=>∃ (k : Nat),k≤m∧Y = .int .i64 k∧Hid (Below wx.heap.size wx wr)) (fun Y _=>m - (intOf Y).toNat)
                case atStart=>exact ⟨0,by omega,rfl,HU⟩
                case round =>
                  clear HU
                  obtain ⟨k,hk,rfl,HU⟩:=hrel
                  by_cases hkm : k<m
                  · have hkm' : (k : Int)<(m : Int):=by omega
                    have HIK : Hid (Ir m ((u : Nat) : Int)∧Ir m ((k : Nat) : Int)):=Lib.hid ⟨⟨by omega,by omega⟩,by omega,by omega⟩
                    obtain ⟨x0,x1,xf',xz⟩:=(HX.out.later HU.out).b2
                    go_wp2_with fail
                    clear x0 x1 xf' xz
                    refine (hier_Dist m es (tabK es m) ⟨RA,Rc,R.l⟩ ⟨EA,Ec,E3⟩ ((u : Nat) : Int) ((k : Nat) : Int) wr ((Own.rd ienc_k (HO1.out.below HU.out)).mono fun b hb=>hb.2) ((Own.rd ED.k (HO2.out.below HU.out)).mono fun b hb=>hb.2) HH.out).mono ?_
                    rintro r wd ⟨rfl,hb⟩
                    rw [if_pos HIK.out]
                    have HU1:=Lib.hid (HU.out.trans (hb.mono HU.out.size))
                    obtain ⟨V,hV⟩ : ∃ x,tabK es m ((u : Nat) : Int) ((k : Nat) : Int)=x:=⟨_,rfl⟩
                    rw [hV]
                    have HVV:=Lib.hid hV
                    clear hb HU hV
                    rcases bldV_cases (m : Int) es O.l with ⟨hgb6,hrp6,hv6⟩ | hv6
                    · rw [HV6.out,Prod.mk.injEq,Prod.mk.injEq] at hv6
                      obtain ⟨e1,e2,e3⟩:=hv6
                      subst e3
                      rw [Int.toNat_natCast] at e2
                      have HH6:=Lib.hid (bld_right HGD.out (RkP.ok hrp6) hm9)
                      rw [← e2,← e1] at HH6
                      clear e1 e2 hgb6 hrp6
                      rcases bldV_cases (m : Int) es2 R.l with ⟨hgb5,hrp5,hv5⟩ | hv5
                      · rw [HV5.out,Prod.mk.injEq,Prod.mk.injEq] at hv5
                        obtain ⟨e1,e2,e3⟩:=hv5
                        subst e3
                        obtain ⟨_,_,_,hgd5⟩:=graphB_ok hgb5
                        rw [Int.toNat_natCast] at hgd5 e2
                        have HH5:=Lib.hid (bld_right hgd5 (RkP.ok hrp5) hm9)
                        rw [← e2,← e1] at HH5
                        clear e1 e2
                        have HRN:=Lib.hid (more_rng (n:=m) (es:=es) (e:=⟨xf,xt,xn,xv⟩) (by rw [HES2.out]; exact hgd5))
                        have hmo:=more_tab (n:=m) (es:=es) (e:=⟨xf,xt,xn,xv⟩) HGD.out (by rw [HES2.out]; exact hgd5) HIK.out.1 HIK.out.2
                        rw [HES2.out] at hmo
                        unfold moreD at hmo
                        simp only at hmo HRN
                        obtain ⟨va,hva⟩ : ∃ x,tabK es m ((u : Nat) : Int) xf=x:=⟨_,rfl⟩
                        obtain ⟨vb,hvb⟩ : ∃ x,tabK es m xt ((k : Nat) : Int)=x:=⟨_,rfl⟩
                        have hba:=tab_bd HGD.out hm9 ((u : Nat) : Int) xf
                        have hbb:=tab_bd HGD.out hm9 xt ((k : Nat) : Int)
                        rw [hva] at hba
                        rw [hvb] at hbb
                        rw [hva,hvb,HVV.out] at hmo
                        have HMO:=Lib.hid hmo
                        have HVA:=Lib.hid hva
                        have HVB:=Lib.hid hvb
                        have HWR : Hid (IntKind.i64.wrap (va+xn)=va+xn∧IntKind.i64.wrap (va+xn+vb)=va+xn+vb):=Lib.hid ⟨by have:=HRN.out; rw [IntKind.wrap_i64]; omega,by have:=HRN.out; rw [IntKind.wrap_i64]; omega⟩
                        clear hgb5 hrp5 hgd5 hmo hva hvb hba hbb
                        obtain ⟨x0,x1,xf',xz⟩:=(HZ.out.later HU1.out).b2
                        go_wp2_with fail
                        clear x0 x1 xf' xz
                        refine (hier_Dist m es (tabK es m) ⟨QA,Qc,R6⟩ ⟨QE,Qd,E6⟩ ((u : Nat) : Int) ((k : Nat) : Int) wd ((Own.rd ienc_k (HQ1.out.below HU1.out)).mono fun b hb=>hb.2) ((Own.rd ED.k (HQ2.out.below HU1.out)).mono fun b hb=>hb.2) HH6.out).mono ?_
                        rintro r we ⟨rfl,hb⟩
                        rw [if_pos HIK.out,HVV.out]
                        have HU2:=Lib.hid (HU1.out.trans (hb.mono HU1.out.size))
                        clear hb
                        obtain ⟨x0,x1,xf',xz⟩:=(HX.out.later HU2.out).b2
                        obtain ⟨m0,m1,m2,m3,mf,mz⟩:=(HXM.out.later HU2.out).b4
                        go_wp2_with fail
                        clear x0 x1 xf' xz m0 m1 m2 m3 mf mz
                        refine (hier_Dist m es (tabK es m) ⟨RA,Rc,R.l⟩ ⟨EA,Ec,E3⟩ ((u : Nat) : Int) xf we ((Own.rd ienc_k (HO1.out.below HU2.out)).mono fun b hb=>hb.2) ((Own.rd ED.k (HO2.out.below HU2.out)).mono fun b hb=>hb.2) HH.out).mono ?_
                        rintro r wb ⟨rfl,hb⟩
                        rw [if_pos ⟨HIK.out.1,HRN.out.1⟩,HVA.out]
                        have HUb:=Lib.hid (HU2.out.trans (hb.mono HU2.out.size))
                        clear hb
                        obtain ⟨x0,x1,xf',xz⟩:=(HX.out.later HUb.out).b2
                        obtain ⟨m0,m1,m2,m3,mf,mz⟩:=(HXM.out.later HUb.out).b4
                        go_wp2_with fail
                        clear x0 x1 xf' xz m0 m1 m2 m3 mf mz
                        refine (hier_Dist m es (tabK es m) ⟨RA,Rc,R.l⟩ ⟨EA,Ec,E3⟩ xt ((k : Nat) : Int) wb ((Own.rd ienc_k (HO1.out.below HUb.out)).mono fun b hb=>hb.2) ((Own.rd ED.k (HO2.out.below HUb.out)).mono fun b hb=>hb.2) HH.out).mono ?_
                        rintro r wc ⟨rfl,hb⟩
                        rw [if_pos ⟨HRN.out.2.1,HIK.out.2⟩,HVB.out]
                        have HUc:=Lib.hid (HUb.out.trans (hb.mono HUb.out.size))
                        clear hb
                        have hw1:=HWR.out.1
                        have hw2:=HWR.out.2
                        by_cases ha0 : 0≤va
                        · by_cases hb0 : 0≤vb
                          · by_cases hc0 : V<0
                            · skip
                              have HMV : Hid (tabK es2 m ((u : Nat) : Int) ((k : Nat) : Int)=va+xn+vb):=Lib.hid (HMO.out.trans (if_pos ⟨ha0,hb0,.inl hc0⟩))
                              obtain ⟨k0,k1,kf,kz⟩:=(HKw.out.later HUc.out).b2
                              obtain ⟨m0,m1,m2,m3,mf,mz⟩:=(HXM.out.later HUc.out).b4
                              go_wp2_with fail
                              clear k0 k1 kf kz m0 m1 m2 m3 mf mz
                              refine (hier_Dist m es2 (tabK es2 m) ⟨GA,Gc,R5⟩ ⟨GE,Gd,E5⟩ ((u : Nat) : Int) ((k : Nat) : Int) wc ((Own.rd ienc_k (HG1.out.below HUc.out)).mono fun b hb=>hb.2) ((Own.rd ED.k (HG2.out.below HUc.out)).mono fun b hb=>hb.2) HH5.out).mono ?_
                              rintro r wz ⟨rfl,hb⟩
                              rw [if_pos HIK.out,HMV.out]
                              have HUz:=Lib.hid (HUc.out.trans (hb.mono HUc.out.size))
                              clear hb
                              go_wp2_with fail
                              go_roundw
                              case rel=>exact ⟨k+1,by omega,by go_num,HUz⟩
                              case measure=>simp [intOf]; omega
                            · by_cases hs0 : va+xn+vb<V
                              · skip
                                have HMV : Hid (tabK es2 m ((u : Nat) : Int) ((k : Nat) : Int)=va+xn+vb):=Lib.hid (HMO.out.trans (if_pos ⟨ha0,hb0,.inr hs0⟩))
                                obtain ⟨k0,k1,kf,kz⟩:=(HKw.out.later HUc.out).b2
                                obtain ⟨m0,m1,m2,m3,mf,mz⟩:=(HXM.out.later HUc.out).b4
                                go_wp2_with fail
                                clear k0 k1 kf kz m0 m1 m2 m3 mf mz
                                refine (hier_Dist m es2 (tabK es2 m) ⟨GA,Gc,R5⟩ ⟨GE,Gd,E5⟩ ((u : Nat) : Int) ((k : Nat) : Int) wc ((Own.rd ienc_k (HG1.out.below HUc.out)).mono fun b hb=>hb.2) ((Own.rd ED.k (HG2.out.below HUc.out)).mono fun b hb=>hb.2) HH5.out).mono ?_
                                rintro r wz ⟨rfl,hb⟩
                                rw [if_pos HIK.out,HMV.out]
                                have HUz:=Lib.hid (HUc.out.trans (hb.mono HUc.out.size))
                                clear hb
                                go_wp2_with fail
                                go_roundw
                                case rel=>exact ⟨k+1,by omega,by go_num,HUz⟩
                                case measure=>simp [intOf]; omega
                              · skip
                                have HMV : Hid (tabK es2 m ((u : Nat) : Int) ((k : Nat) : Int)=V):=Lib.hid (HMO.out.trans (if_neg (fun h=>h.2.2.elim hc0 hs0)))
                                obtain ⟨k0,k1,kf,kz⟩:=(HKw.out.later HUc.out).b2
                                obtain ⟨m0,m1,m2,m3,mf,mz⟩:=(HXM.out.later HUc.out).b4
                                go_wp2_with fail
                                clear k0 k1 kf kz m0 m1 m2 m3 mf mz
                                refine (hier_Dist m es2 (tabK es2 m) ⟨GA,Gc,R5⟩ ⟨GE,Gd,E5⟩ ((u : Nat) : Int) ((k : Nat) : Int) wc ((Own.rd ienc_k (HG1.out.below HUc.out)).mono fun b hb=>hb.2) ((Own.rd ED.k (HG2.out.below HUc.out)).mono fun b hb=>hb.2) HH5.out).mono ?_
                                rintro r wz ⟨rfl,hb⟩
                                rw [if_pos HIK.out,HMV.out]
                                have HUz:=Lib.hid (HUc.out.trans (hb.mono HUc.out.size))
                                clear hb
                                go_wp2_with fail
                                go_roundw
                                case rel=>exact ⟨k+1,by omega,by go_num,HUz⟩
                                case measure=>simp [intOf]; omega
                          · skip
                            have HMV : Hid (tabK es2 m ((u : Nat) : Int) ((k : Nat) : Int)=V):=Lib.hid (HMO.out.trans (if_neg (fun h=>hb0 h.2.1)))
                            obtain ⟨k0,k1,kf,kz⟩:=(HKw.out.later HUc.out).b2
                            obtain ⟨m0,m1,m2,m3,mf,mz⟩:=(HXM.out.later HUc.out).b4
                            go_wp2_with fail
                            clear k0 k1 kf kz m0 m1 m2 m3 mf mz
                            refine (hier_Dist m es2 (tabK es2 m) ⟨GA,Gc,R5⟩ ⟨GE,Gd,E5⟩ ((u : Nat) : Int) ((k : Nat) : Int) wc ((Own.rd ienc_k (HG1.out.below HUc.out)).mono fun b hb=>hb.2) ((Own.rd ED.k (HG2.out.below HUc.out)).mono fun b hb=>hb.2) HH5.out).mono ?_
                            rintro r wz ⟨rfl,hb⟩
                            rw [if_pos HIK.out,HMV.out]
                            have HUz:=Lib.hid (HUc.out.trans (hb.mono HUc.out.size))
                            clear hb
                            go_wp2_with fail
                            go_roundw
                            case rel=>exact ⟨k+1,by omega,by go_num,HUz⟩
                            case measure=>simp [intOf]; omega
                        · skip
                          have HMV : Hid (tabK es2 m ((u : Nat) : Int) ((k : Nat) : Int)=V):=Lib.hid (HMO.out.trans (if_neg (fun h=>ha0 h.1)))
                          obtain ⟨k0,k1,kf,kz⟩:=(HKw.out.later HUc.out).b2
                          obtain ⟨m0,m1,m2,m3,mf,mz⟩:=(HXM.out.later HUc.out).b4
                          go_wp2_with fail
                          clear k0 k1 kf kz m0 m1 m2 m3 mf mz
                          refine (hier_Dist m es2 (tabK es2 m) ⟨GA,Gc,R5⟩ ⟨GE,Gd,E5⟩ ((u : Nat) : Int) ((k : Nat) : Int) wc ((Own.rd ienc_k (HG1.out.below HUc.out)).mono fun b hb=>hb.2) ((Own.rd ED.k (HG2.out.below HUc.out)).mono fun b hb=>hb.2) HH5.out).mono ?_
                          rintro r wz ⟨rfl,hb⟩
                          rw [if_pos HIK.out,HMV.out]
                          have HUz:=Lib.hid (HUc.out.trans (hb.mono HUc.out.size))
                          clear hb
                          go_wp2_with fail
                          go_roundw
                          case rel=>exact ⟨k+1,by omega,by go_num,HUz⟩
                          case measure=>simp [intOf]; omega
                      · rw [HV5.out,Prod.mk.injEq,Prod.mk.injEq] at hv5
                        obtain ⟨e1,e2,e3⟩:=hv5
                        clear e1 e2
                        subst e3
                        obtain ⟨x0,x1,xf',xz⟩:=(HZ.out.later HU1.out).b2
                        go_wp2_with fail
                        clear x0 x1 xf' xz
                        refine (hier_Dist m es (tabK es m) ⟨QA,Qc,R6⟩ ⟨QE,Qd,E6⟩ ((u : Nat) : Int) ((k : Nat) : Int) wd ((Own.rd ienc_k (HQ1.out.below HU1.out)).mono fun b hb=>hb.2) ((Own.rd ED.k (HQ2.out.below HU1.out)).mono fun b hb=>hb.2) HH6.out).mono ?_
                        rintro r we ⟨rfl,hb⟩
                        rw [if_pos HIK.out,HVV.out]
                        have HU2:=Lib.hid (HU1.out.trans (hb.mono HU1.out.size))
                        clear hb
                        go_wp2_with fail
                        go_roundw
                        case rel=>exact ⟨k+1,by omega,by go_num,HU2⟩
                        case measure=>simp [intOf]; omega
                    · rw [HV6.out,Prod.mk.injEq,Prod.mk.injEq] at hv6
                      obtain ⟨e1,e2,e3⟩:=hv6
                      clear e1 e2
                      subst e3
                      rcases bldV_cases (m : Int) es2 R.l with ⟨hgb5,hrp5,hv5⟩ | hv5
                      · rw [HV5.out,Prod.mk.injEq,Prod.mk.injEq] at hv5
                        obtain ⟨e1,e2,e3⟩:=hv5
                        subst e3
                        obtain ⟨_,_,_,hgd5⟩:=graphB_ok hgb5
                        rw [Int.toNat_natCast] at hgd5 e2
                        have HH5:=Lib.hid (bld_right hgd5 (RkP.ok hrp5) hm9)
                        rw [← e2,← e1] at HH5
                        clear e1 e2
                        have HRN:=Lib.hid (more_rng (n:=m) (es:=es) (e:=⟨xf,xt,xn,xv⟩) (by rw [HES2.out]; exact hgd5))
                        have hmo:=more_tab (n:=m) (es:=es) (e:=⟨xf,xt,xn,xv⟩) HGD.out (by rw [HES2.out]; exact hgd5) HIK.out.1 HIK.out.2
                        rw [HES2.out] at hmo
                        unfold moreD at hmo
                        simp only at hmo HRN
                        obtain ⟨va,hva⟩ : ∃ x,tabK es m ((u : Nat) : Int) xf=x:=⟨_,rfl⟩
                        obtain ⟨vb,hvb⟩ : ∃ x,tabK es m xt ((k : Nat) : Int)=x:=⟨_,rfl⟩
                        have hba:=tab_bd HGD.out hm9 ((u : Nat) : Int) xf
                        have hbb:=tab_bd HGD.out hm9 xt ((k : Nat) : Int)
                        rw [hva] at hba
                        rw [hvb] at hbb
                        rw [hva,hvb,HVV.out] at hmo
                        have HMO:=Lib.hid hmo
                        have HVA:=Lib.hid hva
                        have HVB:=Lib.hid hvb
                        have HWR : Hid (IntKind.i64.wrap (va+xn)=va+xn∧IntKind.i64.wrap (va+xn+vb)=va+xn+vb):=Lib.hid ⟨by have:=HRN.out; rw [IntKind.wrap_i64]; omega,by have:=HRN.out; rw [IntKind.wrap_i64]; omega⟩
                        clear hgb5 hrp5 hgd5 hmo hva hvb hba hbb
                        obtain ⟨x0,x1,xf',xz⟩:=(HX.out.later HU1.out).b2
                        obtain ⟨m0,m1,m2,m3,mf,mz⟩:=(HXM.out.later HU1.out).b4
                        go_wp2_with fail
                        clear x0 x1 xf' xz m0 m1 m2 m3 mf mz
                        refine (hier_Dist m es (tabK es m) ⟨RA,Rc,R.l⟩ ⟨EA,Ec,E3⟩ ((u : Nat) : Int) xf wd ((Own.rd ienc_k (HO1.out.below HU1.out)).mono fun b hb=>hb.2) ((Own.rd ED.k (HO2.out.below HU1.out)).mono fun b hb=>hb.2) HH.out).mono ?_
                        rintro r wb ⟨rfl,hb⟩
                        rw [if_pos ⟨HIK.out.1,HRN.out.1⟩,HVA.out]
                        have HUb:=Lib.hid (HU1.out.trans (hb.mono HU1.out.size))
                        clear hb
                        obtain ⟨x0,x1,xf',xz⟩:=(HX.out.later HUb.out).b2
                        obtain ⟨m0,m1,m2,m3,mf,mz⟩:=(HXM.out.later HUb.out).b4
                        go_wp2_with fail
                        clear x0 x1 xf' xz m0 m1 m2 m3 mf mz
                        refine (hier_Dist m es (tabK es m) ⟨RA,Rc,R.l⟩ ⟨EA,Ec,E3⟩ xt ((k : Nat) : Int) wb ((Own.rd ienc_k (HO1.out.below HUb.out)).mono fun b hb=>hb.2) ((Own.rd ED.k (HO2.out.below HUb.out)).mono fun b hb=>hb.2) HH.out).mono ?_
                        rintro r wc ⟨rfl,hb⟩
                        rw [if_pos ⟨HRN.out.2.1,HIK.out.2⟩,HVB.out]
                        have HUc:=Lib.hid (HUb.out.trans (hb.mono HUb.out.size))
                        clear hb
                        have hw1:=HWR.out.1
                        have hw2:=HWR.out.2
                        by_cases ha0 : 0≤va
                        · by_cases hb0 : 0≤vb
                          · by_cases hc0 : V<0
                            · skip
                              have HMV : Hid (tabK es2 m ((u : Nat) : Int) ((k : Nat) : Int)=va+xn+vb):=Lib.hid (HMO.out.trans (if_pos ⟨ha0,hb0,.inl hc0⟩))
                              obtain ⟨k0,k1,kf,kz⟩:=(HKw.out.later HUc.out).b2
                              obtain ⟨m0,m1,m2,m3,mf,mz⟩:=(HXM.out.later HUc.out).b4
                              go_wp2_with fail
                              clear k0 k1 kf kz m0 m1 m2 m3 mf mz
                              refine (hier_Dist m es2 (tabK es2 m) ⟨GA,Gc,R5⟩ ⟨GE,Gd,E5⟩ ((u : Nat) : Int) ((k : Nat) : Int) wc ((Own.rd ienc_k (HG1.out.below HUc.out)).mono fun b hb=>hb.2) ((Own.rd ED.k (HG2.out.below HUc.out)).mono fun b hb=>hb.2) HH5.out).mono ?_
                              rintro r wz ⟨rfl,hb⟩
                              rw [if_pos HIK.out,HMV.out]
                              have HUz:=Lib.hid (HUc.out.trans (hb.mono HUc.out.size))
                              clear hb
                              go_wp2_with fail
                              go_roundw
                              case rel=>exact ⟨k+1,by omega,by go_num,HUz⟩
                              case measure=>simp [intOf]; omega
                            · by_cases hs0 : va+xn+vb<V
                              · skip
                                have HMV : Hid (tabK es2 m ((u : Nat) : Int) ((k : Nat) : Int)=va+xn+vb):=Lib.hid (HMO.out.trans (if_pos ⟨ha0,hb0,.inr hs0⟩))
                                obtain ⟨k0,k1,kf,kz⟩:=(HKw.out.later HUc.out).b2
                                obtain ⟨m0,m1,m2,m3,mf,mz⟩:=(HXM.out.later HUc.out).b4
                                go_wp2_with fail
                                clear k0 k1 kf kz m0 m1 m2 m3 mf mz
                                refine (hier_Dist m es2 (tabK es2 m) ⟨GA,Gc,R5⟩ ⟨GE,Gd,E5⟩ ((u : Nat) : Int) ((k : Nat) : Int) wc ((Own.rd ienc_k (HG1.out.below HUc.out)).mono fun b hb=>hb.2) ((Own.rd ED.k (HG2.out.below HUc.out)).mono fun b hb=>hb.2) HH5.out).mono ?_
                                rintro r wz ⟨rfl,hb⟩
                                rw [if_pos HIK.out,HMV.out]
                                have HUz:=Lib.hid (HUc.out.trans (hb.mono HUc.out.size))
                                clear hb
                                go_wp2_with fail
                                go_roundw
                                case rel=>exact ⟨k+1,by omega,by go_num,HUz⟩
                                case measure=>simp [intOf]; omega
                              · skip
                                have HMV : Hid (tabK es2 m ((u : Nat) : Int) ((k : Nat) : Int)=V):=Lib.hid (HMO.out.trans (if_neg (fun h=>h.2.2.elim hc0 hs0)))
                                obtain ⟨k0,k1,kf,kz⟩:=(HKw.out.later HUc.out).b2
                                obtain ⟨m0,m1,m2,m3,mf,mz⟩:=(HXM.out.later HUc.out).b4
                                go_wp2_with fail
                                clear k0 k1 kf kz m0 m1 m2 m3 mf mz
                                refine (hier_Dist m es2 (tabK es2 m) ⟨GA,Gc,R5⟩ ⟨GE,Gd,E5⟩ ((u : Nat) : Int) ((k : Nat) : Int) wc ((Own.rd ienc_k (HG1.out.below HUc.out)).mono fun b hb=>hb.2) ((Own.rd ED.k (HG2.out.below HUc.out)).mono fun b hb=>hb.2) HH5.out).mono ?_
                                rintro r wz ⟨rfl,hb⟩
                                rw [if_pos HIK.out,HMV.out]
                                have HUz:=Lib.hid (HUc.out.trans (hb.mono HUc.out.size))
                                clear hb
                                go_wp2_with fail
                                go_roundw
                                case rel=>exact ⟨k+1,by omega,by go_num,HUz⟩
                                case measure=>simp [intOf]; omega
                          · skip
                            have HMV : Hid (tabK es2 m ((u : Nat) : Int) ((k : Nat) : Int)=V):=Lib.hid (HMO.out.trans (if_neg (fun h=>hb0 h.2.1)))
                            obtain ⟨k0,k1,kf,kz⟩:=(HKw.out.later HUc.out).b2
                            obtain ⟨m0,m1,m2,m3,mf,mz⟩:=(HXM.out.later HUc.out).b4
                            go_wp2_with fail
                            clear k0 k1 kf kz m0 m1 m2 m3 mf mz
                            refine (hier_Dist m es2 (tabK es2 m) ⟨GA,Gc,R5⟩ ⟨GE,Gd,E5⟩ ((u : Nat) : Int) ((k : Nat) : Int) wc ((Own.rd ienc_k (HG1.out.below HUc.out)).mono fun b hb=>hb.2) ((Own.rd ED.k (HG2.out.below HUc.out)).mono fun b hb=>hb.2) HH5.out).mono ?_
                            rintro r wz ⟨rfl,hb⟩
                            rw [if_pos HIK.out,HMV.out]
                            have HUz:=Lib.hid (HUc.out.trans (hb.mono HUc.out.size))
                            clear hb
                            go_wp2_with fail
                            go_roundw
                            case rel=>exact ⟨k+1,by omega,by go_num,HUz⟩
                            case measure=>simp [intOf]; omega
                        · skip
                          have HMV : Hid (tabK es2 m ((u : Nat) : Int) ((k : Nat) : Int)=V):=Lib.hid (HMO.out.trans (if_neg (fun h=>ha0 h.1)))
                          obtain ⟨k0,k1,kf,kz⟩:=(HKw.out.later HUc.out).b2
                          obtain ⟨m0,m1,m2,m3,mf,mz⟩:=(HXM.out.later HUc.out).b4
                          go_wp2_with fail
                          clear k0 k1 kf kz m0 m1 m2 m3 mf mz
                          refine (hier_Dist m es2 (tabK es2 m) ⟨GA,Gc,R5⟩ ⟨GE,Gd,E5⟩ ((u : Nat) : Int) ((k : Nat) : Int) wc ((Own.rd ienc_k (HG1.out.below HUc.out)).mono fun b hb=>hb.2) ((Own.rd ED.k (HG2.out.below HUc.out)).mono fun b hb=>hb.2) HH5.out).mono ?_
                          rintro r wz ⟨rfl,hb⟩
                          rw [if_pos HIK.out,HMV.out]
                          have HUz:=Lib.hid (HUc.out.trans (hb.mono HUc.out.size))
                          clear hb
                          go_wp2_with fail
                          go_roundw
                          case rel=>exact ⟨k+1,by omega,by go_num,HUz⟩
                          case measure=>simp [intOf]; omega
                      · rw [HV5.out,Prod.mk.injEq,Prod.mk.injEq] at hv5
                        obtain ⟨e1,e2,e3⟩:=hv5
                        clear e1 e2
                        subst e3
                        go_wp2_with fail
                        go_roundw
                        case rel=>exact ⟨k+1,by omega,by go_num,HU1⟩
                        case measure=>simp [intOf]; omega
                  · have hke : m=k:=by omega
                    subst hke
                    have hkm' : ¬ (m : Int)<(m : Int):=by omega
                    go_wp2_with fail
                    go_roundw
                    case rel=>exact ⟨u+1,by omega,by go_num,HU⟩
                    case measure=>simp [intOf]; omega
              · have hue : m=u:=by omega
                subst hue
                have hum' : ¬ (m : Int)<(m : Int):=by omega
                have HBe:=Lib.hid (HB.out.trans (HU.out.mono HB.out.size))
                go_wp2_with fail
                go_ret
                exact ⟨rfl,HBe.out⟩
          · rw [HV3.out,Prod.mk.injEq,Prod.mk.injEq] at hv
            obtain ⟨e1,e2,e3⟩:=hv
            subst e1 e2 e3
            go_wp2_with fail
            go_ret
            exact ⟨rfl,HB.out.alloc HB.out.size _⟩
end Go.Proofs.Ytlbihfbeamlacaa
