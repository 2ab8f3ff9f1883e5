/- The walk of HierTells. -/
import Derived.Test.YtlbihfbeamlacaaHbxbt
set_option linter.unusedSimpArgs false
set_option linter.unusedVariables false
set_option maxRecDepth 100000
set_option maxHeartbeats 6400000
namespace Go.Proofs.Ytlbihfbeamlacaa
open Go.RowKit
theorem hiertells (n : Int) (es : Sl ED) (R : Sl Int) (oR : Sl Int) (oE : Sl ED) (w : World) (hr : Rd (· < w.heap.size) 4 ED.enc w es) (hR : Rd (· < w.heap.size) 1 ienc w R) (hoR : Rd (· < w.heap.size) 1 ienc w oR) (hoE : Rd (· < w.heap.size) 4 ED.enc w oE) :
    Calls Try.prog 3 #[.int .i64 n,.slice es.A es.l.length es.c,.slice R.A R.l.length R.c,.agg #[.slice oR.A oR.l.length oR.c,.slice oE.A oE.l.length oE.c]] w fun r w'=>r = .returned (.bool true)∧Below w.heap.size w w':=by
  have HE:=Lib.hid hr
  have HR:=Lib.hid hR
  have HOR:=Lib.hid hoR
  have HOE:=Lib.hid hoE
  have hl1:=hr.len
  have hl2:=hR.len
  have hl3:=hoR.len
  have hl4:=hoE.len
  clear hr hR hoR hoE
  obtain ⟨oA,oc,oR⟩:=oR
  obtain ⟨pA,pc,oE⟩:=oE
  simp only at hl1 hl2 hl3 hl4 ⊢
  go_enter Try.func3,Try.ntmps3
  go_wp2_with fail
  have HB : Hid (Below w.heap.size w (w.alloc (.cells #[.slice oA oR.length oc,.slice pA oE.length pc] 25))):=Lib.hid (by repeat (first | (with_reducible exact Below.refl _ _) | ((with_reducible refine below_setr ?_ ?_); focus (first | (simp; done) | (simp; omega) | omega)) | ((with_reducible refine below_allocr ?_ ?_); focus (first | (simp; done) | (simp; omega) | omega)) | (with_reducible refine Below.drew ?_) | (with_reducible refine below_drewN ?_ _)))
  have HX : Hid (Blk (w.alloc (.cells #[.slice oA oR.length oc,.slice pA oE.length pc] 25)) w.heap.size 25 #[.slice oA oR.length oc,.slice pA oE.length pc]):=Lib.hid (Blk.new _ _ _)
  generalize w.alloc (.cells #[.slice oA oR.length oc,.slice pA oE.length pc] 25)=w1 at *
  refine (law_small w1).mono ?_
  rintro r w2 ⟨rfl,hb⟩
  replace HB:=Lib.hid (HB.out.trans (hb.mono HB.out.size))
  replace HX:=Lib.hid (HX.out.later hb)
  try replace HH1:=Lib.hid (HH1.out.later hb)
  try replace HH2:=Lib.hid (HH2.out.later hb)
  try replace HO1:=Lib.hid (HO1.out.below hb)
  try replace HO2:=Lib.hid (HO2.out.below hb)
  try replace HO3:=Lib.hid (HO3.out.below hb)
  try replace HO4:=Lib.hid (HO4.out.below hb)
  clear hb
  go_wp2_with fail
  refine (law_few n es R w2 hl1 hl2).mono ?_
  rintro r w3 ⟨rfl,hb⟩
  replace HB:=Lib.hid (HB.out.trans (hb.mono HB.out.size))
  replace HX:=Lib.hid (HX.out.later hb)
  try replace HH1:=Lib.hid (HH1.out.later hb)
  try replace HH2:=Lib.hid (HH2.out.later hb)
  try replace HO1:=Lib.hid (HO1.out.below hb)
  try replace HO2:=Lib.hid (HO2.out.below hb)
  try replace HO3:=Lib.hid (HO3.out.below hb)
  try replace HO4:=Lib.hid (HO4.out.below hb)
  clear hb
  obtain ⟨fb,hfb⟩ : ∃ b,fewB n es.l R.l=b:=⟨_,rfl⟩
  rw [hfb]
  have HFB:=Lib.hid hfb
  clear hfb
  obtain ⟨x0,x1,xf,xz⟩:=HX.out.b2
  rcases fb
  · go_wp2_with fail
    go_ret
    exact ⟨rfl,HB.out⟩
  · by_cases h60 : 60<oE.length
    · have h60' : (60 : Int)<(oE.length : Int):=by omega
      go_wp2_with fail
      go_ret
      exact ⟨rfl,HB.out⟩
    · have h60' : ¬ (60 : Int)<(oE.length : Int):=by omega
      by_cases h10 : 10<oR.length
      · have h10' : (10 : Int)<(oR.length : Int):=by omega
        go_wp2_with fail
        go_ret
        exact ⟨rfl,HB.out⟩
      · have h10' : ¬ (10 : Int)<(oR.length : Int):=by omega
        obtain ⟨h9,h24,hR10⟩:=few_nine HFB.out
        have H9:=Lib.hid h9
        clear h9
        go_wp2_with fail
        clear x0 x1 xf xz
        refine (hier_Build n es R w3 (HE.out.later HB.out (Nat.le_refl _)) (HR.out.later HB.out (Nat.le_refl _)) (by omega) H9.out).mono ?_
        rintro r w4 ⟨RA,EA,Rc,Ec,rfl,ho1,ho2,hb⟩
        have hbl:=bldV_len (n:=n) (es:=es.l) (R:=R.l)
        obtain ⟨⟨R3,E3,c3⟩,hv3⟩ : ∃ v,bldV n es.l R.l=v:=⟨_,rfl⟩
        have HV3:=Lib.hid hv3
        rw [hv3] at ho1 ho2 hbl ⊢
        simp only at ho1 ho2 hbl ⊢
        have hR3 : R3.length≤10000:=by omega
        have HO1:=Lib.hid ho1
        have HO2:=Lib.hid ho2
        clear ho1 ho2 hv3 hbl
        replace HB:=Lib.hid (HB.out.trans (hb.mono HB.out.size))
        replace HX:=Lib.hid (HX.out.later hb)
        clear hb
        go_wp2_with fail
        have HH1 : Hid (Blk (w4.alloc (.cells #[.slice RA R3.length Rc,.slice EA E3.length Ec] 25)) w4.heap.size 25 #[.slice RA R3.length Rc,.slice EA E3.length Ec]):=Lib.hid (Blk.new _ _ _)
        have hb : Below w4.heap.size w4 (w4.alloc (.cells #[.slice RA R3.length Rc,.slice EA E3.length Ec] 25)):=(Below.refl _ _).alloc (Nat.le_refl _) _
        replace HB:=Lib.hid (HB.out.trans (hb.mono HB.out.size))
        replace HX:=Lib.hid (HX.out.later hb)
        replace HO1:=Lib.hid (HO1.out.below hb)
        replace HO2:=Lib.hid (HO2.out.below hb)
        clear hb
        generalize w4.alloc (.cells #[.slice RA R3.length Rc,.slice EA E3.length Ec] 25)=w5 at *
        generalize w4.heap.size=g1 at *
        refine (r13_Build n es R w5 (HE.out.later HB.out (Nat.le_refl _)) (HR.out.later HB.out (Nat.le_refl _)) (by omega) H9.out).mono ?_
        rintro r w6 ⟨RA2,EA2,Rc2,Ec2,rfl,ho3,ho4,hb⟩
        rw [HV3.out] at ho3 ho4 ⊢
        simp only at ho3 ho4 ⊢
        have HO3:=Lib.hid ho3
        have HO4:=Lib.hid ho4
        clear ho3 ho4
        replace HB:=Lib.hid (HB.out.trans (hb.mono HB.out.size))
        replace HX:=Lib.hid (HX.out.later hb)
        replace HH1:=Lib.hid (HH1.out.later hb)
        replace HO1:=Lib.hid (HO1.out.below hb)
        replace HO2:=Lib.hid (HO2.out.below hb)
        clear hb
        obtain ⟨y0,y1,yf,yz⟩:=HH1.out.b2
        go_wp2_with fail
        clear y0 y1 yf yz
        have HH2 : Hid (Blk (w6.alloc (.cells #[.slice RA2 R3.length Rc2,.slice EA2 E3.length Ec2] 25)) w6.heap.size 25 #[.slice RA2 R3.length Rc2,.slice EA2 E3.length Ec2]):=Lib.hid (Blk.new _ _ _)
        have hb : Below w6.heap.size w6 (w6.alloc (.cells #[.slice RA2 R3.length Rc2,.slice EA2 E3.length Ec2] 25)):=(Below.refl _ _).alloc (Nat.le_refl _) _
        replace HB:=Lib.hid (HB.out.trans (hb.mono HB.out.size))
        replace HX:=Lib.hid (HX.out.later hb)
        replace HH1:=Lib.hid (HH1.out.later hb)
        replace HO1:=Lib.hid (HO1.out.below hb)
        replace HO2:=Lib.hid (HO2.out.below hb)
        replace HO3:=Lib.hid (HO3.out.below hb)
        replace HO4:=Lib.hid (HO4.out.below hb)
        clear hb
        generalize w6.alloc (.cells #[.slice RA2 R3.length Rc2,.slice EA2 E3.length Ec2] 25)=w7 at *
        generalize w6.heap.size=g2 at *
        refine (r13_Ints ⟨RA,Rc,R3⟩ ⟨RA2,Rc2,R3⟩ w7 ((Own.rd ienc_k HO1.out).mono fun b hb=>hb.2) ((Own.rd ienc_k HO3.out).mono fun b hb=>hb.2)).mono ?_
        rintro r w8 ⟨rfl,hb⟩
        replace HB:=Lib.hid (HB.out.trans (hb.mono HB.out.size))
        replace HX:=Lib.hid (HX.out.later hb)
        try replace HH1:=Lib.hid (HH1.out.later hb)
        try replace HH2:=Lib.hid (HH2.out.later hb)
        try replace HO1:=Lib.hid (HO1.out.below hb)
        try replace HO2:=Lib.hid (HO2.out.below hb)
        try replace HO3:=Lib.hid (HO3.out.below hb)
        try replace HO4:=Lib.hid (HO4.out.below hb)
        clear hb
        simp only [decide_true]
        obtain ⟨y0,y1,yf,yz⟩:=HH1.out.b2
        obtain ⟨z0,z1,zf,zz⟩:=HH2.out.b2
        go_wp2_with fail
        clear y0 y1 yf yz z0 z1 zf zz
        refine (r13_Same ⟨EA,Ec,E3⟩ ⟨EA2,Ec2,E3⟩ w8 ((Own.rd ED.k HO2.out).mono fun b hb=>hb.2) ((Own.rd ED.k HO4.out).mono fun b hb=>hb.2)).mono ?_
        rintro r w9 ⟨rfl,hb⟩
        replace HB:=Lib.hid (HB.out.trans (hb.mono HB.out.size))
        replace HX:=Lib.hid (HX.out.later hb)
        try replace HH1:=Lib.hid (HH1.out.later hb)
        try replace HH2:=Lib.hid (HH2.out.later hb)
        try replace HO1:=Lib.hid (HO1.out.below hb)
        try replace HO2:=Lib.hid (HO2.out.below hb)
        try replace HO3:=Lib.hid (HO3.out.below hb)
        try replace HO4:=Lib.hid (HO4.out.below hb)
        clear hb
        simp only [decide_true]
        go_wp2_with fail
        refine wp_region_T (fun W=>W.cell? ⟨w.heap.size,0,none⟩=some (.slice oA oR.length oc)∧W.cell? ⟨w.heap.size,1,none⟩=some (.slice pA oE.length pc)∧W.cell? ⟨g1,0,none⟩=some (.slice RA R3.length Rc)∧W.cell? ⟨g1,1,none⟩=some (.slice EA E3.length Ec)∧W.cell? ⟨g2,0,none⟩=some (.slice RA2 R3.length Rc2)∧W.cell? ⟨g2,1,none⟩=some (.slice EA2 E3.length Ec2)) (fun _=>false) (by kernel_rfl) ⟨HX.out.cell 0,HX.out.cell 1,HH1.out.cell 0,HH1.out.cell 1,HH2.out.cell 0,HH2.out.cell 1⟩ (fun hHeld=>?_)
        refine wpAnyT_take2 (i:=0) (v:=?_) rfl rfl (by kernel_rfl) (by kernel_rfl) (by kernel_rfl) (by kernel_rfl) (fun _ _ _ h=>h) (Or.inl ⟨by rfl, ?_⟩) (by first | assumption | trivial) ?_
        rotate_left
        · (intro w hSw; (try dsimp only at hSw); go_simp) <;> (with_reducible rfl)
        simp only [List.setIfInBounds_toArray,List.set_cons_zero,List.set_cons_succ]
        refine wpAnyT_take2 (i:=1) (v:=?_) rfl rfl (by kernel_rfl) (by kernel_rfl) (by kernel_rfl) (by kernel_rfl) (fun _ _ _ h=>h) (Or.inl ⟨by rfl, ?_⟩) (by first | assumption | trivial) ?_
        rotate_left
        · (intro w hSw; (try dsimp only at hSw); go_simp) <;> (with_reducible rfl)
        simp only [List.setIfInBounds_toArray,List.set_cons_zero,List.set_cons_succ]
        refine wpAnyT_take2 (i:=2) (v:=?_) rfl rfl (by kernel_rfl) (by kernel_rfl) (by kernel_rfl) (by kernel_rfl) (fun _ _ _ h=>h) (Or.inl ⟨by rfl, ?_⟩) (by first | assumption | trivial) ?_
        rotate_left
        · (intro w hSw; (try dsimp only at hSw); go_simp) <;> (with_reducible rfl)
        simp only [List.setIfInBounds_toArray,List.set_cons_zero,List.set_cons_succ]
        refine wpAnyT_take2 (i:=3) (v:=?_) rfl rfl (by kernel_rfl) (by kernel_rfl) (by kernel_rfl) (by kernel_rfl) (fun _ _ _ h=>h) (Or.inl ⟨by rfl, ?_⟩) (by first | assumption | trivial) ?_
        rotate_left
        · (intro w hSw; (try dsimp only at hSw); go_simp) <;> (with_reducible rfl)
        simp only [List.setIfInBounds_toArray,List.set_cons_zero,List.set_cons_succ]
        refine wpAnyT_take2 (i:=4) (v:=?_) rfl rfl (by kernel_rfl) (by kernel_rfl) (by kernel_rfl) (by kernel_rfl) (fun _ _ _ h=>h) (Or.inl ⟨by rfl, ?_⟩) (by first | assumption | trivial) ?_
        rotate_left
        · (intro w hSw; (try dsimp only at hSw); go_simp) <;> (with_reducible rfl)
        simp only [List.setIfInBounds_toArray,List.set_cons_zero,List.set_cons_succ]
        refine wpAnyT_take2 (i:=6) (v:=?_) rfl rfl (by kernel_rfl) (by kernel_rfl) (by kernel_rfl) (by kernel_rfl) (fun _ _ _ h=>h) (Or.inl ⟨by rfl, ?_⟩) (by first | assumption | trivial) ?_
        rotate_left
        · (intro w hSw; (try dsimp only at hSw); go_simp) <;> (with_reducible rfl)
        simp only [List.setIfInBounds_toArray,List.set_cons_zero,List.set_cons_succ]
        refine wpAnyT_take2 (i:=7) (v:=?_) rfl rfl (by kernel_rfl) (by kernel_rfl) (by kernel_rfl) (by kernel_rfl) (fun _ _ _ h=>h) (Or.inl ⟨by rfl, ?_⟩) (by first | assumption | trivial) ?_
        rotate_left
        · (intro w hSw; (try dsimp only at hSw); go_simp) <;> (with_reducible rfl)
        simp only [List.setIfInBounds_toArray,List.set_cons_zero,List.set_cons_succ]
        refine wpAnyT_take2 (i:=8) (v:=?_) rfl rfl (by kernel_rfl) (by kernel_rfl) (by kernel_rfl) (by kernel_rfl) (fun _ _ _ h=>h) (Or.inl ⟨by rfl, ?_⟩) (by first | assumption | trivial) ?_
        rotate_left
        · (intro w hSw; (try dsimp only at hSw); go_simp) <;> (with_reducible rfl)
        simp only [List.setIfInBounds_toArray,List.set_cons_zero,List.set_cons_succ]
        have hb : Below w9.heap.size w9 w9.drew:=Below.drew (Below.refl _ _)
        replace HB:=Lib.hid (HB.out.trans (hb.mono HB.out.size))
        replace HX:=Lib.hid (HX.out.later hb)
        try replace HH1:=Lib.hid (HH1.out.later hb)
        try replace HH2:=Lib.hid (HH2.out.later hb)
        try replace HO1:=Lib.hid (HO1.out.below hb)
        try replace HO2:=Lib.hid (HO2.out.below hb)
        try replace HO3:=Lib.hid (HO3.out.below hb)
        try replace HO4:=Lib.hid (HO4.out.below hb)
        clear hb
        clear hHeld
        generalize w9.drew=wd at *
        obtain ⟨V1,hV1⟩ : ∃ V,chkV n es.l R3 E3=V:=⟨_,rfl⟩
        obtain ⟨V2,hV2⟩ : ∃ V,chkV n es.l oR oE=V:=⟨_,rfl⟩
        have HV1:=Lib.hid hV1
        have HV2:=Lib.hid hV2
        have HOL : Hid (oR.length≤10000):=Lib.hid (by omega)
        clear hV1 hV2
        refine wpAnyT_next (i:=5) (by kernel_rfl) rfl ?_
        go_wp2_with fail
        refine (hier_Check n es ⟨RA,Rc,R3⟩ ⟨EA,Ec,E3⟩ wd (HE.out.later HB.out (Nat.le_refl _)) ((Own.rd ienc_k HO1.out).mono fun b hb=>hb.2) ((Own.rd ED.k HO2.out).mono fun b hb=>hb.2) hR3 H9.out).mono ?_
        rintro r wm ⟨rfl,hb⟩
        replace HB:=Lib.hid (HB.out.trans (hb.mono HB.out.size))
        replace HX:=Lib.hid (HX.out.later hb)
        try replace HH1:=Lib.hid (HH1.out.later hb)
        try replace HH2:=Lib.hid (HH2.out.later hb)
        try replace HO1:=Lib.hid (HO1.out.below hb)
        try replace HO2:=Lib.hid (HO2.out.below hb)
        try replace HO3:=Lib.hid (HO3.out.below hb)
        try replace HO4:=Lib.hid (HO4.out.below hb)
        clear hb
        simp only [HV1.out]
        go_wp2_with fail
        refine And.intro (by first | exact ⟨HX.out.cell 0,HX.out.cell 1,HH1.out.cell 0,HH1.out.cell 1,HH2.out.cell 0,HH2.out.cell 1⟩ | exact fun _=>⟨HX.out.cell 0,HX.out.cell 1,HH1.out.cell 0,HH1.out.cell 1,HH2.out.cell 0,HH2.out.cell 1⟩) ?_
        have hHeld:=And.intro (HX.out.cell 0) (And.intro (HX.out.cell 1) (And.intro (HH1.out.cell 0) (And.intro (HH1.out.cell 1) (And.intro (HH2.out.cell 0) (HH2.out.cell 1)))))
        clear hHeld
        refine wpAnyT_next (i:=9) (by kernel_rfl) rfl ?_
        go_wp2_with fail
        refine (r13_Check n es ⟨RA2,Rc2,R3⟩ ⟨EA2,Ec2,E3⟩ wm (HE.out.later HB.out (Nat.le_refl _)) ((Own.rd ienc_k HO3.out).mono fun b hb=>hb.2) ((Own.rd ED.k HO4.out).mono fun b hb=>hb.2) hR3 H9.out).mono ?_
        rintro r wp ⟨rfl,hb⟩
        replace HB:=Lib.hid (HB.out.trans (hb.mono HB.out.size))
        replace HX:=Lib.hid (HX.out.later hb)
        try replace HH1:=Lib.hid (HH1.out.later hb)
        try replace HH2:=Lib.hid (HH2.out.later hb)
        try replace HO1:=Lib.hid (HO1.out.below hb)
        try replace HO2:=Lib.hid (HO2.out.below hb)
        try replace HO3:=Lib.hid (HO3.out.below hb)
        try replace HO4:=Lib.hid (HO4.out.below hb)
        clear hb
        simp only [HV1.out]
        go_wp2_with fail
        refine And.intro (by first | exact ⟨HX.out.cell 0,HX.out.cell 1,HH1.out.cell 0,HH1.out.cell 1,HH2.out.cell 0,HH2.out.cell 1⟩ | exact fun _=>⟨HX.out.cell 0,HX.out.cell 1,HH1.out.cell 0,HH1.out.cell 1,HH2.out.cell 0,HH2.out.cell 1⟩) ?_
        have hHeld:=And.intro (HX.out.cell 0) (And.intro (HX.out.cell 1) (And.intro (HH1.out.cell 0) (And.intro (HH1.out.cell 1) (And.intro (HH2.out.cell 0) (HH2.out.cell 1)))))
        refine wpAnyT_take2 (i:=10) (v:=.bool true) rfl rfl (by kernel_rfl) (by kernel_rfl) (by kernel_rfl) (by kernel_rfl) (fun _ _ _ h=>h) (Or.inl ⟨by rfl, ?_⟩) (by first | assumption | trivial) ?_
        · (intro w hSw; (try dsimp only at hSw); go_simp) <;> (first | (with_reducible rfl) | assumption | (simp; done) | (simp [*]; done) | (simp; omega))
        simp only [List.setIfInBounds_toArray,List.set_cons_zero,List.set_cons_succ]
        refine wpAnyT_take2 (i:=11) (v:=?_) rfl rfl (by kernel_rfl) (by kernel_rfl) (by kernel_rfl) (by kernel_rfl) (fun _ _ _ h=>h) (Or.inl ⟨by rfl, ?_⟩) (by first | assumption | trivial) ?_
        rotate_left
        · (intro w hSw; (try dsimp only at hSw); go_simp) <;> (with_reducible rfl)
        simp only [List.setIfInBounds_toArray,List.set_cons_zero,List.set_cons_succ]
        refine wpAnyT_take2 (i:=12) (v:=?_) rfl rfl (by kernel_rfl) (by kernel_rfl) (by kernel_rfl) (by kernel_rfl) (fun _ _ _ h=>h) (Or.inl ⟨by rfl, ?_⟩) (by first | assumption | trivial) ?_
        rotate_left
        · (intro w hSw; (try dsimp only at hSw); go_simp) <;> (with_reducible rfl)
        simp only [List.setIfInBounds_toArray,List.set_cons_zero,List.set_cons_succ]
        refine wpAnyT_take2 (i:=13) (v:=?_) rfl rfl (by kernel_rfl) (by kernel_rfl) (by kernel_rfl) (by kernel_rfl) (fun _ _ _ h=>h) (Or.inl ⟨by rfl, ?_⟩) (by first | assumption | trivial) ?_
        rotate_left
        · (intro w hSw; (try dsimp only at hSw); go_simp) <;> (with_reducible rfl)
        simp only [List.setIfInBounds_toArray,List.set_cons_zero,List.set_cons_succ]
        refine wpAnyT_take2 (i:=14) (v:=?_) rfl rfl (by kernel_rfl) (by kernel_rfl) (by kernel_rfl) (by kernel_rfl) (fun _ _ _ h=>h) (Or.inl ⟨by rfl, ?_⟩) (by first | assumption | trivial) ?_
        rotate_left
        · (intro w hSw; (try dsimp only at hSw); go_simp) <;> (with_reducible rfl)
        simp only [List.setIfInBounds_toArray,List.set_cons_zero,List.set_cons_succ]
        refine wpAnyT_take2 (i:=15) (v:=?_) rfl rfl (by kernel_rfl) (by kernel_rfl) (by kernel_rfl) (by kernel_rfl) (fun _ _ _ h=>h) (Or.inl ⟨by rfl, ?_⟩) (by first | assumption | trivial) ?_
        rotate_left
        · (intro w hSw; (try dsimp only at hSw); go_simp) <;> (with_reducible rfl)
        simp only [List.setIfInBounds_toArray,List.set_cons_zero,List.set_cons_succ]
        refine wpAnyT_take2 (i:=17) (v:=?_) rfl rfl (by kernel_rfl) (by kernel_rfl) (by kernel_rfl) (by kernel_rfl) (fun _ _ _ h=>h) (Or.inl ⟨by rfl, ?_⟩) (by first | assumption | trivial) ?_
        rotate_left
        · (intro w hSw; (try dsimp only at hSw); go_simp) <;> (with_reducible rfl)
        simp only [List.setIfInBounds_toArray,List.set_cons_zero,List.set_cons_succ]
        refine wpAnyT_take2 (i:=18) (v:=?_) rfl rfl (by kernel_rfl) (by kernel_rfl) (by kernel_rfl) (by kernel_rfl) (fun _ _ _ h=>h) (Or.inl ⟨by rfl, ?_⟩) (by first | assumption | trivial) ?_
        rotate_left
        · (intro w hSw; (try dsimp only at hSw); go_simp) <;> (with_reducible rfl)
        simp only [List.setIfInBounds_toArray,List.set_cons_zero,List.set_cons_succ]
        refine wpAnyT_take2 (i:=19) (v:=?_) rfl rfl (by kernel_rfl) (by kernel_rfl) (by kernel_rfl) (by kernel_rfl) (fun _ _ _ h=>h) (Or.inl ⟨by rfl, ?_⟩) (by first | assumption | trivial) ?_
        rotate_left
        · (intro w hSw; (try dsimp only at hSw); go_simp) <;> (with_reducible rfl)
        simp only [List.setIfInBounds_toArray,List.set_cons_zero,List.set_cons_succ]
        clear hHeld
        refine wpAnyT_next (i:=16) (by kernel_rfl) rfl ?_
        go_wp2_with fail
        refine (hier_Check n es ⟨oA,oc,oR⟩ ⟨pA,pc,oE⟩ wp (HE.out.later HB.out (Nat.le_refl _)) (HOR.out.later HB.out (Nat.le_refl _)) (HOE.out.later HB.out (Nat.le_refl _)) HOL.out H9.out).mono ?_
        rintro r wq ⟨rfl,hb⟩
        replace HB:=Lib.hid (HB.out.trans (hb.mono HB.out.size))
        replace HX:=Lib.hid (HX.out.later hb)
        try replace HH1:=Lib.hid (HH1.out.later hb)
        try replace HH2:=Lib.hid (HH2.out.later hb)
        try replace HO1:=Lib.hid (HO1.out.below hb)
        try replace HO2:=Lib.hid (HO2.out.below hb)
        try replace HO3:=Lib.hid (HO3.out.below hb)
        try replace HO4:=Lib.hid (HO4.out.below hb)
        clear hb
        simp only [HV2.out]
        go_wp2_with fail
        refine And.intro (by first | exact ⟨HX.out.cell 0,HX.out.cell 1,HH1.out.cell 0,HH1.out.cell 1,HH2.out.cell 0,HH2.out.cell 1⟩ | exact fun _=>⟨HX.out.cell 0,HX.out.cell 1,HH1.out.cell 0,HH1.out.cell 1,HH2.out.cell 0,HH2.out.cell 1⟩) ?_
        have hHeld:=And.intro (HX.out.cell 0) (And.intro (HX.out.cell 1) (And.intro (HH1.out.cell 0) (And.intro (HH1.out.cell 1) (And.intro (HH2.out.cell 0) (HH2.out.cell 1)))))
        clear hHeld
        refine wpAnyT_next (i:=20) (by kernel_rfl) rfl ?_
        go_wp2_with fail
        refine (r13_Check n es ⟨oA,oc,oR⟩ ⟨pA,pc,oE⟩ wq (HE.out.later HB.out (Nat.le_refl _)) (HOR.out.later HB.out (Nat.le_refl _)) (HOE.out.later HB.out (Nat.le_refl _)) HOL.out H9.out).mono ?_
        rintro r wr ⟨rfl,hb⟩
        replace HB:=Lib.hid (HB.out.trans (hb.mono HB.out.size))
        replace HX:=Lib.hid (HX.out.later hb)
        try replace HH1:=Lib.hid (HH1.out.later hb)
        try replace HH2:=Lib.hid (HH2.out.later hb)
        try replace HO1:=Lib.hid (HO1.out.below hb)
        try replace HO2:=Lib.hid (HO2.out.below hb)
        try replace HO3:=Lib.hid (HO3.out.below hb)
        try replace HO4:=Lib.hid (HO4.out.below hb)
        clear hb
        simp only [HV2.out]
        go_wp2_with fail
        refine And.intro (by first | exact ⟨HX.out.cell 0,HX.out.cell 1,HH1.out.cell 0,HH1.out.cell 1,HH2.out.cell 0,HH2.out.cell 1⟩ | exact fun _=>⟨HX.out.cell 0,HX.out.cell 1,HH1.out.cell 0,HH1.out.cell 1,HH2.out.cell 0,HH2.out.cell 1⟩) ?_
        have hHeld:=And.intro (HX.out.cell 0) (And.intro (HX.out.cell 1) (And.intro (HH1.out.cell 0) (And.intro (HH1.out.cell 1) (And.intro (HH2.out.cell 0) (HH2.out.cell 1)))))
        refine wpAnyT_take2 (i:=21) (v:=.bool true) rfl rfl (by kernel_rfl) (by kernel_rfl) (by kernel_rfl) (by kernel_rfl) (fun _ _ _ h=>h) (Or.inl ⟨by rfl, ?_⟩) (by first | assumption | trivial) ?_
        · (intro w hSw; (try dsimp only at hSw); go_simp) <;> (first | (with_reducible rfl) | assumption | (simp; done) | (simp [*]; done) | (simp; omega))
        simp only [List.setIfInBounds_toArray,List.set_cons_zero,List.set_cons_succ]
        refine wpAnyT_take2 (i:=22) (v:=?_) rfl rfl (by kernel_rfl) (by kernel_rfl) (by kernel_rfl) (by kernel_rfl) (fun _ _ _ h=>h) (Or.inl ⟨by rfl, ?_⟩) (by first | assumption | trivial) ?_
        rotate_left
        · (intro w hSw; (try dsimp only at hSw); go_simp) <;> (with_reducible rfl)
        simp only [List.setIfInBounds_toArray,List.set_cons_zero,List.set_cons_succ]
        refine wpAnyT_take2 (i:=23) (v:=?_) rfl rfl (by kernel_rfl) (by kernel_rfl) (by kernel_rfl) (by kernel_rfl) (fun _ _ _ h=>h) (Or.inl ⟨by rfl, ?_⟩) (by first | assumption | trivial) ?_
        rotate_left
        · (intro w hSw; (try dsimp only at hSw); go_simp) <;> (with_reducible rfl)
        simp only [List.setIfInBounds_toArray,List.set_cons_zero,List.set_cons_succ]
        refine wpAnyT_done (by kernel_rfl) ?_ _
        clear hHeld
        go_wp2_with fail
        go_ret
        exact ⟨rfl,HB.out⟩
theorem hiertells2 (n : Int) (es : Sl ED) (R : Sl Int) (h : HrV) (w : World) (hr : Rd (· < w.heap.size) 4 ED.enc w es) (hR : Rd (· < w.heap.size) 1 ienc w R) (hoR : Rd (· < w.heap.size) 1 ienc w h.R) (hoE : Rd (· < w.heap.size) 4 ED.enc w h.E) :
    Calls Try.prog 3 #[.int .i64 n,.slice es.A es.l.length es.c,.slice R.A R.l.length R.c,h.v] w fun r w'=>r = .returned (.bool true)∧Below w.heap.size w w':=hiertells n es R h.R h.E w hr hR hoR hoE
end Go.Proofs.Ytlbihfbeamlacaa
