/- The walk of HierShortest. -/
import Derived.Test.YtlbihfbeamlacaaHbxbt
set_option linter.unusedSimpArgs false
set_option linter.unusedVariables false
set_option maxRecDepth 100000
set_option maxHeartbeats 6400000
namespace Go.Proofs.Ytlbihfbeamlacaa
open Go.RowKit
theorem hiershortest (n : Int) (es : Sl ED) (R : Sl Int) (s t : Int) (w : World) (hr : Rd (· < w.heap.size) 4 ED.enc w es) (hR : Rd (· < w.heap.size) 1 ienc w R) :
    Calls Try.prog 4 #[.int .i64 n,.slice es.A es.l.length es.c,.slice R.A R.l.length R.c,.int .i64 s,.int .i64 t] w fun r w'=>r = .returned (.bool true)∧Below w.heap.size w w':=by
  have HE:=Lib.hid hr
  have HR:=Lib.hid hR
  have hl1:=hr.len
  have hl2:=hR.len
  clear hr hR
  go_enter Try.func4,Try.ntmps4
  go_wp2_with fail
  have HB : Hid (Below w.heap.size w w):=Lib.hid (Below.refl _ _)
  refine (law_small w).mono ?_
  rintro r w2 ⟨rfl,hb⟩
  replace HB:=Lib.hid (HB.out.trans (hb.mono HB.out.size))
  try replace HX:=Lib.hid (HX.out.later hb)
  try replace HO1:=Lib.hid (HO1.out.below hb)
  try replace HO2:=Lib.hid (HO2.out.below hb)
  try replace HT:=Lib.hid (HT.out.later hb)
  clear hb
  go_wp2_with fail
  refine (law_few n es R w2 hl1 hl2).mono ?_
  rintro r w3 ⟨rfl,hb⟩
  replace HB:=Lib.hid (HB.out.trans (hb.mono HB.out.size))
  try replace HX:=Lib.hid (HX.out.later hb)
  try replace HO1:=Lib.hid (HO1.out.below hb)
  try replace HO2:=Lib.hid (HO2.out.below hb)
  try replace HT:=Lib.hid (HT.out.later hb)
  clear hb
  obtain ⟨fb,hfb⟩ : ∃ b,fewB n es.l R.l=b:=⟨_,rfl⟩
  rw [hfb]
  have HFB:=Lib.hid hfb
  clear hfb
  rcases fb
  · go_wp2_with fail
    go_ret
    exact ⟨rfl,HB.out⟩
  · obtain ⟨h9,h24,hR10⟩:=few_nine HFB.out
    have H9:=Lib.hid h9
    clear h9
    go_wp2_with fail
    refine (hier_Build n es R w3 (HE.out.later HB.out (Nat.le_refl _)) (HR.out.later HB.out (Nat.le_refl _)) (by omega) H9.out).mono ?_
    rintro r w4 ⟨RA,EA,Rc,Ec,rfl,ho1,ho2,hb⟩
    rcases bldV_cases n es.l R.l with ⟨hgb,hrp,hv3⟩ | hv3
    · rw [hv3] at ho1 ho2 ⊢
      simp only at ho1 ho2 ⊢
      obtain ⟨h0,h20,hel,hgd⟩:=graphB_ok hgb
      obtain ⟨m,rfl⟩:=Int.eq_ofNat_of_zero_le h0
      rw [Int.toNat_natCast] at hgd ho2
      simp only [Int.toNat_natCast]
      have hm9 : m≤9:=by have:=H9.out hgb; omega
      have HH:=Lib.hid (bld_right hgd (RkP.ok hrp) hm9)
      have HGD:=Lib.hid hgd
      have HGB:=Lib.hid hgb
      have hrl : (R.l.length : Int)=(m : Int):=hrp.2.2
      obtain ⟨E3,hE3⟩ : ∃ x,bldL m es.l R.l=x:=⟨_,rfl⟩
      rw [hE3] at ho2 HH ⊢
      have HO1:=Lib.hid ho1
      have HO2:=Lib.hid ho2
      clear ho1 ho2 hv3 hgb hrp hgd h0 h20 hE3 HFB H9
      replace HB:=Lib.hid (HB.out.trans (hb.mono HB.out.size))
      try replace HX:=Lib.hid (HX.out.later hb)
      try replace HO1:=Lib.hid (HO1.out.below hb)
      try replace HO2:=Lib.hid (HO2.out.below hb)
      try replace HT:=Lib.hid (HT.out.later hb)
      clear hb
      go_wp2_with fail
      have HX : Hid (Blk (w4.alloc (.cells #[.slice RA R.l.length Rc,.slice EA E3.length Ec] 25)) w4.heap.size 25 #[.slice RA R.l.length Rc,.slice EA E3.length Ec]):=Lib.hid (Blk.new _ _ _)
      have hb : Below w4.heap.size w4 (w4.alloc (.cells #[.slice RA R.l.length Rc,.slice EA E3.length Ec] 25)):=(Below.refl _ _).alloc (Nat.le_refl _) _
      replace HB:=Lib.hid (HB.out.trans (hb.mono HB.out.size))
      replace HO1:=Lib.hid (HO1.out.below hb)
      replace HO2:=Lib.hid (HO2.out.below hb)
      clear hb
      generalize w4.alloc (.cells #[.slice RA R.l.length Rc,.slice EA E3.length Ec] 25)=w5 at *
      generalize w4.heap.size=g1 at *
      refine (r13_Graph es m w5 (HE.out.later HB.out (Nat.le_refl _))).mono ?_
      rintro r w6 ⟨rfl,hb⟩
      rw [HGB.out]
      replace HB:=Lib.hid (HB.out.trans (hb.mono HB.out.size))
      try replace HX:=Lib.hid (HX.out.later hb)
      try replace HO1:=Lib.hid (HO1.out.below hb)
      try replace HO2:=Lib.hid (HO2.out.below hb)
      try replace HT:=Lib.hid (HT.out.later hb)
      clear hb
      go_wp2_with fail
      refine (r13_Table m es w6 (HE.out.later HB.out (Nat.le_refl _)) HGD.out hm9 hel).mono ?_
      rintro r w7 ⟨TA,tc,rfl,⟨G,ht⟩,hb⟩
      have HT:=Lib.hid ht
      have HTB : Hid (∃ B,TabM m m B w7 TA tc G (tabK es.l m)):=Lib.hid ⟨_,ht⟩
      clear ht HT
      replace HB:=Lib.hid (HB.out.trans (hb.mono HB.out.size))
      replace HX:=Lib.hid (HX.out.later hb)
      replace HO1:=Lib.hid (HO1.out.below hb)
      replace HO2:=Lib.hid (HO2.out.below hb)
      clear hb
      obtain ⟨B,hT⟩:=HTB.out
      have HT:=Lib.hid hT
      clear hT HTB
      go_wp2_with fail
      go_loopw [15] (fun Y wr=>∃ (u : Nat),u≤m∧Y = .int .i64 u∧Hid (Below w7.heap.size w7 wr)) (fun Y _=>m - (intOf Y).toNat)
      case atStart=>exact ⟨0,by omega,rfl,Lib.hid (Below.refl _ _)⟩
      case round =>
        obtain ⟨u,hu,rfl,HU⟩:=hrel
        by_cases hum : u<m
        · have hum' : (u : Int)<(m : Int):=by omega
          go_wp2_with fail
          go_loopw [16] (fun Y wr=>∃ (k : Nat),k≤m∧Y = .int .i64 k∧Hid (Below w7.heap.size w7 wr)) (fun Y _=>m - (intOf Y).toNat)
          case atStart=>exact ⟨0,by omega,rfl,HU⟩
          case round =>
            clear HU
            obtain ⟨k,hk,rfl,HU⟩:=hrel
            by_cases hkm : k<m
            · have hkm' : (k : Int)<(m : Int):=by omega
              go_wp2_with fail
              obtain ⟨gu,hgu⟩ : ∃ g,G[u]? = some g:=⟨_,List.getElem?_eq_getElem (by have:=HT.out.len; omega)⟩
              have HGU:=Lib.hid hgu
              have HTu:=Lib.hid (HT.out.later HU.out)
              have HXu:=Lib.hid (HX.out.later HU.out)
              have HBu:=Lib.hid (HB.out.trans (HU.out.mono HB.out.size))
              have HDR:=Lib.hid HU.out.drew
              have HO1u:=Lib.hid (HO1.out.below HDR.out)
              have HO2u:=Lib.hid (HO2.out.below HDR.out)
              obtain ⟨a,hA,c0⟩:=HTu.out.cell hgu
              subst hA
              have c1:=HTu.out.at_ hgu hkm
              obtain ⟨V,hV⟩ : ∃ x,tabK es.l m ((u : Nat) : Int) ((k : Nat) : Int)=x:=⟨_,rfl⟩
              rw [hV] at c1
              have hdc:=hier_Dist m es.l (tabK es.l m) ⟨RA,Rc,R.l⟩ ⟨EA,Ec,E3⟩ ((u : Nat) : Int) ((k : Nat) : Int) wr.drew ((Own.rd ienc_k HO1u.out).mono fun b hb=>hb.2) ((Own.rd ED.k HO2u.out).mono fun b hb=>hb.2) HH.out
              rw [if_pos ⟨⟨by omega,by omega⟩,by omega,by omega⟩,hV] at hdc
              have HDC:=Lib.hid hdc
              have HGL : Hid (G.length=m):=Lib.hid HT.out.len
              have hun2 : (u : Int)<(G.length : Int):=by have:=HGL.out; omega
              clear hgu hV hdc
              refine wp_region_T (fun W=>W.cell? ⟨g1,0,none⟩=some (.slice RA R.l.length Rc)∧W.cell? ⟨g1,1,none⟩=some (.slice EA E3.length Ec)∧W.cell? ⟨a,u,none⟩=some (.slice (some ⟨gu,0,none⟩) m m)∧W.cell? ⟨gu,k,none⟩=some (.int .i64 V)) (fun _=>false) (by kernel_rfl) ⟨HXu.out.cell 0,HXu.out.cell 1,c0,c1⟩ (fun hHeld=>?_)
              refine wpAnyT_take2 (i:=0) (v:=?_) rfl rfl (by kernel_rfl) (by kernel_rfl) (by kernel_rfl) (by kernel_rfl) (fun _ _ _ h=>h) (Or.inl ⟨by rfl, ?_⟩) (by first | assumption | trivial) ?_
              rotate_left
              · (intro w hSw; (try dsimp only at hSw); go_simp) <;> (with_reducible rfl)
              simp only [List.setIfInBounds_toArray,List.set_cons_zero,List.set_cons_succ]
              refine wpAnyT_take2 (i:=1) (v:=?_) rfl rfl (by kernel_rfl) (by kernel_rfl) (by kernel_rfl) (by kernel_rfl) (fun _ _ _ h=>h) (Or.inl ⟨by rfl, ?_⟩) (by first | assumption | trivial) ?_
              rotate_left
              · (intro w hSw; (try dsimp only at hSw); go_simp) <;> (with_reducible rfl)
              simp only [List.setIfInBounds_toArray,List.set_cons_zero,List.set_cons_succ]
              refine wpAnyT_take2 (i:=2) (v:=?_) rfl rfl (by kernel_rfl) (by kernel_rfl) (by kernel_rfl) (by kernel_rfl) (fun _ _ _ h=>h) (Or.inl ⟨by rfl, ?_⟩) (by first | assumption | trivial) ?_
              rotate_left
              · (intro w hSw; (try dsimp only at hSw); go_simp) <;> (with_reducible rfl)
              simp only [List.setIfInBounds_toArray,List.set_cons_zero,List.set_cons_succ]
              refine wpAnyT_take2 (i:=4) (v:=?_) rfl rfl (by kernel_rfl) (by kernel_rfl) (by kernel_rfl) (by kernel_rfl) (fun _ _ _ h=>h) (Or.inl ⟨by rfl, ?_⟩) (by first | assumption | trivial) ?_
              rotate_left
              · (intro w hSw; (try dsimp only at hSw); go_simp) <;> (with_reducible rfl)
              simp only [List.setIfInBounds_toArray,List.set_cons_zero,List.set_cons_succ]
              refine wpAnyT_take2 (i:=5) (v:=?_) rfl rfl (by kernel_rfl) (by kernel_rfl) (by kernel_rfl) (by kernel_rfl) (fun _ _ _ h=>h) (Or.inl ⟨by rfl, ?_⟩) (by first | assumption | trivial) ?_
              rotate_left
              · (intro w hSw; (try dsimp only at hSw); go_simp) <;> (with_reducible rfl)
              simp only [List.setIfInBounds_toArray,List.set_cons_zero,List.set_cons_succ]
              refine wpAnyT_take2 (i:=6) (v:=?_) rfl rfl (by kernel_rfl) (by kernel_rfl) (by kernel_rfl) (by kernel_rfl) (fun _ _ _ h=>h) (Or.inl ⟨by rfl, ?_⟩) (by first | assumption | trivial) ?_
              rotate_left
              · (intro w hSw; (try dsimp only at hSw); go_simp) <;> (with_reducible rfl)
              simp only [List.setIfInBounds_toArray,List.set_cons_zero,List.set_cons_succ]
              refine wpAnyT_take2 (i:=7) (v:=?_) rfl rfl (by kernel_rfl) (by kernel_rfl) (by kernel_rfl) (by kernel_rfl) (fun _ _ _ h=>h) (Or.inl ⟨by rfl, ?_⟩) (by first | assumption | trivial) ?_
              rotate_left
              · (intro w hSw; (try dsimp only at hSw); go_simp) <;> (with_reducible rfl)
              simp only [List.setIfInBounds_toArray,List.set_cons_zero,List.set_cons_succ]
              refine wpAnyT_take2 (i:=8) (v:=?_) rfl rfl (by kernel_rfl) (by kernel_rfl) (by kernel_rfl) (by kernel_rfl) (fun _ _ _ h=>h) (Or.inl ⟨by rfl, ?_⟩) (by first | assumption | trivial) ?_
              rotate_left
              · (intro w hSw; (try dsimp only at hSw); go_simp) <;> (with_reducible rfl)
              simp only [List.setIfInBounds_toArray,List.set_cons_zero,List.set_cons_succ]
              refine wpAnyT_take2 (i:=9) (v:=?_) rfl rfl (by kernel_rfl) (by kernel_rfl) (by kernel_rfl) (by kernel_rfl) (fun _ _ _ h=>h) (Or.inl ⟨by rfl, ?_⟩) (by first | assumption | trivial) ?_
              rotate_left
              · (intro w hSw; (try dsimp only at hSw); go_simp) <;> (with_reducible rfl)
              simp only [List.setIfInBounds_toArray,List.set_cons_zero,List.set_cons_succ]
              refine wpAnyT_take2 (i:=10) (v:=?_) rfl rfl (by kernel_rfl) (by kernel_rfl) (by kernel_rfl) (by kernel_rfl) (fun _ _ _ h=>h) (Or.inl ⟨by rfl, ?_⟩) (by first | assumption | trivial) ?_
              rotate_left
              · (intro w hSw; (try dsimp only at hSw); go_simp) <;> (with_reducible rfl)
              simp only [List.setIfInBounds_toArray,List.set_cons_zero,List.set_cons_succ]
              refine wpAnyT_next (i:=3) (by kernel_rfl) rfl ?_
              go_wp2_with fail
              refine HDC.out.mono ?_
              clear HDC
              rintro r w8 ⟨rfl,hb⟩
              have d0:=keep_cell hb hHeld.1
              have d1:=keep_cell hb hHeld.2.1
              have d2:=keep_cell hb hHeld.2.2.1
              have d3:=keep_cell hb hHeld.2.2.2
              have HU2:=Lib.hid (HDR.out.trans (hb.mono HDR.out.size))
              clear hHeld hb HDR c0 c1
              go_wp2_with fail
              refine And.intro (by first | exact ⟨d0,d1,d2,d3⟩ | exact fun _=>⟨d0,d1,d2,d3⟩) ?_
              have hHeld:=And.intro d0 (And.intro d1 (And.intro d2 d3))
              refine wpAnyT_take2 (i:=11) (v:=.bool false) rfl rfl (by kernel_rfl) (by kernel_rfl) (by kernel_rfl) (by kernel_rfl) (fun _ _ _ h=>h) (Or.inl ⟨by rfl, ?_⟩) (by first | assumption | trivial) ?_
              · (intro w hSw; (try dsimp only at hSw); go_simp) <;> (first | (with_reducible rfl) | assumption | (simp; done) | (simp [*]; done) | (simp; omega))
              simp only [List.setIfInBounds_toArray,List.set_cons_zero,List.set_cons_succ]
              refine wpAnyT_done (by kernel_rfl) ?_ _
              clear hHeld d0 d1 d2 d3
              go_wp2_with fail
              go_roundw
              case rel=>exact ⟨k+1,by omega,by go_num,HU2⟩
              case measure=>simp [intOf]; omega
            · have hke : m=k:=by omega
              subst hke
              have hkm' : ¬ (m : Int)<(m : Int):=by omega
              go_wp2_with fail
              go_roundw
              case rel=>exact ⟨u+1,by omega,by go_num,HU⟩
              case measure=>simp [intOf]; omega
        · have hue : m=u:=by omega
          subst hue
          have hum' : ¬ (m : Int)<(m : Int):=by omega
          have hb:=HU.out
          replace HB:=Lib.hid (HB.out.trans (hb.mono HB.out.size))
          try replace HX:=Lib.hid (HX.out.later hb)
          try replace HO1:=Lib.hid (HO1.out.below hb)
          try replace HO2:=Lib.hid (HO2.out.below hb)
          try replace HT:=Lib.hid (HT.out.later hb)
          clear hb
          obtain ⟨x0,x1,xf,xz⟩:=HX.out.b2
          go_wp2_with fail
          clear x0 x1 xf xz
          obtain ⟨V,hV⟩ : ∃ V,(if Ir m s∧Ir m t then tabK es.l m s t else -1)=V:=⟨_,rfl⟩
          have hd1:=fun w a b=>hier_Dist m es.l (tabK es.l m) ⟨RA,Rc,R.l⟩ ⟨EA,Ec,E3⟩ s t w a b HH.out
          have hd2:=fun w a=>r13_Dist m es s t w a HGD.out hm9 hel
          rw [hV] at hd1 hd2
          have HD1:=Lib.hid hd1
          have HD2:=Lib.hid hd2
          clear hV hd1 hd2
          refine (HD1.out wr ((Own.rd ienc_k HO1.out).mono fun b hb=>hb.2) ((Own.rd ED.k HO2.out).mono fun b hb=>hb.2)).mono ?_
          rintro r w8 ⟨rfl,hb⟩
          replace HB:=Lib.hid (HB.out.trans (hb.mono HB.out.size))
          try replace HX:=Lib.hid (HX.out.later hb)
          try replace HO1:=Lib.hid (HO1.out.below hb)
          try replace HO2:=Lib.hid (HO2.out.below hb)
          try replace HT:=Lib.hid (HT.out.later hb)
          clear hb
          go_wp2_with fail
          refine (HD2.out w8 (HE.out.later HB.out (Nat.le_refl _))).mono ?_
          clear HD1 HD2
          rintro r w9 ⟨rfl,hb⟩
          replace HB:=Lib.hid (HB.out.trans (hb.mono HB.out.size))
          try replace HX:=Lib.hid (HX.out.later hb)
          try replace HO1:=Lib.hid (HO1.out.below hb)
          try replace HO2:=Lib.hid (HO2.out.below hb)
          try replace HT:=Lib.hid (HT.out.later hb)
          clear hb
          obtain ⟨x0,x1,xf,xz⟩:=HX.out.b2
          go_wp2_with fail
          clear x0 x1 xf xz
          refine (hier_Dist m es.l (tabK es.l m) ⟨RA,Rc,R.l⟩ ⟨EA,Ec,E3⟩ (m : Int) 0 w9 ((Own.rd ienc_k HO1.out).mono fun b hb=>hb.2) ((Own.rd ED.k HO2.out).mono fun b hb=>hb.2) HH.out).mono ?_
          rintro r w10 ⟨rfl,hb⟩
          rw [if_neg (fun h=>by have:=h.1.2; omega)]
          replace HB:=Lib.hid (HB.out.trans (hb.mono HB.out.size))
          try replace HX:=Lib.hid (HX.out.later hb)
          try replace HO1:=Lib.hid (HO1.out.below hb)
          try replace HO2:=Lib.hid (HO2.out.below hb)
          try replace HT:=Lib.hid (HT.out.later hb)
          clear hb
          obtain ⟨x0,x1,xf,xz⟩:=HX.out.b2
          go_wp2_with fail
          clear x0 x1 xf xz
          refine (hier_Dist m es.l (tabK es.l m) ⟨RA,Rc,R.l⟩ ⟨EA,Ec,E3⟩ 0 (-1) w10 ((Own.rd ienc_k HO1.out).mono fun b hb=>hb.2) ((Own.rd ED.k HO2.out).mono fun b hb=>hb.2) HH.out).mono ?_
          rintro r w11 ⟨rfl,hb⟩
          rw [if_neg (fun h=>by have:=h.2.1; omega)]
          replace HB:=Lib.hid (HB.out.trans (hb.mono HB.out.size))
          try replace HX:=Lib.hid (HX.out.later hb)
          try replace HO1:=Lib.hid (HO1.out.below hb)
          try replace HO2:=Lib.hid (HO2.out.below hb)
          try replace HT:=Lib.hid (HT.out.later hb)
          clear hb
          go_wp2_with fail
          go_ret
          exact ⟨rfl,HB.out⟩
    · rw [hv3] at ho1 ho2 ⊢
      simp only at ho1 ho2 ⊢
      replace HB:=Lib.hid (HB.out.trans (hb.mono HB.out.size))
      try replace HX:=Lib.hid (HX.out.later hb)
      try replace HO1:=Lib.hid (HO1.out.below hb)
      try replace HO2:=Lib.hid (HO2.out.below hb)
      try replace HT:=Lib.hid (HT.out.later hb)
      clear hb
      go_wp2_with fail
      go_ret
      exact ⟨rfl,HB.out.alloc HB.out.size _⟩
end Go.Proofs.Ytlbihfbeamlacaa
