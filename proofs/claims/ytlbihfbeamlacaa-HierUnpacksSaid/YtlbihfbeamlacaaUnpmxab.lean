/- The walk of HierUnpacks. -/
import Derived.Test.YtlbihfbeamlacaaUnpmxaa
import Derived.Test.YtlbihfbeamlacaaHbxbt
set_option linter.unusedSimpArgs false
set_option linter.unusedVariables false
set_option maxRecDepth 100000
set_option maxHeartbeats 6400000
namespace Go.Proofs.Ytlbihfbeamlacaa
open Go.RowKit
theorem hierunpacks (n : Int) (es : Sl ED) (R : Sl Int) (w : World) (hr : Rd (· < w.heap.size) 4 ED.enc w es) (hR : Rd (· < w.heap.size) 1 ienc w R) :
    Calls Try.prog 6 #[.int .i64 n,.slice es.A es.l.length es.c,.slice R.A R.l.length R.c] w fun r w'=>r = .returned (.bool true)∧Below w.heap.size w w':=by
  have HE:=Lib.hid hr
  have HR:=Lib.hid hR
  have hl1:=hr.len
  have hl2:=hR.len
  clear hr hR
  go_enter Try.func6,Try.ntmps6
  go_wp2_with fail
  have HB : Hid (Below w.heap.size w w):=Lib.hid (Below.refl _ _)
  refine (law_small w).mono ?_
  rintro r w2 ⟨rfl,hb⟩
  replace HB:=Lib.hid (HB.out.trans (hb.mono HB.out.size))
  try replace HX:=Lib.hid (HX.out.later hb)
  try replace HO1:=Lib.hid (HO1.out.below hb)
  try replace HO2:=Lib.hid (HO2.out.below hb)
  try replace HT:=Lib.hid (HT.out.later hb)
  clear hb
  go_wp2_with fail
  refine (law_few n es R w2 hl1 hl2).mono ?_
  rintro r w3 ⟨rfl,hb⟩
  replace HB:=Lib.hid (HB.out.trans (hb.mono HB.out.size))
  try replace HX:=Lib.hid (HX.out.later hb)
  try replace HO1:=Lib.hid (HO1.out.below hb)
  try replace HO2:=Lib.hid (HO2.out.below hb)
  try replace HT:=Lib.hid (HT.out.later hb)
  clear hb
  obtain ⟨fb,hfb⟩ : ∃ b,fewB n es.l R.l=b:=⟨_,rfl⟩
  rw [hfb]
  have HFB:=Lib.hid hfb
  clear hfb
  rcases fb
  · go_wp2_with fail
    go_ret
    exact ⟨rfl,HB.out⟩
  · obtain ⟨h9,h24,hR10⟩:=few_nine HFB.out
    have H9:=Lib.hid h9
    clear h9
    go_wp2_with fail
    refine (hier_Build n es R w3 (HE.out.later HB.out (Nat.le_refl _)) (HR.out.later HB.out (Nat.le_refl _)) (by omega) H9.out).mono ?_
    rintro r w4 ⟨RA,EA,Rc,Ec,rfl,ho1,ho2,hb⟩
    rcases bldV_cases n es.l R.l with ⟨hgb,hrp,hv3⟩ | hv3
    · rw [hv3] at ho1 ho2 ⊢
      simp only at ho1 ho2 ⊢
      obtain ⟨h0,h20,hel,hgd⟩:=graphB_ok hgb
      obtain ⟨m,rfl⟩:=Int.eq_ofNat_of_zero_le h0
      rw [Int.toNat_natCast] at hgd ho2
      simp only [Int.toNat_natCast]
      have hm9 : m≤9:=by have:=H9.out hgb; omega
      have HH:=Lib.hid (bld_right hgd (RkP.ok hrp) hm9)
      have HGD:=Lib.hid hgd
      have HGB:=Lib.hid hgb
      have hrl : (R.l.length : Int)=(m : Int):=hrp.2.2
      obtain ⟨E3,hE3⟩ : ∃ x,bldL m es.l R.l=x:=⟨_,rfl⟩
      rw [hE3] at ho2 HH ⊢
      have HO1:=Lib.hid ho1
      have HO2:=Lib.hid ho2
      clear ho1 ho2 hv3 hgb hrp hgd h0 h20 hE3 HFB H9
      replace HB:=Lib.hid (HB.out.trans (hb.mono HB.out.size))
      try replace HX:=Lib.hid (HX.out.later hb)
      try replace HO1:=Lib.hid (HO1.out.below hb)
      try replace HO2:=Lib.hid (HO2.out.below hb)
      try replace HT:=Lib.hid (HT.out.later hb)
      clear hb
      go_wp2_with fail
      have HX : Hid (Blk (w4.alloc (.cells #[.slice RA R.l.length Rc,.slice EA E3.length Ec] 25)) w4.heap.size 25 #[.slice RA R.l.length Rc,.slice EA E3.length Ec]):=Lib.hid (Blk.new _ _ _)
      have hb : Below w4.heap.size w4 (w4.alloc (.cells #[.slice RA R.l.length Rc,.slice EA E3.length Ec] 25)):=(Below.refl _ _).alloc (Nat.le_refl _) _
      replace HB:=Lib.hid (HB.out.trans (hb.mono HB.out.size))
      replace HO1:=Lib.hid (HO1.out.below hb)
      replace HO2:=Lib.hid (HO2.out.below hb)
      clear hb
      generalize w4.alloc (.cells #[.slice RA R.l.length Rc,.slice EA E3.length Ec] 25)=w5 at *
      generalize w4.heap.size=g1 at *
      refine (r13_Graph es m w5 (HE.out.later HB.out (Nat.le_refl _))).mono ?_
      rintro r w6 ⟨rfl,hb⟩
      rw [HGB.out]
      replace HB:=Lib.hid (HB.out.trans (hb.mono HB.out.size))
      try replace HX:=Lib.hid (HX.out.later hb)
      try replace HO1:=Lib.hid (HO1.out.below hb)
      try replace HO2:=Lib.hid (HO2.out.below hb)
      try replace HT:=Lib.hid (HT.out.later hb)
      clear hb
      go_wp2_with fail
      refine (r13_Table m es w6 (HE.out.later HB.out (Nat.le_refl _)) HGD.out hm9 hel).mono ?_
      rintro r w7 ⟨TA,tc,rfl,⟨G,ht⟩,hb⟩
      have HT:=Lib.hid ht
      have HTB : Hid (∃ B,TabM m m B w7 TA tc G (tabK es.l m)):=Lib.hid ⟨_,ht⟩
      clear ht HT
      replace HB:=Lib.hid (HB.out.trans (hb.mono HB.out.size))
      replace HX:=Lib.hid (HX.out.later hb)
      replace HO1:=Lib.hid (HO1.out.below hb)
      replace HO2:=Lib.hid (HO2.out.below hb)
      clear hb
      obtain ⟨B,hT⟩:=HTB.out
      have HT:=Lib.hid hT
      clear hT HTB
      go_wp2_with fail
      obtain ⟨EL,hEL⟩ : ∃ x,E3.length=x:=⟨_,rfl⟩
      have HEL:=Lib.hid hEL
      have hel9 : EL≤81:=by rw [← hEL]; exact HH.out.len
      rw [hEL] at HX
      clear hEL
      go_loopw [11] (fun Y wr=>∃ (i : Nat),i≤EL∧Y = .int .i64 i∧Hid (Below w7.heap.size w7 wr)) (fun Y _=>EL - (intOf Y).toNat)
      case atStart=>exact ⟨0,by omega,rfl,Lib.hid (Below.refl _ _)⟩
      case round =>
        obtain ⟨i,hi,rfl,HU⟩:=hrel
        have HXu:=Lib.hid (HX.out.later HU.out)
        obtain ⟨x0,x1,xf',xz⟩:=HXu.out.b2
        by_cases hil : i<EL
        · have hil' : (i : Int)<(EL : Int):=by omega
          have hx : E3[i]? = some (E3[i]'(by have:=HEL.out; omega)):=List.getElem?_eq_getElem (by have:=HEL.out; omega)
          have hxm:=List.mem_of_getElem? hx
          generalize E3[i]'(by have:=HEL.out; omega)=e at *
          have HO2u:=Lib.hid (HO2.out.below HU.out)
          obtain ⟨gE,rfl,_,_,c0,c1,c2,c3⟩:=own_edge HO2u.out hx
          obtain ⟨hrf,hrt,hne,hd0,hdn,hn0,hn1,hvia⟩:=unp_at HH.out hxm
          obtain ⟨xf,xt,xn,xv⟩:=e
          simp only at c0 c1 c2 c3 hrf hrt hne hd0 hdn hn0 hn1 hvia
          have HVIA:=Lib.hid hvia
          obtain ⟨fm,rfl⟩:=Int.eq_ofNat_of_zero_le hrf.1
          obtain ⟨tm,rfl⟩:=Int.eq_ofNat_of_zero_le hrt.1
          have hfm : fm<m:=by unfold Ir at hrf; omega
          have htm : tm<m:=by unfold Ir at hrt; omega
          have hfm' : ¬ (m : Int)≤(fm : Int):=by omega
          have htm' : ¬ (m : Int)≤(tm : Int):=by omega
          have hfm2 : ¬ (fm : Int)<0:=by omega
          have htm2 : ¬ (tm : Int)<0:=by omega
          have hft : (((fm : Nat) : Int) == ((tm : Nat) : Int))=false:=by rw [beq_eq_false_iff_ne]; exact hne
          have hxv : ¬ (m : Int)≤xv:=by
            rcases hvia with ⟨h,_⟩ | ⟨h,_⟩
            · omega
            · have:=h.2; omega
          have hbz : w7.heap.size≤wr.heap.size:=HU.out.size
          clear hx hxm hrf hrt hvia hne
          go_wp2_with fail
          have hal : Below wr.heap.size wr (wr.alloc (.cells #[.int .i64 (fm : Nat),.int .i64 (tm : Nat),.int .i64 xn,.int .i64 xv] 44)):=(Below.refl _ _).alloc (Nat.le_refl _) _
          have HY : Hid (Blk (wr.alloc (.cells #[.int .i64 (fm : Nat),.int .i64 (tm : Nat),.int .i64 xn,.int .i64 xv] 44)) wr.heap.size 44 #[.int .i64 (fm : Nat),.int .i64 (tm : Nat),.int .i64 xn,.int .i64 xv]):=Lib.hid (Blk.new _ _ _)
          have HU8:=Lib.hid (HU.out.trans (hal.mono hbz))
          clear hal x0 x1 xf' xz c0 c1 c2 c3 HXu HO2u HU hbz hft hxv hfm' htm' hfm2 htm2
          generalize wr.alloc (.cells #[.int .i64 (fm : Nat),.int .i64 (tm : Nat),.int .i64 xn,.int .i64 xv] 44)=w8 at *
          generalize wr.heap.size=ge at *
          have HT8:=Lib.hid (HT.out.later HU8.out)
          obtain ⟨gf,hgf⟩ : ∃ g,G[fm]? = some g:=⟨_,List.getElem?_eq_getElem (by have:=HT.out.len; omega)⟩
          obtain ⟨ta,hTA,o0⟩:=HT8.out.cell hgf
          have r0:=HT8.out.at_ hgf htm
          obtain ⟨dv,hdv⟩ : ∃ x,tabK es.l m ((fm : Nat) : Int) ((tm : Nat) : Int)=x:=⟨_,rfl⟩
          rw [hdv] at r0 hd0 hdn
          obtain ⟨y0,y1,y2,y3,yf,yz⟩:=HY.out.b4
          have HGL : Hid (G.length=m):=Lib.hid HT.out.len
          have hfmG : (fm : Int)<(G.length : Int):=by have:=HGL.out; omega
          have hfmM : (fm : Int)<(m : Int):=by omega
          have htmM : (tm : Int)<(m : Int):=by omega
          have hdn1 : ¬ xn<dv:=by omega
          have hd01 : ¬ dv<0:=by omega
          have HTA:=Lib.hid hTA
          clear hgf hdv hTA
          rw [HTA.out]
          refine wp_region_T (fun W=>W.cell? ⟨ge,0,none⟩=some (.int .i64 (fm : Nat))∧W.cell? ⟨ge,1,none⟩=some (.int .i64 (tm : Nat))∧W.cell? ⟨ge,2,none⟩=some (.int .i64 xn)∧W.cell? ⟨ta,fm,none⟩=some (.slice (some ⟨gf,0,none⟩) m m)∧W.cell? ⟨gf,tm,none⟩=some (.int .i64 dv)) (fun _=>false) (by kernel_rfl) ⟨y0,y1,y2,o0,r0⟩ (fun hHeld=>?_)
          refine wpAnyT_take2 (i:=0) (v:=?_) rfl rfl (by kernel_rfl) (by kernel_rfl) (by kernel_rfl) (by kernel_rfl) (fun _ _ _ h=>h) (Or.inl ⟨by rfl, ?_⟩) (by first | assumption | trivial) ?_
          rotate_left
          · (intro w hSw; (try dsimp only at hSw); go_simp) <;> (with_reducible rfl)
          simp only [List.setIfInBounds_toArray,List.set_cons_zero,List.set_cons_succ]
          refine wpAnyT_take2 (i:=1) (v:=?_) rfl rfl (by kernel_rfl) (by kernel_rfl) (by kernel_rfl) (by kernel_rfl) (fun _ _ _ h=>h) (Or.inl ⟨by rfl, ?_⟩) (by first | assumption | trivial) ?_
          rotate_left
          · (intro w hSw; (try dsimp only at hSw); go_simp) <;> (with_reducible rfl)
          simp only [List.setIfInBounds_toArray,List.set_cons_zero,List.set_cons_succ]
          refine wpAnyT_take2 (i:=2) (v:=?_) rfl rfl (by kernel_rfl) (by kernel_rfl) (by kernel_rfl) (by kernel_rfl) (fun _ _ _ h=>h) (Or.inl ⟨by rfl, ?_⟩) (by first | assumption | trivial) ?_
          rotate_left
          · (intro w hSw; (try dsimp only at hSw); go_simp) <;> (with_reducible rfl)
          simp only [List.setIfInBounds_toArray,List.set_cons_zero,List.set_cons_succ]
          refine wpAnyT_take2 (i:=3) (v:=?_) rfl rfl (by kernel_rfl) (by kernel_rfl) (by kernel_rfl) (by kernel_rfl) (fun _ _ _ h=>h) (Or.inl ⟨by rfl, ?_⟩) (by first | assumption | trivial) ?_
          rotate_left
          · (intro w hSw; (try dsimp only at hSw); go_simp) <;> (with_reducible rfl)
          simp only [List.setIfInBounds_toArray,List.set_cons_zero,List.set_cons_succ]
          refine wpAnyT_take2 (i:=4) (v:=?_) rfl rfl (by kernel_rfl) (by kernel_rfl) (by kernel_rfl) (by kernel_rfl) (fun _ _ _ h=>h) (Or.inl ⟨by rfl, ?_⟩) (by first | assumption | trivial) ?_
          rotate_left
          · (intro w hSw; (try dsimp only at hSw); go_simp) <;> (with_reducible rfl)
          simp only [List.setIfInBounds_toArray,List.set_cons_zero,List.set_cons_succ]
          refine wpAnyT_take2 (i:=5) (v:=?_) rfl rfl (by kernel_rfl) (by kernel_rfl) (by kernel_rfl) (by kernel_rfl) (fun _ _ _ h=>h) (Or.inl ⟨by rfl, ?_⟩) (by first | assumption | trivial) ?_
          rotate_left
          · (intro w hSw; (try dsimp only at hSw); go_simp) <;> (with_reducible rfl)
          simp only [List.setIfInBounds_toArray,List.set_cons_zero,List.set_cons_succ]
          refine wpAnyT_take2 (i:=6) (v:=?_) rfl rfl (by kernel_rfl) (by kernel_rfl) (by kernel_rfl) (by kernel_rfl) (fun _ _ _ h=>h) (Or.inl ⟨by rfl, ?_⟩) (by first | assumption | trivial) ?_
          rotate_left
          · (intro w hSw; (try dsimp only at hSw); go_simp) <;> (with_reducible rfl)
          simp only [List.setIfInBounds_toArray,List.set_cons_zero,List.set_cons_succ]
          refine wpAnyT_take2 (i:=7) (v:=?_) rfl rfl (by kernel_rfl) (by kernel_rfl) (by kernel_rfl) (by kernel_rfl) (fun _ _ _ h=>h) (Or.inl ⟨by rfl, ?_⟩) (by first | assumption | trivial) ?_
          rotate_left
          · (intro w hSw; (try dsimp only at hSw); go_simp) <;> (with_reducible rfl)
          simp only [List.setIfInBounds_toArray,List.set_cons_zero,List.set_cons_succ]
          refine wpAnyT_take2 (i:=8) (v:=?_) rfl rfl (by kernel_rfl) (by kernel_rfl) (by kernel_rfl) (by kernel_rfl) (fun _ _ _ h=>h) (Or.inl ⟨by rfl, ?_⟩) (by first | assumption | trivial) ?_
          rotate_left
          · (intro w hSw; (try dsimp only at hSw); go_simp) <;> (with_reducible rfl)
          simp only [List.setIfInBounds_toArray,List.set_cons_zero,List.set_cons_succ]
          refine wpAnyT_take2 (i:=9) (v:=?_) rfl rfl (by kernel_rfl) (by kernel_rfl) (by kernel_rfl) (by kernel_rfl) (fun _ _ _ h=>h) (Or.inl ⟨by rfl, ?_⟩) (by first | assumption | trivial) ?_
          rotate_left
          · (intro w hSw; (try dsimp only at hSw); go_simp) <;> (with_reducible rfl)
          simp only [List.setIfInBounds_toArray,List.set_cons_zero,List.set_cons_succ]
          refine wpAnyT_take2 (i:=10) (v:=?_) rfl rfl (by kernel_rfl) (by kernel_rfl) (by kernel_rfl) (by kernel_rfl) (fun _ _ _ h=>h) (Or.inl ⟨by rfl, ?_⟩) (by first | assumption | trivial) ?_
          rotate_left
          · (intro w hSw; (try dsimp only at hSw); go_simp) <;> (with_reducible rfl)
          simp only [List.setIfInBounds_toArray,List.set_cons_zero,List.set_cons_succ]
          refine wpAnyT_take2 (i:=11) (v:=.bool false) rfl rfl (by kernel_rfl) (by kernel_rfl) (by kernel_rfl) (by kernel_rfl) (fun _ _ _ h=>h) (Or.inl ⟨by rfl, ?_⟩) (by first | assumption | trivial) ?_
          · (intro w hSw; (try dsimp only at hSw); go_simp) <;> (first | (with_reducible rfl) | assumption | (simp; done) | (simp [*]; done) | (simp; omega))
          simp only [List.setIfInBounds_toArray,List.set_cons_zero,List.set_cons_succ]
          refine wpAnyT_take2 (i:=12) (v:=?_) rfl rfl (by kernel_rfl) (by kernel_rfl) (by kernel_rfl) (by kernel_rfl) (fun _ _ _ h=>h) (Or.inl ⟨by rfl, ?_⟩) (by first | assumption | trivial) ?_
          rotate_left
          · (intro w hSw; (try dsimp only at hSw); go_simp) <;> (with_reducible rfl)
          simp only [List.setIfInBounds_toArray,List.set_cons_zero,List.set_cons_succ]
          refine wpAnyT_take2 (i:=13) (v:=?_) rfl rfl (by kernel_rfl) (by kernel_rfl) (by kernel_rfl) (by kernel_rfl) (fun _ _ _ h=>h) (Or.inl ⟨by rfl, ?_⟩) (by first | assumption | trivial) ?_
          rotate_left
          · (intro w hSw; (try dsimp only at hSw); go_simp) <;> (with_reducible rfl)
          simp only [List.setIfInBounds_toArray,List.set_cons_zero,List.set_cons_succ]
          refine wpAnyT_take2 (i:=14) (v:=?_) rfl rfl (by kernel_rfl) (by kernel_rfl) (by kernel_rfl) (by kernel_rfl) (fun _ _ _ h=>h) (Or.inl ⟨by rfl, ?_⟩) (by first | assumption | trivial) ?_
          rotate_left
          · (intro w hSw; (try dsimp only at hSw); go_simp) <;> (with_reducible rfl)
          simp only [List.setIfInBounds_toArray,List.set_cons_zero,List.set_cons_succ]
          refine wpAnyT_take2 (i:=15) (v:=?_) rfl rfl (by kernel_rfl) (by kernel_rfl) (by kernel_rfl) (by kernel_rfl) (fun _ _ _ h=>h) (Or.inl ⟨by rfl, ?_⟩) (by first | assumption | trivial) ?_
          rotate_left
          · (intro w hSw; (try dsimp only at hSw); go_simp) <;> (with_reducible rfl)
          simp only [List.setIfInBounds_toArray,List.set_cons_zero,List.set_cons_succ]
          refine wpAnyT_take2 (i:=16) (v:=?_) rfl rfl (by kernel_rfl) (by kernel_rfl) (by kernel_rfl) (by kernel_rfl) (fun _ _ _ h=>h) (Or.inl ⟨by rfl, ?_⟩) (by first | assumption | trivial) ?_
          rotate_left
          · (intro w hSw; (try dsimp only at hSw); go_simp) <;> (with_reducible rfl)
          simp only [List.setIfInBounds_toArray,List.set_cons_zero,List.set_cons_succ]
          refine wpAnyT_take2 (i:=17) (v:=?_) rfl rfl (by kernel_rfl) (by kernel_rfl) (by kernel_rfl) (by kernel_rfl) (fun _ _ _ h=>h) (Or.inl ⟨by rfl, ?_⟩) (by first | assumption | trivial) ?_
          rotate_left
          · (intro w hSw; (try dsimp only at hSw); go_simp) <;> (with_reducible rfl)
          simp only [List.setIfInBounds_toArray,List.set_cons_zero,List.set_cons_succ]
          refine wpAnyT_take2 (i:=18) (v:=?_) rfl rfl (by kernel_rfl) (by kernel_rfl) (by kernel_rfl) (by kernel_rfl) (fun _ _ _ h=>h) (Or.inl ⟨by rfl, ?_⟩) (by first | assumption | trivial) ?_
          rotate_left
          · (intro w hSw; (try dsimp only at hSw); go_simp) <;> (with_reducible rfl)
          simp only [List.setIfInBounds_toArray,List.set_cons_zero,List.set_cons_succ]
          refine wpAnyT_take2 (i:=19) (v:=?_) rfl rfl (by kernel_rfl) (by kernel_rfl) (by kernel_rfl) (by kernel_rfl) (fun _ _ _ h=>h) (Or.inl ⟨by rfl, ?_⟩) (by first | assumption | trivial) ?_
          rotate_left
          · (intro w hSw; (try dsimp only at hSw); go_simp) <;> (with_reducible rfl)
          simp only [List.setIfInBounds_toArray,List.set_cons_zero,List.set_cons_succ]
          refine wpAnyT_take2 (i:=20) (v:=?_) rfl rfl (by kernel_rfl) (by kernel_rfl) (by kernel_rfl) (by kernel_rfl) (fun _ _ _ h=>h) (Or.inl ⟨by rfl, ?_⟩) (by first | assumption | trivial) ?_
          rotate_left
          · (intro w hSw; (try dsimp only at hSw); go_simp) <;> (with_reducible rfl)
          simp only [List.setIfInBounds_toArray,List.set_cons_zero,List.set_cons_succ]
          refine wpAnyT_take2 (i:=21) (v:=?_) rfl rfl (by kernel_rfl) (by kernel_rfl) (by kernel_rfl) (by kernel_rfl) (fun _ _ _ h=>h) (Or.inl ⟨by rfl, ?_⟩) (by first | assumption | trivial) ?_
          rotate_left
          · (intro w hSw; (try dsimp only at hSw); go_simp) <;> (with_reducible rfl)
          simp only [List.setIfInBounds_toArray,List.set_cons_zero,List.set_cons_succ]
          refine wpAnyT_take2 (i:=22) (v:=.bool false) rfl rfl (by kernel_rfl) (by kernel_rfl) (by kernel_rfl) (by kernel_rfl) (fun _ _ _ h=>h) (Or.inl ⟨by rfl, ?_⟩) (by first | assumption | trivial) ?_
          · (intro w hSw; (try dsimp only at hSw); go_simp) <;> (first | (with_reducible rfl) | assumption | (simp; done) | (simp [*]; done) | (simp; omega))
          simp only [List.setIfInBounds_toArray,List.set_cons_zero,List.set_cons_succ]
          refine wpAnyT_take2 (i:=23) (v:=?_) rfl rfl (by kernel_rfl) (by kernel_rfl) (by kernel_rfl) (by kernel_rfl) (fun _ _ _ h=>h) (Or.inl ⟨by rfl, ?_⟩) (by first | assumption | trivial) ?_
          rotate_left
          · (intro w hSw; (try dsimp only at hSw); go_simp) <;> (with_reducible rfl)
          simp only [List.setIfInBounds_toArray,List.set_cons_zero,List.set_cons_succ]
          refine wpAnyT_done (by kernel_rfl) ?_ _
          rw [← HTA.out]
          clear hHeld o0 r0 hfmG hfmM htmM hdn1 hd01 y0 y1 y2 y3 yf yz
          have HY9 : Hid (Blk w8.drew ge 44 #[.int .i64 (fm : Nat),.int .i64 (tm : Nat),.int .i64 xn,.int .i64 xv]):=Lib.hid HY.out.drew
          have HU9:=Lib.hid HU8.out.drew
          clear HY HU8 HT8
          generalize w8.drew=w9 at *
          obtain ⟨y0,y1,y2,y3,yf,yz⟩:=HY9.out.b4
          rcases HVIA.out with ⟨hv1,hls⟩ | ⟨hvr,hr1,hr2,a,b,ha,hb,hab⟩
          · subst hv1
            have hlc:=fun w a=>r13_Least es ((fm : Nat) : Int) ((tm : Nat) : Int) w a
            rw [hls] at hlc
            have HLC:=Lib.hid hlc
            have HBd : Hid (Below w.heap.size w w9.drew):=Lib.hid (HB.out.trans (HU9.out.drew.mono HB.out.size))
            have HDD:=Lib.hid HU9.out.drew
            clear hlc hls
            go_wp2_with fail
            refine wp_region_T (fun W=>W.cell? ⟨ge,0,none⟩=some (.int .i64 (fm : Nat))∧W.cell? ⟨ge,1,none⟩=some (.int .i64 (tm : Nat))∧W.cell? ⟨ge,2,none⟩=some (.int .i64 xn)∧W.cell? ⟨ge,3,none⟩=some (.int .i64 (-1))) (fun _=>false) (by kernel_rfl) ⟨y0,y1,y2,y3⟩ (fun hHeld=>?_)
            refine wpAnyT_take2 (i:=0) (v:=?_) rfl rfl (by kernel_rfl) (by kernel_rfl) (by kernel_rfl) (by kernel_rfl) (fun _ _ _ h=>h) (Or.inl ⟨by rfl, ?_⟩) (by first | assumption | trivial) ?_
            rotate_left
            · (intro w hSw; (try dsimp only at hSw); go_simp) <;> (with_reducible rfl)
            simp only [List.setIfInBounds_toArray,List.set_cons_zero,List.set_cons_succ]
            refine wpAnyT_take2 (i:=1) (v:=?_) rfl rfl (by kernel_rfl) (by kernel_rfl) (by kernel_rfl) (by kernel_rfl) (fun _ _ _ h=>h) (Or.inl ⟨by rfl, ?_⟩) (by first | assumption | trivial) ?_
            rotate_left
            · (intro w hSw; (try dsimp only at hSw); go_simp) <;> (with_reducible rfl)
            simp only [List.setIfInBounds_toArray,List.set_cons_zero,List.set_cons_succ]
            refine wpAnyT_take2 (i:=2) (v:=.bool false) rfl rfl (by kernel_rfl) (by kernel_rfl) (by kernel_rfl) (by kernel_rfl) (fun _ _ _ h=>h) (Or.inl ⟨by rfl, ?_⟩) (by first | assumption | trivial) ?_
            · (intro w hSw; (try dsimp only at hSw); go_simp) <;> (first | (with_reducible rfl) | assumption | (simp; done) | (simp [*]; done) | (simp; omega))
            simp only [List.setIfInBounds_toArray,List.set_cons_zero,List.set_cons_succ]
            refine wpAnyT_take2 (i:=3) (v:=?_) rfl rfl (by kernel_rfl) (by kernel_rfl) (by kernel_rfl) (by kernel_rfl) (fun _ _ _ h=>h) (Or.inl ⟨by rfl, ?_⟩) (by first | assumption | trivial) ?_
            rotate_left
            · (intro w hSw; (try dsimp only at hSw); go_simp) <;> (with_reducible rfl)
            simp only [List.setIfInBounds_toArray,List.set_cons_zero,List.set_cons_succ]
            refine wpAnyT_take2 (i:=4) (v:=?_) rfl rfl (by kernel_rfl) (by kernel_rfl) (by kernel_rfl) (by kernel_rfl) (fun _ _ _ h=>h) (Or.inl ⟨by rfl, ?_⟩) (by first | assumption | trivial) ?_
            rotate_left
            · (intro w hSw; (try dsimp only at hSw); go_simp) <;> (with_reducible rfl)
            simp only [List.setIfInBounds_toArray,List.set_cons_zero,List.set_cons_succ]
            refine wpAnyT_take2 (i:=5) (v:=?_) rfl rfl (by kernel_rfl) (by kernel_rfl) (by kernel_rfl) (by kernel_rfl) (fun _ _ _ h=>h) (Or.inl ⟨by rfl, ?_⟩) (by first | assumption | trivial) ?_
            rotate_left
            · (intro w hSw; (try dsimp only at hSw); go_simp) <;> (with_reducible rfl)
            simp only [List.setIfInBounds_toArray,List.set_cons_zero,List.set_cons_succ]
            refine wpAnyT_take2 (i:=6) (v:=?_) rfl rfl (by kernel_rfl) (by kernel_rfl) (by kernel_rfl) (by kernel_rfl) (fun _ _ _ h=>h) (Or.inl ⟨by rfl, ?_⟩) (by first | assumption | trivial) ?_
            rotate_left
            · (intro w hSw; (try dsimp only at hSw); go_simp) <;> (with_reducible rfl)
            simp only [List.setIfInBounds_toArray,List.set_cons_zero,List.set_cons_succ]
            refine wpAnyT_take2 (i:=7) (v:=?_) rfl rfl (by kernel_rfl) (by kernel_rfl) (by kernel_rfl) (by kernel_rfl) (fun _ _ _ h=>h) (Or.inl ⟨by rfl, ?_⟩) (by first | assumption | trivial) ?_
            rotate_left
            · (intro w hSw; (try dsimp only at hSw); go_simp) <;> (with_reducible rfl)
            simp only [List.setIfInBounds_toArray,List.set_cons_zero,List.set_cons_succ]
            refine wpAnyT_take2 (i:=8) (v:=?_) rfl rfl (by kernel_rfl) (by kernel_rfl) (by kernel_rfl) (by kernel_rfl) (fun _ _ _ h=>h) (Or.inl ⟨by rfl, ?_⟩) (by first | assumption | trivial) ?_
            rotate_left
            · (intro w hSw; (try dsimp only at hSw); go_simp) <;> (with_reducible rfl)
            simp only [List.setIfInBounds_toArray,List.set_cons_zero,List.set_cons_succ]
            refine wpAnyT_take2 (i:=10) (v:=?_) rfl rfl (by kernel_rfl) (by kernel_rfl) (by kernel_rfl) (by kernel_rfl) (fun _ _ _ h=>h) (Or.inl ⟨by rfl, ?_⟩) (by first | assumption | trivial) ?_
            rotate_left
            · (intro w hSw; (try dsimp only at hSw); go_simp) <;> (with_reducible rfl)
            simp only [List.setIfInBounds_toArray,List.set_cons_zero,List.set_cons_succ]
            refine wpAnyT_take2 (i:=11) (v:=?_) rfl rfl (by kernel_rfl) (by kernel_rfl) (by kernel_rfl) (by kernel_rfl) (fun _ _ _ h=>h) (Or.inl ⟨by rfl, ?_⟩) (by first | assumption | trivial) ?_
            rotate_left
            · (intro w hSw; (try dsimp only at hSw); go_simp) <;> (with_reducible rfl)
            simp only [List.setIfInBounds_toArray,List.set_cons_zero,List.set_cons_succ]
            refine wpAnyT_next (i:=9) (by kernel_rfl) rfl ?_
            go_wp2_with fail
            refine (HLC.out w9.drew (HE.out.later HBd.out (Nat.le_refl _))).mono ?_
            clear HLC
            rintro r wp ⟨rfl,hb⟩
            have d0:=keep_cell hb hHeld.1
            have d1:=keep_cell hb hHeld.2.1
            have d2:=keep_cell hb hHeld.2.2.1
            have d3:=keep_cell hb hHeld.2.2.2
            have HUp:=Lib.hid (HDD.out.trans (hb.mono HDD.out.size))
            clear hHeld hb y0 y1 y2 y3 yf yz HDD HBd
            go_wp2_with fail
            refine And.intro (by first | exact ⟨d0,d1,d2,d3⟩ | exact fun _=>⟨d0,d1,d2,d3⟩) ?_
            have hHeld:=And.intro d0 (And.intro d1 (And.intro d2 d3))
            refine wpAnyT_take2 (i:=12) (v:=.bool false) rfl rfl (by kernel_rfl) (by kernel_rfl) (by kernel_rfl) (by kernel_rfl) (fun _ _ _ h=>h) (Or.inl ⟨by rfl, ?_⟩) (by first | assumption | trivial) ?_
            · (intro w hSw; (try dsimp only at hSw); go_simp) <;> (first | (with_reducible rfl) | assumption | (simp; done) | (simp [*]; done) | (simp; omega))
            simp only [List.setIfInBounds_toArray,List.set_cons_zero,List.set_cons_succ]
            refine wpAnyT_take2 (i:=13) (v:=?_) rfl rfl (by kernel_rfl) (by kernel_rfl) (by kernel_rfl) (by kernel_rfl) (fun _ _ _ h=>h) (Or.inl ⟨by rfl, ?_⟩) (by first | assumption | trivial) ?_
            rotate_left
            · (intro w hSw; (try dsimp only at hSw); go_simp) <;> (with_reducible rfl)
            simp only [List.setIfInBounds_toArray,List.set_cons_zero,List.set_cons_succ]
            refine wpAnyT_done (by kernel_rfl) ?_ _
            clear hHeld d0 d1 d2 d3
            go_wp2_with fail
            go_roundw
            case rel=>exact ⟨i+1,by omega,by go_num,HUp⟩
            case measure=>simp [intOf]; omega
          · obtain ⟨vm,rfl⟩:=Int.eq_ofNat_of_zero_le hvr.1
            have hvm : vm<m:=by unfold Ir at hvr; omega
            obtain ⟨ka,hka,hea⟩:=at_some ha
            obtain ⟨kb,hkb,heb⟩:=at_some hb
            have hc1:=fun w hr=>r13_At ⟨some ⟨gE,0,none⟩,Ec,E3⟩ ((fm : Nat) : Int) ((vm : Nat) : Int) w hr
            have hc2:=fun w hr=>r13_At ⟨some ⟨gE,0,none⟩,Ec,E3⟩ ((vm : Nat) : Int) ((tm : Nat) : Int) w hr
            simp only [HEL.out] at hc1 hc2
            rw [hka] at hc1
            rw [hkb] at hc2
            have HC1:=Lib.hid hc1
            have HC2:=Lib.hid hc2
            have hv0 : ¬ ((vm : Nat) : Int)<0:=by omega
            have hka9 : ka<EL:=by rw [← HEL.out]; exact (List.getElem?_eq_some_iff.1 hea).1
            have hkb9 : kb<EL:=by rw [← HEL.out]; exact (List.getElem?_eq_some_iff.1 heb).1
            have hba:=HH.out.ok a (List.mem_of_getElem? hea)
            have hbb:=HH.out.ok b (List.mem_of_getElem? heb)
            have HEA:=Lib.hid hea
            have HEB:=Lib.hid heb
            clear hc1 hc2 hvr ha hb hka hkb hea heb
            obtain ⟨x0,x1,xf',xz⟩:=(HX.out.later HU9.out).b2
            go_wp2_with fail
            clear x0 x1 xf' xz y0 y1 y2 y3 yf yz
            refine (HC1.out w9 ((Own.rd ED.k (HO2.out.below HU9.out)).mono fun b hb=>hb.2)).mono ?_
            clear HC1
            rintro r wa ⟨rfl,hb⟩
            have HUa:=Lib.hid (HU9.out.trans (hb.mono HU9.out.size))
            have HYa:=Lib.hid (HY9.out.later hb)
            clear hb HY9 HU9
            obtain ⟨x0,x1,xf',xz⟩:=(HX.out.later HUa.out).b2
            obtain ⟨y0,y1,y2,y3,yf,yz⟩:=HYa.out.b4
            go_wp2_with fail
            clear x0 x1 xf' xz y0 y1 y2 y3 yf yz
            refine (HC2.out wa ((Own.rd ED.k (HO2.out.below HUa.out)).mono fun b hb=>hb.2)).mono ?_
            clear HC2
            rintro r wb ⟨rfl,hb⟩
            have HUb:=Lib.hid (HUa.out.trans (hb.mono HUa.out.size))
            have HYb:=Lib.hid (HYa.out.later hb)
            clear hb HYa HUa
            have HBb:=Lib.hid (HB.out.trans (HUb.out.mono HB.out.size))
            obtain ⟨rb,ro,hRA,hrc⟩:=rd_cells (HR.out.later HBb.out (Nat.le_refl _)) (by omega)
            have q0:=hrc vm _ (rk_get HH.out.rk hvm)
            have q1:=hrc fm _ (rk_get HH.out.rk hfm)
            have q2:=hrc tm _ (rk_get HH.out.rk htm)
            generalize rkF R.l ((vm : Nat) : Int)=kv at *
            generalize rkF R.l ((fm : Nat) : Int)=kf at *
            generalize rkF R.l ((tm : Nat) : Int)=kt at *
            have hvR : (vm : Int)<(R.l.length : Int):=by omega
            have hfR : (fm : Int)<(R.l.length : Int):=by omega
            have htR : (tm : Int)<(R.l.length : Int):=by omega
            have hn1 : ¬ kf≤kv:=by omega
            have hn2 : ¬ kt≤kv:=by omega
            have hk0 : ¬ ((ka : Nat) : Int)<0:=by omega
            have hk1 : ¬ ((kb : Nat) : Int)<0:=by omega
            have HRA:=Lib.hid hRA
            obtain ⟨y0,y1,y2,y3,yf,yz⟩:=HYb.out.b4
            clear hrc hr1 hr2 hRA
            go_wp2_with fail
            rw [HRA.out]
            refine wp_region_T (fun W=>W.cell? ⟨ge,0,none⟩=some (.int .i64 (fm : Nat))∧W.cell? ⟨ge,1,none⟩=some (.int .i64 (tm : Nat))∧W.cell? ⟨ge,3,none⟩=some (.int .i64 (vm : Nat))∧W.cell? ⟨rb,ro+vm,none⟩=some (.int .i64 kv)∧W.cell? ⟨rb,ro+fm,none⟩=some (.int .i64 kf)∧W.cell? ⟨rb,ro+tm,none⟩=some (.int .i64 kt)) (fun _=>false) (by kernel_rfl) ⟨y0,y1,y3,q0,q1,q2⟩ (fun hHeld=>?_)
            refine wpAnyT_take2 (i:=0) (v:=?_) rfl rfl (by kernel_rfl) (by kernel_rfl) (by kernel_rfl) (by kernel_rfl) (fun _ _ _ h=>h) (Or.inl ⟨by rfl, ?_⟩) (by first | assumption | trivial) ?_
            rotate_left
            · (intro w hSw; (try dsimp only at hSw); go_simp) <;> (with_reducible rfl)
            simp only [List.setIfInBounds_toArray,List.set_cons_zero,List.set_cons_succ]
            refine wpAnyT_take2 (i:=1) (v:=.bool false) rfl rfl (by kernel_rfl) (by kernel_rfl) (by kernel_rfl) (by kernel_rfl) (fun _ _ _ h=>h) (Or.inl ⟨by rfl, ?_⟩) (by first | assumption | trivial) ?_
            · (intro w hSw; (try dsimp only at hSw); go_simp) <;> (first | (with_reducible rfl) | assumption | (simp; done) | (simp [*]; done) | (simp; omega))
            simp only [List.setIfInBounds_toArray,List.set_cons_zero,List.set_cons_succ]
            refine wpAnyT_take2 (i:=2) (v:=?_) rfl rfl (by kernel_rfl) (by kernel_rfl) (by kernel_rfl) (by kernel_rfl) (fun _ _ _ h=>h) (Or.inl ⟨by rfl, ?_⟩) (by first | assumption | trivial) ?_
            rotate_left
            · (intro w hSw; (try dsimp only at hSw); go_simp) <;> (with_reducible rfl)
            simp only [List.setIfInBounds_toArray,List.set_cons_zero,List.set_cons_succ]
            refine wpAnyT_take2 (i:=3) (v:=?_) rfl rfl (by kernel_rfl) (by kernel_rfl) (by kernel_rfl) (by kernel_rfl) (fun _ _ _ h=>h) (Or.inl ⟨by rfl, ?_⟩) (by first | assumption | trivial) ?_
            rotate_left
            · (intro w hSw; (try dsimp only at hSw); go_simp) <;> (with_reducible rfl)
            simp only [List.setIfInBounds_toArray,List.set_cons_zero,List.set_cons_succ]
            refine wpAnyT_take2 (i:=4) (v:=.bool false) rfl rfl (by kernel_rfl) (by kernel_rfl) (by kernel_rfl) (by kernel_rfl) (fun _ _ _ h=>h) (Or.inl ⟨by rfl, ?_⟩) (by first | assumption | trivial) ?_
            · (intro w hSw; (try dsimp only at hSw); go_simp) <;> (first | (with_reducible rfl) | assumption | (simp; done) | (simp [*]; done) | (simp; omega))
            simp only [List.setIfInBounds_toArray,List.set_cons_zero,List.set_cons_succ]
            refine wpAnyT_take2 (i:=5) (v:=?_) rfl rfl (by kernel_rfl) (by kernel_rfl) (by kernel_rfl) (by kernel_rfl) (fun _ _ _ h=>h) (Or.inl ⟨by rfl, ?_⟩) (by first | assumption | trivial) ?_
            rotate_left
            · (intro w hSw; (try dsimp only at hSw); go_simp) <;> (with_reducible rfl)
            simp only [List.setIfInBounds_toArray,List.set_cons_zero,List.set_cons_succ]
            refine wpAnyT_take2 (i:=6) (v:=?_) rfl rfl (by kernel_rfl) (by kernel_rfl) (by kernel_rfl) (by kernel_rfl) (fun _ _ _ h=>h) (Or.inl ⟨by rfl, ?_⟩) (by first | assumption | trivial) ?_
            rotate_left
            · (intro w hSw; (try dsimp only at hSw); go_simp) <;> (with_reducible rfl)
            simp only [List.setIfInBounds_toArray,List.set_cons_zero,List.set_cons_succ]
            refine wpAnyT_take2 (i:=7) (v:=?_) rfl rfl (by kernel_rfl) (by kernel_rfl) (by kernel_rfl) (by kernel_rfl) (fun _ _ _ h=>h) (Or.inl ⟨by rfl, ?_⟩) (by first | assumption | trivial) ?_
            rotate_left
            · (intro w hSw; (try dsimp only at hSw); go_simp) <;> (with_reducible rfl)
            simp only [List.setIfInBounds_toArray,List.set_cons_zero,List.set_cons_succ]
            refine wpAnyT_take2 (i:=8) (v:=?_) rfl rfl (by kernel_rfl) (by kernel_rfl) (by kernel_rfl) (by kernel_rfl) (fun _ _ _ h=>h) (Or.inl ⟨by rfl, ?_⟩) (by first | assumption | trivial) ?_
            rotate_left
            · (intro w hSw; (try dsimp only at hSw); go_simp) <;> (with_reducible rfl)
            simp only [List.setIfInBounds_toArray,List.set_cons_zero,List.set_cons_succ]
            refine wpAnyT_take2 (i:=9) (v:=?_) rfl rfl (by kernel_rfl) (by kernel_rfl) (by kernel_rfl) (by kernel_rfl) (fun _ _ _ h=>h) (Or.inl ⟨by rfl, ?_⟩) (by first | assumption | trivial) ?_
            rotate_left
            · (intro w hSw; (try dsimp only at hSw); go_simp) <;> (with_reducible rfl)
            simp only [List.setIfInBounds_toArray,List.set_cons_zero,List.set_cons_succ]
            refine wpAnyT_take2 (i:=10) (v:=?_) rfl rfl (by kernel_rfl) (by kernel_rfl) (by kernel_rfl) (by kernel_rfl) (fun _ _ _ h=>h) (Or.inl ⟨by rfl, ?_⟩) (by first | assumption | trivial) ?_
            rotate_left
            · (intro w hSw; (try dsimp only at hSw); go_simp) <;> (with_reducible rfl)
            simp only [List.setIfInBounds_toArray,List.set_cons_zero,List.set_cons_succ]
            refine wpAnyT_take2 (i:=11) (v:=?_) rfl rfl (by kernel_rfl) (by kernel_rfl) (by kernel_rfl) (by kernel_rfl) (fun _ _ _ h=>h) (Or.inl ⟨by rfl, ?_⟩) (by first | assumption | trivial) ?_
            rotate_left
            · (intro w hSw; (try dsimp only at hSw); go_simp) <;> (with_reducible rfl)
            simp only [List.setIfInBounds_toArray,List.set_cons_zero,List.set_cons_succ]
            refine wpAnyT_take2 (i:=12) (v:=?_) rfl rfl (by kernel_rfl) (by kernel_rfl) (by kernel_rfl) (by kernel_rfl) (fun _ _ _ h=>h) (Or.inl ⟨by rfl, ?_⟩) (by first | assumption | trivial) ?_
            rotate_left
            · (intro w hSw; (try dsimp only at hSw); go_simp) <;> (with_reducible rfl)
            simp only [List.setIfInBounds_toArray,List.set_cons_zero,List.set_cons_succ]
            refine wpAnyT_take2 (i:=13) (v:=?_) rfl rfl (by kernel_rfl) (by kernel_rfl) (by kernel_rfl) (by kernel_rfl) (fun _ _ _ h=>h) (Or.inl ⟨by rfl, ?_⟩) (by first | assumption | trivial) ?_
            rotate_left
            · (intro w hSw; (try dsimp only at hSw); go_simp) <;> (with_reducible rfl)
            simp only [List.setIfInBounds_toArray,List.set_cons_zero,List.set_cons_succ]
            refine wpAnyT_take2 (i:=14) (v:=?_) rfl rfl (by kernel_rfl) (by kernel_rfl) (by kernel_rfl) (by kernel_rfl) (fun _ _ _ h=>h) (Or.inl ⟨by rfl, ?_⟩) (by first | assumption | trivial) ?_
            rotate_left
            · (intro w hSw; (try dsimp only at hSw); go_simp) <;> (with_reducible rfl)
            simp only [List.setIfInBounds_toArray,List.set_cons_zero,List.set_cons_succ]
            refine wpAnyT_take2 (i:=15) (v:=?_) rfl rfl (by kernel_rfl) (by kernel_rfl) (by kernel_rfl) (by kernel_rfl) (fun _ _ _ h=>h) (Or.inl ⟨by rfl, ?_⟩) (by first | assumption | trivial) ?_
            rotate_left
            · (intro w hSw; (try dsimp only at hSw); go_simp) <;> (with_reducible rfl)
            simp only [List.setIfInBounds_toArray,List.set_cons_zero,List.set_cons_succ]
            refine wpAnyT_take2 (i:=16) (v:=?_) rfl rfl (by kernel_rfl) (by kernel_rfl) (by kernel_rfl) (by kernel_rfl) (fun _ _ _ h=>h) (Or.inl ⟨by rfl, ?_⟩) (by first | assumption | trivial) ?_
            rotate_left
            · (intro w hSw; (try dsimp only at hSw); go_simp) <;> (with_reducible rfl)
            simp only [List.setIfInBounds_toArray,List.set_cons_zero,List.set_cons_succ]
            refine wpAnyT_take2 (i:=17) (v:=.bool false) rfl rfl (by kernel_rfl) (by kernel_rfl) (by kernel_rfl) (by kernel_rfl) (fun _ _ _ h=>h) (Or.inl ⟨by rfl, ?_⟩) (by first | assumption | trivial) ?_
            · (intro w hSw; (try dsimp only at hSw); go_simp) <;> (first | (with_reducible rfl) | assumption | (simp; done) | (simp [*]; done) | (simp; omega))
            simp only [List.setIfInBounds_toArray,List.set_cons_zero,List.set_cons_succ]
            refine wpAnyT_take2 (i:=18) (v:=?_) rfl rfl (by kernel_rfl) (by kernel_rfl) (by kernel_rfl) (by kernel_rfl) (fun _ _ _ h=>h) (Or.inl ⟨by rfl, ?_⟩) (by first | assumption | trivial) ?_
            rotate_left
            · (intro w hSw; (try dsimp only at hSw); go_simp) <;> (with_reducible rfl)
            simp only [List.setIfInBounds_toArray,List.set_cons_zero,List.set_cons_succ]
            refine wpAnyT_take2 (i:=19) (v:=?_) rfl rfl (by kernel_rfl) (by kernel_rfl) (by kernel_rfl) (by kernel_rfl) (fun _ _ _ h=>h) (Or.inl ⟨by rfl, ?_⟩) (by first | assumption | trivial) ?_
            rotate_left
            · (intro w hSw; (try dsimp only at hSw); go_simp) <;> (with_reducible rfl)
            simp only [List.setIfInBounds_toArray,List.set_cons_zero,List.set_cons_succ]
            refine wpAnyT_take2 (i:=20) (v:=?_) rfl rfl (by kernel_rfl) (by kernel_rfl) (by kernel_rfl) (by kernel_rfl) (fun _ _ _ h=>h) (Or.inl ⟨by rfl, ?_⟩) (by first | assumption | trivial) ?_
            rotate_left
            · (intro w hSw; (try dsimp only at hSw); go_simp) <;> (with_reducible rfl)
            simp only [List.setIfInBounds_toArray,List.set_cons_zero,List.set_cons_succ]
            refine wpAnyT_take2 (i:=21) (v:=?_) rfl rfl (by kernel_rfl) (by kernel_rfl) (by kernel_rfl) (by kernel_rfl) (fun _ _ _ h=>h) (Or.inl ⟨by rfl, ?_⟩) (by first | assumption | trivial) ?_
            rotate_left
            · (intro w hSw; (try dsimp only at hSw); go_simp) <;> (with_reducible rfl)
            simp only [List.setIfInBounds_toArray,List.set_cons_zero,List.set_cons_succ]
            refine wpAnyT_take2 (i:=22) (v:=?_) rfl rfl (by kernel_rfl) (by kernel_rfl) (by kernel_rfl) (by kernel_rfl) (fun _ _ _ h=>h) (Or.inl ⟨by rfl, ?_⟩) (by first | assumption | trivial) ?_
            rotate_left
            · (intro w hSw; (try dsimp only at hSw); go_simp) <;> (with_reducible rfl)
            simp only [List.setIfInBounds_toArray,List.set_cons_zero,List.set_cons_succ]
            refine wpAnyT_take2 (i:=23) (v:=?_) rfl rfl (by kernel_rfl) (by kernel_rfl) (by kernel_rfl) (by kernel_rfl) (fun _ _ _ h=>h) (Or.inl ⟨by rfl, ?_⟩) (by first | assumption | trivial) ?_
            rotate_left
            · (intro w hSw; (try dsimp only at hSw); go_simp) <;> (with_reducible rfl)
            simp only [List.setIfInBounds_toArray,List.set_cons_zero,List.set_cons_succ]
            refine wpAnyT_take2 (i:=24) (v:=?_) rfl rfl (by kernel_rfl) (by kernel_rfl) (by kernel_rfl) (by kernel_rfl) (fun _ _ _ h=>h) (Or.inl ⟨by rfl, ?_⟩) (by first | assumption | trivial) ?_
            rotate_left
            · (intro w hSw; (try dsimp only at hSw); go_simp) <;> (with_reducible rfl)
            simp only [List.setIfInBounds_toArray,List.set_cons_zero,List.set_cons_succ]
            refine wpAnyT_take2 (i:=25) (v:=?_) rfl rfl (by kernel_rfl) (by kernel_rfl) (by kernel_rfl) (by kernel_rfl) (fun _ _ _ h=>h) (Or.inl ⟨by rfl, ?_⟩) (by first | assumption | trivial) ?_
            rotate_left
            · (intro w hSw; (try dsimp only at hSw); go_simp) <;> (with_reducible rfl)
            simp only [List.setIfInBounds_toArray,List.set_cons_zero,List.set_cons_succ]
            refine wpAnyT_take2 (i:=26) (v:=?_) rfl rfl (by kernel_rfl) (by kernel_rfl) (by kernel_rfl) (by kernel_rfl) (fun _ _ _ h=>h) (Or.inl ⟨by rfl, ?_⟩) (by first | assumption | trivial) ?_
            rotate_left
            · (intro w hSw; (try dsimp only at hSw); go_simp) <;> (with_reducible rfl)
            simp only [List.setIfInBounds_toArray,List.set_cons_zero,List.set_cons_succ]
            refine wpAnyT_take2 (i:=27) (v:=?_) rfl rfl (by kernel_rfl) (by kernel_rfl) (by kernel_rfl) (by kernel_rfl) (fun _ _ _ h=>h) (Or.inl ⟨by rfl, ?_⟩) (by first | assumption | trivial) ?_
            rotate_left
            · (intro w hSw; (try dsimp only at hSw); go_simp) <;> (with_reducible rfl)
            simp only [List.setIfInBounds_toArray,List.set_cons_zero,List.set_cons_succ]
            refine wpAnyT_take2 (i:=28) (v:=?_) rfl rfl (by kernel_rfl) (by kernel_rfl) (by kernel_rfl) (by kernel_rfl) (fun _ _ _ h=>h) (Or.inl ⟨by rfl, ?_⟩) (by first | assumption | trivial) ?_
            rotate_left
            · (intro w hSw; (try dsimp only at hSw); go_simp) <;> (with_reducible rfl)
            simp only [List.setIfInBounds_toArray,List.set_cons_zero,List.set_cons_succ]
            refine wpAnyT_take2 (i:=29) (v:=?_) rfl rfl (by kernel_rfl) (by kernel_rfl) (by kernel_rfl) (by kernel_rfl) (fun _ _ _ h=>h) (Or.inl ⟨by rfl, ?_⟩) (by first | assumption | trivial) ?_
            rotate_left
            · (intro w hSw; (try dsimp only at hSw); go_simp) <;> (with_reducible rfl)
            simp only [List.setIfInBounds_toArray,List.set_cons_zero,List.set_cons_succ]
            refine wpAnyT_take2 (i:=30) (v:=.bool false) rfl rfl (by kernel_rfl) (by kernel_rfl) (by kernel_rfl) (by kernel_rfl) (fun _ _ _ h=>h) (Or.inl ⟨by rfl, ?_⟩) (by first | assumption | trivial) ?_
            · (intro w hSw; (try dsimp only at hSw); go_simp) <;> (first | (with_reducible rfl) | assumption | (simp; done) | (simp [*]; done) | (simp; omega))
            simp only [List.setIfInBounds_toArray,List.set_cons_zero,List.set_cons_succ]
            refine wpAnyT_take2 (i:=31) (v:=?_) rfl rfl (by kernel_rfl) (by kernel_rfl) (by kernel_rfl) (by kernel_rfl) (fun _ _ _ h=>h) (Or.inl ⟨by rfl, ?_⟩) (by first | assumption | trivial) ?_
            rotate_left
            · (intro w hSw; (try dsimp only at hSw); go_simp) <;> (with_reducible rfl)
            simp only [List.setIfInBounds_toArray,List.set_cons_zero,List.set_cons_succ]
            refine wpAnyT_done (by kernel_rfl) ?_ _
            rw [← HRA.out]
            clear hHeld q0 q1 q2 hn1 hn2 y0 y1 y2 y3 yf yz
            have HUc:=Lib.hid HUb.out.drew
            have HYc : Hid (Blk wb.drew ge 44 #[.int .i64 (fm : Nat),.int .i64 (tm : Nat),.int .i64 xn,.int .i64 (vm : Nat)]):=Lib.hid HYb.out.drew
            clear HUb HYb HBb
            generalize wb.drew=wc at *
            go_wp2_with fail
            have HOc:=Lib.hid (HO2.out.below HUc.out)
            obtain ⟨g',hg',_,_,_,_,c2,_⟩:=own_edge HOc.out HEA.out
            obtain ⟨g'',hg'',_,_,_,_,d2,_⟩:=own_edge HOc.out HEB.out
            have e1 : gE=g':=by simpa using hg'
            have e2 : gE=g'':=by simpa using hg''
            subst e1 e2
            have x1:=(HX.out.later HUc.out).cell 1
            have y2:=HYc.out.cell 2
            obtain ⟨af,at_,an,av⟩:=a
            obtain ⟨bf,bt,bn,bv⟩:=b
            simp only at c2 d2 hba hbb hab
            have hwr : IntKind.i64.wrap (an+bn)=xn:=by rw [IntKind.wrap_i64]; omega
            have hka' : (ka : Int)<(EL : Int):=by omega
            have hkb' : (kb : Int)<(EL : Int):=by omega
            clear hg' hg'' hba hbb hab
            refine wp_region_T (fun W=>W.cell? ⟨g1,1,none⟩=some (.slice (some ⟨gE,0,none⟩) EL Ec)∧W.cell? ⟨gE,ka * 4+2,none⟩=some (.int .i64 an)∧W.cell? ⟨gE,kb * 4+2,none⟩=some (.int .i64 bn)∧W.cell? ⟨ge,2,none⟩=some (.int .i64 xn)) (fun _=>false) (by kernel_rfl) ⟨x1,c2,d2,y2⟩ (fun hHeld=>?_)
            refine wpAnyT_take2 (i:=0) (v:=?_) rfl rfl (by kernel_rfl) (by kernel_rfl) (by kernel_rfl) (by kernel_rfl) (fun _ _ _ h=>h) (Or.inl ⟨by rfl, ?_⟩) (by first | assumption | trivial) ?_
            rotate_left
            · (intro w hSw; (try dsimp only at hSw); go_simp) <;> (with_reducible rfl)
            simp only [List.setIfInBounds_toArray,List.set_cons_zero,List.set_cons_succ]
            refine wpAnyT_take2 (i:=1) (v:=?_) rfl rfl (by kernel_rfl) (by kernel_rfl) (by kernel_rfl) (by kernel_rfl) (fun _ _ _ h=>h) (Or.inl ⟨by rfl, ?_⟩) (by first | assumption | trivial) ?_
            rotate_left
            · (intro w hSw; (try dsimp only at hSw); go_simp) <;> (with_reducible rfl)
            simp only [List.setIfInBounds_toArray,List.set_cons_zero,List.set_cons_succ]
            refine wpAnyT_take2 (i:=2) (v:=?_) rfl rfl (by kernel_rfl) (by kernel_rfl) (by kernel_rfl) (by kernel_rfl) (fun _ _ _ h=>h) (Or.inl ⟨by rfl, ?_⟩) (by first | assumption | trivial) ?_
            rotate_left
            · (intro w hSw; (try dsimp only at hSw); go_simp) <;> (with_reducible rfl)
            simp only [List.setIfInBounds_toArray,List.set_cons_zero,List.set_cons_succ]
            refine wpAnyT_take2 (i:=3) (v:=?_) rfl rfl (by kernel_rfl) (by kernel_rfl) (by kernel_rfl) (by kernel_rfl) (fun _ _ _ h=>h) (Or.inl ⟨by rfl, ?_⟩) (by first | assumption | trivial) ?_
            rotate_left
            · (intro w hSw; (try dsimp only at hSw); go_simp) <;> (with_reducible rfl)
            simp only [List.setIfInBounds_toArray,List.set_cons_zero,List.set_cons_succ]
            refine wpAnyT_take2 (i:=4) (v:=?_) rfl rfl (by kernel_rfl) (by kernel_rfl) (by kernel_rfl) (by kernel_rfl) (fun _ _ _ h=>h) (Or.inl ⟨by rfl, ?_⟩) (by first | assumption | trivial) ?_
            rotate_left
            · (intro w hSw; (try dsimp only at hSw); go_simp) <;> (with_reducible rfl)
            simp only [List.setIfInBounds_toArray,List.set_cons_zero,List.set_cons_succ]
            refine wpAnyT_take2 (i:=5) (v:=?_) rfl rfl (by kernel_rfl) (by kernel_rfl) (by kernel_rfl) (by kernel_rfl) (fun _ _ _ h=>h) (Or.inl ⟨by rfl, ?_⟩) (by first | assumption | trivial) ?_
            rotate_left
            · (intro w hSw; (try dsimp only at hSw); go_simp) <;> (with_reducible rfl)
            simp only [List.setIfInBounds_toArray,List.set_cons_zero,List.set_cons_succ]
            refine wpAnyT_take2 (i:=6) (v:=?_) rfl rfl (by kernel_rfl) (by kernel_rfl) (by kernel_rfl) (by kernel_rfl) (fun _ _ _ h=>h) (Or.inl ⟨by rfl, ?_⟩) (by first | assumption | trivial) ?_
            rotate_left
            · (intro w hSw; (try dsimp only at hSw); go_simp) <;> (with_reducible rfl)
            simp only [List.setIfInBounds_toArray,List.set_cons_zero,List.set_cons_succ]
            refine wpAnyT_take2 (i:=7) (v:=?_) rfl rfl (by kernel_rfl) (by kernel_rfl) (by kernel_rfl) (by kernel_rfl) (fun _ _ _ h=>h) (Or.inl ⟨by rfl, ?_⟩) (by first | assumption | trivial) ?_
            rotate_left
            · (intro w hSw; (try dsimp only at hSw); go_simp) <;> (with_reducible rfl)
            simp only [List.setIfInBounds_toArray,List.set_cons_zero,List.set_cons_succ]
            refine wpAnyT_take2 (i:=8) (v:=?_) rfl rfl (by kernel_rfl) (by kernel_rfl) (by kernel_rfl) (by kernel_rfl) (fun _ _ _ h=>h) (Or.inl ⟨by rfl, ?_⟩) (by first | assumption | trivial) ?_
            rotate_left
            · (intro w hSw; (try dsimp only at hSw); go_simp) <;> (with_reducible rfl)
            simp only [List.setIfInBounds_toArray,List.set_cons_zero,List.set_cons_succ]
            refine wpAnyT_take2 (i:=9) (v:=?_) rfl rfl (by kernel_rfl) (by kernel_rfl) (by kernel_rfl) (by kernel_rfl) (fun _ _ _ h=>h) (Or.inl ⟨by rfl, ?_⟩) (by first | assumption | trivial) ?_
            rotate_left
            · (intro w hSw; (try dsimp only at hSw); go_simp) <;> (with_reducible rfl)
            simp only [List.setIfInBounds_toArray,List.set_cons_zero,List.set_cons_succ]
            refine wpAnyT_take2 (i:=10) (v:=?_) rfl rfl (by kernel_rfl) (by kernel_rfl) (by kernel_rfl) (by kernel_rfl) (fun _ _ _ h=>h) (Or.inl ⟨by rfl, ?_⟩) (by first | assumption | trivial) ?_
            rotate_left
            · (intro w hSw; (try dsimp only at hSw); go_simp) <;> (with_reducible rfl)
            simp only [List.setIfInBounds_toArray,List.set_cons_zero,List.set_cons_succ]
            refine wpAnyT_take2 (i:=11) (v:=?_) rfl rfl (by kernel_rfl) (by kernel_rfl) (by kernel_rfl) (by kernel_rfl) (fun _ _ _ h=>h) (Or.inl ⟨by rfl, ?_⟩) (by first | assumption | trivial) ?_
            rotate_left
            · (intro w hSw; (try dsimp only at hSw); go_simp) <;> (with_reducible rfl)
            simp only [List.setIfInBounds_toArray,List.set_cons_zero,List.set_cons_succ]
            refine wpAnyT_take2 (i:=12) (v:=.int .i64 xn) rfl rfl (by kernel_rfl) (by kernel_rfl) (by kernel_rfl) (by kernel_rfl) (fun _ _ _ h=>h) (Or.inl ⟨by rfl, ?_⟩) (by first | assumption | trivial) ?_
            · (intro w hSw; (try dsimp only at hSw); go_simp) <;> (first | (with_reducible rfl) | assumption | (simp; done) | (simp [*]; done) | (simp; omega))
            simp only [List.setIfInBounds_toArray,List.set_cons_zero,List.set_cons_succ]
            refine wpAnyT_take2 (i:=13) (v:=?_) rfl rfl (by kernel_rfl) (by kernel_rfl) (by kernel_rfl) (by kernel_rfl) (fun _ _ _ h=>h) (Or.inl ⟨by rfl, ?_⟩) (by first | assumption | trivial) ?_
            rotate_left
            · (intro w hSw; (try dsimp only at hSw); go_simp) <;> (with_reducible rfl)
            simp only [List.setIfInBounds_toArray,List.set_cons_zero,List.set_cons_succ]
            refine wpAnyT_take2 (i:=14) (v:=?_) rfl rfl (by kernel_rfl) (by kernel_rfl) (by kernel_rfl) (by kernel_rfl) (fun _ _ _ h=>h) (Or.inl ⟨by rfl, ?_⟩) (by first | assumption | trivial) ?_
            rotate_left
            · (intro w hSw; (try dsimp only at hSw); go_simp) <;> (with_reducible rfl)
            simp only [List.setIfInBounds_toArray,List.set_cons_zero,List.set_cons_succ]
            refine wpAnyT_take2 (i:=15) (v:=.bool false) rfl rfl (by kernel_rfl) (by kernel_rfl) (by kernel_rfl) (by kernel_rfl) (fun _ _ _ h=>h) (Or.inl ⟨by rfl, ?_⟩) (by first | assumption | trivial) ?_
            · (intro w hSw; (try dsimp only at hSw); go_simp) <;> (first | (with_reducible rfl) | assumption | (simp; done) | (simp [*]; done) | (simp; omega))
            simp only [List.setIfInBounds_toArray,List.set_cons_zero,List.set_cons_succ]
            refine wpAnyT_done (by kernel_rfl) ?_ _
            clear hHeld x1 c2 d2 y2
            have HUd:=Lib.hid HUc.out.drew
            go_wp2_with fail
            go_roundw
            case rel=>exact ⟨i+1,by omega,by go_num,HUd⟩
            case measure=>simp [intOf]; omega
        · have hie : EL=i:=by omega
          subst hie
          have hil' : ¬ (EL : Int)<(EL : Int):=by omega
          go_wp2_with fail
          clear x0 x1 xf' xz
          obtain ⟨EN,hEN⟩ : ∃ x,es.l.length=x:=⟨_,rfl⟩
          have HEN:=Lib.hid hEN
          go_loopw [15] (fun Y wr=>∃ (k : Nat),k≤es.l.length∧Y = .int .i64 k∧Hid (Below w7.heap.size w7 wr)) (fun Y _=>es.l.length - (intOf Y).toNat)
          case atStart=>exact ⟨0,by omega,rfl,HU⟩
          case round =>
            clear HU HXu
            obtain ⟨k,hk,rfl,HU⟩:=hrel
            by_cases hke : k<es.l.length
            · have hke' : (k : Int)<(es.l.length : Int):=by omega
              have HBu:=Lib.hid (HB.out.trans (HU.out.mono HB.out.size))
              obtain ⟨b,o,hA,hb,hcl⟩:=(HE.out.later HBu.out (Nat.le_refl _)).at1 hke
              have hEA : Hid (es.A=some ⟨b,o,none⟩):=Lib.hid hA
              have hm:=List.getElem_mem hke
              have hhas:=HH.out.h.inv.has _ hm
              generalize es.l[k]=e at *
              obtain ⟨xf,xt,xn,xv⟩:=e
              simp only at hhas
              obtain ⟨c0,c1,c2,c3⟩:=Cells.c4 hcl
              have x1:=(HX.out.later HU.out).cell 1
              have HDD:=Lib.hid HU.out.drew
              clear hb hcl hA hm c2 c3 hEN
              by_cases hft : xf=xt
              · subst hft
                clear hhas
                go_wp2_with fail
                rw [hEA.out]
                refine wp_region_T (fun W=>W.cell? ⟨b,o+k * 4,none⟩=some (.int .i64 xf)∧W.cell? ⟨b,o+k * 4+1,none⟩=some (.int .i64 xf)) (fun _=>false) (by kernel_rfl) ⟨c0,c1⟩ (fun hHeld=>?_)
                refine wpAnyT_take2 (i:=0) (v:=?_) rfl rfl (by kernel_rfl) (by kernel_rfl) (by kernel_rfl) (by kernel_rfl) (fun _ _ _ h=>h) (Or.inl ⟨by rfl, ?_⟩) (by first | assumption | trivial) ?_
                rotate_left
                · (intro w hSw; (try dsimp only at hSw); go_simp) <;> (with_reducible rfl)
                simp only [List.setIfInBounds_toArray,List.set_cons_zero,List.set_cons_succ]
                refine wpAnyT_take2 (i:=1) (v:=?_) rfl rfl (by kernel_rfl) (by kernel_rfl) (by kernel_rfl) (by kernel_rfl) (fun _ _ _ h=>h) (Or.inl ⟨by rfl, ?_⟩) (by first | assumption | trivial) ?_
                rotate_left
                · (intro w hSw; (try dsimp only at hSw); go_simp) <;> (with_reducible rfl)
                simp only [List.setIfInBounds_toArray,List.set_cons_zero,List.set_cons_succ]
                refine wpAnyT_take2 (i:=2) (v:=?_) rfl rfl (by kernel_rfl) (by kernel_rfl) (by kernel_rfl) (by kernel_rfl) (fun _ _ _ h=>h) (Or.inl ⟨by rfl, ?_⟩) (by first | assumption | trivial) ?_
                rotate_left
                · (intro w hSw; (try dsimp only at hSw); go_simp) <;> (with_reducible rfl)
                simp only [List.setIfInBounds_toArray,List.set_cons_zero,List.set_cons_succ]
                refine wpAnyT_take2 (i:=3) (v:=?_) rfl rfl (by kernel_rfl) (by kernel_rfl) (by kernel_rfl) (by kernel_rfl) (fun _ _ _ h=>h) (Or.inl ⟨by rfl, ?_⟩) (by first | assumption | trivial) ?_
                rotate_left
                · (intro w hSw; (try dsimp only at hSw); go_simp) <;> (with_reducible rfl)
                simp only [List.setIfInBounds_toArray,List.set_cons_zero,List.set_cons_succ]
                refine wpAnyT_take2 (i:=4) (v:=?_) rfl rfl (by kernel_rfl) (by kernel_rfl) (by kernel_rfl) (by kernel_rfl) (fun _ _ _ h=>h) (Or.inl ⟨by rfl, ?_⟩) (by first | assumption | trivial) ?_
                rotate_left
                · (intro w hSw; (try dsimp only at hSw); go_simp) <;> (with_reducible rfl)
                simp only [List.setIfInBounds_toArray,List.set_cons_zero,List.set_cons_succ]
                refine wpAnyT_take2 (i:=5) (v:=?_) rfl rfl (by kernel_rfl) (by kernel_rfl) (by kernel_rfl) (by kernel_rfl) (fun _ _ _ h=>h) (Or.inl ⟨by rfl, ?_⟩) (by first | assumption | trivial) ?_
                rotate_left
                · (intro w hSw; (try dsimp only at hSw); go_simp) <;> (with_reducible rfl)
                simp only [List.setIfInBounds_toArray,List.set_cons_zero,List.set_cons_succ]
                refine wpAnyT_take2 (i:=6) (v:=?_) rfl rfl (by kernel_rfl) (by kernel_rfl) (by kernel_rfl) (by kernel_rfl) (fun _ _ _ h=>h) (Or.inl ⟨by rfl, ?_⟩) (by first | assumption | trivial) ?_
                rotate_left
                · (intro w hSw; (try dsimp only at hSw); go_simp) <;> (with_reducible rfl)
                simp only [List.setIfInBounds_toArray,List.set_cons_zero,List.set_cons_succ]
                refine wpAnyT_take2 (i:=7) (v:=?_) rfl rfl (by kernel_rfl) (by kernel_rfl) (by kernel_rfl) (by kernel_rfl) (fun _ _ _ h=>h) (Or.inl ⟨by rfl, ?_⟩) (by first | assumption | trivial) ?_
                rotate_left
                · (intro w hSw; (try dsimp only at hSw); go_simp) <;> (with_reducible rfl)
                simp only [List.setIfInBounds_toArray,List.set_cons_zero,List.set_cons_succ]
                refine wpAnyT_take2 (i:=8) (v:=?_) rfl rfl (by kernel_rfl) (by kernel_rfl) (by kernel_rfl) (by kernel_rfl) (fun _ _ _ h=>h) (Or.inl ⟨by rfl, ?_⟩) (by first | assumption | trivial) ?_
                rotate_left
                · (intro w hSw; (try dsimp only at hSw); go_simp) <;> (with_reducible rfl)
                simp only [List.setIfInBounds_toArray,List.set_cons_zero,List.set_cons_succ]
                refine wpAnyT_take2 (i:=9) (v:=?_) rfl rfl (by kernel_rfl) (by kernel_rfl) (by kernel_rfl) (by kernel_rfl) (fun _ _ _ h=>h) (Or.inl ⟨by rfl, ?_⟩) (by first | assumption | trivial) ?_
                rotate_left
                · (intro w hSw; (try dsimp only at hSw); go_simp) <;> (with_reducible rfl)
                simp only [List.setIfInBounds_toArray,List.set_cons_zero,List.set_cons_succ]
                refine wpAnyT_take2 (i:=10) (v:=.bool false) rfl rfl (by kernel_rfl) (by kernel_rfl) (by kernel_rfl) (by kernel_rfl) (fun _ _ _ h=>h) (Or.inl ⟨by rfl, ?_⟩) (by first | assumption | trivial) ?_
                · (intro w hSw; (try dsimp only at hSw); go_simp) <;> (first | (with_reducible rfl) | assumption | (simp; done) | (simp [*]; done) | (simp; omega))
                simp only [List.setIfInBounds_toArray,List.set_cons_zero,List.set_cons_succ]
                refine wpAnyT_take2 (i:=11) (v:=?_) rfl rfl (by kernel_rfl) (by kernel_rfl) (by kernel_rfl) (by kernel_rfl) (fun _ _ _ h=>h) (Or.inl ⟨by rfl, ?_⟩) (by first | assumption | trivial) ?_
                rotate_left
                · (intro w hSw; (try dsimp only at hSw); go_simp) <;> (with_reducible rfl)
                simp only [List.setIfInBounds_toArray,List.set_cons_zero,List.set_cons_succ]
                refine wpAnyT_take2 (i:=12) (v:=undef) rfl rfl (by kernel_rfl) (by kernel_rfl) (by kernel_rfl) (by kernel_rfl) (fun _ _ _ h=>h) (Or.inr ⟨by rfl,rfl⟩) (by first | assumption | trivial) ?_
                simp only [List.setIfInBounds_toArray,List.set_cons_zero,List.set_cons_succ]
                refine wpAnyT_take2 (i:=13) (v:=undef) rfl rfl (by kernel_rfl) (by kernel_rfl) (by kernel_rfl) (by kernel_rfl) (fun _ _ _ h=>h) (Or.inr ⟨by rfl,rfl⟩) (by first | assumption | trivial) ?_
                simp only [List.setIfInBounds_toArray,List.set_cons_zero,List.set_cons_succ]
                refine wpAnyT_take2 (i:=14) (v:=undef) rfl rfl (by kernel_rfl) (by kernel_rfl) (by kernel_rfl) (by kernel_rfl) (fun _ _ _ h=>h) (Or.inr ⟨by rfl,rfl⟩) (by first | assumption | trivial) ?_
                simp only [List.setIfInBounds_toArray,List.set_cons_zero,List.set_cons_succ]
                refine wpAnyT_take2 (i:=15) (v:=undef) rfl rfl (by kernel_rfl) (by kernel_rfl) (by kernel_rfl) (by kernel_rfl) (fun _ _ _ h=>h) (Or.inr ⟨by rfl,rfl⟩) (by first | assumption | trivial) ?_
                simp only [List.setIfInBounds_toArray,List.set_cons_zero,List.set_cons_succ]
                refine wpAnyT_take2 (i:=16) (v:=undef) rfl rfl (by kernel_rfl) (by kernel_rfl) (by kernel_rfl) (by kernel_rfl) (fun _ _ _ h=>h) (Or.inr ⟨by rfl,rfl⟩) (by first | assumption | trivial) ?_
                simp only [List.setIfInBounds_toArray,List.set_cons_zero,List.set_cons_succ]
                refine wpAnyT_take2 (i:=17) (v:=undef) rfl rfl (by kernel_rfl) (by kernel_rfl) (by kernel_rfl) (by kernel_rfl) (fun _ _ _ h=>h) (Or.inr ⟨by rfl,rfl⟩) (by first | assumption | trivial) ?_
                simp only [List.setIfInBounds_toArray,List.set_cons_zero,List.set_cons_succ]
                refine wpAnyT_take2 (i:=18) (v:=undef) rfl rfl (by kernel_rfl) (by kernel_rfl) (by kernel_rfl) (by kernel_rfl) (fun _ _ _ h=>h) (Or.inr ⟨by rfl,rfl⟩) (by first | assumption | trivial) ?_
                simp only [List.setIfInBounds_toArray,List.set_cons_zero,List.set_cons_succ]
                refine wpAnyT_take2 (i:=19) (v:=undef) rfl rfl (by kernel_rfl) (by kernel_rfl) (by kernel_rfl) (by kernel_rfl) (fun _ _ _ h=>h) (Or.inr ⟨by rfl,rfl⟩) (by first | assumption | trivial) ?_
                simp only [List.setIfInBounds_toArray,List.set_cons_zero,List.set_cons_succ]
                refine wpAnyT_take2 (i:=20) (v:=undef) rfl rfl (by kernel_rfl) (by kernel_rfl) (by kernel_rfl) (by kernel_rfl) (fun _ _ _ h=>h) (Or.inr ⟨by rfl,rfl⟩) (by first | assumption | trivial) ?_
                simp only [List.setIfInBounds_toArray,List.set_cons_zero,List.set_cons_succ]
                refine wpAnyT_take2 (i:=21) (v:=undef) rfl rfl (by kernel_rfl) (by kernel_rfl) (by kernel_rfl) (by kernel_rfl) (fun _ _ _ h=>h) (Or.inr ⟨by rfl,rfl⟩) (by first | assumption | trivial) ?_
                simp only [List.setIfInBounds_toArray,List.set_cons_zero,List.set_cons_succ]
                refine wpAnyT_take2 (i:=22) (v:=undef) rfl rfl (by kernel_rfl) (by kernel_rfl) (by kernel_rfl) (by kernel_rfl) (fun _ _ _ h=>h) (Or.inr ⟨by rfl,rfl⟩) (by first | assumption | trivial) ?_
                simp only [List.setIfInBounds_toArray,List.set_cons_zero,List.set_cons_succ]
                refine wpAnyT_take2 (i:=23) (v:=undef) rfl rfl (by kernel_rfl) (by kernel_rfl) (by kernel_rfl) (by kernel_rfl) (fun _ _ _ h=>h) (Or.inr ⟨by rfl,rfl⟩) (by first | assumption | trivial) ?_
                simp only [List.setIfInBounds_toArray,List.set_cons_zero,List.set_cons_succ]
                refine wpAnyT_take2 (i:=24) (v:=undef) rfl rfl (by kernel_rfl) (by kernel_rfl) (by kernel_rfl) (by kernel_rfl) (fun _ _ _ h=>h) (Or.inr ⟨by rfl,rfl⟩) (by first | assumption | trivial) ?_
                simp only [List.setIfInBounds_toArray,List.set_cons_zero,List.set_cons_succ]
                refine wpAnyT_take2 (i:=25) (v:=undef) rfl rfl (by kernel_rfl) (by kernel_rfl) (by kernel_rfl) (by kernel_rfl) (fun _ _ _ h=>h) (Or.inr ⟨by rfl,rfl⟩) (by first | assumption | trivial) ?_
                simp only [List.setIfInBounds_toArray,List.set_cons_zero,List.set_cons_succ]
                refine wpAnyT_take2 (i:=26) (v:=?_) rfl rfl (by kernel_rfl) (by kernel_rfl) (by kernel_rfl) (by kernel_rfl) (fun _ _ _ h=>h) (Or.inl ⟨by rfl, ?_⟩) (by first | assumption | trivial) ?_
                rotate_left
                · (intro w hSw; (try dsimp only at hSw); go_simp) <;> (with_reducible rfl)
                simp only [List.setIfInBounds_toArray,List.set_cons_zero,List.set_cons_succ]
                refine wpAnyT_done (by kernel_rfl) ?_ _
                rw [← hEA.out]
                clear hHeld c0 c1 x1
                go_wp2_with fail
                go_roundw
                case rel=>exact ⟨k+1,by omega,by go_num,HDD⟩
                case measure=>simp [intOf]; omega
              · obtain ⟨y,hy,_⟩:=hhas hft
                obtain ⟨ka,hka,hea⟩:=at_some hy
                have hc1:=r13_At ⟨EA,Ec,E3⟩ xf xt wr.drew ((Own.rd ED.k (HO2.out.below HDD.out)).mono fun b hb=>hb.2)
                simp only [HEL.out] at hc1
                rw [hka] at hc1
                have HC1:=Lib.hid hc1
                have hftb : (xf != xt)=true:=by simpa using hft
                have hftn : ¬ xf=xt:=hft
                have hk0 : ¬ ((ka : Nat) : Int)<0:=by omega
                clear hc1 hka hea hy hft
                go_wp2_with fail
                rw [hEA.out]
                refine wp_region_T (fun W=>W.cell? ⟨b,o+k * 4,none⟩=some (.int .i64 xf)∧W.cell? ⟨b,o+k * 4+1,none⟩=some (.int .i64 xt)∧W.cell? ⟨g1,1,none⟩=some (.slice EA EL Ec)) (fun _=>false) (by kernel_rfl) ⟨c0,c1,x1⟩ (fun hHeld=>?_)
                refine wpAnyT_take2 (i:=0) (v:=?_) rfl rfl (by kernel_rfl) (by kernel_rfl) (by kernel_rfl) (by kernel_rfl) (fun _ _ _ h=>h) (Or.inl ⟨by rfl, ?_⟩) (by first | assumption | trivial) ?_
                rotate_left
                · (intro w hSw; (try dsimp only at hSw); go_simp) <;> (with_reducible rfl)
                simp only [List.setIfInBounds_toArray,List.set_cons_zero,List.set_cons_succ]
                refine wpAnyT_take2 (i:=1) (v:=?_) rfl rfl (by kernel_rfl) (by kernel_rfl) (by kernel_rfl) (by kernel_rfl) (fun _ _ _ h=>h) (Or.inl ⟨by rfl, ?_⟩) (by first | assumption | trivial) ?_
                rotate_left
                · (intro w hSw; (try dsimp only at hSw); go_simp) <;> (with_reducible rfl)
                simp only [List.setIfInBounds_toArray,List.set_cons_zero,List.set_cons_succ]
                refine wpAnyT_take2 (i:=2) (v:=?_) rfl rfl (by kernel_rfl) (by kernel_rfl) (by kernel_rfl) (by kernel_rfl) (fun _ _ _ h=>h) (Or.inl ⟨by rfl, ?_⟩) (by first | assumption | trivial) ?_
                rotate_left
                · (intro w hSw; (try dsimp only at hSw); go_simp) <;> (with_reducible rfl)
                simp only [List.setIfInBounds_toArray,List.set_cons_zero,List.set_cons_succ]
                refine wpAnyT_take2 (i:=3) (v:=?_) rfl rfl (by kernel_rfl) (by kernel_rfl) (by kernel_rfl) (by kernel_rfl) (fun _ _ _ h=>h) (Or.inl ⟨by rfl, ?_⟩) (by first | assumption | trivial) ?_
                rotate_left
                · (intro w hSw; (try dsimp only at hSw); go_simp) <;> (with_reducible rfl)
                simp only [List.setIfInBounds_toArray,List.set_cons_zero,List.set_cons_succ]
                refine wpAnyT_take2 (i:=4) (v:=?_) rfl rfl (by kernel_rfl) (by kernel_rfl) (by kernel_rfl) (by kernel_rfl) (fun _ _ _ h=>h) (Or.inl ⟨by rfl, ?_⟩) (by first | assumption | trivial) ?_
                rotate_left
                · (intro w hSw; (try dsimp only at hSw); go_simp) <;> (with_reducible rfl)
                simp only [List.setIfInBounds_toArray,List.set_cons_zero,List.set_cons_succ]
                refine wpAnyT_take2 (i:=5) (v:=?_) rfl rfl (by kernel_rfl) (by kernel_rfl) (by kernel_rfl) (by kernel_rfl) (fun _ _ _ h=>h) (Or.inl ⟨by rfl, ?_⟩) (by first | assumption | trivial) ?_
                rotate_left
                · (intro w hSw; (try dsimp only at hSw); go_simp) <;> (with_reducible rfl)
                simp only [List.setIfInBounds_toArray,List.set_cons_zero,List.set_cons_succ]
                refine wpAnyT_take2 (i:=6) (v:=?_) rfl rfl (by kernel_rfl) (by kernel_rfl) (by kernel_rfl) (by kernel_rfl) (fun _ _ _ h=>h) (Or.inl ⟨by rfl, ?_⟩) (by first | assumption | trivial) ?_
                rotate_left
                · (intro w hSw; (try dsimp only at hSw); go_simp) <;> (with_reducible rfl)
                simp only [List.setIfInBounds_toArray,List.set_cons_zero,List.set_cons_succ]
                refine wpAnyT_take2 (i:=7) (v:=?_) rfl rfl (by kernel_rfl) (by kernel_rfl) (by kernel_rfl) (by kernel_rfl) (fun _ _ _ h=>h) (Or.inl ⟨by rfl, ?_⟩) (by first | assumption | trivial) ?_
                rotate_left
                · (intro w hSw; (try dsimp only at hSw); go_simp) <;> (with_reducible rfl)
                simp only [List.setIfInBounds_toArray,List.set_cons_zero,List.set_cons_succ]
                refine wpAnyT_take2 (i:=8) (v:=?_) rfl rfl (by kernel_rfl) (by kernel_rfl) (by kernel_rfl) (by kernel_rfl) (fun _ _ _ h=>h) (Or.inl ⟨by rfl, ?_⟩) (by first | assumption | trivial) ?_
                rotate_left
                · (intro w hSw; (try dsimp only at hSw); go_simp) <;> (with_reducible rfl)
                simp only [List.setIfInBounds_toArray,List.set_cons_zero,List.set_cons_succ]
                refine wpAnyT_take2 (i:=9) (v:=?_) rfl rfl (by kernel_rfl) (by kernel_rfl) (by kernel_rfl) (by kernel_rfl) (fun _ _ _ h=>h) (Or.inl ⟨by rfl, ?_⟩) (by first | assumption | trivial) ?_
                rotate_left
                · (intro w hSw; (try dsimp only at hSw); go_simp) <;> (with_reducible rfl)
                simp only [List.setIfInBounds_toArray,List.set_cons_zero,List.set_cons_succ]
                refine wpAnyT_take2 (i:=10) (v:=.bool true) rfl rfl (by kernel_rfl) (by kernel_rfl) (by kernel_rfl) (by kernel_rfl) (fun _ _ _ h=>h) (Or.inl ⟨by rfl, ?_⟩) (by first | assumption | trivial) ?_
                · (intro w hSw; (try dsimp only at hSw); go_simp) <;> (first | (with_reducible rfl) | assumption | (simp; done) | (simp [*]; done) | (simp; omega))
                simp only [List.setIfInBounds_toArray,List.set_cons_zero,List.set_cons_succ]
                refine wpAnyT_take2 (i:=11) (v:=?_) rfl rfl (by kernel_rfl) (by kernel_rfl) (by kernel_rfl) (by kernel_rfl) (fun _ _ _ h=>h) (Or.inl ⟨by rfl, ?_⟩) (by first | assumption | trivial) ?_
                rotate_left
                · (intro w hSw; (try dsimp only at hSw); go_simp) <;> (with_reducible rfl)
                simp only [List.setIfInBounds_toArray,List.set_cons_zero,List.set_cons_succ]
                refine wpAnyT_take2 (i:=12) (v:=?_) rfl rfl (by kernel_rfl) (by kernel_rfl) (by kernel_rfl) (by kernel_rfl) (fun _ _ _ h=>h) (Or.inl ⟨by rfl, ?_⟩) (by first | assumption | trivial) ?_
                rotate_left
                · (intro w hSw; (try dsimp only at hSw); go_simp) <;> (with_reducible rfl)
                simp only [List.setIfInBounds_toArray,List.set_cons_zero,List.set_cons_succ]
                refine wpAnyT_take2 (i:=13) (v:=?_) rfl rfl (by kernel_rfl) (by kernel_rfl) (by kernel_rfl) (by kernel_rfl) (fun _ _ _ h=>h) (Or.inl ⟨by rfl, ?_⟩) (by first | assumption | trivial) ?_
                rotate_left
                · (intro w hSw; (try dsimp only at hSw); go_simp) <;> (with_reducible rfl)
                simp only [List.setIfInBounds_toArray,List.set_cons_zero,List.set_cons_succ]
                refine wpAnyT_take2 (i:=14) (v:=?_) rfl rfl (by kernel_rfl) (by kernel_rfl) (by kernel_rfl) (by kernel_rfl) (fun _ _ _ h=>h) (Or.inl ⟨by rfl, ?_⟩) (by first | assumption | trivial) ?_
                rotate_left
                · (intro w hSw; (try dsimp only at hSw); go_simp) <;> (with_reducible rfl)
                simp only [List.setIfInBounds_toArray,List.set_cons_zero,List.set_cons_succ]
                refine wpAnyT_take2 (i:=15) (v:=?_) rfl rfl (by kernel_rfl) (by kernel_rfl) (by kernel_rfl) (by kernel_rfl) (fun _ _ _ h=>h) (Or.inl ⟨by rfl, ?_⟩) (by first | assumption | trivial) ?_
                rotate_left
                · (intro w hSw; (try dsimp only at hSw); go_simp) <;> (with_reducible rfl)
                simp only [List.setIfInBounds_toArray,List.set_cons_zero,List.set_cons_succ]
                refine wpAnyT_take2 (i:=16) (v:=?_) rfl rfl (by kernel_rfl) (by kernel_rfl) (by kernel_rfl) (by kernel_rfl) (fun _ _ _ h=>h) (Or.inl ⟨by rfl, ?_⟩) (by first | assumption | trivial) ?_
                rotate_left
                · (intro w hSw; (try dsimp only at hSw); go_simp) <;> (with_reducible rfl)
                simp only [List.setIfInBounds_toArray,List.set_cons_zero,List.set_cons_succ]
                refine wpAnyT_take2 (i:=17) (v:=?_) rfl rfl (by kernel_rfl) (by kernel_rfl) (by kernel_rfl) (by kernel_rfl) (fun _ _ _ h=>h) (Or.inl ⟨by rfl, ?_⟩) (by first | assumption | trivial) ?_
                rotate_left
                · (intro w hSw; (try dsimp only at hSw); go_simp) <;> (with_reducible rfl)
                simp only [List.setIfInBounds_toArray,List.set_cons_zero,List.set_cons_succ]
                refine wpAnyT_take2 (i:=18) (v:=?_) rfl rfl (by kernel_rfl) (by kernel_rfl) (by kernel_rfl) (by kernel_rfl) (fun _ _ _ h=>h) (Or.inl ⟨by rfl, ?_⟩) (by first | assumption | trivial) ?_
                rotate_left
                · (intro w hSw; (try dsimp only at hSw); go_simp) <;> (with_reducible rfl)
                simp only [List.setIfInBounds_toArray,List.set_cons_zero,List.set_cons_succ]
                refine wpAnyT_take2 (i:=19) (v:=?_) rfl rfl (by kernel_rfl) (by kernel_rfl) (by kernel_rfl) (by kernel_rfl) (fun _ _ _ h=>h) (Or.inl ⟨by rfl, ?_⟩) (by first | assumption | trivial) ?_
                rotate_left
                · (intro w hSw; (try dsimp only at hSw); go_simp) <;> (with_reducible rfl)
                simp only [List.setIfInBounds_toArray,List.set_cons_zero,List.set_cons_succ]
                refine wpAnyT_take2 (i:=20) (v:=?_) rfl rfl (by kernel_rfl) (by kernel_rfl) (by kernel_rfl) (by kernel_rfl) (fun _ _ _ h=>h) (Or.inl ⟨by rfl, ?_⟩) (by first | assumption | trivial) ?_
                rotate_left
                · (intro w hSw; (try dsimp only at hSw); go_simp) <;> (with_reducible rfl)
                simp only [List.setIfInBounds_toArray,List.set_cons_zero,List.set_cons_succ]
                refine wpAnyT_take2 (i:=21) (v:=?_) rfl rfl (by kernel_rfl) (by kernel_rfl) (by kernel_rfl) (by kernel_rfl) (fun _ _ _ h=>h) (Or.inl ⟨by rfl, ?_⟩) (by first | assumption | trivial) ?_
                rotate_left
                · (intro w hSw; (try dsimp only at hSw); go_simp) <;> (with_reducible rfl)
                simp only [List.setIfInBounds_toArray,List.set_cons_zero,List.set_cons_succ]
                refine wpAnyT_take2 (i:=22) (v:=?_) rfl rfl (by kernel_rfl) (by kernel_rfl) (by kernel_rfl) (by kernel_rfl) (fun _ _ _ h=>h) (Or.inl ⟨by rfl, ?_⟩) (by first | assumption | trivial) ?_
                rotate_left
                · (intro w hSw; (try dsimp only at hSw); go_simp) <;> (with_reducible rfl)
                simp only [List.setIfInBounds_toArray,List.set_cons_zero,List.set_cons_succ]
                refine wpAnyT_take2 (i:=23) (v:=?_) rfl rfl (by kernel_rfl) (by kernel_rfl) (by kernel_rfl) (by kernel_rfl) (fun _ _ _ h=>h) (Or.inl ⟨by rfl, ?_⟩) (by first | assumption | trivial) ?_
                rotate_left
                · (intro w hSw; (try dsimp only at hSw); go_simp) <;> (with_reducible rfl)
                simp only [List.setIfInBounds_toArray,List.set_cons_zero,List.set_cons_succ]
                refine wpAnyT_next (i:=24) (by kernel_rfl) rfl ?_
                go_wp2_with fail
                refine HC1.out.mono ?_
                clear HC1
                rintro r wp ⟨rfl,hb⟩
                have d0:=keep_cell hb hHeld.1
                have d1:=keep_cell hb hHeld.2.1
                have d2:=keep_cell hb hHeld.2.2
                have HUp:=Lib.hid (HDD.out.trans (hb.mono HDD.out.size))
                clear hHeld hb c0 c1 x1 HDD
                go_wp2_with fail
                refine And.intro (by first | exact ⟨d0,d1,d2⟩ | exact fun _=>⟨d0,d1,d2⟩) ?_
                have hHeld:=And.intro d0 (And.intro d1 d2)
                refine wpAnyT_take2 (i:=25) (v:=.bool false) rfl rfl (by kernel_rfl) (by kernel_rfl) (by kernel_rfl) (by kernel_rfl) (fun _ _ _ h=>h) (Or.inl ⟨by rfl, ?_⟩) (by first | assumption | trivial) ?_
                · (intro w hSw; (try dsimp only at hSw); go_simp) <;> (first | (with_reducible rfl) | assumption | (simp; done) | (simp [*]; done) | (simp; omega))
                simp only [List.setIfInBounds_toArray,List.set_cons_zero,List.set_cons_succ]
                refine wpAnyT_take2 (i:=26) (v:=?_) rfl rfl (by kernel_rfl) (by kernel_rfl) (by kernel_rfl) (by kernel_rfl) (fun _ _ _ h=>h) (Or.inl ⟨by rfl, ?_⟩) (by first | assumption | trivial) ?_
                rotate_left
                · (intro w hSw; (try dsimp only at hSw); go_simp) <;> (with_reducible rfl)
                simp only [List.setIfInBounds_toArray,List.set_cons_zero,List.set_cons_succ]
                refine wpAnyT_done (by kernel_rfl) ?_ _
                rw [← hEA.out]
                clear hHeld d0 d1 d2
                go_wp2_with fail
                go_roundw
                case rel=>exact ⟨k+1,by omega,by go_num,HUp⟩
                case measure=>simp [intOf]; omega
            · have hke2 : k=es.l.length:=by omega
              have hke' : ¬ (k : Int)<(es.l.length : Int):=by omega
              have HBe:=Lib.hid (HB.out.trans (HU.out.mono HB.out.size))
              clear hEN
              go_wp2_with fail
              go_ret
              exact ⟨rfl,HBe.out⟩
    · rw [hv3] at ho1 ho2 ⊢
      simp only at ho1 ho2 ⊢
      replace HB:=Lib.hid (HB.out.trans (hb.mono HB.out.size))
      try replace HX:=Lib.hid (HX.out.later hb)
      try replace HO1:=Lib.hid (HO1.out.below hb)
      try replace HO2:=Lib.hid (HO2.out.below hb)
      try replace HT:=Lib.hid (HT.out.later hb)
      clear hb
      go_wp2_with fail
      go_ret
      exact ⟨rfl,HB.out.alloc HB.out.size _⟩
end Go.Proofs.Ytlbihfbeamlacaa
