/- The walk of HierPaths. -/
import Derived.Test.YtlbihfbeamlacaaPathsmxaa
import Derived.Test.YtlbihfbeamlacaaHbxbt
set_option linter.unusedSimpArgs false
set_option linter.unusedVariables false
set_option maxRecDepth 100000
set_option maxHeartbeats 6400000
namespace Go.Proofs.Ytlbihfbeamlacaa
open Go.RowKit
theorem hierpaths (n : Int) (es : Sl ED) (R : Sl Int) (s t : Int) (w : World) (hr : Rd (· < w.heap.size) 4 ED.enc w es) (hR : Rd (· < w.heap.size) 1 ienc w R) :
    Calls Try.prog 5 #[.int .i64 n,.slice es.A es.l.length es.c,.slice R.A R.l.length R.c,.int .i64 s,.int .i64 t] w fun r w'=>r = .returned (.bool true)∧Below w.heap.size w w':=by
  have HE:=Lib.hid hr
  have HR:=Lib.hid hR
  have hl1:=hr.len
  have hl2:=hR.len
  clear hr hR
  go_enter Try.func5,Try.ntmps5
  go_wp2_with fail
  have HB : Hid (Below w.heap.size w w):=Lib.hid (Below.refl _ _)
  refine (law_small w).mono ?_
  rintro r w2 ⟨rfl,hb⟩
  replace HB:=Lib.hid (HB.out.trans (hb.mono HB.out.size))
  try replace HX:=Lib.hid (HX.out.later hb)
  try replace HO1:=Lib.hid (HO1.out.below hb)
  try replace HO2:=Lib.hid (HO2.out.below hb)
  try replace HT:=Lib.hid (HT.out.later hb)
  clear hb
  go_wp2_with fail
  refine (law_few n es R w2 hl1 hl2).mono ?_
  rintro r w3 ⟨rfl,hb⟩
  replace HB:=Lib.hid (HB.out.trans (hb.mono HB.out.size))
  try replace HX:=Lib.hid (HX.out.later hb)
  try replace HO1:=Lib.hid (HO1.out.below hb)
  try replace HO2:=Lib.hid (HO2.out.below hb)
  try replace HT:=Lib.hid (HT.out.later hb)
  clear hb
  obtain ⟨fb,hfb⟩ : ∃ b,fewB n es.l R.l=b:=⟨_,rfl⟩
  rw [hfb]
  have HFB:=Lib.hid hfb
  clear hfb
  rcases fb
  · go_wp2_with fail
    go_ret
    exact ⟨rfl,HB.out⟩
  · obtain ⟨h9,h24,hR10⟩:=few_nine HFB.out
    have H9:=Lib.hid h9
    clear h9
    go_wp2_with fail
    refine (hier_Build n es R w3 (HE.out.later HB.out (Nat.le_refl _)) (HR.out.later HB.out (Nat.le_refl _)) (by omega) H9.out).mono ?_
    rintro r w4 ⟨RA,EA,Rc,Ec,rfl,ho1,ho2,hb⟩
    rcases bldV_cases n es.l R.l with ⟨hgb,hrp,hv3⟩ | hv3
    · rw [hv3] at ho1 ho2 ⊢
      simp only at ho1 ho2 ⊢
      obtain ⟨h0,h20,hel,hgd⟩:=graphB_ok hgb
      obtain ⟨m,rfl⟩:=Int.eq_ofNat_of_zero_le h0
      rw [Int.toNat_natCast] at hgd ho2
      simp only [Int.toNat_natCast]
      have hm9 : m≤9:=by have:=H9.out hgb; omega
      have HH:=Lib.hid (bld_right hgd (RkP.ok hrp) hm9)
      have HGD:=Lib.hid hgd
      have HGB:=Lib.hid hgb
      have hrl : (R.l.length : Int)=(m : Int):=hrp.2.2
      obtain ⟨E3,hE3⟩ : ∃ x,bldL m es.l R.l=x:=⟨_,rfl⟩
      rw [hE3] at ho2 HH ⊢
      have HO1:=Lib.hid ho1
      have HO2:=Lib.hid ho2
      clear ho1 ho2 hv3 hgb hrp hgd h0 h20 hE3 HFB H9
      replace HB:=Lib.hid (HB.out.trans (hb.mono HB.out.size))
      try replace HX:=Lib.hid (HX.out.later hb)
      try replace HO1:=Lib.hid (HO1.out.below hb)
      try replace HO2:=Lib.hid (HO2.out.below hb)
      try replace HT:=Lib.hid (HT.out.later hb)
      clear hb
      go_wp2_with fail
      have HX : Hid (Blk (w4.alloc (.cells #[.slice RA R.l.length Rc,.slice EA E3.length Ec] 25)) w4.heap.size 25 #[.slice RA R.l.length Rc,.slice EA E3.length Ec]):=Lib.hid (Blk.new _ _ _)
      have hb : Below w4.heap.size w4 (w4.alloc (.cells #[.slice RA R.l.length Rc,.slice EA E3.length Ec] 25)):=(Below.refl _ _).alloc (Nat.le_refl _) _
      replace HB:=Lib.hid (HB.out.trans (hb.mono HB.out.size))
      replace HO1:=Lib.hid (HO1.out.below hb)
      replace HO2:=Lib.hid (HO2.out.below hb)
      clear hb
      generalize w4.alloc (.cells #[.slice RA R.l.length Rc,.slice EA E3.length Ec] 25)=w5 at *
      generalize w4.heap.size=g1 at *
      obtain ⟨x0,x1,xf,xz⟩:=HX.out.b2
      go_wp2_with fail
      clear x0 x1 xf xz
      refine (hier_Path m es.l (tabK es.l m) ⟨RA,Rc,R.l⟩ ⟨EA,Ec,E3⟩ s t w5 ((Own.rd ienc_k HO1.out).mono fun b hb=>hb.2) ((Own.rd ED.k HO2.out).mono fun b hb=>hb.2) HH.out).mono ?_
      rintro r w6 ⟨PA,pc,l,rfl,ho,hp,hb⟩
      replace HB:=Lib.hid (HB.out.trans (hb.mono HB.out.size))
      try replace HX:=Lib.hid (HX.out.later hb)
      try replace HO1:=Lib.hid (HO1.out.below hb)
      try replace HO2:=Lib.hid (HO2.out.below hb)
      try replace HT:=Lib.hid (HT.out.later hb)
      clear hb
      obtain ⟨x0,x1,xf,xz⟩:=HX.out.b2
      go_wp2_with fail
      clear x0 x1 xf xz
      refine (hier_Dist m es.l (tabK es.l m) ⟨RA,Rc,R.l⟩ ⟨EA,Ec,E3⟩ s t w6 ((Own.rd ienc_k HO1.out).mono fun b hb=>hb.2) ((Own.rd ED.k HO2.out).mono fun b hb=>hb.2) HH.out).mono ?_
      rintro r w7 ⟨rfl,hb⟩
      have HL:=Lib.hid (ho.below hb)
      clear ho
      replace HB:=Lib.hid (HB.out.trans (hb.mono HB.out.size))
      try replace HX:=Lib.hid (HX.out.later hb)
      try replace HO1:=Lib.hid (HO1.out.below hb)
      try replace HO2:=Lib.hid (HO2.out.below hb)
      try replace HT:=Lib.hid (HT.out.later hb)
      clear hb
      by_cases hI : Ir m s∧Ir m t∧0≤tabK es.l m s t
      · rw [if_pos ⟨hI.1,hI.2.1⟩]
        rw [if_pos hI] at hp
        have h0:=hI.2.2
        have HP:=Lib.hid hp
        have HF:=Lib.hid (hp.f hm9 HGD.out)
        have hlp:=hp.pos
        have hln:=hp.len
        have HFS:=Lib.hid hp.fst
        have HLS:=Lib.hid hp.lst
        obtain ⟨V,hV⟩ : ∃ V,tabK es.l m s t=V:=⟨_,rfl⟩
        rw [hV] at h0 ⊢
        have HV:=Lib.hid hV
        clear hp hI hV
        obtain ⟨L,hL⟩ : ∃ L,l.length=L:=⟨_,rfl⟩
        rw [hL] at hlp hln ⊢
        have HLL:=Lib.hid hL
        have hmk:=fun w=>make_ints L (by omega) w
        rw [rowA_zero] at hmk
        clear hL
        have hln' : (L : Int)≤(m : Int):=by omega
        have hlp' : ((L : Int) == 0)=false:=by rw [beq_eq_false_iff_ne]; omega
        have hmL : decide (m<L)=false:=decide_eq_false (by omega)
        have hmL2 : decide ((m : Int)<(L : Int))=false:=decide_eq_false (by omega)
        go_wp2_with fail
        clear hmk
        have hal : Below w7.heap.size w7 (w7.alloc (.cells (rowA L (fun _=>0)) 3)):=(Below.refl _ _).alloc (Nat.le_refl _) _
        have HS0 : Hid (Blk (w7.alloc (.cells (rowA L (fun _=>0)) 3)) w7.heap.size 3 (rowA L (fun _=>0))):=Lib.hid (Blk.new _ _ _)
        have HW0:=Lib.hid hal
        clear hal
        generalize w7.alloc (.cells (rowA L (fun _=>0)) 3)=w8 at *
        obtain ⟨gs,hgs⟩ : ∃ x,x=w7.heap.size:=⟨_,rfl⟩
        rw [← hgs] at HS0 ⊢
        have HGE:=Lib.hid hgs
        clear hgs
        obtain ⟨P,hP⟩ : ∃ P,preS (leastE es.l) l=P:=⟨_,rfl⟩
        rw [hP] at HF
        clear hP
        obtain ⟨gl,rfl⟩ : ∃ g,PA=some ⟨g,0,none⟩:=by
          rcases HL.out.form with ⟨_,_,h0⟩ | ⟨g,h0,_⟩
          · simp only at h0
            have:=HLL.out
            rw [h0] at this
            simp at this
            omega
          · exact ⟨g,h0⟩
        go_loopw [17] (fun Y wr=>∃ (i : Nat),i≤L∧Y = .int .i64 i∧Hid (Blk wr gs 3 (rowA L (fun x=>if x<(i : Int) then P x.toNat else 0)))∧Hid (Below w7.heap.size w7 wr)) (fun Y _=>L - (intOf Y).toNat)
        case atStart=>exact ⟨0,by omega,rfl,Lib.hid (by rw [rowA_congr (g:=fun _=>0) (fun k _=>by rw [if_neg (by omega)])]; exact HS0.out),HW0⟩
        case round =>
          clear HS0 HW0
          obtain ⟨i,hi,rfl,HS,HW⟩:=hrel
          by_cases hil : i<L
          · have hil' : (i : Int)<(L : Int):=by omega
            go_wp2_with fail
            go_loopw [18] (fun Y wr=>∃ (k : Nat),k≤i∧Y = .int .i64 k∧Hid (Blk wr gs 3 (rowA L (fun x=>if x<(i : Int) then P x.toNat else 0)))∧Hid (Below w7.heap.size w7 wr)) (fun Y _=>i - (intOf Y).toNat)
            case atStart=>exact ⟨0,by omega,rfl,HS,HW⟩
            case round =>
              clear HS HW
              obtain ⟨k,hki,rfl,HS,HW⟩:=hrel
              have HLu:=Lib.hid (HL.out.below HW.out)
              have hyi : l[i]? = some (l[i]'(by have:=HLL.out; omega)):=List.getElem?_eq_getElem (by have:=HLL.out; omega)
              have c1:=own_celli HLu.out hyi
              by_cases hkl : k<i
              · have hkl' : (k : Int)<(i : Int):=by omega
                have hkL' : (k : Int)<(L : Int):=by omega
                have hyk : l[k]? = some (l[k]'(by have:=HLL.out; omega)):=List.getElem?_eq_getElem (by have:=HLL.out; omega)
                have c0:=own_celli HLu.out hyk
                have hne:=HF.out.nod k i _ _ hkl hyk hyi
                have HD:=Lib.hid HW.out.drew
                have HSd:=Lib.hid HS.out.drew
                clear hyk hyi
                generalize l[k]'(by have:=HLL.out; omega)=x at *
                generalize l[i]'(by have:=HLL.out; omega)=y at *
                have hneb : (x == y)=false:=by rw [beq_eq_false_iff_ne]; exact hne
                go_wp2_with fail
                refine wp_region_T (fun W=>W.cell? ⟨gl,k,none⟩=some (.int .i64 x)∧W.cell? ⟨gl,i,none⟩=some (.int .i64 y)) (fun _=>false) (by kernel_rfl) ⟨c0,c1⟩ (fun hHeld=>?_)
                refine wpAnyT_take2 (i:=0) (v:=?_) rfl rfl (by kernel_rfl) (by kernel_rfl) (by kernel_rfl) (by kernel_rfl) (fun _ _ _ h=>h) (Or.inl ⟨by rfl, ?_⟩) (by first | assumption | trivial) ?_
                rotate_left
                · (intro w hSw; (try dsimp only at hSw); go_simp) <;> (with_reducible rfl)
                simp only [List.setIfInBounds_toArray,List.set_cons_zero,List.set_cons_succ]
                refine wpAnyT_take2 (i:=1) (v:=?_) rfl rfl (by kernel_rfl) (by kernel_rfl) (by kernel_rfl) (by kernel_rfl) (fun _ _ _ h=>h) (Or.inl ⟨by rfl, ?_⟩) (by first | assumption | trivial) ?_
                rotate_left
                · (intro w hSw; (try dsimp only at hSw); go_simp) <;> (with_reducible rfl)
                simp only [List.setIfInBounds_toArray,List.set_cons_zero,List.set_cons_succ]
                refine wpAnyT_take2 (i:=2) (v:=?_) rfl rfl (by kernel_rfl) (by kernel_rfl) (by kernel_rfl) (by kernel_rfl) (fun _ _ _ h=>h) (Or.inl ⟨by rfl, ?_⟩) (by first | assumption | trivial) ?_
                rotate_left
                · (intro w hSw; (try dsimp only at hSw); go_simp) <;> (with_reducible rfl)
                simp only [List.setIfInBounds_toArray,List.set_cons_zero,List.set_cons_succ]
                refine wpAnyT_take2 (i:=3) (v:=?_) rfl rfl (by kernel_rfl) (by kernel_rfl) (by kernel_rfl) (by kernel_rfl) (fun _ _ _ h=>h) (Or.inl ⟨by rfl, ?_⟩) (by first | assumption | trivial) ?_
                rotate_left
                · (intro w hSw; (try dsimp only at hSw); go_simp) <;> (with_reducible rfl)
                simp only [List.setIfInBounds_toArray,List.set_cons_zero,List.set_cons_succ]
                refine wpAnyT_take2 (i:=4) (v:=?_) rfl rfl (by kernel_rfl) (by kernel_rfl) (by kernel_rfl) (by kernel_rfl) (fun _ _ _ h=>h) (Or.inl ⟨by rfl, ?_⟩) (by first | assumption | trivial) ?_
                rotate_left
                · (intro w hSw; (try dsimp only at hSw); go_simp) <;> (with_reducible rfl)
                simp only [List.setIfInBounds_toArray,List.set_cons_zero,List.set_cons_succ]
                refine wpAnyT_take2 (i:=5) (v:=?_) rfl rfl (by kernel_rfl) (by kernel_rfl) (by kernel_rfl) (by kernel_rfl) (fun _ _ _ h=>h) (Or.inl ⟨by rfl, ?_⟩) (by first | assumption | trivial) ?_
                rotate_left
                · (intro w hSw; (try dsimp only at hSw); go_simp) <;> (with_reducible rfl)
                simp only [List.setIfInBounds_toArray,List.set_cons_zero,List.set_cons_succ]
                refine wpAnyT_take2 (i:=6) (v:=?_) rfl rfl (by kernel_rfl) (by kernel_rfl) (by kernel_rfl) (by kernel_rfl) (fun _ _ _ h=>h) (Or.inl ⟨by rfl, ?_⟩) (by first | assumption | trivial) ?_
                rotate_left
                · (intro w hSw; (try dsimp only at hSw); go_simp) <;> (with_reducible rfl)
                simp only [List.setIfInBounds_toArray,List.set_cons_zero,List.set_cons_succ]
                refine wpAnyT_take2 (i:=7) (v:=?_) rfl rfl (by kernel_rfl) (by kernel_rfl) (by kernel_rfl) (by kernel_rfl) (fun _ _ _ h=>h) (Or.inl ⟨by rfl, ?_⟩) (by first | assumption | trivial) ?_
                rotate_left
                · (intro w hSw; (try dsimp only at hSw); go_simp) <;> (with_reducible rfl)
                simp only [List.setIfInBounds_toArray,List.set_cons_zero,List.set_cons_succ]
                refine wpAnyT_take2 (i:=8) (v:=.bool false) rfl rfl (by kernel_rfl) (by kernel_rfl) (by kernel_rfl) (by kernel_rfl) (fun _ _ _ h=>h) (Or.inl ⟨by rfl, ?_⟩) (by first | assumption | trivial) ?_
                · (intro w hSw; (try dsimp only at hSw); go_simp) <;> (first | (with_reducible rfl) | assumption | (simp; done) | (simp [*]; done) | (simp; omega))
                simp only [List.setIfInBounds_toArray,List.set_cons_zero,List.set_cons_succ]
                refine wpAnyT_done (by kernel_rfl) ?_ _
                clear hHeld c0 c1
                go_wp2_with fail
                go_roundw
                case rel=>exact ⟨k+1,by omega,by go_num,HSd,HD⟩
                case measure=>simp [intOf]; omega
              · have hke : i=k:=by omega
                subst hke
                have hkl' : ¬ (i : Int)<(i : Int):=by omega
                by_cases hi0 : i=0
                · subst hi0
                  have HS2 : Hid (Blk wr gs 3 (rowA L (fun x=>if x<((0+1 : Nat) : Int) then P x.toNat else 0))):=Lib.hid (by
                    rw [rowA_congr (g:=fun x=>if x<((0 : Nat) : Int) then P x.toNat else 0) (fun k _=>by
                      by_cases h : k=0
                      · subst h
                        rw [if_pos (by omega),if_neg (by omega)]
                        exact HF.out.p0
                      · rw [if_neg (by omega),if_neg (by omega)])]
                    exact HS.out)
                  clear c1 hyi
                  go_wp2_with fail
                  go_roundw
                  case rel=>exact ⟨0+1,by omega,by go_num,HS2,HW⟩
                  case measure=>simp [intOf]; omega
                · obtain ⟨j,rfl⟩ : ∃ j,i=j+1:=⟨i - 1,by omega⟩
                  have hyj : l[j]? = some (l[j]'(by have:=HLL.out; omega)):=List.getElem?_eq_getElem (by have:=HLL.out; omega)
                  have c0:=own_celli HLu.out hyj
                  obtain ⟨hst,hst0⟩:=HF.out.st j _ _ hyj hyi
                  have hbd1:=HF.out.bd j (by have:=HLL.out; omega)
                  have hbd2:=HF.out.bd (j+1) (by have:=HLL.out; omega)
                  clear hyj hyi
                  generalize l[j]'(by have:=HLL.out; omega)=x at *
                  generalize l[j+1]'(by have:=HLL.out; omega)=y at *
                  obtain ⟨st,hste⟩ : ∃ z,leastE es.l x y=z:=⟨_,rfl⟩
                  have hls:=fun w a=>r13_Least es x y w a
                  rw [hste] at hst hst0 hls
                  have HLS2:=Lib.hid hls
                  have hs0:=HS.out.cell j
                  rw [rowA_at (by omega),if_pos (by omega),Int.toNat_natCast] at hs0
                  have hs1:=HS.out.cell (j+1)
                  rw [rowA_at hil,if_neg (by omega)] at hs1
                  obtain ⟨p1,hp1⟩ : ∃ z,P j=z:=⟨_,rfl⟩
                  obtain ⟨p2,hp2⟩ : ∃ z,P (j+1)=z:=⟨_,rfl⟩
                  rw [hp1] at hst hbd1 hs0
                  rw [hp2] at hst hbd2
                  have hwr : IntKind.i64.wrap (p1+st)=p2:=by rw [IntKind.wrap_i64]; omega
                  have hj0 : (0 : Int)<(j : Int)+1:=by omega
                  have hj1 : (0 : Int)≤(j : Int)+1:=by omega
                  have hjL : (j : Int)<(L : Int):=by omega
                  have hj1L : (j : Int)+1<(L : Int):=by omega
                  have hwk : IntKind.i64.wrap ((j : Int)+1 - 1)=(j : Int):=by rw [IntKind.wrap_i64]; omega
                  have hwk2 : IntKind.i64.wrap (j : Int)=(j : Int):=by rw [IntKind.wrap_i64]; omega
                  have HP2 : Hid (P (j+1)=p2):=Lib.hid hp2
                  have HP1 : Hid (P j=p1):=Lib.hid hp1
                  have hst1 : ¬ st<0:=by omega
                  have HD:=Lib.hid HW.out.drew
                  have HBd:=Lib.hid (HB.out.trans (HD.out.mono HB.out.size))
                  have HSd:=Lib.hid HS.out.drew
                  clear hste hls hst hst0 hbd1 hbd2 hp1 hp2 HS
                  go_wp2_with fail
                  refine wp_region_T (fun W=>W.cell? ⟨gl,j,none⟩=some (.int .i64 x)∧W.cell? ⟨gl,j+1,none⟩=some (.int .i64 y)) (fun _=>false) (by kernel_rfl) ⟨c0,c1⟩ (fun hHeld=>?_)
                  refine wpAnyT_take2 (i:=0) (v:=?_) rfl rfl (by kernel_rfl) (by kernel_rfl) (by kernel_rfl) (by kernel_rfl) (fun _ _ _ h=>h) (Or.inl ⟨by rfl, ?_⟩) (by first | assumption | trivial) ?_
                  rotate_left
                  · (intro w hSw; (try dsimp only at hSw); go_simp) <;> (with_reducible rfl)
                  simp only [List.setIfInBounds_toArray,List.set_cons_zero,List.set_cons_succ]
                  refine wpAnyT_take2 (i:=1) (v:=?_) rfl rfl (by kernel_rfl) (by kernel_rfl) (by kernel_rfl) (by kernel_rfl) (fun _ _ _ h=>h) (Or.inl ⟨by rfl, ?_⟩) (by first | assumption | trivial) ?_
                  rotate_left
                  · (intro w hSw; (try dsimp only at hSw); go_simp) <;> (with_reducible rfl)
                  simp only [List.setIfInBounds_toArray,List.set_cons_zero,List.set_cons_succ]
                  refine wpAnyT_take2 (i:=2) (v:=?_) rfl rfl (by kernel_rfl) (by kernel_rfl) (by kernel_rfl) (by kernel_rfl) (fun _ _ _ h=>h) (Or.inl ⟨by rfl, ?_⟩) (by first | assumption | trivial) ?_
                  rotate_left
                  · (intro w hSw; (try dsimp only at hSw); go_simp) <;> (with_reducible rfl)
                  simp only [List.setIfInBounds_toArray,List.set_cons_zero,List.set_cons_succ]
                  refine wpAnyT_take2 (i:=3) (v:=.int .i64 (j : Nat)) rfl rfl (by kernel_rfl) (by kernel_rfl) (by kernel_rfl) (by kernel_rfl) (fun _ _ _ h=>h) (Or.inl ⟨by rfl, ?_⟩) (by first | assumption | trivial) ?_
                  · (intro w hSw; (try dsimp only at hSw); go_simp) <;> (first | (with_reducible rfl) | assumption | (simp; done) | (simp [*]; done) | (simp; omega))
                  simp only [List.setIfInBounds_toArray,List.set_cons_zero,List.set_cons_succ]
                  refine wpAnyT_take2 (i:=4) (v:=?_) rfl rfl (by kernel_rfl) (by kernel_rfl) (by kernel_rfl) (by kernel_rfl) (fun _ _ _ h=>h) (Or.inl ⟨by rfl, ?_⟩) (by first | assumption | trivial) ?_
                  rotate_left
                  · (intro w hSw; (try dsimp only at hSw); go_simp) <;> (with_reducible rfl)
                  simp only [List.setIfInBounds_toArray,List.set_cons_zero,List.set_cons_succ]
                  refine wpAnyT_take2 (i:=5) (v:=?_) rfl rfl (by kernel_rfl) (by kernel_rfl) (by kernel_rfl) (by kernel_rfl) (fun _ _ _ h=>h) (Or.inl ⟨by rfl, ?_⟩) (by first | assumption | trivial) ?_
                  rotate_left
                  · (intro w hSw; (try dsimp only at hSw); go_simp) <;> (with_reducible rfl)
                  simp only [List.setIfInBounds_toArray,List.set_cons_zero,List.set_cons_succ]
                  refine wpAnyT_take2 (i:=6) (v:=?_) rfl rfl (by kernel_rfl) (by kernel_rfl) (by kernel_rfl) (by kernel_rfl) (fun _ _ _ h=>h) (Or.inl ⟨by rfl, ?_⟩) (by first | assumption | trivial) ?_
                  rotate_left
                  · (intro w hSw; (try dsimp only at hSw); go_simp) <;> (with_reducible rfl)
                  simp only [List.setIfInBounds_toArray,List.set_cons_zero,List.set_cons_succ]
                  refine wpAnyT_take2 (i:=7) (v:=?_) rfl rfl (by kernel_rfl) (by kernel_rfl) (by kernel_rfl) (by kernel_rfl) (fun _ _ _ h=>h) (Or.inl ⟨by rfl, ?_⟩) (by first | assumption | trivial) ?_
                  rotate_left
                  · (intro w hSw; (try dsimp only at hSw); go_simp) <;> (with_reducible rfl)
                  simp only [List.setIfInBounds_toArray,List.set_cons_zero,List.set_cons_succ]
                  refine wpAnyT_take2 (i:=8) (v:=?_) rfl rfl (by kernel_rfl) (by kernel_rfl) (by kernel_rfl) (by kernel_rfl) (fun _ _ _ h=>h) (Or.inl ⟨by rfl, ?_⟩) (by first | assumption | trivial) ?_
                  rotate_left
                  · (intro w hSw; (try dsimp only at hSw); go_simp) <;> (with_reducible rfl)
                  simp only [List.setIfInBounds_toArray,List.set_cons_zero,List.set_cons_succ]
                  refine wpAnyT_take2 (i:=9) (v:=?_) rfl rfl (by kernel_rfl) (by kernel_rfl) (by kernel_rfl) (by kernel_rfl) (fun _ _ _ h=>h) (Or.inl ⟨by rfl, ?_⟩) (by first | assumption | trivial) ?_
                  rotate_left
                  · (intro w hSw; (try dsimp only at hSw); go_simp) <;> (with_reducible rfl)
                  simp only [List.setIfInBounds_toArray,List.set_cons_zero,List.set_cons_succ]
                  refine wpAnyT_next (i:=10) (by kernel_rfl) rfl ?_
                  go_wp2_with fail
                  refine (HLS2.out wr.drew (HE.out.later HBd.out (Nat.le_refl _))).mono ?_
                  clear HLS2
                  rintro r w9 ⟨rfl,hb⟩
                  have d0:=keep_cell hb hHeld.1
                  have d1:=keep_cell hb hHeld.2
                  have HD2:=Lib.hid (HD.out.trans (hb.mono HD.out.size))
                  have HS2:=Lib.hid (HSd.out.later hb)
                  clear hHeld hb c0 c1 HSd HBd HD
                  go_wp2_with fail
                  refine And.intro (by first | exact ⟨d0,d1⟩ | exact fun _=>⟨d0,d1⟩) ?_
                  have hHeld:=And.intro d0 d1
                  refine wpAnyT_take2 (i:=11) (v:=?_) rfl rfl (by kernel_rfl) (by kernel_rfl) (by kernel_rfl) (by kernel_rfl) (fun _ _ _ h=>h) (Or.inl ⟨by rfl, ?_⟩) (by first | assumption | trivial) ?_
                  rotate_left
                  · (intro w hSw; (try dsimp only at hSw); go_simp) <;> (with_reducible rfl)
                  simp only [List.setIfInBounds_toArray,List.set_cons_zero,List.set_cons_succ]
                  refine wpAnyT_done (by kernel_rfl) ?_ _
                  clear hHeld d0 d1
                  have e0:=HS2.out.cell j
                  rw [rowA_at (by omega),if_pos (by omega),Int.toNat_natCast,HP1.out] at e0
                  have e1:=HS2.out.cell (j+1)
                  rw [rowA_at hil,if_neg (by omega)] at e1
                  have hfz:=HS2.out.frozen
                  have hgl:=HS2.out.lt
                  go_wp2_with fail
                  clear e0 e1 hfz hgl
                  have HS3 : Hid (Blk (w9.setCell ⟨gs,j+1,none⟩ (.int .i64 p2)) gs 3 (rowA L (fun x=>if x<((j+1+1 : Nat) : Int) then P x.toNat else 0))):=Lib.hid (by
                    have:=HS2.out.set_ (j+1) (.int .i64 p2)
                    rw [rowA_set] at this
                    rw [rowA_congr (g:=fun x=>if x=((j+1 : Nat) : Int) then p2 else if x<((j+1 : Nat) : Int) then P x.toNat else 0) (fun k _=>by
                      by_cases h1 : k=j+1
                      · subst h1
                        rw [if_pos (by omega),if_pos rfl,Int.toNat_natCast]
                        exact HP2.out
                      · by_cases h2 : k<j+1
                        · rw [if_pos (by omega),if_neg (by omega),if_pos (by omega)]
                        · rw [if_neg (by omega),if_neg (by omega),if_neg (by omega)])]
                    exact this)
                  have HD3 : Hid (Below w7.heap.size w7 (w9.setCell ⟨gs,j+1,none⟩ (.int .i64 p2))):=Lib.hid (HD2.out.setCell (p:=⟨gs,j+1,none⟩) (by rw [HGE.out]; exact Nat.le_refl _) _)
                  go_roundw
                  case rel=>exact ⟨j+1+1,by omega,by go_num,HS3,HD3⟩
                  case measure=>simp [intOf]; omega
          · have hie : L=i:=by omega
            subst hie
            have hil' : ¬ (L : Int)<(L : Int):=by omega
            have HSF : Hid (∀ j,j<L→wr.cell? ⟨gs,j,none⟩=some (.int .i64 (P j))):=Lib.hid (fun j hj=>by
              have:=HS.out.cell j
              rw [rowA_at hj,if_pos (by omega),Int.toNat_natCast] at this
              exact this)
            have HBz:=Lib.hid (HB.out.trans (HW.out.mono HB.out.size))
            have HXz:=Lib.hid (HX.out.later HW.out)
            have HO1z:=Lib.hid (HO1.out.below HW.out)
            have HO2z:=Lib.hid (HO2.out.below HW.out)
            have HLz:=Lib.hid (HL.out.below HW.out)
            clear HB HX HO1 HO2 HL HW HS
            have HB:=HBz
            have HX:=HXz
            have HO1:=HO1z
            have HO2:=HO2z
            have HL:=HLz
            clear HBz HXz HO1z HO2z HLz
            obtain ⟨wz,hwz⟩ : ∃ x,x=wr:=⟨_,rfl⟩
            subst hwz
            go_wp2_with fail
            go_loopw [20] (fun Y wr=>∃ (i : Nat),i≤L∧Y = .int .i64 i∧Hid (Below wz.heap.size wz wr)) (fun Y _=>L - (intOf Y).toNat)
            case atStart=>exact ⟨0,by omega,rfl,Lib.hid (Below.refl _ _)⟩
            case round =>
              obtain ⟨i,hi,rfl,HW⟩:=hrel
              by_cases hil : i<L
              · have hil' : (i : Int)<(L : Int):=by omega
                go_wp2_with fail
                go_loopw [21] (fun Y wr=>∃ (k : Nat),i≤k∧k≤L∧Y = .int .i64 k∧Hid (Below wz.heap.size wz wr)) (fun Y _=>L - (intOf Y).toNat)
                case atStart=>exact ⟨i,by omega,by omega,rfl,HW⟩
                case round =>
                  clear HW
                  obtain ⟨k,hik,hkL,rfl,HW⟩:=hrel
                  by_cases hkl : k<L
                  · have hkl' : (k : Int)<(L : Int):=by omega
                    have hyi : l[i]? = some (l[i]'(by have:=HLL.out; omega)):=List.getElem?_eq_getElem (by have:=HLL.out; omega)
                    have hyk : l[k]? = some (l[k]'(by have:=HLL.out; omega)):=List.getElem?_eq_getElem (by have:=HLL.out; omega)
                    have HLu:=Lib.hid (HL.out.below HW.out)
                    have HXu:=Lib.hid (HX.out.later HW.out)
                    have c0:=own_celli HLu.out hyi
                    have c1:=own_celli HLu.out hyk
                    have hsg:=HF.out.sg i k _ _ hik hyi hyk
                    have hri:=HP.out.rng _ (List.mem_of_getElem? hyi)
                    have hrk:=HP.out.rng _ (List.mem_of_getElem? hyk)
                    have c2:=keep_cell HW.out (HSF.out i hil)
                    have c3:=keep_cell HW.out (HSF.out k hkl)
                    have hb1:=HF.out.bd i (by have:=HLL.out; omega)
                    have hb2:=HF.out.bd k (by have:=HLL.out; omega)
                    clear hyi hyk
                    generalize l[i]'(by have:=HLL.out; omega)=x at *
                    generalize l[k]'(by have:=HLL.out; omega)=y at *
                    generalize P i=pi at *
                    generalize P k=pk at *
                    have HD:=Lib.hid HW.out.drew
                    have HO1u:=Lib.hid (HO1.out.below HD.out)
                    have HO2u:=Lib.hid (HO2.out.below HD.out)
                    have hdc:=hier_Dist m es.l (tabK es.l m) ⟨RA,Rc,R.l⟩ ⟨EA,Ec,E3⟩ x y wr.drew ((Own.rd ienc_k HO1u.out).mono fun b hb=>hb.2) ((Own.rd ED.k HO2u.out).mono fun b hb=>hb.2) HH.out
                    rw [if_pos ⟨hri,hrk⟩,hsg] at hdc
                    have HDC:=Lib.hid hdc
                    have hwr : IntKind.i64.wrap (pk - pi)=pk - pi:=by rw [IntKind.wrap_i64]; omega
                    clear hdc hsg hri hrk hb1 hb2
                    go_wp2_with fail
                    refine wp_region_T (fun W=>W.cell? ⟨g1,0,none⟩=some (.slice RA R.l.length Rc)∧W.cell? ⟨g1,1,none⟩=some (.slice EA E3.length Ec)∧W.cell? ⟨gl,i,none⟩=some (.int .i64 x)∧W.cell? ⟨gl,k,none⟩=some (.int .i64 y)∧W.cell? ⟨gs,i,none⟩=some (.int .i64 pi)∧W.cell? ⟨gs,k,none⟩=some (.int .i64 pk)) (fun _=>false) (by kernel_rfl) ⟨HXu.out.cell 0,HXu.out.cell 1,c0,c1,c2,c3⟩ (fun hHeld=>?_)
                    refine wpAnyT_take2 (i:=0) (v:=?_) rfl rfl (by kernel_rfl) (by kernel_rfl) (by kernel_rfl) (by kernel_rfl) (fun _ _ _ h=>h) (Or.inl ⟨by rfl, ?_⟩) (by first | assumption | trivial) ?_
                    rotate_left
                    · (intro w hSw; (try dsimp only at hSw); go_simp) <;> (with_reducible rfl)
                    simp only [List.setIfInBounds_toArray,List.set_cons_zero,List.set_cons_succ]
                    refine wpAnyT_take2 (i:=1) (v:=?_) rfl rfl (by kernel_rfl) (by kernel_rfl) (by kernel_rfl) (by kernel_rfl) (fun _ _ _ h=>h) (Or.inl ⟨by rfl, ?_⟩) (by first | assumption | trivial) ?_
                    rotate_left
                    · (intro w hSw; (try dsimp only at hSw); go_simp) <;> (with_reducible rfl)
                    simp only [List.setIfInBounds_toArray,List.set_cons_zero,List.set_cons_succ]
                    refine wpAnyT_take2 (i:=2) (v:=?_) rfl rfl (by kernel_rfl) (by kernel_rfl) (by kernel_rfl) (by kernel_rfl) (fun _ _ _ h=>h) (Or.inl ⟨by rfl, ?_⟩) (by first | assumption | trivial) ?_
                    rotate_left
                    · (intro w hSw; (try dsimp only at hSw); go_simp) <;> (with_reducible rfl)
                    simp only [List.setIfInBounds_toArray,List.set_cons_zero,List.set_cons_succ]
                    refine wpAnyT_take2 (i:=3) (v:=?_) rfl rfl (by kernel_rfl) (by kernel_rfl) (by kernel_rfl) (by kernel_rfl) (fun _ _ _ h=>h) (Or.inl ⟨by rfl, ?_⟩) (by first | assumption | trivial) ?_
                    rotate_left
                    · (intro w hSw; (try dsimp only at hSw); go_simp) <;> (with_reducible rfl)
                    simp only [List.setIfInBounds_toArray,List.set_cons_zero,List.set_cons_succ]
                    refine wpAnyT_take2 (i:=4) (v:=?_) rfl rfl (by kernel_rfl) (by kernel_rfl) (by kernel_rfl) (by kernel_rfl) (fun _ _ _ h=>h) (Or.inl ⟨by rfl, ?_⟩) (by first | assumption | trivial) ?_
                    rotate_left
                    · (intro w hSw; (try dsimp only at hSw); go_simp) <;> (with_reducible rfl)
                    simp only [List.setIfInBounds_toArray,List.set_cons_zero,List.set_cons_succ]
                    refine wpAnyT_take2 (i:=5) (v:=?_) rfl rfl (by kernel_rfl) (by kernel_rfl) (by kernel_rfl) (by kernel_rfl) (fun _ _ _ h=>h) (Or.inl ⟨by rfl, ?_⟩) (by first | assumption | trivial) ?_
                    rotate_left
                    · (intro w hSw; (try dsimp only at hSw); go_simp) <;> (with_reducible rfl)
                    simp only [List.setIfInBounds_toArray,List.set_cons_zero,List.set_cons_succ]
                    refine wpAnyT_take2 (i:=6) (v:=?_) rfl rfl (by kernel_rfl) (by kernel_rfl) (by kernel_rfl) (by kernel_rfl) (fun _ _ _ h=>h) (Or.inl ⟨by rfl, ?_⟩) (by first | assumption | trivial) ?_
                    rotate_left
                    · (intro w hSw; (try dsimp only at hSw); go_simp) <;> (with_reducible rfl)
                    simp only [List.setIfInBounds_toArray,List.set_cons_zero,List.set_cons_succ]
                    refine wpAnyT_take2 (i:=7) (v:=?_) rfl rfl (by kernel_rfl) (by kernel_rfl) (by kernel_rfl) (by kernel_rfl) (fun _ _ _ h=>h) (Or.inl ⟨by rfl, ?_⟩) (by first | assumption | trivial) ?_
                    rotate_left
                    · (intro w hSw; (try dsimp only at hSw); go_simp) <;> (with_reducible rfl)
                    simp only [List.setIfInBounds_toArray,List.set_cons_zero,List.set_cons_succ]
                    refine wpAnyT_take2 (i:=8) (v:=?_) rfl rfl (by kernel_rfl) (by kernel_rfl) (by kernel_rfl) (by kernel_rfl) (fun _ _ _ h=>h) (Or.inl ⟨by rfl, ?_⟩) (by first | assumption | trivial) ?_
                    rotate_left
                    · (intro w hSw; (try dsimp only at hSw); go_simp) <;> (with_reducible rfl)
                    simp only [List.setIfInBounds_toArray,List.set_cons_zero,List.set_cons_succ]
                    refine wpAnyT_take2 (i:=10) (v:=?_) rfl rfl (by kernel_rfl) (by kernel_rfl) (by kernel_rfl) (by kernel_rfl) (fun _ _ _ h=>h) (Or.inl ⟨by rfl, ?_⟩) (by first | assumption | trivial) ?_
                    rotate_left
                    · (intro w hSw; (try dsimp only at hSw); go_simp) <;> (with_reducible rfl)
                    simp only [List.setIfInBounds_toArray,List.set_cons_zero,List.set_cons_succ]
                    refine wpAnyT_take2 (i:=11) (v:=?_) rfl rfl (by kernel_rfl) (by kernel_rfl) (by kernel_rfl) (by kernel_rfl) (fun _ _ _ h=>h) (Or.inl ⟨by rfl, ?_⟩) (by first | assumption | trivial) ?_
                    rotate_left
                    · (intro w hSw; (try dsimp only at hSw); go_simp) <;> (with_reducible rfl)
                    simp only [List.setIfInBounds_toArray,List.set_cons_zero,List.set_cons_succ]
                    refine wpAnyT_take2 (i:=12) (v:=?_) rfl rfl (by kernel_rfl) (by kernel_rfl) (by kernel_rfl) (by kernel_rfl) (fun _ _ _ h=>h) (Or.inl ⟨by rfl, ?_⟩) (by first | assumption | trivial) ?_
                    rotate_left
                    · (intro w hSw; (try dsimp only at hSw); go_simp) <;> (with_reducible rfl)
                    simp only [List.setIfInBounds_toArray,List.set_cons_zero,List.set_cons_succ]
                    refine wpAnyT_take2 (i:=13) (v:=?_) rfl rfl (by kernel_rfl) (by kernel_rfl) (by kernel_rfl) (by kernel_rfl) (fun _ _ _ h=>h) (Or.inl ⟨by rfl, ?_⟩) (by first | assumption | trivial) ?_
                    rotate_left
                    · (intro w hSw; (try dsimp only at hSw); go_simp) <;> (with_reducible rfl)
                    simp only [List.setIfInBounds_toArray,List.set_cons_zero,List.set_cons_succ]
                    refine wpAnyT_take2 (i:=14) (v:=?_) rfl rfl (by kernel_rfl) (by kernel_rfl) (by kernel_rfl) (by kernel_rfl) (fun _ _ _ h=>h) (Or.inl ⟨by rfl, ?_⟩) (by first | assumption | trivial) ?_
                    rotate_left
                    · (intro w hSw; (try dsimp only at hSw); go_simp) <;> (with_reducible rfl)
                    simp only [List.setIfInBounds_toArray,List.set_cons_zero,List.set_cons_succ]
                    refine wpAnyT_take2 (i:=15) (v:=?_) rfl rfl (by kernel_rfl) (by kernel_rfl) (by kernel_rfl) (by kernel_rfl) (fun _ _ _ h=>h) (Or.inl ⟨by rfl, ?_⟩) (by first | assumption | trivial) ?_
                    rotate_left
                    · (intro w hSw; (try dsimp only at hSw); go_simp) <;> (with_reducible rfl)
                    simp only [List.setIfInBounds_toArray,List.set_cons_zero,List.set_cons_succ]
                    refine wpAnyT_take2 (i:=16) (v:=?_) rfl rfl (by kernel_rfl) (by kernel_rfl) (by kernel_rfl) (by kernel_rfl) (fun _ _ _ h=>h) (Or.inl ⟨by rfl, ?_⟩) (by first | assumption | trivial) ?_
                    rotate_left
                    · (intro w hSw; (try dsimp only at hSw); go_simp) <;> (with_reducible rfl)
                    simp only [List.setIfInBounds_toArray,List.set_cons_zero,List.set_cons_succ]
                    refine wpAnyT_take2 (i:=17) (v:=?_) rfl rfl (by kernel_rfl) (by kernel_rfl) (by kernel_rfl) (by kernel_rfl) (fun _ _ _ h=>h) (Or.inl ⟨by rfl, ?_⟩) (by first | assumption | trivial) ?_
                    rotate_left
                    · (intro w hSw; (try dsimp only at hSw); go_simp) <;> (with_reducible rfl)
                    simp only [List.setIfInBounds_toArray,List.set_cons_zero,List.set_cons_succ]
                    refine wpAnyT_take2 (i:=18) (v:=.int .i64 (pk - pi)) rfl rfl (by kernel_rfl) (by kernel_rfl) (by kernel_rfl) (by kernel_rfl) (fun _ _ _ h=>h) (Or.inl ⟨by rfl, ?_⟩) (by first | assumption | trivial) ?_
                    · (intro w hSw; (try dsimp only at hSw); go_simp) <;> (first | (with_reducible rfl) | assumption | (simp; done) | (simp [*]; done) | (simp; omega))
                    simp only [List.setIfInBounds_toArray,List.set_cons_zero,List.set_cons_succ]
                    refine wpAnyT_next (i:=9) (by kernel_rfl) rfl ?_
                    go_wp2_with fail
                    refine HDC.out.mono ?_
                    clear HDC
                    rintro r w9 ⟨rfl,hb⟩
                    have d0:=keep_cell hb hHeld.1
                    have d1:=keep_cell hb hHeld.2.1
                    have d2:=keep_cell hb hHeld.2.2.1
                    have d3:=keep_cell hb hHeld.2.2.2.1
                    have d4:=keep_cell hb hHeld.2.2.2.2.1
                    have d5:=keep_cell hb hHeld.2.2.2.2.2
                    have HD2:=Lib.hid (HD.out.trans (hb.mono HD.out.size))
                    clear hHeld hb c0 c1 c2 c3 HD
                    go_wp2_with fail
                    refine And.intro (by first | exact ⟨d0,d1,d2,d3,d4,d5⟩ | exact fun _=>⟨d0,d1,d2,d3,d4,d5⟩) ?_
                    have hHeld:=And.intro d0 (And.intro d1 (And.intro d2 (And.intro d3 (And.intro d4 d5))))
                    refine wpAnyT_take2 (i:=19) (v:=.bool false) rfl rfl (by kernel_rfl) (by kernel_rfl) (by kernel_rfl) (by kernel_rfl) (fun _ _ _ h=>h) (Or.inl ⟨by rfl, ?_⟩) (by first | assumption | trivial) ?_
                    · (intro w hSw; (try dsimp only at hSw); go_simp) <;> (first | (with_reducible rfl) | assumption | (simp; done) | (simp [*]; done) | (simp; omega))
                    simp only [List.setIfInBounds_toArray,List.set_cons_zero,List.set_cons_succ]
                    refine wpAnyT_done (by kernel_rfl) ?_ _
                    clear hHeld d0 d1 d2 d3 d4 d5
                    go_wp2_with fail
                    go_roundw
                    case rel=>exact ⟨k+1,by omega,by omega,by go_num,HD2⟩
                    case measure=>simp [intOf]; omega
                  · have hke : L=k:=by omega
                    subst hke
                    have hkl' : ¬ (L : Int)<(L : Int):=by omega
                    go_wp2_with fail
                    go_roundw
                    case rel=>exact ⟨i+1,by omega,by go_num,HW⟩
                    case measure=>simp [intOf]; omega
              · have hie : L=i:=by omega
                subst hie
                have hil' : ¬ (L : Int)<(L : Int):=by omega
                have HLu:=Lib.hid (HL.out.below HW.out)
                have hl1:=HFS.out
                have hl2:=HLS.out
                rw [HLL.out] at hl2
                have c0:=own_celli HLu.out hl1
                have c1:=own_celli HLu.out hl2
                have c2:=keep_cell HW.out (HSF.out (L - 1) (by omega))
                have hpe:=HF.out.pe
                rw [HLL.out,HV.out] at hpe
                rw [hpe] at c2
                have HBe:=Lib.hid (HB.out.trans (HW.out.mono HB.out.size))
                obtain ⟨q,hq⟩ : ∃ q,L=q+1:=⟨L - 1,by omega⟩
                have hqe : L - 1=q:=by omega
                rw [hqe] at c1 c2
                have hwL : IntKind.i64.wrap ((L : Int) - 1)=(q : Int):=by rw [IntKind.wrap_i64]; omega
                have hqL : (q : Int)<(L : Int):=by omega
                have h0L : (0 : Int)<(L : Int):=by omega
                clear hq hqe hpe hl1 hl2
                go_wp2_with fail
                go_ret
                exact ⟨rfl,HBe.out⟩
      · rw [if_neg hI] at hp
        subst hp
        obtain ⟨V,hV⟩ : ∃ V,(if Ir m s∧Ir m t then tabK es.l m s t else -1)=V:=⟨_,rfl⟩
        have hneg : V<0:=by
          rw [← hV]
          split
          · rename_i h
            have : ¬ 0≤tabK es.l m s t:=fun h2=>hI ⟨h.1,h.2,h2⟩
            omega
          · omega
        rw [hV]
        clear hV hI
        go_wp2_with fail
        go_ret
        exact ⟨rfl,HB.out⟩
    · rw [hv3] at ho1 ho2 ⊢
      simp only at ho1 ho2 ⊢
      replace HB:=Lib.hid (HB.out.trans (hb.mono HB.out.size))
      try replace HX:=Lib.hid (HX.out.later hb)
      try replace HO1:=Lib.hid (HO1.out.below hb)
      try replace HO2:=Lib.hid (HO2.out.below hb)
      try replace HT:=Lib.hid (HT.out.later hb)
      clear hb
      go_wp2_with fail
      go_ret
      exact ⟨rfl,HB.out.alloc HB.out.size _⟩
end Go.Proofs.Ytlbihfbeamlacaa
