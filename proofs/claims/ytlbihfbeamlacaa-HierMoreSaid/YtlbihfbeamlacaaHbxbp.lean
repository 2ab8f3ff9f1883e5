/- Walks: whether a hierarchy is that of a graph. -/
import Derived.Test.YtlbihfbeamlacaaHbxav
import Derived.Test.YtlbihfbeamlacaaHbxbe
import Derived.Test.YtlbihfbeamlacaaHbxbo
set_option linter.unusedSimpArgs false
set_option linter.unusedVariables false
set_option maxRecDepth 100000
set_option maxHeartbeats 6400000
namespace Go.Proofs.Ytlbihfbeamlacaa
open Go.RowKit
/-- What Check returns. -/
def chkV (n : Int) (es : List ED) (R : List Int) (E : List ED) : Int:=if graphB n es=true then (if (bldV n es R).2.2=0∧(bldV n es R).1=R∧(bldV n es R).2.1=E then 0 else 23) else 1
theorem hier_Check (n : Int) (es : Sl ED) (R : Sl Int) (E : Sl ED) (w : World) (hr : Rd (· < w.heap.size) 4 ED.enc w es) (hR : Rd (· < w.heap.size) 1 ienc w R) (hE : Rd (· < w.heap.size) 4 ED.enc w E) (hl : R.l.length≤10000) (h9 : graphB n es.l=true→n≤9) :
    Calls Try.prog 14 #[.int .i64 n,.slice es.A es.l.length es.c,.agg #[.slice R.A R.l.length R.c,.slice E.A E.l.length E.c]] w fun r w'=>r = .returned (.int .i64 (chkV n es.l R.l E.l))∧Below w.heap.size w w':=by
  have HQ:=Lib.hid hr
  have HR:=Lib.hid hR
  have HE:=Lib.hid hE
  have H9:=Lib.hid h9
  obtain ⟨V,hV⟩ : ∃ V,chkV n es.l R.l E.l=V:=⟨_,rfl⟩
  rw [hV]
  have HV:=Lib.hid hV
  clear hr hR hE h9 hV
  go_enter Try.func14,Try.ntmps14
  go_wp2_with fail
  have HB1 : Hid (Below w.heap.size w (w.alloc (.cells #[.slice R.A R.l.length R.c,.slice E.A E.l.length E.c] 25))):=Lib.hid (by repeat (first | (with_reducible exact Below.refl _ _) | ((with_reducible refine below_setr ?_ ?_); focus (first | (simp; done) | (simp; omega) | omega)) | ((with_reducible refine below_allocr ?_ ?_); focus (first | (simp; done) | (simp; omega) | omega)) | (with_reducible refine Below.drew ?_) | (with_reducible refine below_drewN ?_ _)))
  have HX1 : Hid (Blk (w.alloc (.cells #[.slice R.A R.l.length R.c,.slice E.A E.l.length E.c] 25)) w.heap.size 25 #[.slice R.A R.l.length R.c,.slice E.A E.l.length E.c]):=Lib.hid (Blk.new _ _ _)
  generalize w.alloc (.cells #[.slice R.A R.l.length R.c,.slice E.A E.l.length E.c] 25)=w1 at *
  refine (hier_graph es n w1 (HQ.out.later HB1.out (Nat.le_refl _))).mono ?_
  rintro r w2 ⟨rfl,hb2⟩
  have HB2:=Lib.hid (HB1.out.trans (hb2.mono HB1.out.size))
  have HX2:=Lib.hid (HX1.out.later hb2)
  clear hb2 HB1 HX1
  obtain ⟨gb,hgb⟩ : ∃ b,graphB n es.l=b:=⟨_,rfl⟩
  rw [hgb]
  have HGB:=Lib.hid hgb
  clear hgb
  rcases gb
  · have hv : V=1:=HV.out.symm.trans (by unfold chkV; rw [HGB.out,if_neg (by simp)])
    subst hv
    go_wp2_with fail
    go_ret
    exact ⟨rfl,HB2.out⟩
  · obtain ⟨x0,x1,xf,xz⟩:=HX2.out.b2
    go_wp2_with fail
    refine (hier_Build n es R w2 (HQ.out.later HB2.out (Nat.le_refl _)) (HR.out.later HB2.out (Nat.le_refl _)) hl H9.out).mono ?_
    clear x0 x1 xf xz
    rintro r w3 ⟨RA,EA,Rc,Ec,rfl,ho1,ho2,hb⟩
    obtain ⟨⟨R3,E3,c3⟩,hv3⟩ : ∃ v,bldV n es.l R.l=v:=⟨_,rfl⟩
    rw [hv3] at ho1 ho2 ⊢
    simp only at ho1 ho2 ⊢
    have HO1:=Lib.hid ho1
    have HO2:=Lib.hid ho2
    have HV3:=Lib.hid hv3
    have HB3:=Lib.hid (HB2.out.trans (hb.mono HB2.out.size))
    have HX3:=Lib.hid (HX2.out.later hb)
    have hrl:=(ho1.rd ienc_k).len
    have hel:=(ho2.rd ED.k).len
    simp only at hrl hel
    clear hv3 ho1 ho2 hb HX2 HB2
    have hw4 : Below w3.heap.size w3 (w3.alloc (.cells #[.slice RA R3.length Rc,.slice EA E3.length Ec] 25)):=(Below.refl _ _).alloc (Nat.le_refl _) _
    have HW4:=Lib.hid hw4
    clear hw4
    by_cases hc : c3=0
    · subst hc
      obtain ⟨x0,x1,xf,xz⟩:=HX3.out.b2
      go_wp2_with fail
      have HH4 : Hid (Blk (w3.alloc (.cells #[.slice RA R3.length Rc,.slice EA E3.length Ec] 25)) w3.heap.size 25 #[.slice RA R3.length Rc,.slice EA E3.length Ec]):=Lib.hid (Blk.new _ _ _)
      have HB4:=Lib.hid (HB3.out.trans (HW4.out.mono HB3.out.size))
      have HX4:=Lib.hid (HX3.out.later HW4.out)
      have HP1:=Lib.hid (HO1.out.below HW4.out)
      have HP2:=Lib.hid (HO2.out.below HW4.out)
      clear x0 x1 xf xz
      clear HW4 HO1 HO2 HX3 HB3
      generalize w3.alloc (.cells #[.slice RA R3.length Rc,.slice EA E3.length Ec] 25)=w4 at *
      refine (slices_EqualI ⟨RA,Rc,R3⟩ R w4 ((Own.rd ienc_k HP1.out).mono fun b hb=>hb.2) (HR.out.later HB4.out (Nat.le_refl _))).mono ?_
      simp only
      rintro r w5 ⟨rfl,hb5⟩
      have HB5:=Lib.hid (HB4.out.trans (hb5.mono HB4.out.size))
      have HX5:=Lib.hid (HX4.out.later hb5)
      have HH5:=Lib.hid (HH4.out.later hb5)
      have HO5:=Lib.hid (HP2.out.below hb5)
      clear hb5 HB4 HX4 HH4 HP1 HP2
      by_cases hRR : R3=R.l
      · rw [decide_eq_true hRR]
        obtain ⟨h0,h1,hf,hz⟩:=HH5.out.b2
        obtain ⟨x0,x1,xf,xz⟩:=HX5.out.b2
        go_wp2_with fail
        clear x0 x1 xf xz h0 h1 hf hz
        refine (slices_EqualE ⟨EA,Ec,E3⟩ E w5 ((Own.rd ED.k HO5.out).mono fun b hb=>hb.2) (HE.out.later HB5.out (Nat.le_refl _))).mono ?_
        simp only
        rintro r w6 ⟨rfl,hb6⟩
        have HB6:=Lib.hid (HB5.out.trans (hb6.mono HB5.out.size))
        clear hb6 HB5 HX5 HH5 HO5
        by_cases hEE : E3=E.l
        · rw [decide_eq_true hEE]
          have hv : V=0:=HV.out.symm.trans (by unfold chkV; rw [HGB.out,if_pos rfl,HV3.out,if_pos ⟨rfl,hRR,hEE⟩])
          subst hv
          go_wp2_with fail
          go_ret
          exact ⟨rfl,HB6.out⟩
        · rw [decide_eq_false hEE]
          have hv : V=23:=HV.out.symm.trans (by unfold chkV; rw [HGB.out,if_pos rfl,HV3.out,if_neg (fun h=>hEE h.2.2)])
          subst hv
          go_wp2_with fail
          go_ret
          exact ⟨rfl,HB6.out⟩
      · rw [decide_eq_false hRR]
        have hv : V=23:=HV.out.symm.trans (by unfold chkV; rw [HGB.out,if_pos rfl,HV3.out,if_neg (fun h=>hRR h.2.1)])
        subst hv
        go_wp2_with fail
        go_ret
        exact ⟨rfl,HB5.out⟩
    · have hv : V=23:=HV.out.symm.trans (by unfold chkV; rw [HGB.out,if_pos rfl,HV3.out,if_neg (fun h=>hc h.1)])
      subst hv
      go_wp2_with fail
      go_ret
      exact ⟨rfl,HB3.out.alloc HB3.out.size _⟩
theorem r13_Dist (n : Nat) (es : Sl ED) (s t : Int) (w : World) (hr : Rd (· < w.heap.size) 4 ED.enc w es) (hg : GrD n es.l) (h9 : n≤9) (hl : es.l.length≤20000) :
    Calls Try.prog 19 #[.int .i64 (n : Int),.slice es.A es.l.length es.c,.int .i64 s,.int .i64 t] w fun r w'=>r = .returned (.int .i64 (if Ir n s∧Ir n t then tabK es.l n s t else -1))∧Below w.heap.size w w':=by
  have hcall:=r13_Table n es w hr hg h9 hl
  have HC:=Lib.hid hcall
  obtain ⟨V,hV⟩ : ∃ V,(if Ir n s∧Ir n t then tabK es.l n s t else -1)=V:=⟨_,rfl⟩
  rw [hV]
  have HV:=Lib.hid hV
  clear hcall hV hr hg
  go_enter Try.func19,Try.ntmps19
  by_cases h1 : s<0
  · have hv : V = -1:=HV.out.symm.trans (if_neg (fun h=>by have:=h.1.1; omega))
    subst hv
    go_wp2_with fail
    go_ret
    exact ⟨rfl,Below.refl _ _⟩
  · by_cases h2 : (n : Int)≤s
    · have hv : V = -1:=HV.out.symm.trans (if_neg (fun h=>by have:=h.1.2; omega))
      subst hv
      go_wp2_with fail
      go_ret
      exact ⟨rfl,Below.refl _ _⟩
    · by_cases h3 : t<0
      · have hv : V = -1:=HV.out.symm.trans (if_neg (fun h=>by have:=h.2.1; omega))
        subst hv
        go_wp2_with fail
        go_ret
        exact ⟨rfl,Below.refl _ _⟩
      · by_cases h4 : (n : Int)≤t
        · have hv : V = -1:=HV.out.symm.trans (if_neg (fun h=>by have:=h.2.2; omega))
          subst hv
          go_wp2_with fail
          go_ret
          exact ⟨rfl,Below.refl _ _⟩
        · have hv : V=tabK es.l n s t:=HV.out.symm.trans (if_pos ⟨⟨by omega,by omega⟩,by omega,by omega⟩)
          subst hv
          obtain ⟨sm,rfl⟩:=Int.eq_ofNat_of_zero_le (show 0≤s by omega)
          obtain ⟨tm,rfl⟩:=Int.eq_ofNat_of_zero_le (show 0≤t by omega)
          have hsm : sm<n:=by omega
          have htm : tm<n:=by omega
          have hsm' : (sm : Int)<(n : Int):=by omega
          have htm' : (tm : Int)<(n : Int):=by omega
          clear HV
          go_wp2_with fail
          refine HC.out.mono ?_
          clear HC
          rintro r w1 ⟨A,c,rfl,⟨G,ht⟩,hb⟩
          obtain ⟨gs,hgs⟩ : ∃ g,G[sm]? = some g:=⟨_,List.getElem?_eq_getElem (by have:=ht.len; omega)⟩
          obtain ⟨a,rfl,c0⟩:=ht.cell hgs
          have c1:=ht.at_ hgs htm
          have HB:=Lib.hid hb
          obtain ⟨V,hV⟩ : ∃ V,tabK es.l n ((sm : Nat) : Int) ((tm : Nat) : Int)=V:=⟨_,rfl⟩
          rw [hV] at c1
          have HVV:=Lib.hid hV
          clear hV hb ht hgs
          go_wp2_with fail
          go_ret
          exact ⟨by rw [HVV.out]; rfl,HB.out⟩
theorem r13_Check (n : Int) (es : Sl ED) (R : Sl Int) (E : Sl ED) (w : World) (hr : Rd (· < w.heap.size) 4 ED.enc w es) (hR : Rd (· < w.heap.size) 1 ienc w R) (hE : Rd (· < w.heap.size) 4 ED.enc w E) (hl : R.l.length≤10000) (h9 : graphB n es.l=true→n≤9) :
    Calls Try.prog 15 #[.int .i64 n,.slice es.A es.l.length es.c,.agg #[.slice R.A R.l.length R.c,.slice E.A E.l.length E.c]] w fun r w'=>r = .returned (.int .i64 (chkV n es.l R.l E.l))∧Below w.heap.size w w':=by
  have HQ:=Lib.hid hr
  have HR:=Lib.hid hR
  have HE:=Lib.hid hE
  have H9:=Lib.hid h9
  obtain ⟨V,hV⟩ : ∃ V,chkV n es.l R.l E.l=V:=⟨_,rfl⟩
  rw [hV]
  have HV:=Lib.hid hV
  clear hr hR hE h9 hV
  go_enter Try.func15,Try.ntmps15
  go_wp2_with fail
  have HB1 : Hid (Below w.heap.size w (w.alloc (.cells #[.slice R.A R.l.length R.c,.slice E.A E.l.length E.c] 25))):=Lib.hid (by repeat (first | (with_reducible exact Below.refl _ _) | ((with_reducible refine below_setr ?_ ?_); focus (first | (simp; done) | (simp; omega) | omega)) | ((with_reducible refine below_allocr ?_ ?_); focus (first | (simp; done) | (simp; omega) | omega)) | (with_reducible refine Below.drew ?_) | (with_reducible refine below_drewN ?_ _)))
  have HX1 : Hid (Blk (w.alloc (.cells #[.slice R.A R.l.length R.c,.slice E.A E.l.length E.c] 25)) w.heap.size 25 #[.slice R.A R.l.length R.c,.slice E.A E.l.length E.c]):=Lib.hid (Blk.new _ _ _)
  generalize w.alloc (.cells #[.slice R.A R.l.length R.c,.slice E.A E.l.length E.c] 25)=w1 at *
  refine (r13_Graph es n w1 (HQ.out.later HB1.out (Nat.le_refl _))).mono ?_
  rintro r w2 ⟨rfl,hb2⟩
  have HB2:=Lib.hid (HB1.out.trans (hb2.mono HB1.out.size))
  have HX2:=Lib.hid (HX1.out.later hb2)
  clear hb2 HB1 HX1
  obtain ⟨gb,hgb⟩ : ∃ b,graphB n es.l=b:=⟨_,rfl⟩
  rw [hgb]
  have HGB:=Lib.hid hgb
  clear hgb
  rcases gb
  · have hv : V=1:=HV.out.symm.trans (by unfold chkV; rw [HGB.out,if_neg (by simp)])
    subst hv
    go_wp2_with fail
    go_ret
    exact ⟨rfl,HB2.out⟩
  · obtain ⟨x0,x1,xf,xz⟩:=HX2.out.b2
    go_wp2_with fail
    refine (r13_Build n es R w2 (HQ.out.later HB2.out (Nat.le_refl _)) (HR.out.later HB2.out (Nat.le_refl _)) hl H9.out).mono ?_
    clear x0 x1 xf xz
    rintro r w3 ⟨RA,EA,Rc,Ec,rfl,ho1,ho2,hb⟩
    obtain ⟨⟨R3,E3,c3⟩,hv3⟩ : ∃ v,bldV n es.l R.l=v:=⟨_,rfl⟩
    rw [hv3] at ho1 ho2 ⊢
    simp only at ho1 ho2 ⊢
    have HO1:=Lib.hid ho1
    have HO2:=Lib.hid ho2
    have HV3:=Lib.hid hv3
    have HB3:=Lib.hid (HB2.out.trans (hb.mono HB2.out.size))
    have HX3:=Lib.hid (HX2.out.later hb)
    have hrl:=(ho1.rd ienc_k).len
    have hel:=(ho2.rd ED.k).len
    simp only at hrl hel
    clear hv3 ho1 ho2 hb HX2 HB2
    have hw4 : Below w3.heap.size w3 (w3.alloc (.cells #[.slice RA R3.length Rc,.slice EA E3.length Ec] 25)):=(Below.refl _ _).alloc (Nat.le_refl _) _
    have HW4:=Lib.hid hw4
    clear hw4
    by_cases hc : c3=0
    · subst hc
      obtain ⟨x0,x1,xf,xz⟩:=HX3.out.b2
      go_wp2_with fail
      have HH4 : Hid (Blk (w3.alloc (.cells #[.slice RA R3.length Rc,.slice EA E3.length Ec] 25)) w3.heap.size 25 #[.slice RA R3.length Rc,.slice EA E3.length Ec]):=Lib.hid (Blk.new _ _ _)
      have HB4:=Lib.hid (HB3.out.trans (HW4.out.mono HB3.out.size))
      have HX4:=Lib.hid (HX3.out.later HW4.out)
      have HP1:=Lib.hid (HO1.out.below HW4.out)
      have HP2:=Lib.hid (HO2.out.below HW4.out)
      clear x0 x1 xf xz
      clear HW4 HO1 HO2 HX3 HB3
      generalize w3.alloc (.cells #[.slice RA R3.length Rc,.slice EA E3.length Ec] 25)=w4 at *
      refine (r13_Ints ⟨RA,Rc,R3⟩ R w4 ((Own.rd ienc_k HP1.out).mono fun b hb=>hb.2) (HR.out.later HB4.out (Nat.le_refl _))).mono ?_
      simp only
      rintro r w5 ⟨rfl,hb5⟩
      have HB5:=Lib.hid (HB4.out.trans (hb5.mono HB4.out.size))
      have HX5:=Lib.hid (HX4.out.later hb5)
      have HH5:=Lib.hid (HH4.out.later hb5)
      have HO5:=Lib.hid (HP2.out.below hb5)
      clear hb5 HB4 HX4 HH4 HP1 HP2
      by_cases hRR : R3=R.l
      · rw [decide_eq_true hRR]
        obtain ⟨h0,h1,hf,hz⟩:=HH5.out.b2
        obtain ⟨x0,x1,xf,xz⟩:=HX5.out.b2
        go_wp2_with fail
        clear x0 x1 xf xz h0 h1 hf hz
        refine (r13_Same ⟨EA,Ec,E3⟩ E w5 ((Own.rd ED.k HO5.out).mono fun b hb=>hb.2) (HE.out.later HB5.out (Nat.le_refl _))).mono ?_
        simp only
        rintro r w6 ⟨rfl,hb6⟩
        have HB6:=Lib.hid (HB5.out.trans (hb6.mono HB5.out.size))
        clear hb6 HB5 HX5 HH5 HO5
        by_cases hEE : E3=E.l
        · rw [decide_eq_true hEE]
          have hv : V=0:=HV.out.symm.trans (by unfold chkV; rw [HGB.out,if_pos rfl,HV3.out,if_pos ⟨rfl,hRR,hEE⟩])
          subst hv
          go_wp2_with fail
          go_ret
          exact ⟨rfl,HB6.out⟩
        · rw [decide_eq_false hEE]
          have hv : V=23:=HV.out.symm.trans (by unfold chkV; rw [HGB.out,if_pos rfl,HV3.out,if_neg (fun h=>hEE h.2.2)])
          subst hv
          go_wp2_with fail
          go_ret
          exact ⟨rfl,HB6.out⟩
      · rw [decide_eq_false hRR]
        have hv : V=23:=HV.out.symm.trans (by unfold chkV; rw [HGB.out,if_pos rfl,HV3.out,if_neg (fun h=>hRR h.2.1)])
        subst hv
        go_wp2_with fail
        go_ret
        exact ⟨rfl,HB5.out⟩
    · have hv : V=23:=HV.out.symm.trans (by unfold chkV; rw [HGB.out,if_pos rfl,HV3.out,if_neg (fun h=>hc h.1)])
      subst hv
      go_wp2_with fail
      go_ret
      exact ⟨rfl,HB3.out.alloc HB3.out.size _⟩
end Go.Proofs.Ytlbihfbeamlacaa
