/- Walks: Dist. -/
import Derived.Test.YtlbihfbeamlacaaHbxba
set_option linter.unusedSimpArgs false
set_option linter.unusedVariables false
set_option maxRecDepth 100000
set_option maxHeartbeats 6400000
namespace Go.Proofs.Ytlbihfbeamlacaa
open Go.RowKit
theorem DsL.of {n : Nat} {F : Int→Int→Option ED} {rk : Int→Int} {s : Int} {l : List Int} {b : Int→Int} (hl : l.length=n) (h : Climb n F rk s (atF l) b) (ht : ∀ v,Ir n v→atF l v≤9000000000000) : DsL n l:=by
  refine ⟨hl,fun x hx=>?_⟩
  obtain ⟨i,hi,rfl⟩:=List.mem_iff_getElem.1 hx
  have e : atF l ((i : Nat) : Int)=l[i]:=atF_get (by omega)
  have h1:=h.low (i : Int)
  have h2:=ht (i : Int) (by unfold Ir; omega)
  rw [e] at h1 h2
  exact ⟨h1,h2⟩
theorem Rd.ints {w : World} {g n : Nat} {l : List Int} (hl : l.length=n) (hn : n≤10000) (h : Blk w g 3 (intsA l)) : Rd (· < w.heap.size) 1 ienc w ⟨some ⟨g,0,none⟩,n,l⟩ :=
  ⟨by simp only; omega,by unfold maxLen; simp only; omega,fun h=>by simp at h,fun i y hy=>by
    exact ⟨g,0,rfl,h.lt,fun j u hu=>by
      have hj : j=0:=by
        rcases j with _ | j
        · rfl
        · simp [ienc] at hu
      subst hj
      rw [h.cell]
      simp only at hy
      have hi : i<l.length:=(List.getElem?_eq_some_iff.1 hy).1
      simp only [ienc,List.getElem?_cons_zero] at hu
      rw [← hu,Nat.mul_one,Nat.zero_add,Nat.add_zero,intsA_at hi]
      rw [List.getElem?_eq_getElem hi] at hy
      injection hy with hy
      rw [hy]⟩⟩
/-- A right hierarchy, for the walk. -/
structure HRt (n : Nat) (es : List ED) (D : Int→Int→Int) (R : List Int) (E : List ED) : Prop where
  rk : RkOK n R
  n9 : n≤9
  key : KeyD E
  ok : ∀ e,e ∈ E→Ir n e.f∧Ir n e.t∧0≤e.n∧e.n≤1000000000000
  len : E.length≤81
  h : HOK n es (rkF R) D (lkE E)
theorem hier_Dist (n : Nat) (es : List ED) (D : Int→Int→Int) (R : Sl Int) (E : Sl ED) (s t : Int) (w : World) (hR : Rd (· < w.heap.size) 1 ienc w R) (hE : Rd (· < w.heap.size) 4 ED.enc w E) (hh : HRt n es D R.l E.l) :
    Calls Try.prog 18 #[.agg #[.slice R.A R.l.length R.c,.slice E.A E.l.length E.c],.int .i64 s,.int .i64 t] w fun r w'=>r = .returned (.int .i64 (if Ir n s∧Ir n t then D s t else -1))∧Below w.heap.size w w':=by
  have HR:=Lib.hid hR
  have HE:=Lib.hid hE
  have HH:=Lib.hid hh
  have hn:=hh.n9
  have hrl:=hh.rk.len
  clear hR hE hh
  obtain ⟨RA,Rc,R⟩:=R
  obtain ⟨EA,Ec,E⟩:=E
  simp only at hrl HH ⊢
  subst hrl
  obtain ⟨V,hV⟩ : ∃ V,(if Ir R.length s∧Ir R.length t then D s t else -1)=V:=⟨_,rfl⟩
  rw [hV]
  have HV:=Lib.hid hV
  clear hV
  have hnode:=fun v w=>hier_node ⟨RA,Rc,R⟩ ⟨EA,Ec,E⟩ v w (by simp only; omega)
  simp only at hnode
  have HND:=Lib.hid hnode
  clear hnode
  go_enter Try.func18,Try.ntmps18
  go_wp2_with fail
  have HB1 : Hid (Below w.heap.size w (w.alloc (.cells #[.slice RA R.length Rc,.slice EA E.length Ec] 25))):=Lib.hid (by repeat (first | (with_reducible exact Below.refl _ _) | ((with_reducible refine below_setr ?_ ?_); focus (first | (simp; done) | (simp; omega) | omega)) | ((with_reducible refine below_allocr ?_ ?_); focus (first | (simp; done) | (simp; omega) | omega)) | (with_reducible refine Below.drew ?_) | (with_reducible refine below_drewN ?_ _)))
  have HX1 : Hid (Blk (w.alloc (.cells #[.slice RA R.length Rc,.slice EA E.length Ec] 25)) w.heap.size 25 #[.slice RA R.length Rc,.slice EA E.length Ec]):=Lib.hid (Blk.new _ _ _)
  generalize w.alloc (.cells #[.slice RA R.length Rc,.slice EA E.length Ec] 25)=w1 at *
  refine (HND.out s w1).mono ?_
  rintro r w2 ⟨rfl,hb⟩
  have HB2:=Lib.hid (HB1.out.trans (hb.mono HB1.out.size))
  have HX2:=Lib.hid (HX1.out.later hb)
  clear hb HB1 HX1
  by_cases hs : Ir R.length s
  · rw [decide_eq_true hs]
    obtain ⟨x0,x1,xf,xz⟩:=HX2.out.b2
    go_wp2_with fail
    clear x0 x1 xf xz
    refine (HND.out t w2).mono ?_
    rintro r w3 ⟨rfl,hb⟩
    have HB3:=Lib.hid (HB2.out.trans (hb.mono HB2.out.size))
    have HX3:=Lib.hid (HX2.out.later hb)
    clear hb HB2 HX2
    by_cases ht : Ir R.length t
    · rw [decide_eq_true ht]
      have hv : V=D s t:=HV.out.symm.trans (if_pos ⟨hs,ht⟩)
      subst hv
      have HS:=Lib.hid hs
      have HT:=Lib.hid ht
      obtain ⟨sm,rfl⟩:=Int.eq_ofNat_of_zero_le hs.1
      obtain ⟨tm,rfl⟩:=Int.eq_ofNat_of_zero_le ht.1
      have hsm : sm<R.length:=by unfold Ir at hs; omega
      have htm : tm<R.length:=by unfold Ir at ht; omega
      clear HV hs ht HND
      go_wp2_with fail
      refine wp_region_T (fun W=>W.cell? ⟨w.heap.size,0,none⟩=some (.slice RA R.length Rc)∧W.cell? ⟨w.heap.size,1,none⟩=some (.slice EA E.length Ec)) (fun _=>false) (by kernel_rfl) ⟨HX3.out.cell 0,HX3.out.cell 1⟩ (fun hHeld=>?_)
      refine wpAnyT_take2 (i:=0) (v:=?_) rfl rfl (by kernel_rfl) (by kernel_rfl) (by kernel_rfl) (by kernel_rfl) (fun _ _ _ h=>h) (Or.inl ⟨by rfl, ?_⟩) (by first | assumption | trivial) ?_
      rotate_left
      · (intro w hSw; (try dsimp only at hSw); go_simp) <;> (with_reducible rfl)
      simp only [List.setIfInBounds_toArray,List.set_cons_zero,List.set_cons_succ]
      refine wpAnyT_take2 (i:=1) (v:=?_) rfl rfl (by kernel_rfl) (by kernel_rfl) (by kernel_rfl) (by kernel_rfl) (fun _ _ _ h=>h) (Or.inl ⟨by rfl, ?_⟩) (by first | assumption | trivial) ?_
      rotate_left
      · (intro w hSw; (try dsimp only at hSw); go_simp) <;> (with_reducible rfl)
      simp only [List.setIfInBounds_toArray,List.set_cons_zero,List.set_cons_succ]
      refine wpAnyT_take2 (i:=3) (v:=?_) rfl rfl (by kernel_rfl) (by kernel_rfl) (by kernel_rfl) (by kernel_rfl) (fun _ _ _ h=>h) (Or.inl ⟨by rfl, ?_⟩) (by first | assumption | trivial) ?_
      rotate_left
      · (intro w hSw; (try dsimp only at hSw); go_simp) <;> (with_reducible rfl)
      simp only [List.setIfInBounds_toArray,List.set_cons_zero,List.set_cons_succ]
      refine wpAnyT_take2 (i:=4) (v:=?_) rfl rfl (by kernel_rfl) (by kernel_rfl) (by kernel_rfl) (by kernel_rfl) (fun _ _ _ h=>h) (Or.inl ⟨by rfl, ?_⟩) (by first | assumption | trivial) ?_
      rotate_left
      · (intro w hSw; (try dsimp only at hSw); go_simp) <;> (with_reducible rfl)
      simp only [List.setIfInBounds_toArray,List.set_cons_zero,List.set_cons_succ]
      clear hHeld
      have hdr : Below w3.heap.size w3 w3.drew:=Below.drew (Below.refl _ _)
      have HB4:=Lib.hid (HB3.out.trans (hdr.mono HB3.out.size))
      have HX4:=Lib.hid (HX3.out.later hdr)
      clear hdr HB3 HX3
      generalize w3.drew=w4 at *
      refine wpAnyT_next (i:=2) (by kernel_rfl) rfl ?_
      go_wp2_with fail
      refine (hier_up R.length sm ⟨RA,Rc,R⟩ ⟨EA,Ec,E⟩ false w4 (HR.out.later HB4.out (Nat.le_refl _)) (HE.out.later HB4.out (Nat.le_refl _)) HH.out.rk hn HH.out.key HH.out.ok HH.out.len hsm).mono ?_
      rintro r w5 ⟨gd,gb,dl,bl,rfl,hgd,hgb,hdn,hbn,hdx,hbx,hcl,htp,hb⟩
      have HLA : Hid (DsL R.length dl):=Lib.hid (DsL.of hdn hcl htp)
      have HCA:=Lib.hid hcl
      have HDA:=Lib.hid hdx
      have HB5:=Lib.hid (HB4.out.trans (hb.mono HB4.out.size))
      have HX5:=Lib.hid (HX4.out.later hb)
      clear hgd hgb hdn hdx hbx hcl htp hb HB4 HX4
      go_wp2_with fail
      refine And.intro (by first | exact ⟨HX5.out.cell 0,HX5.out.cell 1⟩ | exact fun _=>⟨HX5.out.cell 0,HX5.out.cell 1⟩) ?_
      refine wpAnyT_next (i:=5) (by kernel_rfl) rfl ?_
      go_wp2_with fail
      refine (hier_up R.length tm ⟨RA,Rc,R⟩ ⟨EA,Ec,E⟩ true w5 (HR.out.later HB5.out (Nat.le_refl _)) (HE.out.later HB5.out (Nat.le_refl _)) HH.out.rk hn HH.out.key HH.out.ok HH.out.len htm).mono ?_
      rintro r w6 ⟨ge,gf,el,fl,rfl,hgd,hgb,hdn,hfn,hdx,hbx,hcl,htp,hb⟩
      have HLB : Hid (DsL R.length el):=Lib.hid (DsL.of hdn hcl htp)
      have HCB:=Lib.hid hcl
      have HDB:=Lib.hid hdx
      have HB6:=Lib.hid (HB5.out.trans (hb.mono HB5.out.size))
      have HX6:=Lib.hid (HX5.out.later hb)
      have HDA6:=Lib.hid (HDA.out.later hb)
      clear hgd hgb hdn hdx hbx hcl htp hb HB5 HX5 HDA
      go_wp2_with fail
      refine And.intro (by first | exact ⟨HX6.out.cell 0,HX6.out.cell 1⟩ | exact fun _=>⟨HX6.out.cell 0,HX6.out.cell 1⟩) ?_
      have hla:=HLA.out.1
      have hlb:=HLB.out.1
      have hmt:=hier_meet R.length hn ⟨some ⟨gd,0,none⟩,R.length,dl⟩ ⟨some ⟨ge,0,none⟩,R.length,el⟩ ⟨some ⟨gb,0,none⟩,R.length,bl⟩ ⟨some ⟨gf,0,none⟩,R.length,fl⟩ w6 (Rd.ints hla (by omega) HDA6.out) (Rd.ints hlb (by omega) HDB.out) HLA.out HLB.out
      simp only [hla,hlb,hbn,hfn] at hmt
      have HMD:=Lib.hid (meet_D HH.out.h HS.out HT.out HCA.out HCB.out)
      have HM:=Lib.hid hmt
      clear hmt hla hlb hbn hfn
      refine wpAnyT_next (i:=6) (by kernel_rfl) rfl ?_
      go_wp2_with fail
      refine HM.out.mono ?_
      rintro r w7 ⟨rfl,hb⟩
      rw [HMD.out.1]
      have HB7:=Lib.hid (HB6.out.trans (hb.mono HB6.out.size))
      have HX7:=Lib.hid (HX6.out.later hb)
      clear hb HM HMD HB6 HX6 HDA6 HDB HCA HCB HLA HLB
      go_wp2_with fail
      refine And.intro (by first | exact ⟨HX7.out.cell 0,HX7.out.cell 1⟩ | exact fun _=>⟨HX7.out.cell 0,HX7.out.cell 1⟩) ?_
      have hHeld:=And.intro (HX7.out.cell 0) (HX7.out.cell 1)
      refine wpAnyT_take2 (i:=7) (v:=?_) rfl rfl (by kernel_rfl) (by kernel_rfl) (by kernel_rfl) (by kernel_rfl) (fun _ _ _ h=>h) (Or.inl ⟨by rfl, ?_⟩) (by first | assumption | trivial) ?_
      rotate_left
      · (intro w hSw; (try dsimp only at hSw); go_simp) <;> (with_reducible rfl)
      simp only [List.setIfInBounds_toArray,List.set_cons_zero,List.set_cons_succ]
      refine wpAnyT_take2 (i:=8) (v:=?_) rfl rfl (by kernel_rfl) (by kernel_rfl) (by kernel_rfl) (by kernel_rfl) (fun _ _ _ h=>h) (Or.inl ⟨by rfl, ?_⟩) (by first | assumption | trivial) ?_
      rotate_left
      · (intro w hSw; (try dsimp only at hSw); go_simp) <;> (with_reducible rfl)
      simp only [List.setIfInBounds_toArray,List.set_cons_zero,List.set_cons_succ]
      refine wpAnyT_take2 (i:=9) (v:=?_) rfl rfl (by kernel_rfl) (by kernel_rfl) (by kernel_rfl) (by kernel_rfl) (fun _ _ _ h=>h) (Or.inl ⟨by rfl, ?_⟩) (by first | assumption | trivial) ?_
      rotate_left
      · (intro w hSw; (try dsimp only at hSw); go_simp) <;> (with_reducible rfl)
      simp only [List.setIfInBounds_toArray,List.set_cons_zero,List.set_cons_succ]
      refine wpAnyT_take2 (i:=10) (v:=?_) rfl rfl (by kernel_rfl) (by kernel_rfl) (by kernel_rfl) (by kernel_rfl) (fun _ _ _ h=>h) (Or.inl ⟨by rfl, ?_⟩) (by first | assumption | trivial) ?_
      rotate_left
      · (intro w hSw; (try dsimp only at hSw); go_simp) <;> (with_reducible rfl)
      simp only [List.setIfInBounds_toArray,List.set_cons_zero,List.set_cons_succ]
      refine wpAnyT_take2 (i:=11) (v:=?_) rfl rfl (by kernel_rfl) (by kernel_rfl) (by kernel_rfl) (by kernel_rfl) (fun _ _ _ h=>h) (Or.inl ⟨by rfl, ?_⟩) (by first | assumption | trivial) ?_
      rotate_left
      · (intro w hSw; (try dsimp only at hSw); go_simp) <;> (with_reducible rfl)
      simp only [List.setIfInBounds_toArray,List.set_cons_zero,List.set_cons_succ]
      clear hHeld
      refine wpAnyT_done (by kernel_rfl) ?_ _
      go_wp2_with fail
      go_ret
      exact ⟨rfl,HB7.out⟩
    · rw [decide_eq_false ht]
      have hv : V = -1:=HV.out.symm.trans (if_neg (fun h=>ht h.2))
      subst hv
      go_wp2_with fail
      go_ret
      exact ⟨rfl,HB3.out⟩
  · rw [decide_eq_false hs]
    have hv : V = -1:=HV.out.symm.trans (if_neg (fun h=>hs h.1))
    subst hv
    go_wp2_with fail
    go_ret
    exact ⟨rfl,HB2.out⟩
end Go.Proofs.Ytlbihfbeamlacaa
