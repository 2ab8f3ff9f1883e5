/- Walks: Path (printed by gen_hw21.py). -/
import Derived.Test.YtlbihfbeamlacaaHbxbm
import Derived.Test.YtlbihfbeamlacaaHbxal
import Derived.Test.YtlbihfbeamlacaaHbxak
set_option linter.unusedSimpArgs false
set_option linter.unusedVariables false
set_option maxRecDepth 100000
set_option maxHeartbeats 6400000
namespace Go.Proofs.Ytlbihfbeamlacaa
open Go.RowKit
/-- A climb in memory. -/
structure UpA (n s : Nat) (R : List Int) (E : List ED) (back : Bool) (w0 w : World) (gd gb : Nat) (dl bl : List Int) : Prop where
  dn : dl.length=n
  bn : bl.length=n
  dx : Blk w gd 3 (intsA dl)
  bx : Blk w gb 3 (intsA bl)
  cl : Climb n (dirF back (lkE E)) (rkF R) s (atF dl) (atF bl)
  tp : ∀ v,Ir n v→atF dl v≤9000000000000
  l1 : w0.heap.size≤gd
  l2 : w0.heap.size≤gb
theorem UpA.later {n s : Nat} {R : List Int} {E : List ED} {back : Bool} {w0 w w' : World} {gd gb : Nat} {dl bl : List Int} (h : UpA n s R E back w0 w gd gb dl bl) (hb : Below w.heap.size w w') : UpA n s R E back w0 w' gd gb dl bl:=⟨h.dn,h.bn,h.dx.later hb,h.bx.later hb,h.cl,h.tp,h.l1,h.l2⟩
theorem UpA.far {n s : Nat} {R : List Int} {E : List ED} {back : Bool} {w0 w : World} {gd gb : Nat} {dl bl : List Int} (h : UpA n s R E back w0 w gd gb dl bl) {p : Addr} (h1 : gd≠p.block) (h2 : gb≠p.block) (u : Value) : UpA n s R E back w0 (w.setCell p u) gd gb dl bl:=⟨h.dn,h.bn,h.dx.far h1 u,h.bx.far h2 u,h.cl,h.tp,h.l1,h.l2⟩
theorem lkE_take {E : List ED} (h : KeyD E) {k : Nat} {x : ED} (hx : E[k]? = some x) : lkE (E.take k) x.f x.t=none:=by
  unfold lkE
  refine List.find?_eq_none.2 (fun y hy hk=>?_)
  obtain ⟨j,hj,rfl⟩:=List.mem_iff_getElem.1 hy
  rw [List.length_take] at hj
  rw [List.getElem_take] at hk
  obtain ⟨hkl,he⟩:=List.getElem?_eq_some_iff.1 hx
  have:=(List.pairwise_iff_getElem.1 h) j k (by omega) hkl (by omega)
  rw [he] at this
  exact this (keyE_iff.1 hk)
/-- What Path returns. -/
def PthP (n : Nat) (es : List ED) (D : Int→Int→Int) (s t : Int) (w w' : World) (r : Ending) : Prop:=∃ (A : Option Addr) (c : Nat) (out : List Int),r = .returned (.slice A out.length c)∧Own w.heap.size 3 1 ienc w' ⟨A,c,out⟩∧(if Ir n s∧Ir n t∧0≤D s t then PathP n es D s t out else out=[])∧Below w.heap.size w w'
theorem hier_Path (n : Nat) (es : List ED) (D : Int→Int→Int) (R : Sl Int) (E : Sl ED) (s t : Int) (w : World) (hR : Rd (· < w.heap.size) 1 ienc w R) (hE : Rd (· < w.heap.size) 4 ED.enc w E) (hh : HRt n es D R.l E.l) :
    Calls Try.prog 20 #[.agg #[.slice R.A R.l.length R.c,.slice E.A E.l.length E.c],.int .i64 s,.int .i64 t] w fun r w'=>PthP n es D s t w w' r:=by
  have HR:=Lib.hid hR
  have HE:=Lib.hid hE
  have HH:=Lib.hid hh
  have hn:=hh.n9
  have hrl:=hh.rk.len
  clear hR hE hh
  obtain ⟨RA,Rc,R⟩:=R
  obtain ⟨EA,Ec,E⟩:=E
  simp only at hrl HH ⊢
  subst hrl
  have hnode:=fun v w=>hier_node ⟨RA,Rc,R⟩ ⟨EA,Ec,E⟩ v w (by simp only; omega)
  simp only at hnode
  have HND:=Lib.hid hnode
  clear hnode
  go_enter Try.func20,Try.ntmps20
  go_wp2_with fail
  have HB1 : Hid (Below w.heap.size w (w.alloc (.cells #[.slice RA R.length Rc,.slice EA E.length Ec] 25))):=Lib.hid (by repeat (first | (with_reducible exact Below.refl _ _) | ((with_reducible refine below_setr ?_ ?_); focus (first | (simp; done) | (simp; omega) | omega)) | ((with_reducible refine below_allocr ?_ ?_); focus (first | (simp; done) | (simp; omega) | omega)) | (with_reducible refine Below.drew ?_) | (with_reducible refine below_drewN ?_ _)))
  have HX1 : Hid (Blk (w.alloc (.cells #[.slice RA R.length Rc,.slice EA E.length Ec] 25)) w.heap.size 25 #[.slice RA R.length Rc,.slice EA E.length Ec]):=Lib.hid (Blk.new _ _ _)
  generalize w.alloc (.cells #[.slice RA R.length Rc,.slice EA E.length Ec] 25)=w1 at *
  refine (HND.out s w1).mono ?_
  rintro r w2 ⟨rfl,hb⟩
  have HB2:=Lib.hid (HB1.out.trans (hb.mono HB1.out.size))
  have HX2:=Lib.hid (HX1.out.later hb)
  clear hb HB1 HX1
  by_cases hs : Ir R.length s
  · rw [decide_eq_true hs]
    obtain ⟨x0,x1,xf,xz⟩:=HX2.out.b2
    go_wp2_with fail
    clear x0 x1 xf xz
    refine (HND.out t w2).mono ?_
    rintro r w3 ⟨rfl,hb⟩
    have HB3:=Lib.hid (HB2.out.trans (hb.mono HB2.out.size))
    have HX3:=Lib.hid (HX2.out.later hb)
    clear hb HB2 HX2
    by_cases ht : Ir R.length t
    · rw [decide_eq_true ht]
      have HS:=Lib.hid hs
      have HT:=Lib.hid ht
      obtain ⟨sm,rfl⟩:=Int.eq_ofNat_of_zero_le hs.1
      obtain ⟨tm,rfl⟩:=Int.eq_ofNat_of_zero_le ht.1
      have hsm : sm<R.length:=by unfold Ir at hs; omega
      have htm : tm<R.length:=by unfold Ir at ht; omega
      clear hs ht HND
      go_wp2_with fail
      refine wp_region_T (fun W=>W.cell? ⟨w.heap.size,0,none⟩=some (.slice RA R.length Rc)∧W.cell? ⟨w.heap.size,1,none⟩=some (.slice EA E.length Ec)) (fun _=>false) (by kernel_rfl) ⟨HX3.out.cell 0,HX3.out.cell 1⟩ (fun hHeld=>?_)
      refine wpAnyT_take2 (i:=0) (v:=?_) rfl rfl (by kernel_rfl) (by kernel_rfl) (by kernel_rfl) (by kernel_rfl) (fun _ _ _ h=>h) (Or.inl ⟨by rfl, ?_⟩) (by first | assumption | trivial) ?_
      rotate_left
      · (intro w hSw; (try dsimp only at hSw); go_simp) <;> (with_reducible rfl)
      simp only [List.setIfInBounds_toArray,List.set_cons_zero,List.set_cons_succ]
      refine wpAnyT_take2 (i:=1) (v:=?_) rfl rfl (by kernel_rfl) (by kernel_rfl) (by kernel_rfl) (by kernel_rfl) (fun _ _ _ h=>h) (Or.inl ⟨by rfl, ?_⟩) (by first | assumption | trivial) ?_
      rotate_left
      · (intro w hSw; (try dsimp only at hSw); go_simp) <;> (with_reducible rfl)
      simp only [List.setIfInBounds_toArray,List.set_cons_zero,List.set_cons_succ]
      refine wpAnyT_take2 (i:=3) (v:=?_) rfl rfl (by kernel_rfl) (by kernel_rfl) (by kernel_rfl) (by kernel_rfl) (fun _ _ _ h=>h) (Or.inl ⟨by rfl, ?_⟩) (by first | assumption | trivial) ?_
      rotate_left
      · (intro w hSw; (try dsimp only at hSw); go_simp) <;> (with_reducible rfl)
      simp only [List.setIfInBounds_toArray,List.set_cons_zero,List.set_cons_succ]
      refine wpAnyT_take2 (i:=4) (v:=?_) rfl rfl (by kernel_rfl) (by kernel_rfl) (by kernel_rfl) (by kernel_rfl) (fun _ _ _ h=>h) (Or.inl ⟨by rfl, ?_⟩) (by first | assumption | trivial) ?_
      rotate_left
      · (intro w hSw; (try dsimp only at hSw); go_simp) <;> (with_reducible rfl)
      simp only [List.setIfInBounds_toArray,List.set_cons_zero,List.set_cons_succ]
      clear hHeld
      have hdr : Below w3.heap.size w3 w3.drew:=Below.drew (Below.refl _ _)
      have HB4:=Lib.hid (HB3.out.trans (hdr.mono HB3.out.size))
      have HX4:=Lib.hid (HX3.out.later hdr)
      clear hdr HB3 HX3
      generalize w3.drew=w4 at *
      have HB:=HB4
      have HX:=HX4
      clear HB4 HX4
      apply cutT
      · intro fin0
        have FIN:=Lib.hid fin0
        clear fin0
        refine wpAnyT_three (i:=2) (j:=6) (l:=7) (by kernel_rfl) rfl rfl rfl ?_ ?_ ?_
        · skip
          go_wp2_with fail
          refine (hier_up R.length sm ⟨RA,Rc,R⟩ ⟨EA,Ec,E⟩ false w4 (HR.out.later HB.out (Nat.le_refl _)) (HE.out.later HB.out (Nat.le_refl _)) HH.out.rk hn HH.out.key HH.out.ok HH.out.len hsm).mono ?_
          rintro r v1 ⟨gd,gb,dl,bl,rfl,hq1,hq2,hdn,hbn,hdx,hbx,hcl,htp,hb⟩
          have HA : Hid (UpA R.length sm R E false w v1 gd gb dl bl):=Lib.hid ⟨hdn,hbn,hdx,hbx,hcl,htp,Nat.le_trans HB.out.size hq1,Nat.le_trans HB.out.size hq2⟩
          replace HB:=Lib.hid (HB.out.trans (hb.mono HB.out.size))
          replace HX:=Lib.hid (HX.out.later hb)
          clear hq1 hq2 hdn hbn hdx hbx hcl htp hb
          go_wp2_with fail
          refine And.intro (by first | exact ⟨HX.out.cell 0,HX.out.cell 1⟩ | exact fun _=>⟨HX.out.cell 0,HX.out.cell 1⟩) ?_
          refine wpAnyT_three (i:=5) (j:=6) (l:=7) (by kernel_rfl) rfl rfl rfl ?_ ?_ ?_
          · skip
            go_wp2_with fail
            refine (hier_up R.length tm ⟨RA,Rc,R⟩ ⟨EA,Ec,E⟩ true v1 (HR.out.later HB.out (Nat.le_refl _)) (HE.out.later HB.out (Nat.le_refl _)) HH.out.rk hn HH.out.key HH.out.ok HH.out.len htm).mono ?_
            rintro r v2 ⟨ge,gf,el,fl,rfl,hq1,hq2,hdn,hbn,hdx,hbx,hcl,htp,hb⟩
            have HC : Hid (UpA R.length tm R E true w v2 ge gf el fl):=Lib.hid ⟨hdn,hbn,hdx,hbx,hcl,htp,Nat.le_trans HB.out.size hq1,Nat.le_trans HB.out.size hq2⟩
            replace HB:=Lib.hid (HB.out.trans (hb.mono HB.out.size))
            replace HX:=Lib.hid (HX.out.later hb)
            replace HA:=Lib.hid (HA.out.later hb)
            clear hq1 hq2 hdn hbn hdx hbx hcl htp hb
            go_wp2_with fail
            refine And.intro (by first | exact ⟨HX.out.cell 0,HX.out.cell 1⟩ | exact fun _=>⟨HX.out.cell 0,HX.out.cell 1⟩) ?_
            refine wpAnyT_two (i:=6) (j:=7) (by kernel_rfl) rfl rfl ?_ ?_
            · skip
              go_wp2_with fail
              have hb : Below v2.heap.size v2 (v2.alloc (.cells #[.slice none 0 0,.slice none 0 0] 65)):=(Below.refl _ _).alloc (Nat.le_refl _) _
              have H7 : Hid (Blk (v2.alloc (.cells #[.slice none 0 0,.slice none 0 0] 65)) v2.heap.size 65 #[.slice none 0 0,.slice none 0 0]∧w.heap.size<v2.heap.size):=Lib.hid ⟨Blk.new _ _ _,HX.out.lt⟩
              replace HB:=Lib.hid (HB.out.trans (hb.mono HB.out.size))
              replace HX:=Lib.hid (HX.out.later hb)
              replace HA:=Lib.hid (HA.out.later hb)
              replace HC:=Lib.hid (HC.out.later hb)
              clear hb
              generalize v2.alloc (.cells #[.slice none 0 0,.slice none 0 0] 65)=v3 at *
              generalize v2.heap.size=g7 at *
              refine And.intro (by first | exact ⟨HX.out.cell 0,HX.out.cell 1⟩ | exact fun _=>⟨HX.out.cell 0,HX.out.cell 1⟩) ?_
              refine wpAnyT_next (i:=7) (by kernel_rfl) rfl ?_
              go_wp2_with fail
              have hb : Below v3.heap.size v3 (v3.alloc (.cells #[.slice none 0 0,.slice none 0 0] 65)):=(Below.refl _ _).alloc (Nat.le_refl _) _
              have H8 : Hid (Blk (v3.alloc (.cells #[.slice none 0 0,.slice none 0 0] 65)) v3.heap.size 65 #[.slice none 0 0,.slice none 0 0]∧w.heap.size<v3.heap.size):=Lib.hid ⟨Blk.new _ _ _,HX.out.lt⟩
              have HNE : Hid (g7≠v3.heap.size):=Lib.hid (Nat.ne_of_lt H7.out.1.lt)
              replace HB:=Lib.hid (HB.out.trans (hb.mono HB.out.size))
              replace HX:=Lib.hid (HX.out.later hb)
              replace HA:=Lib.hid (HA.out.later hb)
              replace HC:=Lib.hid (HC.out.later hb)
              replace H7:=Lib.hid (And.intro (H7.out.1.later hb) H7.out.2)
              clear hb
              generalize v3.alloc (.cells #[.slice none 0 0,.slice none 0 0] 65)=v4 at *
              generalize v3.heap.size=g8 at *
              refine And.intro (by first | exact ⟨HX.out.cell 0,HX.out.cell 1⟩ | exact fun _=>⟨HX.out.cell 0,HX.out.cell 1⟩) ?_
              revert HNE
              revert H8
              revert H7
              revert HC
              revert HA
              revert HX
              revert HB
              revert g8
              revert g7
              revert fl
              revert el
              revert gf
              revert ge
              revert bl
              revert dl
              revert gb
              revert gd
              revert v4
              exact FIN.out
            · skip
              go_wp2_with fail
              have hb : Below v2.heap.size v2 (v2.alloc (.cells #[.slice none 0 0,.slice none 0 0] 65)):=(Below.refl _ _).alloc (Nat.le_refl _) _
              have H8 : Hid (Blk (v2.alloc (.cells #[.slice none 0 0,.slice none 0 0] 65)) v2.heap.size 65 #[.slice none 0 0,.slice none 0 0]∧w.heap.size<v2.heap.size):=Lib.hid ⟨Blk.new _ _ _,HX.out.lt⟩
              replace HB:=Lib.hid (HB.out.trans (hb.mono HB.out.size))
              replace HX:=Lib.hid (HX.out.later hb)
              replace HA:=Lib.hid (HA.out.later hb)
              replace HC:=Lib.hid (HC.out.later hb)
              clear hb
              generalize v2.alloc (.cells #[.slice none 0 0,.slice none 0 0] 65)=v3 at *
              generalize v2.heap.size=g8 at *
              refine And.intro (by first | exact ⟨HX.out.cell 0,HX.out.cell 1⟩ | exact fun _=>⟨HX.out.cell 0,HX.out.cell 1⟩) ?_
              refine wpAnyT_next (i:=6) (by kernel_rfl) rfl ?_
              go_wp2_with fail
              have hb : Below v3.heap.size v3 (v3.alloc (.cells #[.slice none 0 0,.slice none 0 0] 65)):=(Below.refl _ _).alloc (Nat.le_refl _) _
              have H7 : Hid (Blk (v3.alloc (.cells #[.slice none 0 0,.slice none 0 0] 65)) v3.heap.size 65 #[.slice none 0 0,.slice none 0 0]∧w.heap.size<v3.heap.size):=Lib.hid ⟨Blk.new _ _ _,HX.out.lt⟩
              have HNE : Hid (v3.heap.size≠g8):=Lib.hid (Nat.ne_of_gt H8.out.1.lt)
              replace HB:=Lib.hid (HB.out.trans (hb.mono HB.out.size))
              replace HX:=Lib.hid (HX.out.later hb)
              replace HA:=Lib.hid (HA.out.later hb)
              replace HC:=Lib.hid (HC.out.later hb)
              replace H8:=Lib.hid (And.intro (H8.out.1.later hb) H8.out.2)
              clear hb
              generalize v3.alloc (.cells #[.slice none 0 0,.slice none 0 0] 65)=v4 at *
              generalize v3.heap.size=g7 at *
              refine And.intro (by first | exact ⟨HX.out.cell 0,HX.out.cell 1⟩ | exact fun _=>⟨HX.out.cell 0,HX.out.cell 1⟩) ?_
              exact wpAnyT_listed (by kernel_rfl) (FIN.out v4 gd gb dl bl ge gf el fl g7 g8 HB HX HA HC H7 H8 HNE)
          · skip
            go_wp2_with fail
            have hb : Below v1.heap.size v1 (v1.alloc (.cells #[.slice none 0 0,.slice none 0 0] 65)):=(Below.refl _ _).alloc (Nat.le_refl _) _
            have H7 : Hid (Blk (v1.alloc (.cells #[.slice none 0 0,.slice none 0 0] 65)) v1.heap.size 65 #[.slice none 0 0,.slice none 0 0]∧w.heap.size<v1.heap.size):=Lib.hid ⟨Blk.new _ _ _,HX.out.lt⟩
            replace HB:=Lib.hid (HB.out.trans (hb.mono HB.out.size))
            replace HX:=Lib.hid (HX.out.later hb)
            replace HA:=Lib.hid (HA.out.later hb)
            clear hb
            generalize v1.alloc (.cells #[.slice none 0 0,.slice none 0 0] 65)=v2 at *
            generalize v1.heap.size=g7 at *
            refine And.intro (by first | exact ⟨HX.out.cell 0,HX.out.cell 1⟩ | exact fun _=>⟨HX.out.cell 0,HX.out.cell 1⟩) ?_
            refine wpAnyT_two (i:=5) (j:=7) (by kernel_rfl) rfl rfl ?_ ?_
            · skip
              go_wp2_with fail
              refine (hier_up R.length tm ⟨RA,Rc,R⟩ ⟨EA,Ec,E⟩ true v2 (HR.out.later HB.out (Nat.le_refl _)) (HE.out.later HB.out (Nat.le_refl _)) HH.out.rk hn HH.out.key HH.out.ok HH.out.len htm).mono ?_
              rintro r v3 ⟨ge,gf,el,fl,rfl,hq1,hq2,hdn,hbn,hdx,hbx,hcl,htp,hb⟩
              have HC : Hid (UpA R.length tm R E true w v3 ge gf el fl):=Lib.hid ⟨hdn,hbn,hdx,hbx,hcl,htp,Nat.le_trans HB.out.size hq1,Nat.le_trans HB.out.size hq2⟩
              replace HB:=Lib.hid (HB.out.trans (hb.mono HB.out.size))
              replace HX:=Lib.hid (HX.out.later hb)
              replace HA:=Lib.hid (HA.out.later hb)
              replace H7:=Lib.hid (And.intro (H7.out.1.later hb) H7.out.2)
              clear hq1 hq2 hdn hbn hdx hbx hcl htp hb
              go_wp2_with fail
              refine And.intro (by first | exact ⟨HX.out.cell 0,HX.out.cell 1⟩ | exact fun _=>⟨HX.out.cell 0,HX.out.cell 1⟩) ?_
              refine wpAnyT_next (i:=7) (by kernel_rfl) rfl ?_
              go_wp2_with fail
              have hb : Below v3.heap.size v3 (v3.alloc (.cells #[.slice none 0 0,.slice none 0 0] 65)):=(Below.refl _ _).alloc (Nat.le_refl _) _
              have H8 : Hid (Blk (v3.alloc (.cells #[.slice none 0 0,.slice none 0 0] 65)) v3.heap.size 65 #[.slice none 0 0,.slice none 0 0]∧w.heap.size<v3.heap.size):=Lib.hid ⟨Blk.new _ _ _,HX.out.lt⟩
              have HNE : Hid (g7≠v3.heap.size):=Lib.hid (Nat.ne_of_lt H7.out.1.lt)
              replace HB:=Lib.hid (HB.out.trans (hb.mono HB.out.size))
              replace HX:=Lib.hid (HX.out.later hb)
              replace HA:=Lib.hid (HA.out.later hb)
              replace HC:=Lib.hid (HC.out.later hb)
              replace H7:=Lib.hid (And.intro (H7.out.1.later hb) H7.out.2)
              clear hb
              generalize v3.alloc (.cells #[.slice none 0 0,.slice none 0 0] 65)=v4 at *
              generalize v3.heap.size=g8 at *
              refine And.intro (by first | exact ⟨HX.out.cell 0,HX.out.cell 1⟩ | exact fun _=>⟨HX.out.cell 0,HX.out.cell 1⟩) ?_
              exact wpAnyT_listed (by kernel_rfl) (FIN.out v4 gd gb dl bl ge gf el fl g7 g8 HB HX HA HC H7 H8 HNE)
            · skip
              go_wp2_with fail
              have hb : Below v2.heap.size v2 (v2.alloc (.cells #[.slice none 0 0,.slice none 0 0] 65)):=(Below.refl _ _).alloc (Nat.le_refl _) _
              have H8 : Hid (Blk (v2.alloc (.cells #[.slice none 0 0,.slice none 0 0] 65)) v2.heap.size 65 #[.slice none 0 0,.slice none 0 0]∧w.heap.size<v2.heap.size):=Lib.hid ⟨Blk.new _ _ _,HX.out.lt⟩
              have HNE : Hid (g7≠v2.heap.size):=Lib.hid (Nat.ne_of_lt H7.out.1.lt)
              replace HB:=Lib.hid (HB.out.trans (hb.mono HB.out.size))
              replace HX:=Lib.hid (HX.out.later hb)
              replace HA:=Lib.hid (HA.out.later hb)
              replace H7:=Lib.hid (And.intro (H7.out.1.later hb) H7.out.2)
              clear hb
              generalize v2.alloc (.cells #[.slice none 0 0,.slice none 0 0] 65)=v3 at *
              generalize v2.heap.size=g8 at *
              refine And.intro (by first | exact ⟨HX.out.cell 0,HX.out.cell 1⟩ | exact fun _=>⟨HX.out.cell 0,HX.out.cell 1⟩) ?_
              refine wpAnyT_next (i:=5) (by kernel_rfl) rfl ?_
              go_wp2_with fail
              refine (hier_up R.length tm ⟨RA,Rc,R⟩ ⟨EA,Ec,E⟩ true v3 (HR.out.later HB.out (Nat.le_refl _)) (HE.out.later HB.out (Nat.le_refl _)) HH.out.rk hn HH.out.key HH.out.ok HH.out.len htm).mono ?_
              rintro r v4 ⟨ge,gf,el,fl,rfl,hq1,hq2,hdn,hbn,hdx,hbx,hcl,htp,hb⟩
              have HC : Hid (UpA R.length tm R E true w v4 ge gf el fl):=Lib.hid ⟨hdn,hbn,hdx,hbx,hcl,htp,Nat.le_trans HB.out.size hq1,Nat.le_trans HB.out.size hq2⟩
              replace HB:=Lib.hid (HB.out.trans (hb.mono HB.out.size))
              replace HX:=Lib.hid (HX.out.later hb)
              replace HA:=Lib.hid (HA.out.later hb)
              replace H7:=Lib.hid (And.intro (H7.out.1.later hb) H7.out.2)
              replace H8:=Lib.hid (And.intro (H8.out.1.later hb) H8.out.2)
              clear hq1 hq2 hdn hbn hdx hbx hcl htp hb
              go_wp2_with fail
              refine And.intro (by first | exact ⟨HX.out.cell 0,HX.out.cell 1⟩ | exact fun _=>⟨HX.out.cell 0,HX.out.cell 1⟩) ?_
              exact wpAnyT_listed (by kernel_rfl) (FIN.out v4 gd gb dl bl ge gf el fl g7 g8 HB HX HA HC H7 H8 HNE)
          · skip
            go_wp2_with fail
            have hb : Below v1.heap.size v1 (v1.alloc (.cells #[.slice none 0 0,.slice none 0 0] 65)):=(Below.refl _ _).alloc (Nat.le_refl _) _
            have H8 : Hid (Blk (v1.alloc (.cells #[.slice none 0 0,.slice none 0 0] 65)) v1.heap.size 65 #[.slice none 0 0,.slice none 0 0]∧w.heap.size<v1.heap.size):=Lib.hid ⟨Blk.new _ _ _,HX.out.lt⟩
            replace HB:=Lib.hid (HB.out.trans (hb.mono HB.out.size))
            replace HX:=Lib.hid (HX.out.later hb)
            replace HA:=Lib.hid (HA.out.later hb)
            clear hb
            generalize v1.alloc (.cells #[.slice none 0 0,.slice none 0 0] 65)=v2 at *
            generalize v1.heap.size=g8 at *
            refine And.intro (by first | exact ⟨HX.out.cell 0,HX.out.cell 1⟩ | exact fun _=>⟨HX.out.cell 0,HX.out.cell 1⟩) ?_
            refine wpAnyT_two (i:=5) (j:=6) (by kernel_rfl) rfl rfl ?_ ?_
            · skip
              go_wp2_with fail
              refine (hier_up R.length tm ⟨RA,Rc,R⟩ ⟨EA,Ec,E⟩ true v2 (HR.out.later HB.out (Nat.le_refl _)) (HE.out.later HB.out (Nat.le_refl _)) HH.out.rk hn HH.out.key HH.out.ok HH.out.len htm).mono ?_
              rintro r v3 ⟨ge,gf,el,fl,rfl,hq1,hq2,hdn,hbn,hdx,hbx,hcl,htp,hb⟩
              have HC : Hid (UpA R.length tm R E true w v3 ge gf el fl):=Lib.hid ⟨hdn,hbn,hdx,hbx,hcl,htp,Nat.le_trans HB.out.size hq1,Nat.le_trans HB.out.size hq2⟩
              replace HB:=Lib.hid (HB.out.trans (hb.mono HB.out.size))
              replace HX:=Lib.hid (HX.out.later hb)
              replace HA:=Lib.hid (HA.out.later hb)
              replace H8:=Lib.hid (And.intro (H8.out.1.later hb) H8.out.2)
              clear hq1 hq2 hdn hbn hdx hbx hcl htp hb
              go_wp2_with fail
              refine And.intro (by first | exact ⟨HX.out.cell 0,HX.out.cell 1⟩ | exact fun _=>⟨HX.out.cell 0,HX.out.cell 1⟩) ?_
              refine wpAnyT_next (i:=6) (by kernel_rfl) rfl ?_
              go_wp2_with fail
              have hb : Below v3.heap.size v3 (v3.alloc (.cells #[.slice none 0 0,.slice none 0 0] 65)):=(Below.refl _ _).alloc (Nat.le_refl _) _
              have H7 : Hid (Blk (v3.alloc (.cells #[.slice none 0 0,.slice none 0 0] 65)) v3.heap.size 65 #[.slice none 0 0,.slice none 0 0]∧w.heap.size<v3.heap.size):=Lib.hid ⟨Blk.new _ _ _,HX.out.lt⟩
              have HNE : Hid (v3.heap.size≠g8):=Lib.hid (Nat.ne_of_gt H8.out.1.lt)
              replace HB:=Lib.hid (HB.out.trans (hb.mono HB.out.size))
              replace HX:=Lib.hid (HX.out.later hb)
              replace HA:=Lib.hid (HA.out.later hb)
              replace HC:=Lib.hid (HC.out.later hb)
              replace H8:=Lib.hid (And.intro (H8.out.1.later hb) H8.out.2)
              clear hb
              generalize v3.alloc (.cells #[.slice none 0 0,.slice none 0 0] 65)=v4 at *
              generalize v3.heap.size=g7 at *
              refine And.intro (by first | exact ⟨HX.out.cell 0,HX.out.cell 1⟩ | exact fun _=>⟨HX.out.cell 0,HX.out.cell 1⟩) ?_
              exact wpAnyT_listed (by kernel_rfl) (FIN.out v4 gd gb dl bl ge gf el fl g7 g8 HB HX HA HC H7 H8 HNE)
            · skip
              go_wp2_with fail
              have hb : Below v2.heap.size v2 (v2.alloc (.cells #[.slice none 0 0,.slice none 0 0] 65)):=(Below.refl _ _).alloc (Nat.le_refl _) _
              have H7 : Hid (Blk (v2.alloc (.cells #[.slice none 0 0,.slice none 0 0] 65)) v2.heap.size 65 #[.slice none 0 0,.slice none 0 0]∧w.heap.size<v2.heap.size):=Lib.hid ⟨Blk.new _ _ _,HX.out.lt⟩
              have HNE : Hid (v2.heap.size≠g8):=Lib.hid (Nat.ne_of_gt H8.out.1.lt)
              replace HB:=Lib.hid (HB.out.trans (hb.mono HB.out.size))
              replace HX:=Lib.hid (HX.out.later hb)
              replace HA:=Lib.hid (HA.out.later hb)
              replace H8:=Lib.hid (And.intro (H8.out.1.later hb) H8.out.2)
              clear hb
              generalize v2.alloc (.cells #[.slice none 0 0,.slice none 0 0] 65)=v3 at *
              generalize v2.heap.size=g7 at *
              refine And.intro (by first | exact ⟨HX.out.cell 0,HX.out.cell 1⟩ | exact fun _=>⟨HX.out.cell 0,HX.out.cell 1⟩) ?_
              refine wpAnyT_next (i:=5) (by kernel_rfl) rfl ?_
              go_wp2_with fail
              refine (hier_up R.length tm ⟨RA,Rc,R⟩ ⟨EA,Ec,E⟩ true v3 (HR.out.later HB.out (Nat.le_refl _)) (HE.out.later HB.out (Nat.le_refl _)) HH.out.rk hn HH.out.key HH.out.ok HH.out.len htm).mono ?_
              rintro r v4 ⟨ge,gf,el,fl,rfl,hq1,hq2,hdn,hbn,hdx,hbx,hcl,htp,hb⟩
              have HC : Hid (UpA R.length tm R E true w v4 ge gf el fl):=Lib.hid ⟨hdn,hbn,hdx,hbx,hcl,htp,Nat.le_trans HB.out.size hq1,Nat.le_trans HB.out.size hq2⟩
              replace HB:=Lib.hid (HB.out.trans (hb.mono HB.out.size))
              replace HX:=Lib.hid (HX.out.later hb)
              replace HA:=Lib.hid (HA.out.later hb)
              replace H7:=Lib.hid (And.intro (H7.out.1.later hb) H7.out.2)
              replace H8:=Lib.hid (And.intro (H8.out.1.later hb) H8.out.2)
              clear hq1 hq2 hdn hbn hdx hbx hcl htp hb
              go_wp2_with fail
              refine And.intro (by first | exact ⟨HX.out.cell 0,HX.out.cell 1⟩ | exact fun _=>⟨HX.out.cell 0,HX.out.cell 1⟩) ?_
              exact wpAnyT_listed (by kernel_rfl) (FIN.out v4 gd gb dl bl ge gf el fl g7 g8 HB HX HA HC H7 H8 HNE)
        · skip
          go_wp2_with fail
          have hb : Below w4.heap.size w4 (w4.alloc (.cells #[.slice none 0 0,.slice none 0 0] 65)):=(Below.refl _ _).alloc (Nat.le_refl _) _
          have H7 : Hid (Blk (w4.alloc (.cells #[.slice none 0 0,.slice none 0 0] 65)) w4.heap.size 65 #[.slice none 0 0,.slice none 0 0]∧w.heap.size<w4.heap.size):=Lib.hid ⟨Blk.new _ _ _,HX.out.lt⟩
          replace HB:=Lib.hid (HB.out.trans (hb.mono HB.out.size))
          replace HX:=Lib.hid (HX.out.later hb)
          clear hb
          generalize w4.alloc (.cells #[.slice none 0 0,.slice none 0 0] 65)=v1 at *
          generalize w4.heap.size=g7 at *
          refine And.intro (by first | exact ⟨HX.out.cell 0,HX.out.cell 1⟩ | exact fun _=>⟨HX.out.cell 0,HX.out.cell 1⟩) ?_
          refine wpAnyT_two (i:=2) (j:=7) (by kernel_rfl) rfl rfl ?_ ?_
          · skip
            go_wp2_with fail
            refine (hier_up R.length sm ⟨RA,Rc,R⟩ ⟨EA,Ec,E⟩ false v1 (HR.out.later HB.out (Nat.le_refl _)) (HE.out.later HB.out (Nat.le_refl _)) HH.out.rk hn HH.out.key HH.out.ok HH.out.len hsm).mono ?_
            rintro r v2 ⟨gd,gb,dl,bl,rfl,hq1,hq2,hdn,hbn,hdx,hbx,hcl,htp,hb⟩
            have HA : Hid (UpA R.length sm R E false w v2 gd gb dl bl):=Lib.hid ⟨hdn,hbn,hdx,hbx,hcl,htp,Nat.le_trans HB.out.size hq1,Nat.le_trans HB.out.size hq2⟩
            replace HB:=Lib.hid (HB.out.trans (hb.mono HB.out.size))
            replace HX:=Lib.hid (HX.out.later hb)
            replace H7:=Lib.hid (And.intro (H7.out.1.later hb) H7.out.2)
            clear hq1 hq2 hdn hbn hdx hbx hcl htp hb
            go_wp2_with fail
            refine And.intro (by first | exact ⟨HX.out.cell 0,HX.out.cell 1⟩ | exact fun _=>⟨HX.out.cell 0,HX.out.cell 1⟩) ?_
            refine wpAnyT_two (i:=5) (j:=7) (by kernel_rfl) rfl rfl ?_ ?_
            · skip
              go_wp2_with fail
              refine (hier_up R.length tm ⟨RA,Rc,R⟩ ⟨EA,Ec,E⟩ true v2 (HR.out.later HB.out (Nat.le_refl _)) (HE.out.later HB.out (Nat.le_refl _)) HH.out.rk hn HH.out.key HH.out.ok HH.out.len htm).mono ?_
              rintro r v3 ⟨ge,gf,el,fl,rfl,hq1,hq2,hdn,hbn,hdx,hbx,hcl,htp,hb⟩
              have HC : Hid (UpA R.length tm R E true w v3 ge gf el fl):=Lib.hid ⟨hdn,hbn,hdx,hbx,hcl,htp,Nat.le_trans HB.out.size hq1,Nat.le_trans HB.out.size hq2⟩
              replace HB:=Lib.hid (HB.out.trans (hb.mono HB.out.size))
              replace HX:=Lib.hid (HX.out.later hb)
              replace HA:=Lib.hid (HA.out.later hb)
              replace H7:=Lib.hid (And.intro (H7.out.1.later hb) H7.out.2)
              clear hq1 hq2 hdn hbn hdx hbx hcl htp hb
              go_wp2_with fail
              refine And.intro (by first | exact ⟨HX.out.cell 0,HX.out.cell 1⟩ | exact fun _=>⟨HX.out.cell 0,HX.out.cell 1⟩) ?_
              refine wpAnyT_next (i:=7) (by kernel_rfl) rfl ?_
              go_wp2_with fail
              have hb : Below v3.heap.size v3 (v3.alloc (.cells #[.slice none 0 0,.slice none 0 0] 65)):=(Below.refl _ _).alloc (Nat.le_refl _) _
              have H8 : Hid (Blk (v3.alloc (.cells #[.slice none 0 0,.slice none 0 0] 65)) v3.heap.size 65 #[.slice none 0 0,.slice none 0 0]∧w.heap.size<v3.heap.size):=Lib.hid ⟨Blk.new _ _ _,HX.out.lt⟩
              have HNE : Hid (g7≠v3.heap.size):=Lib.hid (Nat.ne_of_lt H7.out.1.lt)
              replace HB:=Lib.hid (HB.out.trans (hb.mono HB.out.size))
              replace HX:=Lib.hid (HX.out.later hb)
              replace HA:=Lib.hid (HA.out.later hb)
              replace HC:=Lib.hid (HC.out.later hb)
              replace H7:=Lib.hid (And.intro (H7.out.1.later hb) H7.out.2)
              clear hb
              generalize v3.alloc (.cells #[.slice none 0 0,.slice none 0 0] 65)=v4 at *
              generalize v3.heap.size=g8 at *
              refine And.intro (by first | exact ⟨HX.out.cell 0,HX.out.cell 1⟩ | exact fun _=>⟨HX.out.cell 0,HX.out.cell 1⟩) ?_
              exact wpAnyT_listed (by kernel_rfl) (FIN.out v4 gd gb dl bl ge gf el fl g7 g8 HB HX HA HC H7 H8 HNE)
            · skip
              go_wp2_with fail
              have hb : Below v2.heap.size v2 (v2.alloc (.cells #[.slice none 0 0,.slice none 0 0] 65)):=(Below.refl _ _).alloc (Nat.le_refl _) _
              have H8 : Hid (Blk (v2.alloc (.cells #[.slice none 0 0,.slice none 0 0] 65)) v2.heap.size 65 #[.slice none 0 0,.slice none 0 0]∧w.heap.size<v2.heap.size):=Lib.hid ⟨Blk.new _ _ _,HX.out.lt⟩
              have HNE : Hid (g7≠v2.heap.size):=Lib.hid (Nat.ne_of_lt H7.out.1.lt)
              replace HB:=Lib.hid (HB.out.trans (hb.mono HB.out.size))
              replace HX:=Lib.hid (HX.out.later hb)
              replace HA:=Lib.hid (HA.out.later hb)
              replace H7:=Lib.hid (And.intro (H7.out.1.later hb) H7.out.2)
              clear hb
              generalize v2.alloc (.cells #[.slice none 0 0,.slice none 0 0] 65)=v3 at *
              generalize v2.heap.size=g8 at *
              refine And.intro (by first | exact ⟨HX.out.cell 0,HX.out.cell 1⟩ | exact fun _=>⟨HX.out.cell 0,HX.out.cell 1⟩) ?_
              refine wpAnyT_next (i:=5) (by kernel_rfl) rfl ?_
              go_wp2_with fail
              refine (hier_up R.length tm ⟨RA,Rc,R⟩ ⟨EA,Ec,E⟩ true v3 (HR.out.later HB.out (Nat.le_refl _)) (HE.out.later HB.out (Nat.le_refl _)) HH.out.rk hn HH.out.key HH.out.ok HH.out.len htm).mono ?_
              rintro r v4 ⟨ge,gf,el,fl,rfl,hq1,hq2,hdn,hbn,hdx,hbx,hcl,htp,hb⟩
              have HC : Hid (UpA R.length tm R E true w v4 ge gf el fl):=Lib.hid ⟨hdn,hbn,hdx,hbx,hcl,htp,Nat.le_trans HB.out.size hq1,Nat.le_trans HB.out.size hq2⟩
              replace HB:=Lib.hid (HB.out.trans (hb.mono HB.out.size))
              replace HX:=Lib.hid (HX.out.later hb)
              replace HA:=Lib.hid (HA.out.later hb)
              replace H7:=Lib.hid (And.intro (H7.out.1.later hb) H7.out.2)
              replace H8:=Lib.hid (And.intro (H8.out.1.later hb) H8.out.2)
              clear hq1 hq2 hdn hbn hdx hbx hcl htp hb
              go_wp2_with fail
              refine And.intro (by first | exact ⟨HX.out.cell 0,HX.out.cell 1⟩ | exact fun _=>⟨HX.out.cell 0,HX.out.cell 1⟩) ?_
              exact wpAnyT_listed (by kernel_rfl) (FIN.out v4 gd gb dl bl ge gf el fl g7 g8 HB HX HA HC H7 H8 HNE)
          · skip
            go_wp2_with fail
            have hb : Below v1.heap.size v1 (v1.alloc (.cells #[.slice none 0 0,.slice none 0 0] 65)):=(Below.refl _ _).alloc (Nat.le_refl _) _
            have H8 : Hid (Blk (v1.alloc (.cells #[.slice none 0 0,.slice none 0 0] 65)) v1.heap.size 65 #[.slice none 0 0,.slice none 0 0]∧w.heap.size<v1.heap.size):=Lib.hid ⟨Blk.new _ _ _,HX.out.lt⟩
            have HNE : Hid (g7≠v1.heap.size):=Lib.hid (Nat.ne_of_lt H7.out.1.lt)
            replace HB:=Lib.hid (HB.out.trans (hb.mono HB.out.size))
            replace HX:=Lib.hid (HX.out.later hb)
            replace H7:=Lib.hid (And.intro (H7.out.1.later hb) H7.out.2)
            clear hb
            generalize v1.alloc (.cells #[.slice none 0 0,.slice none 0 0] 65)=v2 at *
            generalize v1.heap.size=g8 at *
            refine And.intro (by first | exact ⟨HX.out.cell 0,HX.out.cell 1⟩ | exact fun _=>⟨HX.out.cell 0,HX.out.cell 1⟩) ?_
            refine wpAnyT_next (i:=2) (by kernel_rfl) rfl ?_
            go_wp2_with fail
            refine (hier_up R.length sm ⟨RA,Rc,R⟩ ⟨EA,Ec,E⟩ false v2 (HR.out.later HB.out (Nat.le_refl _)) (HE.out.later HB.out (Nat.le_refl _)) HH.out.rk hn HH.out.key HH.out.ok HH.out.len hsm).mono ?_
            rintro r v3 ⟨gd,gb,dl,bl,rfl,hq1,hq2,hdn,hbn,hdx,hbx,hcl,htp,hb⟩
            have HA : Hid (UpA R.length sm R E false w v3 gd gb dl bl):=Lib.hid ⟨hdn,hbn,hdx,hbx,hcl,htp,Nat.le_trans HB.out.size hq1,Nat.le_trans HB.out.size hq2⟩
            replace HB:=Lib.hid (HB.out.trans (hb.mono HB.out.size))
            replace HX:=Lib.hid (HX.out.later hb)
            replace H7:=Lib.hid (And.intro (H7.out.1.later hb) H7.out.2)
            replace H8:=Lib.hid (And.intro (H8.out.1.later hb) H8.out.2)
            clear hq1 hq2 hdn hbn hdx hbx hcl htp hb
            go_wp2_with fail
            refine And.intro (by first | exact ⟨HX.out.cell 0,HX.out.cell 1⟩ | exact fun _=>⟨HX.out.cell 0,HX.out.cell 1⟩) ?_
            refine wpAnyT_next (i:=5) (by kernel_rfl) rfl ?_
            go_wp2_with fail
            refine (hier_up R.length tm ⟨RA,Rc,R⟩ ⟨EA,Ec,E⟩ true v3 (HR.out.later HB.out (Nat.le_refl _)) (HE.out.later HB.out (Nat.le_refl _)) HH.out.rk hn HH.out.key HH.out.ok HH.out.len htm).mono ?_
            rintro r v4 ⟨ge,gf,el,fl,rfl,hq1,hq2,hdn,hbn,hdx,hbx,hcl,htp,hb⟩
            have HC : Hid (UpA R.length tm R E true w v4 ge gf el fl):=Lib.hid ⟨hdn,hbn,hdx,hbx,hcl,htp,Nat.le_trans HB.out.size hq1,Nat.le_trans HB.out.size hq2⟩
            replace HB:=Lib.hid (HB.out.trans (hb.mono HB.out.size))
            replace HX:=Lib.hid (HX.out.later hb)
            replace HA:=Lib.hid (HA.out.later hb)
            replace H7:=Lib.hid (And.intro (H7.out.1.later hb) H7.out.2)
            replace H8:=Lib.hid (And.intro (H8.out.1.later hb) H8.out.2)
            clear hq1 hq2 hdn hbn hdx hbx hcl htp hb
            go_wp2_with fail
            refine And.intro (by first | exact ⟨HX.out.cell 0,HX.out.cell 1⟩ | exact fun _=>⟨HX.out.cell 0,HX.out.cell 1⟩) ?_
            exact wpAnyT_listed (by kernel_rfl) (FIN.out v4 gd gb dl bl ge gf el fl g7 g8 HB HX HA HC H7 H8 HNE)
        · skip
          go_wp2_with fail
          have hb : Below w4.heap.size w4 (w4.alloc (.cells #[.slice none 0 0,.slice none 0 0] 65)):=(Below.refl _ _).alloc (Nat.le_refl _) _
          have H8 : Hid (Blk (w4.alloc (.cells #[.slice none 0 0,.slice none 0 0] 65)) w4.heap.size 65 #[.slice none 0 0,.slice none 0 0]∧w.heap.size<w4.heap.size):=Lib.hid ⟨Blk.new _ _ _,HX.out.lt⟩
          replace HB:=Lib.hid (HB.out.trans (hb.mono HB.out.size))
          replace HX:=Lib.hid (HX.out.later hb)
          clear hb
          generalize w4.alloc (.cells #[.slice none 0 0,.slice none 0 0] 65)=v1 at *
          generalize w4.heap.size=g8 at *
          refine And.intro (by first | exact ⟨HX.out.cell 0,HX.out.cell 1⟩ | exact fun _=>⟨HX.out.cell 0,HX.out.cell 1⟩) ?_
          refine wpAnyT_two (i:=2) (j:=6) (by kernel_rfl) rfl rfl ?_ ?_
          · skip
            go_wp2_with fail
            refine (hier_up R.length sm ⟨RA,Rc,R⟩ ⟨EA,Ec,E⟩ false v1 (HR.out.later HB.out (Nat.le_refl _)) (HE.out.later HB.out (Nat.le_refl _)) HH.out.rk hn HH.out.key HH.out.ok HH.out.len hsm).mono ?_
            rintro r v2 ⟨gd,gb,dl,bl,rfl,hq1,hq2,hdn,hbn,hdx,hbx,hcl,htp,hb⟩
            have HA : Hid (UpA R.length sm R E false w v2 gd gb dl bl):=Lib.hid ⟨hdn,hbn,hdx,hbx,hcl,htp,Nat.le_trans HB.out.size hq1,Nat.le_trans HB.out.size hq2⟩
            replace HB:=Lib.hid (HB.out.trans (hb.mono HB.out.size))
            replace HX:=Lib.hid (HX.out.later hb)
            replace H8:=Lib.hid (And.intro (H8.out.1.later hb) H8.out.2)
            clear hq1 hq2 hdn hbn hdx hbx hcl htp hb
            go_wp2_with fail
            refine And.intro (by first | exact ⟨HX.out.cell 0,HX.out.cell 1⟩ | exact fun _=>⟨HX.out.cell 0,HX.out.cell 1⟩) ?_
            refine wpAnyT_two (i:=5) (j:=6) (by kernel_rfl) rfl rfl ?_ ?_
            · skip
              go_wp2_with fail
              refine (hier_up R.length tm ⟨RA,Rc,R⟩ ⟨EA,Ec,E⟩ true v2 (HR.out.later HB.out (Nat.le_refl _)) (HE.out.later HB.out (Nat.le_refl _)) HH.out.rk hn HH.out.key HH.out.ok HH.out.len htm).mono ?_
              rintro r v3 ⟨ge,gf,el,fl,rfl,hq1,hq2,hdn,hbn,hdx,hbx,hcl,htp,hb⟩
              have HC : Hid (UpA R.length tm R E true w v3 ge gf el fl):=Lib.hid ⟨hdn,hbn,hdx,hbx,hcl,htp,Nat.le_trans HB.out.size hq1,Nat.le_trans HB.out.size hq2⟩
              replace HB:=Lib.hid (HB.out.trans (hb.mono HB.out.size))
              replace HX:=Lib.hid (HX.out.later hb)
              replace HA:=Lib.hid (HA.out.later hb)
              replace H8:=Lib.hid (And.intro (H8.out.1.later hb) H8.out.2)
              clear hq1 hq2 hdn hbn hdx hbx hcl htp hb
              go_wp2_with fail
              refine And.intro (by first | exact ⟨HX.out.cell 0,HX.out.cell 1⟩ | exact fun _=>⟨HX.out.cell 0,HX.out.cell 1⟩) ?_
              refine wpAnyT_next (i:=6) (by kernel_rfl) rfl ?_
              go_wp2_with fail
              have hb : Below v3.heap.size v3 (v3.alloc (.cells #[.slice none 0 0,.slice none 0 0] 65)):=(Below.refl _ _).alloc (Nat.le_refl _) _
              have H7 : Hid (Blk (v3.alloc (.cells #[.slice none 0 0,.slice none 0 0] 65)) v3.heap.size 65 #[.slice none 0 0,.slice none 0 0]∧w.heap.size<v3.heap.size):=Lib.hid ⟨Blk.new _ _ _,HX.out.lt⟩
              have HNE : Hid (v3.heap.size≠g8):=Lib.hid (Nat.ne_of_gt H8.out.1.lt)
              replace HB:=Lib.hid (HB.out.trans (hb.mono HB.out.size))
              replace HX:=Lib.hid (HX.out.later hb)
              replace HA:=Lib.hid (HA.out.later hb)
              replace HC:=Lib.hid (HC.out.later hb)
              replace H8:=Lib.hid (And.intro (H8.out.1.later hb) H8.out.2)
              clear hb
              generalize v3.alloc (.cells #[.slice none 0 0,.slice none 0 0] 65)=v4 at *
              generalize v3.heap.size=g7 at *
              refine And.intro (by first | exact ⟨HX.out.cell 0,HX.out.cell 1⟩ | exact fun _=>⟨HX.out.cell 0,HX.out.cell 1⟩) ?_
              exact wpAnyT_listed (by kernel_rfl) (FIN.out v4 gd gb dl bl ge gf el fl g7 g8 HB HX HA HC H7 H8 HNE)
            · skip
              go_wp2_with fail
              have hb : Below v2.heap.size v2 (v2.alloc (.cells #[.slice none 0 0,.slice none 0 0] 65)):=(Below.refl _ _).alloc (Nat.le_refl _) _
              have H7 : Hid (Blk (v2.alloc (.cells #[.slice none 0 0,.slice none 0 0] 65)) v2.heap.size 65 #[.slice none 0 0,.slice none 0 0]∧w.heap.size<v2.heap.size):=Lib.hid ⟨Blk.new _ _ _,HX.out.lt⟩
              have HNE : Hid (v2.heap.size≠g8):=Lib.hid (Nat.ne_of_gt H8.out.1.lt)
              replace HB:=Lib.hid (HB.out.trans (hb.mono HB.out.size))
              replace HX:=Lib.hid (HX.out.later hb)
              replace HA:=Lib.hid (HA.out.later hb)
              replace H8:=Lib.hid (And.intro (H8.out.1.later hb) H8.out.2)
              clear hb
              generalize v2.alloc (.cells #[.slice none 0 0,.slice none 0 0] 65)=v3 at *
              generalize v2.heap.size=g7 at *
              refine And.intro (by first | exact ⟨HX.out.cell 0,HX.out.cell 1⟩ | exact fun _=>⟨HX.out.cell 0,HX.out.cell 1⟩) ?_
              refine wpAnyT_next (i:=5) (by kernel_rfl) rfl ?_
              go_wp2_with fail
              refine (hier_up R.length tm ⟨RA,Rc,R⟩ ⟨EA,Ec,E⟩ true v3 (HR.out.later HB.out (Nat.le_refl _)) (HE.out.later HB.out (Nat.le_refl _)) HH.out.rk hn HH.out.key HH.out.ok HH.out.len htm).mono ?_
              rintro r v4 ⟨ge,gf,el,fl,rfl,hq1,hq2,hdn,hbn,hdx,hbx,hcl,htp,hb⟩
              have HC : Hid (UpA R.length tm R E true w v4 ge gf el fl):=Lib.hid ⟨hdn,hbn,hdx,hbx,hcl,htp,Nat.le_trans HB.out.size hq1,Nat.le_trans HB.out.size hq2⟩
              replace HB:=Lib.hid (HB.out.trans (hb.mono HB.out.size))
              replace HX:=Lib.hid (HX.out.later hb)
              replace HA:=Lib.hid (HA.out.later hb)
              replace H7:=Lib.hid (And.intro (H7.out.1.later hb) H7.out.2)
              replace H8:=Lib.hid (And.intro (H8.out.1.later hb) H8.out.2)
              clear hq1 hq2 hdn hbn hdx hbx hcl htp hb
              go_wp2_with fail
              refine And.intro (by first | exact ⟨HX.out.cell 0,HX.out.cell 1⟩ | exact fun _=>⟨HX.out.cell 0,HX.out.cell 1⟩) ?_
              exact wpAnyT_listed (by kernel_rfl) (FIN.out v4 gd gb dl bl ge gf el fl g7 g8 HB HX HA HC H7 H8 HNE)
          · skip
            go_wp2_with fail
            have hb : Below v1.heap.size v1 (v1.alloc (.cells #[.slice none 0 0,.slice none 0 0] 65)):=(Below.refl _ _).alloc (Nat.le_refl _) _
            have H7 : Hid (Blk (v1.alloc (.cells #[.slice none 0 0,.slice none 0 0] 65)) v1.heap.size 65 #[.slice none 0 0,.slice none 0 0]∧w.heap.size<v1.heap.size):=Lib.hid ⟨Blk.new _ _ _,HX.out.lt⟩
            have HNE : Hid (v1.heap.size≠g8):=Lib.hid (Nat.ne_of_gt H8.out.1.lt)
            replace HB:=Lib.hid (HB.out.trans (hb.mono HB.out.size))
            replace HX:=Lib.hid (HX.out.later hb)
            replace H8:=Lib.hid (And.intro (H8.out.1.later hb) H8.out.2)
            clear hb
            generalize v1.alloc (.cells #[.slice none 0 0,.slice none 0 0] 65)=v2 at *
            generalize v1.heap.size=g7 at *
            refine And.intro (by first | exact ⟨HX.out.cell 0,HX.out.cell 1⟩ | exact fun _=>⟨HX.out.cell 0,HX.out.cell 1⟩) ?_
            refine wpAnyT_next (i:=2) (by kernel_rfl) rfl ?_
            go_wp2_with fail
            refine (hier_up R.length sm ⟨RA,Rc,R⟩ ⟨EA,Ec,E⟩ false v2 (HR.out.later HB.out (Nat.le_refl _)) (HE.out.later HB.out (Nat.le_refl _)) HH.out.rk hn HH.out.key HH.out.ok HH.out.len hsm).mono ?_
            rintro r v3 ⟨gd,gb,dl,bl,rfl,hq1,hq2,hdn,hbn,hdx,hbx,hcl,htp,hb⟩
            have HA : Hid (UpA R.length sm R E false w v3 gd gb dl bl):=Lib.hid ⟨hdn,hbn,hdx,hbx,hcl,htp,Nat.le_trans HB.out.size hq1,Nat.le_trans HB.out.size hq2⟩
            replace HB:=Lib.hid (HB.out.trans (hb.mono HB.out.size))
            replace HX:=Lib.hid (HX.out.later hb)
            replace H7:=Lib.hid (And.intro (H7.out.1.later hb) H7.out.2)
            replace H8:=Lib.hid (And.intro (H8.out.1.later hb) H8.out.2)
            clear hq1 hq2 hdn hbn hdx hbx hcl htp hb
            go_wp2_with fail
            refine And.intro (by first | exact ⟨HX.out.cell 0,HX.out.cell 1⟩ | exact fun _=>⟨HX.out.cell 0,HX.out.cell 1⟩) ?_
            refine wpAnyT_next (i:=5) (by kernel_rfl) rfl ?_
            go_wp2_with fail
            refine (hier_up R.length tm ⟨RA,Rc,R⟩ ⟨EA,Ec,E⟩ true v3 (HR.out.later HB.out (Nat.le_refl _)) (HE.out.later HB.out (Nat.le_refl _)) HH.out.rk hn HH.out.key HH.out.ok HH.out.len htm).mono ?_
            rintro r v4 ⟨ge,gf,el,fl,rfl,hq1,hq2,hdn,hbn,hdx,hbx,hcl,htp,hb⟩
            have HC : Hid (UpA R.length tm R E true w v4 ge gf el fl):=Lib.hid ⟨hdn,hbn,hdx,hbx,hcl,htp,Nat.le_trans HB.out.size hq1,Nat.le_trans HB.out.size hq2⟩
            replace HB:=Lib.hid (HB.out.trans (hb.mono HB.out.size))
            replace HX:=Lib.hid (HX.out.later hb)
            replace HA:=Lib.hid (HA.out.later hb)
            replace H7:=Lib.hid (And.intro (H7.out.1.later hb) H7.out.2)
            replace H8:=Lib.hid (And.intro (H8.out.1.later hb) H8.out.2)
            clear hq1 hq2 hdn hbn hdx hbx hcl htp hb
            go_wp2_with fail
            refine And.intro (by first | exact ⟨HX.out.cell 0,HX.out.cell 1⟩ | exact fun _=>⟨HX.out.cell 0,HX.out.cell 1⟩) ?_
            exact wpAnyT_listed (by kernel_rfl) (FIN.out v4 gd gb dl bl ge gf el fl g7 g8 HB HX HA HC H7 H8 HNE)
      · intro W gd gb dl bl ge gf el fl g7 g8 HB HX HA HC H7 H8 HNE
        obtain ⟨z0,z1,zf,zz⟩:=H7.out.1.b2
        obtain ⟨y0,y1,yf,yz⟩:=H8.out.1.b2
        have hne:=HNE.out
        have hne':=HNE.out.symm
        have h7w:=H7.out.2
        have h8w:=H8.out.2
        have h7x : w.heap.size≠g7:=by omega
        have h8x : w.heap.size≠g8:=by omega
        refine wpAnyT_next (i:=8) (by kernel_rfl) rfl ?_
        go_wp2_with fail
        try simp only [QT]
        try (with_reducible refine And.intro (fun h=>by simp at h) ?_)
        have HA2:=Lib.hid ((HA.out.far (p:=⟨g7,0,none⟩) (blk_ne HA.out.dx H7.out.1 (by decide)) (blk_ne HA.out.bx H7.out.1 (by decide)) (.slice (some ⟨gd,0,none⟩) R.length R.length)).far (p:=⟨g7,1,none⟩) (blk_ne HA.out.dx H7.out.1 (by decide)) (blk_ne HA.out.bx H7.out.1 (by decide)) (.slice (some ⟨gb,0,none⟩) R.length R.length))
        have HC2:=Lib.hid ((HC.out.far (p:=⟨g7,0,none⟩) (blk_ne HC.out.dx H7.out.1 (by decide)) (blk_ne HC.out.bx H7.out.1 (by decide)) (.slice (some ⟨gd,0,none⟩) R.length R.length)).far (p:=⟨g7,1,none⟩) (blk_ne HC.out.dx H7.out.1 (by decide)) (blk_ne HC.out.bx H7.out.1 (by decide)) (.slice (some ⟨gb,0,none⟩) R.length R.length))
        have HX2:=Lib.hid ((HX.out.far (p:=⟨g7,0,none⟩) h7x (.slice (some ⟨gd,0,none⟩) R.length R.length)).far (p:=⟨g7,1,none⟩) h7x (.slice (some ⟨gb,0,none⟩) R.length R.length))
        have HB2:=Lib.hid ((HB.out.setCell (p:=⟨g7,0,none⟩) (Nat.le_of_lt h7w) (.slice (some ⟨gd,0,none⟩) R.length R.length)).setCell (p:=⟨g7,1,none⟩) (Nat.le_of_lt h7w) (.slice (some ⟨gb,0,none⟩) R.length R.length))
        have H72 : Hid (Blk ((W.setCell ⟨g7,0,none⟩ (.slice (some ⟨gd,0,none⟩) R.length R.length)).setCell ⟨g7,1,none⟩ (.slice (some ⟨gb,0,none⟩) R.length R.length)) g7 65 #[.slice (some ⟨gd,0,none⟩) R.length R.length,.slice (some ⟨gb,0,none⟩) R.length R.length]):=Lib.hid ((H7.out.1.set_ 0 _).set_ 1 _)
        have H82:=Lib.hid ((H8.out.1.far (p:=⟨g7,0,none⟩) hne' (.slice (some ⟨gd,0,none⟩) R.length R.length)).far (p:=⟨g7,1,none⟩) hne' (.slice (some ⟨gb,0,none⟩) R.length R.length))
        clear HA HC HX HB H7 H8 z0 z1 zf zz y0 y1 yf yz
        generalize (W.setCell ⟨g7,0,none⟩ (.slice (some ⟨gd,0,none⟩) R.length R.length)).setCell ⟨g7,1,none⟩ (.slice (some ⟨gb,0,none⟩) R.length R.length)=W2 at *
        refine And.intro (by first | exact ⟨HX2.out.cell 0,HX2.out.cell 1⟩ | exact fun _=>⟨HX2.out.cell 0,HX2.out.cell 1⟩) ?_
        obtain ⟨y0,y1,yf,yz⟩:=H82.out.b2
        refine wpAnyT_next (i:=9) (by kernel_rfl) rfl ?_
        go_wp2_with fail
        try simp only [QT]
        try (with_reducible refine And.intro (fun h=>by simp at h) ?_)
        have HA3:=Lib.hid ((HA2.out.far (p:=⟨g8,0,none⟩) (blk_ne HA2.out.dx H82.out (by decide)) (blk_ne HA2.out.bx H82.out (by decide)) (.slice (some ⟨ge,0,none⟩) R.length R.length)).far (p:=⟨g8,1,none⟩) (blk_ne HA2.out.dx H82.out (by decide)) (blk_ne HA2.out.bx H82.out (by decide)) (.slice (some ⟨gf,0,none⟩) R.length R.length))
        have HC3:=Lib.hid ((HC2.out.far (p:=⟨g8,0,none⟩) (blk_ne HC2.out.dx H82.out (by decide)) (blk_ne HC2.out.bx H82.out (by decide)) (.slice (some ⟨ge,0,none⟩) R.length R.length)).far (p:=⟨g8,1,none⟩) (blk_ne HC2.out.dx H82.out (by decide)) (blk_ne HC2.out.bx H82.out (by decide)) (.slice (some ⟨gf,0,none⟩) R.length R.length))
        have HX3:=Lib.hid ((HX2.out.far (p:=⟨g8,0,none⟩) h8x (.slice (some ⟨ge,0,none⟩) R.length R.length)).far (p:=⟨g8,1,none⟩) h8x (.slice (some ⟨gf,0,none⟩) R.length R.length))
        have HB3:=Lib.hid ((HB2.out.setCell (p:=⟨g8,0,none⟩) (Nat.le_of_lt h8w) (.slice (some ⟨ge,0,none⟩) R.length R.length)).setCell (p:=⟨g8,1,none⟩) (Nat.le_of_lt h8w) (.slice (some ⟨gf,0,none⟩) R.length R.length))
        have H73:=Lib.hid ((H72.out.far (p:=⟨g8,0,none⟩) hne (.slice (some ⟨ge,0,none⟩) R.length R.length)).far (p:=⟨g8,1,none⟩) hne (.slice (some ⟨gf,0,none⟩) R.length R.length))
        have H83 : Hid (Blk ((W2.setCell ⟨g8,0,none⟩ (.slice (some ⟨ge,0,none⟩) R.length R.length)).setCell ⟨g8,1,none⟩ (.slice (some ⟨gf,0,none⟩) R.length R.length)) g8 65 #[.slice (some ⟨ge,0,none⟩) R.length R.length,.slice (some ⟨gf,0,none⟩) R.length R.length]):=Lib.hid ((H82.out.set_ 0 _).set_ 1 _)
        clear HA2 HC2 HX2 HB2 H72 H82 y0 y1 yf yz
        generalize (W2.setCell ⟨g8,0,none⟩ (.slice (some ⟨ge,0,none⟩) R.length R.length)).setCell ⟨g8,1,none⟩ (.slice (some ⟨gf,0,none⟩) R.length R.length)=W3 at *
        refine And.intro (by first | exact ⟨HX3.out.cell 0,HX3.out.cell 1⟩ | exact fun _=>⟨HX3.out.cell 0,HX3.out.cell 1⟩) ?_
        refine wpAnyT_done (by kernel_rfl) ?_ _
        obtain ⟨z0,z1,zf,zz⟩:=H73.out.b2
        obtain ⟨y0,y1,yf,yz⟩:=H83.out.b2
        go_wp2_with fail
        clear y0 y1 yf yz z0 z1 zf zz
        have hla:=HA3.out.dn
        have hlb:=HC3.out.dn
        have hbn:=HA3.out.bn
        have hfn:=HC3.out.bn
        have hmt:=hier_meet R.length hn ⟨some ⟨gd,0,none⟩,R.length,dl⟩ ⟨some ⟨ge,0,none⟩,R.length,el⟩ ⟨some ⟨gb,0,none⟩,R.length,bl⟩ ⟨some ⟨gf,0,none⟩,R.length,fl⟩ W3 (Rd.ints hla (by omega) HA3.out.dx) (Rd.ints hlb (by omega) HC3.out.dx) (DsL.of hla HA3.out.cl HA3.out.tp) (DsL.of hlb HC3.out.cl HC3.out.tp)
        simp only [hla,hlb,hbn,hfn] at hmt
        have HMD:=Lib.hid (meet_D HH.out.h HS.out HT.out HA3.out.cl HC3.out.cl)
        have HM:=Lib.hid hmt
        have HPP:=Lib.hid (path_P HH.out.h HS.out HT.out HA3.out.cl HC3.out.cl)
        clear hmt hla hlb hbn hfn
        refine HM.out.mono ?_
        rintro r W4 ⟨rfl,hb⟩
        have HA4:=Lib.hid (HA3.out.later hb)
        have HC4:=Lib.hid (HC3.out.later hb)
        have HX4:=Lib.hid (HX3.out.later hb)
        have HB4:=Lib.hid (HB3.out.trans (hb.mono HB3.out.size))
        have H74:=Lib.hid (H73.out.later hb)
        have H84:=Lib.hid (H83.out.later hb)
        clear hb HM HA3 HC3 HX3 HB3 H73 H83
        generalize (meetL (atF dl) (atF el) R.length).2=md at *
        generalize (meetL (atF dl) (atF el) R.length).1=ma at *
        by_cases hD : 0≤D (sm : Nat) (tm : Nat)
        · obtain ⟨hma,h1,h2,_⟩:=HMD.out.2.1 hD
          obtain ⟨am,rfl⟩:=Int.eq_ofNat_of_zero_le hma.1
          have ham : am<R.length:=by unfold Ir at hma; omega
          have HMA:=Lib.hid hma
          have HPT:=Lib.hid (HPP.out hD)
          have HDA : Hid (0≤atF dl ((am : Nat) : Int)):=Lib.hid h1
          have HDB : Hid (0≤atF el ((am : Nat) : Int)):=Lib.hid h2
          clear HMD HPP hma h1 h2
          have hmm:=@run_makeMap Try.prog
          obtain ⟨x0,x1,xf,xz⟩:=HX4.out.b2
          go_wp2_with fail
          clear x0 x1 xf xz hmm
          have hal : Below W4.heap.size W4 (W4.alloc (.map #[] 0)):=(Below.refl _ _).alloc (Nat.le_refl _) _
          have HM5 : Hid (MapE (W4.alloc (.map #[] 0)) W4.heap.size (E.take 0)):=Lib.hid (MapE.made _)
          have hsz5 : (W4.alloc (.map #[] 0)).heap.size=W4.heap.size+1:=by simp
          have hbs4 : w.heap.size≤W4.heap.size:=HB4.out.size
          generalize W4.alloc (.map #[] 0)=W5 at *
          obtain ⟨mb,hmb⟩ : ∃ x,x=W4.heap.size:=⟨_,rfl⟩
          rw [← hmb] at hal HM5 hsz5 hbs4 ⊢
          have HA5:=Lib.hid (HA4.out.later (by rw [← hmb]; exact hal))
          have HC5:=Lib.hid (HC4.out.later (by rw [← hmb]; exact hal))
          have H75:=Lib.hid (H74.out.later (by rw [← hmb]; exact hal))
          have H85:=Lib.hid (H84.out.later (by rw [← hmb]; exact hal))
          have HB5:=Lib.hid (HB4.out.trans (hal.mono hbs4))
          have HLT : Hid (gd<mb∧gb<mb∧ge<mb∧gf<mb∧g7<mb∧g8<mb):=Lib.hid (by
            have h1:=HA4.out.dx.lt
            have h2:=HA4.out.bx.lt
            have h3:=HC4.out.dx.lt
            have h4:=HC4.out.bx.lt
            have h5:=H74.out.lt
            have h6:=H84.out.lt
            omega)
          clear hal HA4 HC4 HX4 HB4 H74 H84 hmb
          go_loopw [47] (fun i wr=>∃ (k : Nat),k≤E.length∧i = .int .i64 k∧Hid (MapE wr mb (E.take k))∧Hid (Below mb W5 wr)∧Hid (W5.heap.size≤wr.heap.size)) (fun i _=>E.length - (intOf i).toNat)
          case atStart=>exact ⟨0,by omega,rfl,HM5,Lib.hid (Below.refl _ _),Lib.hid (Nat.le_refl _)⟩
          case round =>
            clear HM5
            obtain ⟨k,hk,rfl,HM,HW,HS2⟩:=hrel
            have HBR : Hid (Below w.heap.size w wr):=Lib.hid (HB5.out.trans (HW.out.mono hbs4))
            by_cases hlt : k<E.length
            · have hlt' : (k : Int)<(E.length : Int):=by omega
              have hk99 : k<100:=by have:=HH.out.len; omega
              obtain ⟨b,o,hA,hb,hcl⟩:=(HE.out.later HBR.out (Nat.le_refl _)).at1 hlt
              simp only at hA hcl
              subst hA
              have HXE:=Lib.hid (List.getElem?_eq_getElem hlt)
              obtain ⟨hf,ht,_,_⟩:=HH.out.ok _ (List.getElem_mem hlt)
              generalize E[k]=e at *
              obtain ⟨xf,xt,xn,xv⟩:=e
              simp only at hf ht
              obtain ⟨c0,c1,c2,c3⟩:=Cells.c4 hcl
              have HID : Hid (I64 xf∧I64 xt):=Lib.hid (by unfold Ir at hf ht; unfold I64; omega)
              have HNO : Hid (lkE (E.take k) xf xt=none):=Lib.hid (lkE_take HH.out.key HXE.out)
              have HTK : Hid (E.take (k+1)=E.take k ++ [(⟨xf,xt,xn,xv⟩ : ED)]):=Lib.hid (by rw [List.take_add_one,HXE.out]; rfl)
              have hal : Below wr.heap.size wr (wr.alloc (.cells #[.int .i64 xf,.int .i64 xt,.int .i64 xn,.int .i64 xv] 44)):=(Below.refl _ _).alloc (Nat.le_refl _) _
              have HM2:=Lib.hid (HM.out.later hal)
              have HW2:=Lib.hid (HW.out.trans (hal.mono (Nat.le_of_lt HM.out.lt)))
              have HS3:=Lib.hid (Nat.le_trans HS2.out hal.size)
              clear hal hf ht hcl hb HM HW HS2 HBR
              go_wp2_with (at_mapUpdate; apply Hid.out)
              refine Lib.hid ?_
              clear c0 c1 c2 c3
              generalize wr.alloc (.cells #[.int .i64 xf,.int .i64 xt,.int .i64 xn,.int .i64 xv] 44)=wd at *
              refine wpl_store_E rfl (.tmp 51) (.tmp 56) (.tmp 57) 52 rfl 44 ⟨xf,xt,xn,xv⟩ Try.underlying52 HM2.out rfl rfl rfl HID.out.1 HID.out.2 ?_
              intro we hm hg hz
              simp only at hm
              rw [HNO.out] at hm
              simp only at hm
              rw [← HTK.out] at hm
              have HM3:=Lib.hid hm
              have HW3:=Lib.hid (HW2.out.trans (below_of_grown hg (Nat.le_of_lt HM2.out.lt) (fun q hq=>by injection hq with hq; exact Nat.le_of_eq hq)))
              have HS4 : Hid (W5.heap.size≤we.heap.size):=Lib.hid (by rw [hz]; exact HS3.out)
              clear hm hg hz HM2 HW2 HS3
              go_wp2_with fail
              go_roundw
              case rel=>exact ⟨k+1,by omega,by go_num,HM3,HW3,HS4⟩
              case measure=>simp [intOf]; omega
            · have hke : k=E.length:=by omega
              subst hke
              rw [List.take_length] at HM
              obtain ⟨wm,hwm⟩ : ∃ x,x=wr:=⟨_,rfl⟩
              subst hwm
              have HAm : Hid (UpA R.length sm R E false w wm gd gb dl bl):=Lib.hid ⟨HA5.out.dn,HA5.out.bn,HA5.out.dx.below HW.out HLT.out.1,HA5.out.bx.below HW.out HLT.out.2.1,HA5.out.cl,HA5.out.tp,HA5.out.l1,HA5.out.l2⟩
              have HCm : Hid (UpA R.length tm R E true w wm ge gf el fl):=Lib.hid ⟨HC5.out.dn,HC5.out.bn,HC5.out.dx.below HW.out HLT.out.2.2.1,HC5.out.bx.below HW.out HLT.out.2.2.2.1,HC5.out.cl,HC5.out.tp,HC5.out.l1,HC5.out.l2⟩
              have H7m:=Lib.hid (H75.out.below HW.out HLT.out.2.2.2.2.1)
              have H8m:=Lib.hid (H85.out.below HW.out HLT.out.2.2.2.2.2)
              have hwm : w.heap.size≤wm.heap.size:=HBR.out.size
              have HCW:=Lib.hid (climb_whole HH.out.h HA5.out.cl HC5.out.cl HMA.out HDA.out HDB.out)
              clear HA5 HC5 H75 H85 HB5 HW HS2 hk hlt HLT hbs4 hsz5
              go_wp2_with fail
              have hal : Below wm.heap.size wm (wm.alloc (.cells #[.int .i64 (am : Nat)] 3)):=(Below.refl _ _).alloc (Nat.le_refl _) _
              have HO : Hid (Own wm.heap.size 3 1 ienc (wm.alloc (.cells #[.int .i64 (am : Nat)] 3)) ⟨some ⟨wm.heap.size,0,none⟩,1,[((am : Nat) : Int)]⟩):=Lib.hid (Own.lit wm #[.int .i64 (am : Nat)] [((am : Nat) : Int)] (Nat.le_refl _) (by simp [maxLen]) rfl ienc_k)
              have HU:=Lib.hid hal
              have HLP : Hid (R.length≤9):=Lib.hid hn
              clear hal
              generalize wm.alloc (.cells #[.int .i64 (am : Nat)] 3)=wp at *
              go_loopw [14,15] (fun X Y wr=>∃ (v : Nat) (A : Option Addr) (c : Nat) (l : List Int),v<R.length∧X = .slice A l.length c∧Y = .int .i64 v∧Hid (ChI R.length (rkF R) (atF dl) (atF bl) am [((am : Nat) : Int)] v l)∧Hid (Own wm.heap.size 3 1 ienc wr ⟨A,c,l⟩)∧Hid (Below wm.heap.size wm wr)) (fun _ Y _=>(rkF R (intOf Y)).toNat)
              case atStart=>exact ⟨am,_,_,[((am : Nat) : Int)],ham,rfl,rfl,Lib.hid (ChI.start HH.out.h.lt HMA.out HDA.out _),HO,HU⟩
              case round =>
                clear HO HU
                obtain ⟨v,A,c,l,hv,rfl,rfl,HI,HO,HU⟩:=hrel
                have hln : l.length≤100000:=by
                  have h1:=HI.out.len
                  have h2:=HLP.out
                  have h3 : [((am : Nat) : Int)].length≤10:=by simp
                  omega
                have hb0:=(intsA_at (l:=bl) (i:=v) (by rw [HAm.out.bn]; exact hv))
                have hbc:=(HAm.out.later HU.out).bx.cell v
                rw [hb0] at hbc
                obtain ⟨x,hx⟩ : ∃ x,x=bl[v]'(by rw [HAm.out.bn]; exact hv):=⟨_,rfl⟩
                rw [← hx] at hbc
                have HX : Hid (atF bl ((v : Nat) : Int)=x):=Lib.hid (by rw [hx]; exact atF_get (by omega))
                clear hb0 hx
                obtain ⟨z0,z1,zf,zz⟩:=(H7m.out.later HU.out).b2
                have hgs : wm.heap.size≤wr.heap.size:=HU.out.size
                by_cases h0 : 0≤x
                · obtain ⟨j1,j2,j3⟩:=HI.out.step HH.out.h.lt HAm.out.cl (by rw [HX.out]; exact h0)
                  rw [HX.out] at j1 j2 j3
                  have hxr:=j1.ir
                  have HJ:=Lib.hid (And.intro j1 (And.intro j2 j3))
                  clear HI j1 j2 j3
                  obtain ⟨xm,rfl⟩:=Int.eq_ofNat_of_zero_le h0
                  have hxm : xm<R.length:=by unfold Ir at hxr; omega
                  clear hxr
                  go_wp2_with (at_builtin; apply Hid.out)
                  refine Lib.hid ?_
                  have hal : Below wr.heap.size wr (wr.alloc (.cells #[.int .i64 (xm : Nat)] 3)):=(Below.refl _ _).alloc (Nat.le_refl _) _
                  have HG2 : Hid (Blk (wr.alloc (.cells #[.int .i64 (xm : Nat)] 3)) wr.heap.size 3 #[.int .i64 (xm : Nat)]):=Lib.hid (Blk.new _ _ _)
                  have HO2:=Lib.hid (HO.out.below hal)
                  have HU2:=Lib.hid (HU.out.trans (hal.mono hgs))
                  have hs2 : wm.heap.size≤(wr.alloc (.cells #[.int .i64 (xm : Nat)] 3)).heap.size:=Nat.le_trans hgs hal.size
                  clear hal HO HU z0 z1 zf zz hbc h0
                  generalize wr.alloc (.cells #[.int .i64 (xm : Nat)] 3)=w2 at *
                  refine wpl_append_sl _ rfl (.tmp 73) (.tmp 79) _ rfl Try.underlying23 infoInt (by omega) ienc_k ienc_one ⟨A,c,l⟩ ⟨some ⟨wr.heap.size,0,none⟩,1,[((xm : Nat) : Int)]⟩ rfl rfl HO2.out (rd_int1 HG2.out) (by simp [maxLen]; omega) (by simp; omega) hs2 ?_
                  intro A2 c2 w3 hown hg _
                  simp only at hown hg
                  have HO3:=Lib.hid hown
                  have HU3:=Lib.hid (HU2.out.trans (below_of_grown hg hs2 (fun q hq=>(own_row HO2.out q hq).2.1)))
                  clear hown hg HO2 HU2 HG2 hs2
                  have hbc:=(HAm.out.later HU3.out).bx.cell v
                  rw [intsA_at (l:=bl) (i:=v) (by rw [HAm.out.bn]; exact hv)] at hbc
                  have hbe : bl[v]'(by rw [HAm.out.bn]; exact hv)=((xm : Nat) : Int):=((atF_get (l:=bl) (v:=((v : Nat) : Int)) (h:=by rw [HAm.out.bn]; exact hv) (by omega)).symm.trans HX.out)
                  rw [hbe] at hbc
                  clear hbe
                  obtain ⟨z0,z1,zf,zz⟩:=(H7m.out.later HU3.out).b2
                  go_wp2_with fail
                  go_roundw
                  case rel=>exact ⟨xm,A2,c2,_,hxm,by simp,rfl,Lib.hid HJ.out.1,HO3,HU3⟩
                  case measure=>have h1:=HJ.out.2.1; have h2:=HJ.out.2.2; simp [intOf]; omega
                · have HDN:=Lib.hid (HI.out.done (by rw [HX.out]; exact h0))
                  clear HI HX
                  have hpl : l.length≤10:=by
                    have h1:=congrArg List.length HDN.out
                    have h2:=chB_len (atF bl) R.length ((am : Nat) : Int)
                    have h3:=HLP.out
                    simp only [List.length_append,List.length_cons,List.length_nil] at h1
                    omega
                  go_wp2_with fail
                  refine (rev_own wm.heap.size ⟨A,c,l⟩ wr HO.out hln).mono ?_
                  rintro r wv ⟨rfl,hown,hg⟩
                  simp only at hown hg
                  have hgs2 : wm.heap.size≤wv.heap.size:=Nat.le_trans hgs hg.size
                  have HU2:=Lib.hid (HU.out.trans (below_of_grown hg hgs (fun q hq=>(own_row HO.out q hq).2.1)))
                  have hl2 : l.reverse.length=l.length:=List.length_reverse
                  have HRV : Hid (l.reverse=(chB (atF bl) R.length ((am : Nat) : Int)).reverse ++ [((am : Nat) : Int)]):=Lib.hid (by rw [HDN.out]; simp)
                  have hown2:=hown
                  clear hown hg HO HU hgs HDN z0 z1 zf zz hbc
                  obtain ⟨pr,hpr⟩ : ∃ x,x=l.reverse:=⟨_,rfl⟩
                  rw [← hpr] at hown2 hl2 HRV
                  have HO:=Lib.hid hown2
                  have HU:=HU2
                  have HPL : Hid (pr.length≤10):=Lib.hid (by omega)
                  rw [← hl2]
                  clear hown2 HU2 hpr hl2 hpl hln HAm H7m hv h0
                  go_wp2_with fail
                  go_loopw [14,16] (fun X Y wr=>∃ (v : Nat) (A : Option Addr) (c : Nat) (l : List Int),v<R.length∧X = .slice A l.length c∧Y = .int .i64 v∧Hid (ChI R.length (rkF R) (atF el) (atF fl) am pr v l)∧Hid (Own wm.heap.size 3 1 ienc wr ⟨A,c,l⟩)∧Hid (Below wm.heap.size wm wr)) (fun _ Y _=>(rkF R (intOf Y)).toNat)
                  case atStart=>exact ⟨am,A,c,pr,ham,rfl,rfl,Lib.hid (ChI.start HH.out.h.lt HMA.out HDB.out _),HO,HU⟩
                  case round =>
                    clear HO HU
                    obtain ⟨v,A,c,l,hv,rfl,rfl,HI,HO,HU⟩:=hrel
                    have hln : l.length≤100000:=by
                      have h1:=HI.out.len
                      have h2:=HLP.out
                      have h3 : pr.length≤10:=HPL.out
                      omega
                    have hb0:=(intsA_at (l:=fl) (i:=v) (by rw [HCm.out.bn]; exact hv))
                    have hbc:=(HCm.out.later HU.out).bx.cell v
                    rw [hb0] at hbc
                    obtain ⟨x,hx⟩ : ∃ x,x=fl[v]'(by rw [HCm.out.bn]; exact hv):=⟨_,rfl⟩
                    rw [← hx] at hbc
                    have HX : Hid (atF fl ((v : Nat) : Int)=x):=Lib.hid (by rw [hx]; exact atF_get (by omega))
                    clear hb0 hx
                    obtain ⟨z0,z1,zf,zz⟩:=(H8m.out.later HU.out).b2
                    have hgs : wm.heap.size≤wr.heap.size:=HU.out.size
                    by_cases h0 : 0≤x
                    · obtain ⟨j1,j2,j3⟩:=HI.out.step HH.out.h.lt HCm.out.cl (by rw [HX.out]; exact h0)
                      rw [HX.out] at j1 j2 j3
                      have hxr:=j1.ir
                      have HJ:=Lib.hid (And.intro j1 (And.intro j2 j3))
                      clear HI j1 j2 j3
                      obtain ⟨xm,rfl⟩:=Int.eq_ofNat_of_zero_le h0
                      have hxm : xm<R.length:=by unfold Ir at hxr; omega
                      clear hxr
                      go_wp2_with (at_builtin; apply Hid.out)
                      refine Lib.hid ?_
                      have hal : Below wr.heap.size wr (wr.alloc (.cells #[.int .i64 (xm : Nat)] 3)):=(Below.refl _ _).alloc (Nat.le_refl _) _
                      have HG2 : Hid (Blk (wr.alloc (.cells #[.int .i64 (xm : Nat)] 3)) wr.heap.size 3 #[.int .i64 (xm : Nat)]):=Lib.hid (Blk.new _ _ _)
                      have HO2:=Lib.hid (HO.out.below hal)
                      have HU2:=Lib.hid (HU.out.trans (hal.mono hgs))
                      have hs2 : wm.heap.size≤(wr.alloc (.cells #[.int .i64 (xm : Nat)] 3)).heap.size:=Nat.le_trans hgs hal.size
                      clear hal HO HU z0 z1 zf zz hbc h0
                      generalize wr.alloc (.cells #[.int .i64 (xm : Nat)] 3)=w2 at *
                      refine wpl_append_sl _ rfl (.tmp 95) (.tmp 101) _ rfl Try.underlying23 infoInt (by omega) ienc_k ienc_one ⟨A,c,l⟩ ⟨some ⟨wr.heap.size,0,none⟩,1,[((xm : Nat) : Int)]⟩ rfl rfl HO2.out (rd_int1 HG2.out) (by simp [maxLen]; omega) (by simp; omega) hs2 ?_
                      intro A2 c2 w3 hown hg _
                      simp only at hown hg
                      have HO3:=Lib.hid hown
                      have HU3:=Lib.hid (HU2.out.trans (below_of_grown hg hs2 (fun q hq=>(own_row HO2.out q hq).2.1)))
                      clear hown hg HO2 HU2 HG2 hs2
                      have hbc:=(HCm.out.later HU3.out).bx.cell v
                      rw [intsA_at (l:=fl) (i:=v) (by rw [HCm.out.bn]; exact hv)] at hbc
                      have hbe : fl[v]'(by rw [HCm.out.bn]; exact hv)=((xm : Nat) : Int):=((atF_get (l:=fl) (v:=((v : Nat) : Int)) (h:=by rw [HCm.out.bn]; exact hv) (by omega)).symm.trans HX.out)
                      rw [hbe] at hbc
                      clear hbe
                      obtain ⟨z0,z1,zf,zz⟩:=(H8m.out.later HU3.out).b2
                      go_wp2_with fail
                      go_roundw
                      case rel=>exact ⟨xm,A2,c2,_,hxm,by simp,rfl,Lib.hid HJ.out.1,HO3,HU3⟩
                      case measure=>have h1:=HJ.out.2.1; have h2:=HJ.out.2.2; simp [intOf]; omega
                    · have HDN:=Lib.hid (HI.out.done (by rw [HX.out]; exact h0))
                      clear HI HX
                      have HCL : Hid (l=climbL (atF bl) (atF fl) R.length ((am : Nat) : Int)):=Lib.hid (by rw [HDN.out,HRV.out]; unfold climbL; simp)
                      have hcl19 : l.length≤19:=by
                        have h1:=congrArg List.length HDN.out
                        have h2:=chB_len (atF fl) R.length ((am : Nat) : Int)
                        have h3:=HLP.out
                        have h4:=HPL.out
                        simp only [List.length_append] at h1
                        omega
                      have hpos : 0<l.length:=by
                        have h1:=congrArg List.length HDN.out
                        have h2:=congrArg List.length HRV.out
                        simp only [List.length_append,List.length_cons,List.length_nil] at h1 h2
                        omega
                      have HAD : Hid (adjW (hW (lkE E)) l):=Lib.hid (by rw [HCL.out]; exact HCW.out.1)
                      have HPT2 : Hid (PathP R.length es D ((sm : Nat) : Int) ((tm : Nat) : Int) (smpL (((sm : Nat) : Int) :: unpL (lkE E) R.length l))):=Lib.hid (by rw [HCL.out]; exact HPT.out)
                      obtain ⟨wq,hwq⟩ : ∃ x,x=wr:=⟨_,rfl⟩
                      subst hwq
                      have HMq:=Lib.hid (HM.out.later HU.out)
                      have hmbq : mb<wq.heap.size:=HMq.out.lt
                      have HBq : Hid (Below w.heap.size w wq):=Lib.hid (HBR.out.trans (HU.out.mono hwm))
                      have hwq : w.heap.size≤wq.heap.size:=HBq.out.size
                      have HOC:=HO
                      clear HO HU HDN HCL HCW HRV HPL HM HBR HPT HCm H8m hgs hln HDA HDB HMA
                      go_wp2_with fail
                      clear hv h0 z0 z1 zf zz hbc
                      have hal : Below wq.heap.size wq (wq.alloc (.cells #[.int .i64 (sm : Nat)] 3)):=(Below.refl _ _).alloc (Nat.le_refl _) _
                      have HO0 : Hid (Own wq.heap.size 3 1 ienc (wq.alloc (.cells #[.int .i64 (sm : Nat)] 3)) ⟨some ⟨wq.heap.size,0,none⟩,1,[((sm : Nat) : Int)]⟩):=Lib.hid (Own.lit wq #[.int .i64 (sm : Nat)] [((sm : Nat) : Int)] (Nat.le_refl _) (by simp [maxLen]) rfl ienc_k)
                      have HV0:=Lib.hid hal
                      clear hal
                      generalize wq.alloc (.cells #[.int .i64 (sm : Nat)] 3)=ws at *
                      go_loopw [17,18] (fun X Y wr=>∃ (k : Nat) (A' : Option Addr) (c' : Nat) (out : List Int),X = .slice A' out.length c'∧Y = .int .i64 ((k : Int)+1)∧Hid (UnI (lkE E) R.length ((sm : Nat) : Int) l k out)∧Hid (Own wq.heap.size 3 1 ienc wr ⟨A',c',out⟩)∧Hid (Below wq.heap.size wq wr)) (fun _ Y _=>l.length - (intOf Y).toNat)
                      case atStart=>exact ⟨0,_,_,[((sm : Nat) : Int)],rfl,rfl,Lib.hid (UnI.start hpos),HO0,HV0⟩
                      case round =>
                        clear HO0 HV0
                        obtain ⟨k,A',c',out,rfl,rfl,HI,HO,HV⟩:=hrel
                        have hol : out.length≤10000:=by
                          have h1:=HI.out.len
                          have h2:=HI.out.k
                          omega
                        have hk99 : k<100:=by have:=HI.out.k; omega
                        by_cases hlt : k+1<l.length
                        · have hlt' : (k : Int)+1<(l.length : Int):=by omega
                          have hkk : k<l.length:=by omega
                          have hk1 : (0 : Int)≤(k : Int)+1:=by omega
                          have hwk : IntKind.i64.wrap ((k : Int)+1 - 1)=(k : Int):=by rw [IntKind.wrap_i64]; omega
                          have hwk2 : IntKind.i64.wrap (k : Int)=(k : Int):=by rw [IntKind.wrap_i64]; omega
                          obtain ⟨gC,rfl⟩ : ∃ g,A=some ⟨g,0,none⟩:=by
                            rcases HOC.out.form with ⟨_,_,h0⟩ | ⟨g,h0,_⟩
                            · simp only at h0; rw [h0] at hlt; simp at hlt
                            · exact ⟨g,h0⟩
                          have HOu:=Lib.hid (HOC.out.below HV.out)
                          have c0:=own_celli HOu.out (List.getElem?_eq_getElem hkk)
                          have c1:=own_celli HOu.out (List.getElem?_eq_getElem hlt)
                          have hi2:=HI.out.step hn hlt
                          have hadj:=adj_at HAD.out hlt
                          obtain ⟨xe,hxe,_⟩:=hW_some hadj
                          have h512 : 2 ^ R.length≤2 ^ 9:=Nat.pow_le_pow_right (by omega) hn
                          have hlen2 : out.length+2 ^ R.length≤100000:=by omega
                          have hcall:=hier_unpack HH.out.h (by omega) wq.heap.size mb E (fun _ _=>rfl) hmbq R.length l[k] l[k+1] xe hxe (.inl (HH.out.h.lt _ (HH.out.h.rng _ _ _ hxe).1).2) ⟨A',c',out⟩ wr.drew HO.out.drew (HMq.out.later (Below.drew HV.out)) HV.out.size hlen2
                          simp only at hcall
                          clear hxe hadj h512 hlen2
                          have HC0 : Hid (l[k]? = some l[k]):=Lib.hid (List.getElem?_eq_getElem hkk)
                          have HC1 : Hid (l[k+1]? = some l[k+1]):=Lib.hid (List.getElem?_eq_getElem hlt)
                          generalize l[k]=uu at *
                          generalize l[k+1]=vv at *
                          obtain ⟨out2,ho2⟩ : ∃ X,out ++ unpF (lkE E) R.length uu vv=X:=⟨_,rfl⟩
                          rw [ho2] at hcall hi2
                          have HCALL:=Lib.hid hcall
                          have HI2:=Lib.hid hi2
                          have hdv:=Below.drew HV.out
                          have HDV:=Lib.hid hdv
                          clear ho2 hcall hi2 HI hdv HO
                          go_wp2_with fail
                          refine wp_region_T (fun W=>W.cell? ⟨gC,k,none⟩=some (.int .i64 uu)∧W.cell? ⟨gC,k+1,none⟩=some (.int .i64 vv)) (fun _=>false) (by kernel_rfl) ⟨c0,c1⟩ (fun hHeld=>?_)
                          refine wpAnyT_take2 (i:=0) (v:=?_) rfl rfl (by kernel_rfl) (by kernel_rfl) (by kernel_rfl) (by kernel_rfl) (fun _ _ _ h=>h) (Or.inl ⟨by rfl, ?_⟩) (by first | assumption | trivial) ?_
                          rotate_left
                          · (intro w hSw; (try dsimp only at hSw); go_simp) <;> (with_reducible rfl)
                          simp only [List.setIfInBounds_toArray,List.set_cons_zero,List.set_cons_succ]
                          refine wpAnyT_take2 (i:=1) (v:=?_) rfl rfl (by kernel_rfl) (by kernel_rfl) (by kernel_rfl) (by kernel_rfl) (fun _ _ _ h=>h) (Or.inl ⟨by rfl, ?_⟩) (by first | assumption | trivial) ?_
                          rotate_left
                          · (intro w hSw; (try dsimp only at hSw); go_simp) <;> (with_reducible rfl)
                          simp only [List.setIfInBounds_toArray,List.set_cons_zero,List.set_cons_succ]
                          refine wpAnyT_take2 (i:=2) (v:=?_) rfl rfl (by kernel_rfl) (by kernel_rfl) (by kernel_rfl) (by kernel_rfl) (fun _ _ _ h=>h) (Or.inl ⟨by rfl, ?_⟩) (by first | assumption | trivial) ?_
                          rotate_left
                          · (intro w hSw; (try dsimp only at hSw); go_simp) <;> (with_reducible rfl)
                          simp only [List.setIfInBounds_toArray,List.set_cons_zero,List.set_cons_succ]
                          refine wpAnyT_take2 (i:=3) (v:=.int .i64 (k : Nat)) rfl rfl (by kernel_rfl) (by kernel_rfl) (by kernel_rfl) (by kernel_rfl) (fun _ _ _ h=>h) (Or.inl ⟨by rfl, ?_⟩) (by first | assumption | trivial) ?_
                          · (intro w hSw; (try dsimp only at hSw); go_simp) <;> (first | (with_reducible rfl) | assumption | (simp; done) | (simp [*]; done) | (simp; omega))
                          simp only [List.setIfInBounds_toArray,List.set_cons_zero,List.set_cons_succ]
                          clear hwk hwk2
                          refine wpAnyT_take2 (i:=4) (v:=?_) rfl rfl (by kernel_rfl) (by kernel_rfl) (by kernel_rfl) (by kernel_rfl) (fun _ _ _ h=>h) (Or.inl ⟨by rfl, ?_⟩) (by first | assumption | trivial) ?_
                          rotate_left
                          · (intro w hSw; (try dsimp only at hSw); go_simp) <;> (with_reducible rfl)
                          simp only [List.setIfInBounds_toArray,List.set_cons_zero,List.set_cons_succ]
                          refine wpAnyT_take2 (i:=5) (v:=?_) rfl rfl (by kernel_rfl) (by kernel_rfl) (by kernel_rfl) (by kernel_rfl) (fun _ _ _ h=>h) (Or.inl ⟨by rfl, ?_⟩) (by first | assumption | trivial) ?_
                          rotate_left
                          · (intro w hSw; (try dsimp only at hSw); go_simp) <;> (with_reducible rfl)
                          simp only [List.setIfInBounds_toArray,List.set_cons_zero,List.set_cons_succ]
                          refine wpAnyT_take2 (i:=6) (v:=?_) rfl rfl (by kernel_rfl) (by kernel_rfl) (by kernel_rfl) (by kernel_rfl) (fun _ _ _ h=>h) (Or.inl ⟨by rfl, ?_⟩) (by first | assumption | trivial) ?_
                          rotate_left
                          · (intro w hSw; (try dsimp only at hSw); go_simp) <;> (with_reducible rfl)
                          simp only [List.setIfInBounds_toArray,List.set_cons_zero,List.set_cons_succ]
                          refine wpAnyT_take2 (i:=7) (v:=?_) rfl rfl (by kernel_rfl) (by kernel_rfl) (by kernel_rfl) (by kernel_rfl) (fun _ _ _ h=>h) (Or.inl ⟨by rfl, ?_⟩) (by first | assumption | trivial) ?_
                          rotate_left
                          · (intro w hSw; (try dsimp only at hSw); go_simp) <;> (with_reducible rfl)
                          simp only [List.setIfInBounds_toArray,List.set_cons_zero,List.set_cons_succ]
                          refine wpAnyT_take2 (i:=8) (v:=?_) rfl rfl (by kernel_rfl) (by kernel_rfl) (by kernel_rfl) (by kernel_rfl) (fun _ _ _ h=>h) (Or.inl ⟨by rfl, ?_⟩) (by first | assumption | trivial) ?_
                          rotate_left
                          · (intro w hSw; (try dsimp only at hSw); go_simp) <;> (with_reducible rfl)
                          simp only [List.setIfInBounds_toArray,List.set_cons_zero,List.set_cons_succ]
                          refine wpAnyT_take2 (i:=9) (v:=?_) rfl rfl (by kernel_rfl) (by kernel_rfl) (by kernel_rfl) (by kernel_rfl) (fun _ _ _ h=>h) (Or.inl ⟨by rfl, ?_⟩) (by first | assumption | trivial) ?_
                          rotate_left
                          · (intro w hSw; (try dsimp only at hSw); go_simp) <;> (with_reducible rfl)
                          simp only [List.setIfInBounds_toArray,List.set_cons_zero,List.set_cons_succ]
                          refine wpAnyT_take2 (i:=10) (v:=?_) rfl rfl (by kernel_rfl) (by kernel_rfl) (by kernel_rfl) (by kernel_rfl) (fun _ _ _ h=>h) (Or.inl ⟨by rfl, ?_⟩) (by first | assumption | trivial) ?_
                          rotate_left
                          · (intro w hSw; (try dsimp only at hSw); go_simp) <;> (with_reducible rfl)
                          simp only [List.setIfInBounds_toArray,List.set_cons_zero,List.set_cons_succ]
                          clear hHeld c0 c1 HOu
                          refine wpAnyT_next (i:=11) (by kernel_rfl) rfl ?_
                          go_wp2_with fail
                          refine HCALL.out.mono ?_
                          clear HCALL
                          rintro r w2 ⟨A2,c2,rfl,hown,hb⟩
                          have HO2:=Lib.hid hown
                          have HV2:=Lib.hid (HDV.out.trans hb)
                          clear hown hb HDV HV
                          have HOu:=Lib.hid (HOC.out.below HV2.out)
                          have c0:=own_celli HOu.out HC0.out
                          have c1:=own_celli HOu.out HC1.out
                          go_wp2_with fail
                          refine And.intro (by first | exact ⟨c0,c1⟩ | exact fun _=>⟨c0,c1⟩) ?_
                          have hHeld:=And.intro c0 c1
                          refine wpAnyT_take2 (i:=12) (v:=?_) rfl rfl (by kernel_rfl) (by kernel_rfl) (by kernel_rfl) (by kernel_rfl) (fun _ _ _ h=>h) (Or.inl ⟨by rfl, ?_⟩) (by first | assumption | trivial) ?_
                          rotate_left
                          · (intro w hSw; (try dsimp only at hSw); go_simp) <;> (with_reducible rfl)
                          simp only [List.setIfInBounds_toArray,List.set_cons_zero,List.set_cons_succ]
                          refine wpAnyT_done (by kernel_rfl) ?_ _
                          clear hHeld c0 c1 HOu
                          go_wp2_with fail
                          go_roundw
                          case rel=>exact ⟨k+1,A2,c2,out2,rfl,by go_num,HI2,HO2,HV2⟩
                          case measure=>simp [intOf]; omega
                        · have HD:=Lib.hid (HI.out.done hlt)
                          have hlt' : ¬ (k : Int)+1<(l.length : Int):=by omega
                          clear HI
                          go_wp2_with fail
                          refine (hier_simple ⟨A',c',out⟩ wr ((Own.rd ienc_k HO.out).mono fun b hb=>hb.2) (by simp only; omega)).mono ?_
                          rintro r w2 ⟨A2,c2,rfl,hown,hb⟩
                          simp only at hown
                          obtain ⟨o2,ho2⟩ : ∃ X,smpL out=X:=⟨_,rfl⟩
                          rw [ho2] at hown
                          simp only [ho2]
                          have HR2:=Lib.hid (hown.mono (Nat.le_trans hwq HV.out.size))
                          have HB2:=Lib.hid (HBq.out.trans ((HV.out.trans (hb.mono HV.out.size)).mono hwq))
                          have HO2 : Hid (o2=smpL (((sm : Nat) : Int) :: unpL (lkE E) R.length l)):=Lib.hid (by rw [← ho2,HD.out])
                          clear hown hb ho2 HO HV HBq
                          go_wp2_with fail
                          go_ret
                          exact ⟨A2,c2,o2,rfl,HR2.out,by rw [if_pos ⟨HS.out,HT.out,hD⟩,HO2.out]; exact HPT2.out,HB2.out⟩
        · have hma : ma = -1:=HMD.out.2.2 (by omega)
          subst hma
          go_wp2_with fail
          go_ret
          exact ⟨none,0,[],rfl,Own.nil _ _ _ _ _,by rw [if_neg (fun h=>by have:=h.2.2; omega)],HB4.out⟩
    · rw [decide_eq_false ht]
      go_wp2_with fail
      go_ret
      exact ⟨none,0,[],rfl,Own.nil _ _ _ _ _,by rw [if_neg (fun h=>ht h.2.1)],HB3.out⟩
  · rw [decide_eq_false hs]
    go_wp2_with fail
    go_ret
    exact ⟨none,0,[],rfl,Own.nil _ _ _ _ _,by rw [if_neg (fun h=>hs h.1)],HB2.out⟩
end Go.Proofs.Ytlbihfbeamlacaa
