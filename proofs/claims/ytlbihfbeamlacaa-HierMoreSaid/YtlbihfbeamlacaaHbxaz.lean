/- Walks: climbing. -/
import Derived.Test.YtlbihfbeamlacaaHbxax
import Derived.Test.YtlbihfbeamlacaaHbxay
set_option linter.unusedSimpArgs false
set_option linter.unusedVariables false
set_option maxRecDepth 100000
set_option maxHeartbeats 6400000
namespace Go.Proofs.Ytlbihfbeamlacaa
open Go.RowKit
def intsA (l : List Int) : Array Value:=(l.map (Value.int .i64)).toArray
theorem intsA_at {l : List Int} {i : Nat} (h : i<l.length) : (intsA l)[i]? = some (.int .i64 l[i]):=by
  unfold intsA; rw [List.getElem?_toArray,List.getElem?_map,List.getElem?_eq_getElem h]; rfl
theorem intsA_set {l : List Int} {i : Nat} {x : Int} : (intsA l).setIfInBounds i (.int .i64 x)=intsA (l.set i x):=by
  unfold intsA; rw [List.setIfInBounds_toArray,List.map_set]
theorem intsA_rep {n : Nat} {x : Int} : intsA (List.replicate n x)=(List.replicate n (Value.int .i64 x)).toArray:=by unfold intsA; rw [List.map_replicate]
theorem infoEdges : Info Try.prog 22 (.slice none 0 0) 1 24:=info_mk (by kernel_rfl) rfl
theorem make_rowsE (n : Nat) (hn : n≤10000) (w : World) : (Instr.makeSlice 79 (.int .i64 (n : Int)) (.int .i64 (n : Int))).run Try.prog w = .ok (.slice (some ⟨w.heap.size,0,none⟩) n n) (w.alloc (.cells (svA (List.replicate n (⟨none,0,[]⟩ : Sl ED))) 22)):=by
  obtain ⟨i,hi,hz,hsize,hby,hzs⟩:=infoEdges
  have h:=run_makeSlice w 79 22 i _ Try.underlying79 hi hz .i64 .i64 (n : Int) (n : Int) (by omega) (Int.le_refl _) (by rw [hsize]; omega) (by rw [hby]; omega) (by omega)
  have hs : svA (List.replicate n (⟨none,0,[]⟩ : Sl ED))=(List.replicate n (Value.slice none 0 0)).toArray:=by
    unfold svA
    rw [List.map_replicate]
    rfl
  rw [h,hsize,hs]
  simp only [Int.toNat_natCast,Nat.mul_one,made_rep (z:=Value.slice none 0 0) rfl]
/-- What up returns. -/
def UpP (n s : Nat) (R : List Int) (E : List ED) (back : Bool) (w w' : World) (r : Ending) : Prop:=∃ (gd gb : Nat) (dl bl : List Int),r = .returned (.agg #[.slice (some ⟨gd,0,none⟩) n n,.slice (some ⟨gb,0,none⟩) n n])∧w.heap.size≤gd∧w.heap.size≤gb∧dl.length=n∧bl.length=n∧Blk w' gd 3 (intsA dl)∧Blk w' gb 3 (intsA bl)∧Climb n (dirF back (lkE E)) (rkF R) s (atF dl) (atF bl)∧(∀ v,Ir n v→atF dl v≤9000000000000)∧Below w.heap.size w w'
theorem Rd.one {w : World} {g : Nat} {x : Int} (h : Blk w g 3 #[.int .i64 x]) : Rd (· < w.heap.size) 1 ienc w ⟨some ⟨g,0,none⟩,1,[x]⟩ :=
  Rd.rep (x:=x) (n:=1) (k:=1) (by simpa [repC] using h) (Nat.le_refl _) (by omega)
structure UpR (n : Nat) (back : Bool) (rk : Int→Int) (l : List ED) (base gn : Nat) (w : World) (rows : List (Sl ED)) : Prop where
  len : rows.length=n
  bn : Blk w gn 22 (svA rows)
  fam : Fam base 44 4 ED.enc w rows
  has : ∀ (v : Nat) (s : Sl ED),rows[v]? = some s→s.l=stpL back rk l v
section
variable {n base gn : Nat} {back : Bool} {rk : Int→Int} {l : List ED} {w w' : World} {rows : List (Sl ED)}
theorem UpR.keep (h : UpR n back rk l base gn w rows) (hg : gn<w.heap.size) (hb : Below w.heap.size w w') : UpR n back rk l base gn w' rows:=⟨h.len,h.bn.later hb,h.fam.below hb,h.has⟩
theorem UpR.far (h : UpR n back rk l base gn w rows) {a : Addr} (h1 : gn≠a.block) (h2 : a.block<base) (u : Value) : UpR n back rk l base gn (w.setCell a u) rows:=⟨h.len,h.bn.far h1 u,h.fam.far h2 u,h.has⟩
theorem UpR.skip {e : ED} (h : UpR n back rk l base gn w rows) (hc : ¬ rk (flpE back e).f<rk (flpE back e).t) : UpR n back rk (l ++ [e]) base gn w rows:=⟨h.len,h.bn,h.fam,fun v s hs=>by
  rw [stpL_snoc,if_neg (fun hh=>hc hh.2)]
  exact h.has v s hs⟩
theorem UpR.app {e : ED} {fm : Nat} {s : Sl ED} {A : Option Addr} {c : Nat} (h : UpR n back rk l base gn w rows) (hf : (flpE back e).f=(fm : Int)) (hc : rk (flpE back e).f<rk (flpE back e).t) (hs : rows[fm]? = some s) (hgb : gn<base)
    (hown : Own base 44 4 ED.enc w' ⟨A,c,s.l ++ [flpE back e]⟩) (hg : w.grownBy w' (Value.slice s.A s.l.length s.c).ownBlock) (hA : A=s.A∨A=some ⟨w.heap.size,0,none⟩) :
    UpR n back rk (l ++ [e]) base gn (w'.setCell ⟨gn,fm,none⟩ (.slice A (s.l.length+1) c)) (rows.set fm ⟨A,c,s.l ++ [flpE back e]⟩):=by
  have hne : some gn≠(Value.slice s.A s.l.length s.c).ownBlock:=fun hc=>by
    have:=(own_row (h.fam.own fm s hs) gn hc.symm).2.1
    omega
  have hb:=(h.bn.grown hg hne).set_ fm (.slice A (s.l.length+1) c)
  have hsv:=svA_set (ls:=rows) (i:=fm) (s:=⟨A,c,s.l ++ [flpE back e]⟩)
  simp only [List.length_append,List.length_cons,List.length_nil,Nat.zero_add] at hsv
  rw [hsv] at hb
  refine ⟨by rw [List.length_set]; exact h.len,hb,(h.fam.app hs hown hg hA).far hgb _,fun v t ht=>?_⟩
  rw [List.getElem?_set] at ht
  rw [stpL_snoc]
  by_cases hv : fm=v
  · subst hv
    rw [if_pos rfl,if_pos (List.getElem?_eq_some_iff.1 hs).1] at ht
    injection ht with ht
    rw [if_pos ⟨hf,hc⟩,← ht,← h.has fm s hs]
  · rw [if_neg hv] at ht
    rw [if_neg (fun hh=>hv (by have:=hf.symm.trans hh.1; omega))]
    exact h.has v t ht
end
theorem dirF_ok {n : Nat} {back : Bool} {E : List ED} (he : ∀ e,e ∈ E→Ir n e.f∧Ir n e.t∧0≤e.n∧e.n≤1000000000000) {f t : Int} {x : ED} (h : dirF back (lkE E) f t=some x) : Ir n f∧Ir n t∧0≤x.n∧x.n≤1000000000000:=by
  cases back
  · have h' : lkE E f t=some x:=h
    obtain ⟨h1,h2⟩:=lkE_key h'
    obtain ⟨h3,h4,h5⟩:=he x (lkE_mem h')
    rw [h1] at h3; rw [h2] at h4
    exact ⟨h3,h4,h5⟩
  · have h' : lkE E t f=some x:=h
    obtain ⟨h1,h2⟩:=lkE_key h'
    obtain ⟨h3,h4,h5⟩:=he x (lkE_mem h')
    rw [h1] at h3; rw [h2] at h4
    exact ⟨h4,h3,h5⟩
/-- All that stands when one climbs. -/
structure UpT (w0 : World) (base gd gb gc gq : Nat) (RA : Option Addr) (Rc : Nat) (EA : Option Addr) (Ec : Nat) (R : List Int) (E : List ED) (back : Bool) (rows : List (Sl ED)) (oc : Nat) (w : World) (dl bl : List Int) : Prop where
  bel : Below w0.heap.size w0 w
  hx : Blk w w0.heap.size 25 #[.slice RA R.length Rc,.slice EA E.length Ec]
  hy : Blk w (w0.heap.size+1) 65 #[.slice none 0 0,.slice none 0 0]
  cx : Blk w gc 65 #[.slice (some ⟨gd,0,none⟩) R.length R.length,.slice (some ⟨gb,0,none⟩) R.length R.length]
  rw_ : UpR R.length back (rkF R) E base (gc+1) w rows
  ox : Blk w gq 3 (ordC R oc)
  row : ∀ s,s ∈ rows→s.A≠some ⟨gq,0,none⟩
  dx : Blk w gd 3 (intsA dl)
  bx : Blk w gb 3 (intsA bl)
  dn : dl.length=R.length
  bn : bl.length=R.length
  ord : w0.heap.size+1<gd∧gd<gb∧gb<gc∧gc+1<base∧base≤gq
section
variable {w0 w w' : World} {base gd gb gc gq Rc Ec : Nat} {RA EA : Option Addr} {R : List Int} {E : List ED} {back : Bool} {rows : List (Sl ED)} {dl bl : List Int} {oc : Nat}
theorem UpT.later (h : UpT w0 base gd gb gc gq RA Rc EA Ec R E back rows oc w dl bl) (hb : Below w.heap.size w w') : UpT w0 base gd gb gc gq RA Rc EA Ec R E back rows oc w' dl bl :=
  ⟨h.bel.trans (hb.mono h.bel.size),h.hx.later hb,h.hy.later hb,h.cx.later hb,h.rw_.keep h.rw_.bn.lt hb,h.ox.later hb,h.row,h.dx.later hb,h.bx.later hb,h.dn,h.bn,h.ord⟩
theorem UpT.setD (h : UpT w0 base gd gb gc gq RA Rc EA Ec R E back rows oc w dl bl) (i : Nat) (x : Int) : UpT w0 base gd gb gc gq RA Rc EA Ec R E back rows oc (w.setCell ⟨gd,i,none⟩ (.int .i64 x)) (dl.set i x) bl:=by
  obtain ⟨h1,h2,h3,h4,h5⟩:=h.ord
  have hb:=h.bel.setCell (p:=⟨gd,i,none⟩) (by simp only; omega) (.int .i64 x)
  refine ⟨hb,h.hx.far (by simp only; omega) _,h.hy.far (by simp only; omega) _,h.cx.far (by simp only; omega) _,h.rw_.far (by simp only; omega) (by simp only; omega) _,h.ox.far (by simp only; omega) _,h.row, ?_,h.bx.far (by simp only; omega) _,by rw [List.length_set]; exact h.dn,h.bn,h.ord⟩
  rw [← intsA_set]
  exact h.dx.set_ i _
theorem UpT.setB (h : UpT w0 base gd gb gc gq RA Rc EA Ec R E back rows oc w dl bl) (i : Nat) (x : Int) : UpT w0 base gd gb gc gq RA Rc EA Ec R E back rows oc (w.setCell ⟨gb,i,none⟩ (.int .i64 x)) dl (bl.set i x):=by
  obtain ⟨h1,h2,h3,h4,h5⟩:=h.ord
  have hb:=h.bel.setCell (p:=⟨gb,i,none⟩) (by simp only; omega) (.int .i64 x)
  refine ⟨hb,h.hx.far (by simp only; omega) _,h.hy.far (by simp only; omega) _,h.cx.far (by simp only; omega) _,h.rw_.far (by simp only; omega) (by simp only; omega) _,h.ox.far (by simp only; omega) _,h.row,h.dx.far (by simp only; omega) _, ?_,h.dn,by rw [List.length_set]; exact h.bn,h.ord⟩
  rw [← intsA_set]
  exact h.bx.set_ i _
theorem UpT.setO (h : UpT w0 base gd gb gc gq RA Rc EA Ec R E back rows oc w dl bl) (hn : R.Nodup) {m : Nat} (hx : R[oc]? = some (m : Int)) : UpT w0 base gd gb gc gq RA Rc EA Ec R E back rows (oc+1) (w.setCell ⟨gq,m,none⟩ (.int .i64 oc)) dl bl:=by
  obtain ⟨h1,h2,h3,h4,h5⟩:=h.ord
  have hb:=h.bel.setCell (p:=⟨gq,m,none⟩) (by simp only; omega) (.int .i64 oc)
  refine ⟨hb,h.hx.far (by simp only; omega) _,h.hy.far (by simp only; omega) _,h.cx.far (by simp only; omega) _,⟨h.rw_.len,h.rw_.bn.far (by simp only; omega) _,h.rw_.fam.map_ fun s hs ho=>ho.other (fun g hg e=>h.row s hs (by rw [hg,e])) _,h.rw_.has⟩, ?_,h.row,h.dx.far (by simp only; omega) _,h.bx.far (by simp only; omega) _,h.dn,h.bn,h.ord⟩
  rw [← ordC_step hn hx]
  exact h.ox.set_ m _
end
theorem blk_of {w w' : World} {g : Nat} {t : TypeId} {cs : Array Value} (hk : w'.heap[g]? = w.heap[g]?) (h : Blk w g t cs) : Blk w' g t cs:=hk.trans h
theorem hier_up (n s : Nat) (R : Sl Int) (E : Sl ED) (back : Bool) (w : World) (hR : Rd (· < w.heap.size) 1 ienc w R) (hE : Rd (· < w.heap.size) 4 ED.enc w E) (hrk : RkOK n R.l) (hn : n≤9) (hk : KeyD E.l)
    (he : ∀ e,e ∈ E.l→Ir n e.f∧Ir n e.t∧0≤e.n∧e.n≤1000000000000) (hlen : E.l.length≤81) (hs : s<n) :
    Calls Try.prog 39 #[.agg #[.slice R.A R.l.length R.c,.slice E.A E.l.length E.c],.int .i64 s,.bool back] w fun r w'=>UpP n s R.l E.l back w w' r:=by
  have HR:=Lib.hid hR
  have HE:=Lib.hid hE
  have HK:=Lib.hid hk
  have HED:=Lib.hid he
  have hrl:=hrk.len
  have HRK:=Lib.hid hrk
  clear hR hE hk he hrk
  obtain ⟨RA,Rc,R⟩:=R
  obtain ⟨EA,Ec,E⟩:=E
  simp only at hlen hrl HRK HK HED ⊢
  subst hrl
  have hmk:=make_rowsE R.length (by omega)
  have hmq:=make_ints R.length (by omega)
  go_enter Try.func39,Try.ntmps39
  go_wp2_with fail
  have HB1 : Hid (Below w.heap.size w (((w.alloc (.cells #[.slice RA R.length Rc,.slice EA E.length Ec] 25)).alloc (.cells #[.slice none 0 0,.slice none 0 0] 65)).alloc (.cells #[.int .i64 (-1)] 3))):=Lib.hid (by repeat (first | (with_reducible exact Below.refl _ _) | ((with_reducible refine below_setr ?_ ?_); focus (first | (simp; done) | (simp; omega) | omega)) | ((with_reducible refine below_allocr ?_ ?_); focus (first | (simp; done) | (simp; omega) | omega)) | (with_reducible refine Below.drew ?_) | (with_reducible refine below_drewN ?_ _)))
  have HX1 : Hid (Blk (((w.alloc (.cells #[.slice RA R.length Rc,.slice EA E.length Ec] 25)).alloc (.cells #[.slice none 0 0,.slice none 0 0] 65)).alloc (.cells #[.int .i64 (-1)] 3)) w.heap.size 25 #[.slice RA R.length Rc,.slice EA E.length Ec]):=Lib.hid (((Blk.new _ _ _).alloc _).alloc _)
  have HY1 : Hid (Blk (((w.alloc (.cells #[.slice RA R.length Rc,.slice EA E.length Ec] 25)).alloc (.cells #[.slice none 0 0,.slice none 0 0] 65)).alloc (.cells #[.int .i64 (-1)] 3)) (w.heap.size+1) 65 #[.slice none 0 0,.slice none 0 0]):=Lib.hid (by
    have h:=(Blk.new (w.alloc (.cells #[.slice RA R.length Rc,.slice EA E.length Ec] 25)) 65 #[.slice none 0 0,.slice none 0 0]).alloc (.cells #[.int .i64 (-1)] 3)
    simpa using h)
  have HZ1 : Hid (Blk (((w.alloc (.cells #[.slice RA R.length Rc,.slice EA E.length Ec] 25)).alloc (.cells #[.slice none 0 0,.slice none 0 0] 65)).alloc (.cells #[.int .i64 (-1)] 3)) (w.heap.size+1+1) 3 #[.int .i64 (-1)]):=Lib.hid (by
    have h:=Blk.new ((w.alloc (.cells #[.slice RA R.length Rc,.slice EA E.length Ec] 25)).alloc (.cells #[.slice none 0 0,.slice none 0 0] 65)) 3 #[.int .i64 (-1)]
    simpa using h)
  generalize ((w.alloc (.cells #[.slice RA R.length Rc,.slice EA E.length Ec] 25)).alloc (.cells #[.slice none 0 0,.slice none 0 0] 65)).alloc (.cells #[.int .i64 (-1)] 3)=w1 at *
  refine (slices_Repeat ⟨some ⟨w.heap.size+1+1,0,none⟩,1,[-1]⟩ (-1) rfl R.length (by omega) w1 (Rd.one HZ1.out)).mono ?_
  rintro r w2 ⟨gd,rfl,hgd,hd,hb⟩
  have HGD2:=Lib.hid hgd
  have HD2:=Lib.hid hd
  have HB2:=Lib.hid (HB1.out.trans (hb.mono HB1.out.size))
  have HX2:=Lib.hid (HX1.out.later hb)
  have HY2:=Lib.hid (HY1.out.later hb)
  have HLT : Hid (w.heap.size+1+1<w1.heap.size):=Lib.hid HZ1.out.lt
  clear hgd hd hb HX1 HY1 HZ1 HB1
  go_wp2_with fail
  have hal : Below w2.heap.size w2 (w2.alloc (.cells #[.int .i64 (-1)] 3)):=(Below.refl _ _).alloc (Nat.le_refl _) _
  have HZ3 : Hid (Blk (w2.alloc (.cells #[.int .i64 (-1)] 3)) w2.heap.size 3 #[.int .i64 (-1)]):=Lib.hid (Blk.new _ _ _)
  have HB3:=Lib.hid (HB2.out.trans (hal.mono HB2.out.size))
  have HX3:=Lib.hid (HX2.out.later hal)
  have HY3:=Lib.hid (HY2.out.later hal)
  have HD3:=Lib.hid (HD2.out.later hal)
  clear hal HB2 HX2 HY2 HD2
  generalize w2.alloc (.cells #[.int .i64 (-1)] 3)=w3 at *
  refine (slices_Repeat ⟨some ⟨w2.heap.size,0,none⟩,1,[-1]⟩ (-1) rfl R.length (by omega) w3 (Rd.one HZ3.out)).mono ?_
  rintro r w4 ⟨gb,rfl,hgb,hd,hb⟩
  have HGB4 : Hid (w.heap.size+1+1<gd∧gd<gb):=Lib.hid (by
    have h1:=HD3.out.lt
    have h2:=HLT.out
    have h3:=HGD2.out
    omega)
  have HE4:=Lib.hid hd
  have HB4:=Lib.hid (HB3.out.trans (hb.mono HB3.out.size))
  have HX4:=Lib.hid (HX3.out.later hb)
  have HY4:=Lib.hid (HY3.out.later hb)
  have HD4:=Lib.hid (HD3.out.later hb)
  clear hgb hd hb HZ3 HB3 HX3 HY3 HD3 HGD2 HLT
  obtain ⟨x0,x1,xf,xz⟩:=HX4.out.b2
  go_wp2_with fail
  clear x0 x1 xf xz
  have hal1 : Below w4.heap.size w4 (w4.alloc (.cells #[.slice (some ⟨gd,0,none⟩) R.length R.length,.slice (some ⟨gb,0,none⟩) R.length R.length] 65)):=(Below.refl _ _).alloc (Nat.le_refl _) _
  have hcx : Blk (w4.alloc (.cells #[.slice (some ⟨gd,0,none⟩) R.length R.length,.slice (some ⟨gb,0,none⟩) R.length R.length] 65)) w4.heap.size 65 #[.slice (some ⟨gd,0,none⟩) R.length R.length,.slice (some ⟨gb,0,none⟩) R.length R.length]:=Blk.new _ _ _
  have hsz1 : (w4.alloc (.cells #[.slice (some ⟨gd,0,none⟩) R.length R.length,.slice (some ⟨gb,0,none⟩) R.length R.length] 65)).heap.size=w4.heap.size+1:=by simp
  generalize w4.alloc (.cells #[.slice (some ⟨gd,0,none⟩) R.length R.length,.slice (some ⟨gb,0,none⟩) R.length R.length] 65)=wx at *
  have hal2 : Below wx.heap.size wx (wx.alloc (.cells (svA (List.replicate R.length (⟨none,0,[]⟩ : Sl ED))) 22)):=(Below.refl _ _).alloc (Nat.le_refl _) _
  have hnx : Blk (wx.alloc (.cells (svA (List.replicate R.length (⟨none,0,[]⟩ : Sl ED))) 22)) wx.heap.size 22 (svA (List.replicate R.length (⟨none,0,[]⟩ : Sl ED))):=Blk.new _ _ _
  have hsz2 : (wx.alloc (.cells (svA (List.replicate R.length (⟨none,0,[]⟩ : Sl ED))) 22)).heap.size=wx.heap.size+1:=by simp
  generalize wx.alloc (.cells (svA (List.replicate R.length (⟨none,0,[]⟩ : Sl ED))) 22)=w5 at *
  rw [hsz1] at hnx hal2 hsz2
  obtain ⟨gc,hgc⟩ : ∃ x,x=w4.heap.size:=⟨_,rfl⟩
  rw [← hgc] at hnx hsz2 hcx hal1 hal2 ⊢
  have hab : Below gc w4 w5:=hal1.trans (hal2.mono (Nat.le_succ gc))
  have HGC : Hid (gb<gc∧w5.heap.size=gc+2):=Lib.hid (by
    have:=HE4.out.lt
    omega)
  rw [hgc] at hab
  have HX5:=Lib.hid (HX4.out.later hab)
  have HY5:=Lib.hid (HY4.out.later hab)
  have HD5:=Lib.hid (HD4.out.later hab)
  have HE5:=Lib.hid (HE4.out.later hab)
  have HB5:=Lib.hid (HB4.out.trans (hab.mono HB4.out.size))
  have HC5 : Hid (Blk w5 gc 65 #[.slice (some ⟨gd,0,none⟩) R.length R.length,.slice (some ⟨gb,0,none⟩) R.length R.length]):=Lib.hid ((hal2.block gc (Nat.lt_succ_self gc)).trans hcx)
  have HU5 : Hid (UpR R.length back (rkF R) (E.take 0) w5.heap.size (gc+1) w5 (List.replicate R.length ⟨none,0,[]⟩)):=Lib.hid ⟨by simp,hnx,Fam.start _,fun v s hs=>by rw [rep_get hs]; rfl⟩
  clear hal1 hal2 hnx hsz1 hsz2 hcx hab hgc HB4 HX4 HY4 HD4 HE4 hmk
  go_loopw [35] (fun i wr=>∃ (k : Nat) (rows : List (Sl ED)),k≤E.length∧i = .int .i64 k∧Hid (UpR R.length back (rkF R) (E.take k) w5.heap.size (gc+1) wr rows)∧Hid (Below (gc+1) w5 wr)) (fun i _=>E.length - (intOf i).toNat)
  case atStart=>exact ⟨0,_,by omega,rfl,HU5,Lib.hid (Below.refl _ _)⟩
  case round =>
    clear HU5
    obtain ⟨k,rows,hk,rfl,HU,HW⟩:=hrel
    have hsw : w5.heap.size≤wr.heap.size:=HW.out.size
    by_cases hlt : k<E.length
    · have hlt' : (k : Int)<(E.length : Int):=by omega
      have hgx:=HGC.out
      have hgy:=HGB4.out
      have HBR : Hid (Below w.heap.size w wr):=Lib.hid (HB5.out.trans (HW.out.mono (by omega)))
      have HXR : Hid (Blk wr w.heap.size 25 #[.slice RA R.length Rc,.slice EA E.length Ec]):=Lib.hid ((HW.out.block _ (by omega)).trans HX5.out)
      obtain ⟨b,o,hA,hb,hcl⟩:=(HE.out.later HBR.out (Nat.le_refl _)).at1 hlt
      simp only at hA hcl
      subst hA
      have HXE:=Lib.hid (List.getElem?_eq_getElem hlt)
      obtain ⟨hf,ht,hn0,hnM⟩:=HED.out _ (List.getElem_mem hlt)
      generalize E[k]=e at *
      obtain ⟨xf,xt,xn,xv⟩:=e
      simp only at hf ht hn0 hnM
      obtain ⟨fm,rfl⟩:=Int.eq_ofNat_of_zero_le hf.1
      obtain ⟨tm,rfl⟩:=Int.eq_ofNat_of_zero_le ht.1
      have hfm : fm<R.length:=by unfold Ir at hf; omega
      have htm : tm<R.length:=by unfold Ir at ht; omega
      obtain ⟨c0,c1,c2,c3⟩:=Cells.c4 hcl
      clear hf ht hcl hb
      rcases back
      · go_wp2_with fail
        clear c0 c1 c2 c3
        have hal : Below wr.heap.size wr (wr.alloc (.cells #[.int .i64 (fm : Nat),.int .i64 (tm : Nat),.int .i64 xn,.int .i64 xv] 44)):=(Below.refl _ _).alloc (Nat.le_refl _) _
        have HG2 : Hid (Blk (wr.alloc (.cells #[.int .i64 (fm : Nat),.int .i64 (tm : Nat),.int .i64 xn,.int .i64 xv] 44)) wr.heap.size 44 #[.int .i64 (fm : Nat),.int .i64 (tm : Nat),.int .i64 xn,.int .i64 xv]):=Lib.hid (Blk.new _ _ _)
        have HU2:=Lib.hid (HU.out.keep (by omega) hal)
        have HW2:=Lib.hid (HW.out.trans (hal.mono (by omega)))
        have HX2:=Lib.hid (HXR.out.later hal)
        have HB2:=Lib.hid (HBR.out.trans (hal.mono HBR.out.size))
        have HRW : Hid (∀ (v : Nat) (s : Sl ED),rows[v]? = some s→∀ q,(Value.slice s.A s.l.length s.c).ownBlock=some q→w5.heap.size≤q∧q<wr.heap.size):=Lib.hid (fun v s hs q hq=>(own_row (HU.out.fam.own v s hs) q hq).2)
        clear hal HU HW HXR HBR
        generalize wr.alloc (.cells #[.int .i64 (fm : Nat),.int .i64 (tm : Nat),.int .i64 xn,.int .i64 xv] 44)=we at *
        generalize wr.heap.size=ge at *
        obtain ⟨bR,oR,hRA,hbR,hcl1⟩:=(HR.out.later HB2.out (Nat.le_refl _)).at1 (i:=fm) (by simp only; omega)
        obtain ⟨bR',oR',hRA',_,hcl2⟩:=(HR.out.later HB2.out (Nat.le_refl _)).at1 (i:=tm) (by simp only; omega)
        simp only at hRA hRA' hcl1 hcl2
        subst hRA
        have hbo : bR=bR'∧oR=oR':=by simpa using hRA'
        obtain ⟨rfl,rfl⟩:=hbo
        have r0:=hcl1.c1
        have r1:=hcl2.c1
        have HKF : Hid (rkF R ((fm : Nat) : Int)=R[fm]):=Lib.hid (by unfold rkF; rw [Int.toNat_natCast,List.getElem?_eq_getElem (by omega)]; rfl)
        have HKT : Hid (rkF R ((tm : Nat) : Int)=R[tm]):=Lib.hid (by unfold rkF; rw [Int.toNat_natCast,List.getElem?_eq_getElem (by omega)]; rfl)
        simp only [Nat.mul_one] at r0 r1
        clear hRA' hcl1 hcl2 hbR
        generalize R[fm]=rf at *
        generalize R[tm]=rt at *
        refine wp_region_T (fun W=>W.cell? ⟨w.heap.size,0,none⟩=some (.slice (some ⟨bR,oR,none⟩) R.length Rc)∧W.cell? ⟨ge,0,none⟩=some (.int .i64 (fm : Nat))∧W.cell? ⟨ge,1,none⟩=some (.int .i64 (tm : Nat))∧W.cell? ⟨bR,oR+fm,none⟩=some (.int .i64 rf)∧W.cell? ⟨bR,oR+tm,none⟩=some (.int .i64 rt)) (fun _=>false) (by kernel_rfl) ⟨HX2.out.cell 0,HG2.out.cell 0,HG2.out.cell 1,r0,r1⟩ (fun hHeld=>?_)
        refine wpAnyT_take2 (i:=0) (v:=?_) rfl rfl (by kernel_rfl) (by kernel_rfl) (by kernel_rfl) (by kernel_rfl) (fun _ _ _ h=>h) (Or.inl ⟨by rfl, ?_⟩) (by first | assumption | trivial) ?_
        rotate_left
        · (intro w hSw; (try dsimp only at hSw); go_simp) <;> (with_reducible rfl)
        simp only [List.setIfInBounds_toArray,List.set_cons_zero,List.set_cons_succ]
        refine wpAnyT_take2 (i:=1) (v:=?_) rfl rfl (by kernel_rfl) (by kernel_rfl) (by kernel_rfl) (by kernel_rfl) (fun _ _ _ h=>h) (Or.inl ⟨by rfl, ?_⟩) (by first | assumption | trivial) ?_
        rotate_left
        · (intro w hSw; (try dsimp only at hSw); go_simp) <;> (with_reducible rfl)
        simp only [List.setIfInBounds_toArray,List.set_cons_zero,List.set_cons_succ]
        refine wpAnyT_take2 (i:=2) (v:=?_) rfl rfl (by kernel_rfl) (by kernel_rfl) (by kernel_rfl) (by kernel_rfl) (fun _ _ _ h=>h) (Or.inl ⟨by rfl, ?_⟩) (by first | assumption | trivial) ?_
        rotate_left
        · (intro w hSw; (try dsimp only at hSw); go_simp) <;> (with_reducible rfl)
        simp only [List.setIfInBounds_toArray,List.set_cons_zero,List.set_cons_succ]
        refine wpAnyT_take2 (i:=3) (v:=?_) rfl rfl (by kernel_rfl) (by kernel_rfl) (by kernel_rfl) (by kernel_rfl) (fun _ _ _ h=>h) (Or.inl ⟨by rfl, ?_⟩) (by first | assumption | trivial) ?_
        rotate_left
        · (intro w hSw; (try dsimp only at hSw); go_simp) <;> (with_reducible rfl)
        simp only [List.setIfInBounds_toArray,List.set_cons_zero,List.set_cons_succ]
        refine wpAnyT_take2 (i:=4) (v:=?_) rfl rfl (by kernel_rfl) (by kernel_rfl) (by kernel_rfl) (by kernel_rfl) (fun _ _ _ h=>h) (Or.inl ⟨by rfl, ?_⟩) (by first | assumption | trivial) ?_
        rotate_left
        · (intro w hSw; (try dsimp only at hSw); go_simp) <;> (with_reducible rfl)
        simp only [List.setIfInBounds_toArray,List.set_cons_zero,List.set_cons_succ]
        refine wpAnyT_take2 (i:=5) (v:=?_) rfl rfl (by kernel_rfl) (by kernel_rfl) (by kernel_rfl) (by kernel_rfl) (fun _ _ _ h=>h) (Or.inl ⟨by rfl, ?_⟩) (by first | assumption | trivial) ?_
        rotate_left
        · (intro w hSw; (try dsimp only at hSw); go_simp) <;> (with_reducible rfl)
        simp only [List.setIfInBounds_toArray,List.set_cons_zero,List.set_cons_succ]
        refine wpAnyT_take2 (i:=6) (v:=?_) rfl rfl (by kernel_rfl) (by kernel_rfl) (by kernel_rfl) (by kernel_rfl) (fun _ _ _ h=>h) (Or.inl ⟨by rfl, ?_⟩) (by first | assumption | trivial) ?_
        rotate_left
        · (intro w hSw; (try dsimp only at hSw); go_simp) <;> (with_reducible rfl)
        simp only [List.setIfInBounds_toArray,List.set_cons_zero,List.set_cons_succ]
        refine wpAnyT_take2 (i:=7) (v:=?_) rfl rfl (by kernel_rfl) (by kernel_rfl) (by kernel_rfl) (by kernel_rfl) (fun _ _ _ h=>h) (Or.inl ⟨by rfl, ?_⟩) (by first | assumption | trivial) ?_
        rotate_left
        · (intro w hSw; (try dsimp only at hSw); go_simp) <;> (with_reducible rfl)
        simp only [List.setIfInBounds_toArray,List.set_cons_zero,List.set_cons_succ]
        refine wpAnyT_take2 (i:=8) (v:=?_) rfl rfl (by kernel_rfl) (by kernel_rfl) (by kernel_rfl) (by kernel_rfl) (fun _ _ _ h=>h) (Or.inl ⟨by rfl, ?_⟩) (by first | assumption | trivial) ?_
        rotate_left
        · (intro w hSw; (try dsimp only at hSw); go_simp) <;> (with_reducible rfl)
        simp only [List.setIfInBounds_toArray,List.set_cons_zero,List.set_cons_succ]
        refine wpAnyT_take2 (i:=9) (v:=?_) rfl rfl (by kernel_rfl) (by kernel_rfl) (by kernel_rfl) (by kernel_rfl) (fun _ _ _ h=>h) (Or.inl ⟨by rfl, ?_⟩) (by first | assumption | trivial) ?_
        rotate_left
        · (intro w hSw; (try dsimp only at hSw); go_simp) <;> (with_reducible rfl)
        simp only [List.setIfInBounds_toArray,List.set_cons_zero,List.set_cons_succ]
        refine wpAnyT_take2 (i:=10) (v:=?_) rfl rfl (by kernel_rfl) (by kernel_rfl) (by kernel_rfl) (by kernel_rfl) (fun _ _ _ h=>h) (Or.inl ⟨by rfl, ?_⟩) (by first | assumption | trivial) ?_
        rotate_left
        · (intro w hSw; (try dsimp only at hSw); go_simp) <;> (with_reducible rfl)
        simp only [List.setIfInBounds_toArray,List.set_cons_zero,List.set_cons_succ]
        refine wpAnyT_take2 (i:=11) (v:=?_) rfl rfl (by kernel_rfl) (by kernel_rfl) (by kernel_rfl) (by kernel_rfl) (fun _ _ _ h=>h) (Or.inl ⟨by rfl, ?_⟩) (by first | assumption | trivial) ?_
        rotate_left
        · (intro w hSw; (try dsimp only at hSw); go_simp) <;> (with_reducible rfl)
        simp only [List.setIfInBounds_toArray,List.set_cons_zero,List.set_cons_succ]
        refine wpAnyT_take2 (i:=12) (v:=?_) rfl rfl (by kernel_rfl) (by kernel_rfl) (by kernel_rfl) (by kernel_rfl) (fun _ _ _ h=>h) (Or.inl ⟨by rfl, ?_⟩) (by first | assumption | trivial) ?_
        rotate_left
        · (intro w hSw; (try dsimp only at hSw); go_simp) <;> (with_reducible rfl)
        simp only [List.setIfInBounds_toArray,List.set_cons_zero,List.set_cons_succ]
        refine wpAnyT_done (by kernel_rfl) ?_ _
        clear hHeld
        clear r0 r1
        have hdr : Below we.heap.size we we.drew:=Below.drew (Below.refl _ _)
        have HU3:=Lib.hid (HU2.out.keep (by have:=HU2.out.bn.lt; omega) hdr)
        have HG3:=Lib.hid (HG2.out.later hdr)
        have HW3:=Lib.hid (HW2.out.trans (hdr.mono (by have:=HW2.out.size; omega)))
        have HET : Hid (E.take (k+1)=E.take k ++ [(⟨(fm : Nat),(tm : Nat),xn,xv⟩ : ED)]):=Lib.hid (by rw [List.take_add_one,HXE.out]; rfl)
        clear HU2 HG2 HX2 HB2 hdr
        generalize we.drew=wd at *
        by_cases hc : rf<rt
        · have HCF : Hid (rkF R (flpE false ⟨(fm : Nat),(tm : Nat),xn,xv⟩).f<rkF R (flpE false ⟨(fm : Nat),(tm : Nat),xn,xv⟩).t):=Lib.hid (by
            show rkF R ((fm : Nat) : Int)<rkF R ((tm : Nat) : Int)
            rw [HKF.out,HKT.out]; exact hc)
          have hrl:=HU3.out.len
          obtain ⟨s1,hs1⟩ : ∃ s1,rows[fm]? = some s1:=⟨_,List.getElem?_eq_getElem (by omega)⟩
          have HS1:=Lib.hid hs1
          have hsl : s1.l.length≤81:=by
            rw [HU3.out.has fm s1 hs1]
            unfold stpL
            refine Nat.le_trans (List.length_filter_le _ _) ?_
            rw [List.length_map,List.length_take]
            omega
          have hbw : gc+1<w5.heap.size:=by have:=HGC.out; omega
          clear hs1 hrl
          go_wp2_with fail
          refine wp_region_T (fun W=>W.cell? ⟨gc+1,fm,none⟩=some (.slice s1.A s1.l.length s1.c)∧W.cell? ⟨ge,0,none⟩=some (.int .i64 (fm : Nat))∧W.cell? ⟨ge,1,none⟩=some (.int .i64 (tm : Nat))∧W.cell? ⟨ge,2,none⟩=some (.int .i64 xn)∧W.cell? ⟨ge,3,none⟩=some (.int .i64 xv)) (fun i=>12≤i) (by kernel_rfl) ⟨(HU3.out.bn.cell fm).trans (svA_at HS1.out),HG3.out.cell 0,HG3.out.cell 1,HG3.out.cell 2,HG3.out.cell 3⟩ (fun hHeld=>?_)
          refine wpAnyT_take2 (i:=0) (v:=?_) rfl rfl (by kernel_rfl) (by kernel_rfl) (by kernel_rfl) (by kernel_rfl) (fun _ _ _ h=>h) (Or.inl ⟨by rfl, ?_⟩) (by first | assumption | trivial) ?_
          rotate_left
          · (intro w hSw; (try dsimp only at hSw); go_simp) <;> (with_reducible rfl)
          simp only [List.setIfInBounds_toArray,List.set_cons_zero,List.set_cons_succ]
          refine wpAnyT_take2 (i:=1) (v:=?_) rfl rfl (by kernel_rfl) (by kernel_rfl) (by kernel_rfl) (by kernel_rfl) (fun _ _ _ h=>h) (Or.inl ⟨by rfl, ?_⟩) (by first | assumption | trivial) ?_
          rotate_left
          · (intro w hSw; (try dsimp only at hSw); go_simp) <;> (with_reducible rfl)
          simp only [List.setIfInBounds_toArray,List.set_cons_zero,List.set_cons_succ]
          refine wpAnyT_take2 (i:=2) (v:=?_) rfl rfl (by kernel_rfl) (by kernel_rfl) (by kernel_rfl) (by kernel_rfl) (fun _ _ _ h=>h) (Or.inl ⟨by rfl, ?_⟩) (by first | assumption | trivial) ?_
          rotate_left
          · (intro w hSw; (try dsimp only at hSw); go_simp) <;> (with_reducible rfl)
          simp only [List.setIfInBounds_toArray,List.set_cons_zero,List.set_cons_succ]
          refine wpAnyT_take2 (i:=3) (v:=?_) rfl rfl (by kernel_rfl) (by kernel_rfl) (by kernel_rfl) (by kernel_rfl) (fun _ _ _ h=>h) (Or.inl ⟨by rfl, ?_⟩) (by first | assumption | trivial) ?_
          rotate_left
          · (intro w hSw; (try dsimp only at hSw); go_simp) <;> (with_reducible rfl)
          simp only [List.setIfInBounds_toArray,List.set_cons_zero,List.set_cons_succ]
          refine wpAnyT_take2 (i:=4) (v:=?_) rfl rfl (by kernel_rfl) (by kernel_rfl) (by kernel_rfl) (by kernel_rfl) (fun _ _ _ h=>h) (Or.inl ⟨by rfl, ?_⟩) (by first | assumption | trivial) ?_
          rotate_left
          · (intro w hSw; (try dsimp only at hSw); go_simp) <;> (with_reducible rfl)
          simp only [List.setIfInBounds_toArray,List.set_cons_zero,List.set_cons_succ]
          refine wpAnyT_take2 (i:=5) (v:=?_) rfl rfl (by kernel_rfl) (by kernel_rfl) (by kernel_rfl) (by kernel_rfl) (fun _ _ _ h=>h) (Or.inl ⟨by rfl, ?_⟩) (by first | assumption | trivial) ?_
          rotate_left
          · (intro w hSw; (try dsimp only at hSw); go_simp) <;> (with_reducible rfl)
          simp only [List.setIfInBounds_toArray,List.set_cons_zero,List.set_cons_succ]
          refine wpAnyT_take2 (i:=6) (v:=?_) rfl rfl (by kernel_rfl) (by kernel_rfl) (by kernel_rfl) (by kernel_rfl) (fun _ _ _ h=>h) (Or.inl ⟨by rfl, ?_⟩) (by first | assumption | trivial) ?_
          rotate_left
          · (intro w hSw; (try dsimp only at hSw); go_simp) <;> (with_reducible rfl)
          simp only [List.setIfInBounds_toArray,List.set_cons_zero,List.set_cons_succ]
          refine wpAnyT_take2 (i:=7) (v:=?_) rfl rfl (by kernel_rfl) (by kernel_rfl) (by kernel_rfl) (by kernel_rfl) (fun _ _ _ h=>h) (Or.inl ⟨by rfl, ?_⟩) (by first | assumption | trivial) ?_
          rotate_left
          · (intro w hSw; (try dsimp only at hSw); go_simp) <;> (with_reducible rfl)
          simp only [List.setIfInBounds_toArray,List.set_cons_zero,List.set_cons_succ]
          refine wpAnyT_take2 (i:=8) (v:=?_) rfl rfl (by kernel_rfl) (by kernel_rfl) (by kernel_rfl) (by kernel_rfl) (fun _ _ _ h=>h) (Or.inl ⟨by rfl, ?_⟩) (by first | assumption | trivial) ?_
          rotate_left
          · (intro w hSw; (try dsimp only at hSw); go_simp) <;> (with_reducible rfl)
          simp only [List.setIfInBounds_toArray,List.set_cons_zero,List.set_cons_succ]
          clear hHeld
          have hdr : Below wd.heap.size wd wd.drew:=Below.drew (Below.refl _ _)
          have HU4:=Lib.hid (HU3.out.keep (by have:=HU3.out.bn.lt; omega) hdr)
          have HG4:=Lib.hid (HG3.out.later hdr)
          have HW4:=Lib.hid (HW3.out.trans (hdr.mono (by have:=HW3.out.size; omega)))
          clear HU3 HG3 HW3 hdr
          generalize wd.drew=wh at *
          refine wpAnyT_next (i:=9) (by kernel_rfl) rfl ?_
          go_wp2_with fail
          have hal : Below wh.heap.size wh (wh.alloc (.cells #[.int .i64 (fm : Nat),.int .i64 (tm : Nat),.int .i64 xn,.int .i64 xv] 44)):=(Below.refl _ _).alloc (Nat.le_refl _) _
          have HEK : Hid (Blk (wh.alloc (.cells #[.int .i64 (fm : Nat),.int .i64 (tm : Nat),.int .i64 xn,.int .i64 xv] 44)) wh.heap.size 44 (ED.enc ⟨(fm : Nat),(tm : Nat),xn,xv⟩).toArray):=Lib.hid (Blk.new _ _ _)
          have HU5:=Lib.hid (HU4.out.keep (by have:=HU4.out.bn.lt; omega) hal)
          have HG5:=Lib.hid (HG4.out.later hal)
          have HW5:=Lib.hid (HW4.out.trans (hal.mono (by have:=HW4.out.size; omega)))
          clear HU4 HG4 HW4 hal
          generalize wh.alloc (.cells #[.int .i64 (fm : Nat),.int .i64 (tm : Nat),.int .i64 xn,.int .i64 xv] 44)=wf at *
          generalize wh.heap.size=gk at *
          have h5 : wf.cell? ⟨gc+1,fm,none⟩=some (.slice s1.A s1.l.length s1.c)∧wf.cell? ⟨ge,0,none⟩=some (.int .i64 (fm : Nat))∧wf.cell? ⟨ge,1,none⟩=some (.int .i64 (tm : Nat))∧wf.cell? ⟨ge,2,none⟩=some (.int .i64 xn)∧wf.cell? ⟨ge,3,none⟩=some (.int .i64 xv):=⟨(HU5.out.bn.cell fm).trans (svA_at HS1.out),HG5.out.cell 0,HG5.out.cell 1,HG5.out.cell 2,HG5.out.cell 3⟩
          refine And.intro (by first | exact fun _=>h5 | exact h5) ?_
          clear h5
          refine wpAnyT_next (i:=10) (by kernel_rfl) rfl ?_
          refine wpl_append_sl _ rfl (.tmp 66) (.tmp 68) _ rfl Try.underlying22 infoEdge (by omega) ED.k ED.one s1 ⟨some ⟨gk,0,none⟩,1,[⟨(fm : Nat),(tm : Nat),xn,xv⟩]⟩ rfl rfl (HU5.out.fam.own fm s1 HS1.out) (rd_ed1 HEK.out) (by simp [maxLen]; omega) (by simp; omega) HW5.out.size ?_
          intro A1 c1 wg hown hg hA
          try simp only at hg hA
          have hrow:=HRW.out fm s1 HS1.out
          have kb:=HU5.out.bn.grown hg (fun e=>by have:=(hrow (gc+1) e.symm).1; omega)
          have kg:=HG5.out.grown hg (fun e=>by have:=(hrow ge e.symm).2; omega)
          have HA2:=Lib.hid (HU5.out.app (e:=⟨(fm : Nat),(tm : Nat),xn,xv⟩) rfl HCF.out HS1.out hbw hown hg hA)
          have HW6:=Lib.hid ((HW5.out.trans (below_of_grown hg (by have:=HW5.out.size; omega) (fun q hq=>by have:=(hrow q hq).1; omega))).setCell (p:=⟨gc+1,fm,none⟩) (Nat.le_refl _) (.slice A1 (s1.l.length+1) c1))
          have kf:=kb.frozen fm
          have h5' : Hid (wg.cell? ⟨gc+1,fm,none⟩=some (.slice s1.A s1.l.length s1.c)∧wg.cell? ⟨ge,0,none⟩=some (.int .i64 (fm : Nat))∧wg.cell? ⟨ge,1,none⟩=some (.int .i64 (tm : Nat))∧wg.cell? ⟨ge,2,none⟩=some (.int .i64 xn)∧wg.cell? ⟨ge,3,none⟩=some (.int .i64 xv)):=Lib.hid ⟨(kb.cell fm).trans (svA_at HS1.out),kg.cell 0,kg.cell 1,kg.cell 2,kg.cell 3⟩
          clear kb kg hown hg hA hrow HU5 HG5 HW5 HEK
          try simp only [List.length_append,List.length_cons,List.length_nil,Nat.zero_add]
          go_wp2_with fail
          refine And.intro (by first | exact fun _=>h5'.out | exact h5'.out) ?_
          obtain ⟨k0,_⟩:=h5'.out
          refine wpAnyT_next (i:=11) (by kernel_rfl) rfl ?_
          go_wp2_with fail
          refine And.intro (by first | exact fun _=>h5'.out | exact h5'.out) ?_
          clear h5'
          refine wpAnyT_next (i:=12) (by kernel_rfl) rfl ?_
          go_wp2_with fail
          try simp only [QT]
          try (with_reducible refine And.intro (fun h=>by simp at h) ?_)
          refine wpAnyT_done (by kernel_rfl) ?_ _
          clear kf k0
          go_wp2_with fail
          go_roundw
          case rel=>exact ⟨k+1,rows.set fm ⟨A1,c1,s1.l ++ [flpE false ⟨(fm : Nat),(tm : Nat),xn,xv⟩]⟩,by omega,by go_num,Lib.hid (by rw [HET.out]; exact HA2.out),HW6⟩
          case measure=>simp [intOf]; omega
        · have HNC : Hid (¬ rkF R (flpE false ⟨(fm : Nat),(tm : Nat),xn,xv⟩).f<rkF R (flpE false ⟨(fm : Nat),(tm : Nat),xn,xv⟩).t):=Lib.hid (by
            show ¬ rkF R ((fm : Nat) : Int)<rkF R ((tm : Nat) : Int)
            rw [HKF.out,HKT.out]; exact hc)
          go_wp2_with fail
          go_roundw
          case rel=>exact ⟨k+1,rows,by omega,by go_num,Lib.hid (by rw [HET.out]; exact HU3.out.skip HNC.out),HW3⟩
          case measure=>simp [intOf]; omega
      · go_wp2_with fail
        clear c0 c1 c2 c3
        have hal : Below wr.heap.size wr (wr.alloc (.cells #[.int .i64 (tm : Nat),.int .i64 (fm : Nat),.int .i64 xn,.int .i64 xv] 44)):=(Below.refl _ _).alloc (Nat.le_refl _) _
        have HG2 : Hid (Blk (wr.alloc (.cells #[.int .i64 (tm : Nat),.int .i64 (fm : Nat),.int .i64 xn,.int .i64 xv] 44)) wr.heap.size 44 #[.int .i64 (tm : Nat),.int .i64 (fm : Nat),.int .i64 xn,.int .i64 xv]):=Lib.hid (Blk.new _ _ _)
        have HU2:=Lib.hid (HU.out.keep (by omega) hal)
        have HW2:=Lib.hid (HW.out.trans (hal.mono (by omega)))
        have HX2:=Lib.hid (HXR.out.later hal)
        have HB2:=Lib.hid (HBR.out.trans (hal.mono HBR.out.size))
        have HRW : Hid (∀ (v : Nat) (s : Sl ED),rows[v]? = some s→∀ q,(Value.slice s.A s.l.length s.c).ownBlock=some q→w5.heap.size≤q∧q<wr.heap.size):=Lib.hid (fun v s hs q hq=>(own_row (HU.out.fam.own v s hs) q hq).2)
        clear hal HU HW HXR HBR
        generalize wr.alloc (.cells #[.int .i64 (tm : Nat),.int .i64 (fm : Nat),.int .i64 xn,.int .i64 xv] 44)=we at *
        generalize wr.heap.size=ge at *
        obtain ⟨bR,oR,hRA,hbR,hcl1⟩:=(HR.out.later HB2.out (Nat.le_refl _)).at1 (i:=tm) (by simp only; omega)
        obtain ⟨bR',oR',hRA',_,hcl2⟩:=(HR.out.later HB2.out (Nat.le_refl _)).at1 (i:=fm) (by simp only; omega)
        simp only at hRA hRA' hcl1 hcl2
        subst hRA
        have hbo : bR=bR'∧oR=oR':=by simpa using hRA'
        obtain ⟨rfl,rfl⟩:=hbo
        have r0:=hcl1.c1
        have r1:=hcl2.c1
        have HKF : Hid (rkF R ((tm : Nat) : Int)=R[tm]):=Lib.hid (by unfold rkF; rw [Int.toNat_natCast,List.getElem?_eq_getElem (by omega)]; rfl)
        have HKT : Hid (rkF R ((fm : Nat) : Int)=R[fm]):=Lib.hid (by unfold rkF; rw [Int.toNat_natCast,List.getElem?_eq_getElem (by omega)]; rfl)
        simp only [Nat.mul_one] at r0 r1
        clear hRA' hcl1 hcl2 hbR
        generalize R[tm]=rf at *
        generalize R[fm]=rt at *
        refine wp_region_T (fun W=>W.cell? ⟨w.heap.size,0,none⟩=some (.slice (some ⟨bR,oR,none⟩) R.length Rc)∧W.cell? ⟨ge,0,none⟩=some (.int .i64 (tm : Nat))∧W.cell? ⟨ge,1,none⟩=some (.int .i64 (fm : Nat))∧W.cell? ⟨bR,oR+tm,none⟩=some (.int .i64 rf)∧W.cell? ⟨bR,oR+fm,none⟩=some (.int .i64 rt)) (fun _=>false) (by kernel_rfl) ⟨HX2.out.cell 0,HG2.out.cell 0,HG2.out.cell 1,r0,r1⟩ (fun hHeld=>?_)
        refine wpAnyT_take2 (i:=0) (v:=?_) rfl rfl (by kernel_rfl) (by kernel_rfl) (by kernel_rfl) (by kernel_rfl) (fun _ _ _ h=>h) (Or.inl ⟨by rfl, ?_⟩) (by first | assumption | trivial) ?_
        rotate_left
        · (intro w hSw; (try dsimp only at hSw); go_simp) <;> (with_reducible rfl)
        simp only [List.setIfInBounds_toArray,List.set_cons_zero,List.set_cons_succ]
        refine wpAnyT_take2 (i:=1) (v:=?_) rfl rfl (by kernel_rfl) (by kernel_rfl) (by kernel_rfl) (by kernel_rfl) (fun _ _ _ h=>h) (Or.inl ⟨by rfl, ?_⟩) (by first | assumption | trivial) ?_
        rotate_left
        · (intro w hSw; (try dsimp only at hSw); go_simp) <;> (with_reducible rfl)
        simp only [List.setIfInBounds_toArray,List.set_cons_zero,List.set_cons_succ]
        refine wpAnyT_take2 (i:=2) (v:=?_) rfl rfl (by kernel_rfl) (by kernel_rfl) (by kernel_rfl) (by kernel_rfl) (fun _ _ _ h=>h) (Or.inl ⟨by rfl, ?_⟩) (by first | assumption | trivial) ?_
        rotate_left
        · (intro w hSw; (try dsimp only at hSw); go_simp) <;> (with_reducible rfl)
        simp only [List.setIfInBounds_toArray,List.set_cons_zero,List.set_cons_succ]
        refine wpAnyT_take2 (i:=3) (v:=?_) rfl rfl (by kernel_rfl) (by kernel_rfl) (by kernel_rfl) (by kernel_rfl) (fun _ _ _ h=>h) (Or.inl ⟨by rfl, ?_⟩) (by first | assumption | trivial) ?_
        rotate_left
        · (intro w hSw; (try dsimp only at hSw); go_simp) <;> (with_reducible rfl)
        simp only [List.setIfInBounds_toArray,List.set_cons_zero,List.set_cons_succ]
        refine wpAnyT_take2 (i:=4) (v:=?_) rfl rfl (by kernel_rfl) (by kernel_rfl) (by kernel_rfl) (by kernel_rfl) (fun _ _ _ h=>h) (Or.inl ⟨by rfl, ?_⟩) (by first | assumption | trivial) ?_
        rotate_left
        · (intro w hSw; (try dsimp only at hSw); go_simp) <;> (with_reducible rfl)
        simp only [List.setIfInBounds_toArray,List.set_cons_zero,List.set_cons_succ]
        refine wpAnyT_take2 (i:=5) (v:=?_) rfl rfl (by kernel_rfl) (by kernel_rfl) (by kernel_rfl) (by kernel_rfl) (fun _ _ _ h=>h) (Or.inl ⟨by rfl, ?_⟩) (by first | assumption | trivial) ?_
        rotate_left
        · (intro w hSw; (try dsimp only at hSw); go_simp) <;> (with_reducible rfl)
        simp only [List.setIfInBounds_toArray,List.set_cons_zero,List.set_cons_succ]
        refine wpAnyT_take2 (i:=6) (v:=?_) rfl rfl (by kernel_rfl) (by kernel_rfl) (by kernel_rfl) (by kernel_rfl) (fun _ _ _ h=>h) (Or.inl ⟨by rfl, ?_⟩) (by first | assumption | trivial) ?_
        rotate_left
        · (intro w hSw; (try dsimp only at hSw); go_simp) <;> (with_reducible rfl)
        simp only [List.setIfInBounds_toArray,List.set_cons_zero,List.set_cons_succ]
        refine wpAnyT_take2 (i:=7) (v:=?_) rfl rfl (by kernel_rfl) (by kernel_rfl) (by kernel_rfl) (by kernel_rfl) (fun _ _ _ h=>h) (Or.inl ⟨by rfl, ?_⟩) (by first | assumption | trivial) ?_
        rotate_left
        · (intro w hSw; (try dsimp only at hSw); go_simp) <;> (with_reducible rfl)
        simp only [List.setIfInBounds_toArray,List.set_cons_zero,List.set_cons_succ]
        refine wpAnyT_take2 (i:=8) (v:=?_) rfl rfl (by kernel_rfl) (by kernel_rfl) (by kernel_rfl) (by kernel_rfl) (fun _ _ _ h=>h) (Or.inl ⟨by rfl, ?_⟩) (by first | assumption | trivial) ?_
        rotate_left
        · (intro w hSw; (try dsimp only at hSw); go_simp) <;> (with_reducible rfl)
        simp only [List.setIfInBounds_toArray,List.set_cons_zero,List.set_cons_succ]
        refine wpAnyT_take2 (i:=9) (v:=?_) rfl rfl (by kernel_rfl) (by kernel_rfl) (by kernel_rfl) (by kernel_rfl) (fun _ _ _ h=>h) (Or.inl ⟨by rfl, ?_⟩) (by first | assumption | trivial) ?_
        rotate_left
        · (intro w hSw; (try dsimp only at hSw); go_simp) <;> (with_reducible rfl)
        simp only [List.setIfInBounds_toArray,List.set_cons_zero,List.set_cons_succ]
        refine wpAnyT_take2 (i:=10) (v:=?_) rfl rfl (by kernel_rfl) (by kernel_rfl) (by kernel_rfl) (by kernel_rfl) (fun _ _ _ h=>h) (Or.inl ⟨by rfl, ?_⟩) (by first | assumption | trivial) ?_
        rotate_left
        · (intro w hSw; (try dsimp only at hSw); go_simp) <;> (with_reducible rfl)
        simp only [List.setIfInBounds_toArray,List.set_cons_zero,List.set_cons_succ]
        refine wpAnyT_take2 (i:=11) (v:=?_) rfl rfl (by kernel_rfl) (by kernel_rfl) (by kernel_rfl) (by kernel_rfl) (fun _ _ _ h=>h) (Or.inl ⟨by rfl, ?_⟩) (by first | assumption | trivial) ?_
        rotate_left
        · (intro w hSw; (try dsimp only at hSw); go_simp) <;> (with_reducible rfl)
        simp only [List.setIfInBounds_toArray,List.set_cons_zero,List.set_cons_succ]
        refine wpAnyT_take2 (i:=12) (v:=?_) rfl rfl (by kernel_rfl) (by kernel_rfl) (by kernel_rfl) (by kernel_rfl) (fun _ _ _ h=>h) (Or.inl ⟨by rfl, ?_⟩) (by first | assumption | trivial) ?_
        rotate_left
        · (intro w hSw; (try dsimp only at hSw); go_simp) <;> (with_reducible rfl)
        simp only [List.setIfInBounds_toArray,List.set_cons_zero,List.set_cons_succ]
        refine wpAnyT_done (by kernel_rfl) ?_ _
        clear hHeld
        clear r0 r1
        have hdr : Below we.heap.size we we.drew:=Below.drew (Below.refl _ _)
        have HU3:=Lib.hid (HU2.out.keep (by have:=HU2.out.bn.lt; omega) hdr)
        have HG3:=Lib.hid (HG2.out.later hdr)
        have HW3:=Lib.hid (HW2.out.trans (hdr.mono (by have:=HW2.out.size; omega)))
        have HET : Hid (E.take (k+1)=E.take k ++ [(⟨(fm : Nat),(tm : Nat),xn,xv⟩ : ED)]):=Lib.hid (by rw [List.take_add_one,HXE.out]; rfl)
        clear HU2 HG2 HX2 HB2 hdr
        generalize we.drew=wd at *
        by_cases hc : rf<rt
        · have HCF : Hid (rkF R (flpE true ⟨(fm : Nat),(tm : Nat),xn,xv⟩).f<rkF R (flpE true ⟨(fm : Nat),(tm : Nat),xn,xv⟩).t):=Lib.hid (by
            show rkF R ((tm : Nat) : Int)<rkF R ((fm : Nat) : Int)
            rw [HKF.out,HKT.out]; exact hc)
          have hrl:=HU3.out.len
          obtain ⟨s1,hs1⟩ : ∃ s1,rows[tm]? = some s1:=⟨_,List.getElem?_eq_getElem (by omega)⟩
          have HS1:=Lib.hid hs1
          have hsl : s1.l.length≤81:=by
            rw [HU3.out.has tm s1 hs1]
            unfold stpL
            refine Nat.le_trans (List.length_filter_le _ _) ?_
            rw [List.length_map,List.length_take]
            omega
          have hbw : gc+1<w5.heap.size:=by have:=HGC.out; omega
          clear hs1 hrl
          go_wp2_with fail
          refine wp_region_T (fun W=>W.cell? ⟨gc+1,tm,none⟩=some (.slice s1.A s1.l.length s1.c)∧W.cell? ⟨ge,0,none⟩=some (.int .i64 (tm : Nat))∧W.cell? ⟨ge,1,none⟩=some (.int .i64 (fm : Nat))∧W.cell? ⟨ge,2,none⟩=some (.int .i64 xn)∧W.cell? ⟨ge,3,none⟩=some (.int .i64 xv)) (fun i=>12≤i) (by kernel_rfl) ⟨(HU3.out.bn.cell tm).trans (svA_at HS1.out),HG3.out.cell 0,HG3.out.cell 1,HG3.out.cell 2,HG3.out.cell 3⟩ (fun hHeld=>?_)
          refine wpAnyT_take2 (i:=0) (v:=?_) rfl rfl (by kernel_rfl) (by kernel_rfl) (by kernel_rfl) (by kernel_rfl) (fun _ _ _ h=>h) (Or.inl ⟨by rfl, ?_⟩) (by first | assumption | trivial) ?_
          rotate_left
          · (intro w hSw; (try dsimp only at hSw); go_simp) <;> (with_reducible rfl)
          simp only [List.setIfInBounds_toArray,List.set_cons_zero,List.set_cons_succ]
          refine wpAnyT_take2 (i:=1) (v:=?_) rfl rfl (by kernel_rfl) (by kernel_rfl) (by kernel_rfl) (by kernel_rfl) (fun _ _ _ h=>h) (Or.inl ⟨by rfl, ?_⟩) (by first | assumption | trivial) ?_
          rotate_left
          · (intro w hSw; (try dsimp only at hSw); go_simp) <;> (with_reducible rfl)
          simp only [List.setIfInBounds_toArray,List.set_cons_zero,List.set_cons_succ]
          refine wpAnyT_take2 (i:=2) (v:=?_) rfl rfl (by kernel_rfl) (by kernel_rfl) (by kernel_rfl) (by kernel_rfl) (fun _ _ _ h=>h) (Or.inl ⟨by rfl, ?_⟩) (by first | assumption | trivial) ?_
          rotate_left
          · (intro w hSw; (try dsimp only at hSw); go_simp) <;> (with_reducible rfl)
          simp only [List.setIfInBounds_toArray,List.set_cons_zero,List.set_cons_succ]
          refine wpAnyT_take2 (i:=3) (v:=?_) rfl rfl (by kernel_rfl) (by kernel_rfl) (by kernel_rfl) (by kernel_rfl) (fun _ _ _ h=>h) (Or.inl ⟨by rfl, ?_⟩) (by first | assumption | trivial) ?_
          rotate_left
          · (intro w hSw; (try dsimp only at hSw); go_simp) <;> (with_reducible rfl)
          simp only [List.setIfInBounds_toArray,List.set_cons_zero,List.set_cons_succ]
          refine wpAnyT_take2 (i:=4) (v:=?_) rfl rfl (by kernel_rfl) (by kernel_rfl) (by kernel_rfl) (by kernel_rfl) (fun _ _ _ h=>h) (Or.inl ⟨by rfl, ?_⟩) (by first | assumption | trivial) ?_
          rotate_left
          · (intro w hSw; (try dsimp only at hSw); go_simp) <;> (with_reducible rfl)
          simp only [List.setIfInBounds_toArray,List.set_cons_zero,List.set_cons_succ]
          refine wpAnyT_take2 (i:=5) (v:=?_) rfl rfl (by kernel_rfl) (by kernel_rfl) (by kernel_rfl) (by kernel_rfl) (fun _ _ _ h=>h) (Or.inl ⟨by rfl, ?_⟩) (by first | assumption | trivial) ?_
          rotate_left
          · (intro w hSw; (try dsimp only at hSw); go_simp) <;> (with_reducible rfl)
          simp only [List.setIfInBounds_toArray,List.set_cons_zero,List.set_cons_succ]
          refine wpAnyT_take2 (i:=6) (v:=?_) rfl rfl (by kernel_rfl) (by kernel_rfl) (by kernel_rfl) (by kernel_rfl) (fun _ _ _ h=>h) (Or.inl ⟨by rfl, ?_⟩) (by first | assumption | trivial) ?_
          rotate_left
          · (intro w hSw; (try dsimp only at hSw); go_simp) <;> (with_reducible rfl)
          simp only [List.setIfInBounds_toArray,List.set_cons_zero,List.set_cons_succ]
          refine wpAnyT_take2 (i:=7) (v:=?_) rfl rfl (by kernel_rfl) (by kernel_rfl) (by kernel_rfl) (by kernel_rfl) (fun _ _ _ h=>h) (Or.inl ⟨by rfl, ?_⟩) (by first | assumption | trivial) ?_
          rotate_left
          · (intro w hSw; (try dsimp only at hSw); go_simp) <;> (with_reducible rfl)
          simp only [List.setIfInBounds_toArray,List.set_cons_zero,List.set_cons_succ]
          refine wpAnyT_take2 (i:=8) (v:=?_) rfl rfl (by kernel_rfl) (by kernel_rfl) (by kernel_rfl) (by kernel_rfl) (fun _ _ _ h=>h) (Or.inl ⟨by rfl, ?_⟩) (by first | assumption | trivial) ?_
          rotate_left
          · (intro w hSw; (try dsimp only at hSw); go_simp) <;> (with_reducible rfl)
          simp only [List.setIfInBounds_toArray,List.set_cons_zero,List.set_cons_succ]
          clear hHeld
          have hdr : Below wd.heap.size wd wd.drew:=Below.drew (Below.refl _ _)
          have HU4:=Lib.hid (HU3.out.keep (by have:=HU3.out.bn.lt; omega) hdr)
          have HG4:=Lib.hid (HG3.out.later hdr)
          have HW4:=Lib.hid (HW3.out.trans (hdr.mono (by have:=HW3.out.size; omega)))
          clear HU3 HG3 HW3 hdr
          generalize wd.drew=wh at *
          refine wpAnyT_next (i:=9) (by kernel_rfl) rfl ?_
          go_wp2_with fail
          have hal : Below wh.heap.size wh (wh.alloc (.cells #[.int .i64 (tm : Nat),.int .i64 (fm : Nat),.int .i64 xn,.int .i64 xv] 44)):=(Below.refl _ _).alloc (Nat.le_refl _) _
          have HEK : Hid (Blk (wh.alloc (.cells #[.int .i64 (tm : Nat),.int .i64 (fm : Nat),.int .i64 xn,.int .i64 xv] 44)) wh.heap.size 44 (ED.enc ⟨(tm : Nat),(fm : Nat),xn,xv⟩).toArray):=Lib.hid (Blk.new _ _ _)
          have HU5:=Lib.hid (HU4.out.keep (by have:=HU4.out.bn.lt; omega) hal)
          have HG5:=Lib.hid (HG4.out.later hal)
          have HW5:=Lib.hid (HW4.out.trans (hal.mono (by have:=HW4.out.size; omega)))
          clear HU4 HG4 HW4 hal
          generalize wh.alloc (.cells #[.int .i64 (tm : Nat),.int .i64 (fm : Nat),.int .i64 xn,.int .i64 xv] 44)=wf at *
          generalize wh.heap.size=gk at *
          have h5 : wf.cell? ⟨gc+1,tm,none⟩=some (.slice s1.A s1.l.length s1.c)∧wf.cell? ⟨ge,0,none⟩=some (.int .i64 (tm : Nat))∧wf.cell? ⟨ge,1,none⟩=some (.int .i64 (fm : Nat))∧wf.cell? ⟨ge,2,none⟩=some (.int .i64 xn)∧wf.cell? ⟨ge,3,none⟩=some (.int .i64 xv):=⟨(HU5.out.bn.cell tm).trans (svA_at HS1.out),HG5.out.cell 0,HG5.out.cell 1,HG5.out.cell 2,HG5.out.cell 3⟩
          refine And.intro (by first | exact fun _=>h5 | exact h5) ?_
          clear h5
          refine wpAnyT_next (i:=10) (by kernel_rfl) rfl ?_
          refine wpl_append_sl _ rfl (.tmp 66) (.tmp 68) _ rfl Try.underlying22 infoEdge (by omega) ED.k ED.one s1 ⟨some ⟨gk,0,none⟩,1,[⟨(tm : Nat),(fm : Nat),xn,xv⟩]⟩ rfl rfl (HU5.out.fam.own tm s1 HS1.out) (rd_ed1 HEK.out) (by simp [maxLen]; omega) (by simp; omega) HW5.out.size ?_
          intro A1 c1 wg hown hg hA
          try simp only at hg hA
          have hrow:=HRW.out tm s1 HS1.out
          have kb:=HU5.out.bn.grown hg (fun e=>by have:=(hrow (gc+1) e.symm).1; omega)
          have kg:=HG5.out.grown hg (fun e=>by have:=(hrow ge e.symm).2; omega)
          have HA2:=Lib.hid (HU5.out.app (e:=⟨(fm : Nat),(tm : Nat),xn,xv⟩) rfl HCF.out HS1.out hbw hown hg hA)
          have HW6:=Lib.hid ((HW5.out.trans (below_of_grown hg (by have:=HW5.out.size; omega) (fun q hq=>by have:=(hrow q hq).1; omega))).setCell (p:=⟨gc+1,tm,none⟩) (Nat.le_refl _) (.slice A1 (s1.l.length+1) c1))
          have kf:=kb.frozen tm
          have h5' : Hid (wg.cell? ⟨gc+1,tm,none⟩=some (.slice s1.A s1.l.length s1.c)∧wg.cell? ⟨ge,0,none⟩=some (.int .i64 (tm : Nat))∧wg.cell? ⟨ge,1,none⟩=some (.int .i64 (fm : Nat))∧wg.cell? ⟨ge,2,none⟩=some (.int .i64 xn)∧wg.cell? ⟨ge,3,none⟩=some (.int .i64 xv)):=Lib.hid ⟨(kb.cell tm).trans (svA_at HS1.out),kg.cell 0,kg.cell 1,kg.cell 2,kg.cell 3⟩
          clear kb kg hown hg hA hrow HU5 HG5 HW5 HEK
          try simp only [List.length_append,List.length_cons,List.length_nil,Nat.zero_add]
          go_wp2_with fail
          refine And.intro (by first | exact fun _=>h5'.out | exact h5'.out) ?_
          obtain ⟨k0,_⟩:=h5'.out
          refine wpAnyT_next (i:=11) (by kernel_rfl) rfl ?_
          go_wp2_with fail
          refine And.intro (by first | exact fun _=>h5'.out | exact h5'.out) ?_
          clear h5'
          refine wpAnyT_next (i:=12) (by kernel_rfl) rfl ?_
          go_wp2_with fail
          try simp only [QT]
          try (with_reducible refine And.intro (fun h=>by simp at h) ?_)
          refine wpAnyT_done (by kernel_rfl) ?_ _
          clear kf k0
          go_wp2_with fail
          go_roundw
          case rel=>exact ⟨k+1,rows.set tm ⟨A1,c1,s1.l ++ [flpE true ⟨(fm : Nat),(tm : Nat),xn,xv⟩]⟩,by omega,by go_num,Lib.hid (by rw [HET.out]; exact HA2.out),HW6⟩
          case measure=>simp [intOf]; omega
        · have HNC : Hid (¬ rkF R (flpE true ⟨(fm : Nat),(tm : Nat),xn,xv⟩).f<rkF R (flpE true ⟨(fm : Nat),(tm : Nat),xn,xv⟩).t):=Lib.hid (by
            show ¬ rkF R ((tm : Nat) : Int)<rkF R ((fm : Nat) : Int)
            rw [HKF.out,HKT.out]; exact hc)
          go_wp2_with fail
          go_roundw
          case rel=>exact ⟨k+1,rows,by omega,by go_num,Lib.hid (by rw [HET.out]; exact HU3.out.skip HNC.out),HW3⟩
          case measure=>simp [intOf]; omega
    · have hkl : k=E.length:=by omega
      subst hkl
      have hlt' : ¬ (E.length : Int)<(E.length : Int):=by omega
      rw [List.take_of_length_le (Nat.le_refl _)] at HU
      clear hk
      have hgx:=HGC.out
      have hgy:=HGB4.out
      have HB6 : Hid (Below w.heap.size w wr):=Lib.hid (HB5.out.trans (HW.out.mono (by omega)))
      have HX6:=Lib.hid (blk_of (HW.out.block _ (by omega)) HX5.out)
      have HY6:=Lib.hid (blk_of (HW.out.block (w.heap.size+1) (by omega)) HY5.out)
      have HC6:=Lib.hid (blk_of (HW.out.block gc (by omega)) HC5.out)
      have HD6:=Lib.hid (blk_of (HW.out.block gd (by omega)) HD5.out)
      have HE6:=Lib.hid (blk_of (HW.out.block gb (by omega)) HE5.out)
      clear HX5 HY5 HC5 HD5 HE5 HB5
      rw [ordC_zero R] at hmq
      obtain ⟨base,hbase⟩ : ∃ x,x=w5.heap.size:=⟨_,rfl⟩
      rw [← hbase] at HU hsw hgx
      obtain ⟨x0,x1,xf,xz⟩:=HX6.out.b2
      go_wp2_with fail
      clear x0 x1 xf xz hmq
      have hal : Below wr.heap.size wr (wr.alloc (.cells (ordC R 0) 3)):=(Below.refl _ _).alloc (Nat.le_refl _) _
      have HO7 : Hid (Blk (wr.alloc (.cells (ordC R 0) 3)) wr.heap.size 3 (ordC R 0)):=Lib.hid (Blk.new _ _ _)
      have HT7 : Hid (UpT w base gd gb gc wr.heap.size RA Rc EA Ec R E back rows 0 (wr.alloc (.cells (ordC R 0) 3)) (List.replicate R.length (-1)) (List.replicate R.length (-1))):=Lib.hid ⟨HB6.out.trans (hal.mono HB6.out.size),HX6.out.later hal,HY6.out.later hal,HC6.out.later hal,HU.out.keep (by have:=HU.out.bn.lt; omega) hal,HO7.out,fun s hs hc=>by
        obtain ⟨i,hi⟩:=List.getElem?_of_mem hs
        exact absurd ((HU.out.fam.own i s hi).bound _ hc) (Nat.lt_irrefl _),by rw [intsA_rep]; exact HD6.out.later hal,by rw [intsA_rep]; exact HE6.out.later hal,by simp,by simp,by omega⟩
      clear HO7 hal HB6 HX6 HY6 HC6 HD6 HE6 HU HW HGC HGB4 hgx hgy hsw hbase
      generalize wr.alloc (.cells (ordC R 0) 3)=w7 at *
      generalize wr.heap.size=gq at *
      go_loopw [77] (fun i wr=>∃ (k : Nat),k≤R.length∧i = .int .i64 k∧Hid (UpT w base gd gb gc gq RA Rc EA Ec R E back rows k wr (List.replicate R.length (-1)) (List.replicate R.length (-1)))) (fun i _=>R.length - (intOf i).toNat)
      case atStart=>exact ⟨0,by omega,rfl,HT7⟩
      case round =>
        clear HT7
        obtain ⟨k,hk,rfl,HT⟩:=hrel
        by_cases hlt : k<R.length
        · have hlt' : (k : Int)<(R.length : Int):=by omega
          obtain ⟨b,o,hA,hb,hcl⟩:=(HR.out.later HT.out.bel (Nat.le_refl _)).at1 hlt
          simp only at hA hcl
          subst hA
          have g0:=hcl.c1
          simp only [Nat.mul_one] at g0
          have hx : R[k]? = some R[k]:=List.getElem?_eq_getElem hlt
          have hir:=HRK.out.rng _ (List.getElem_mem hlt)
          clear hcl hb
          generalize R[k]=x at *
          obtain ⟨xm,rfl⟩:=Int.eq_ofNat_of_zero_le hir.1
          have hxl : xm<R.length:=by unfold Ir at hir; omega
          have hxm : (xm : Int)<(R.length : Int):=by omega
          have o0:=HT.out.ox.cell xm
          rw [ordC_at R k xm hxl] at o0
          have of:=HT.out.ox.frozen xm
          have HT2:=Lib.hid (HT.out.setO HRK.out.nod hx)
          clear hx hir HT
          go_wp2_with fail
          go_roundw
          case rel=>exact ⟨k+1,by omega,by go_num,HT2⟩
          case measure=>simp [intOf]; omega
        · have hkl : k=R.length:=by omega
          subst hkl
          have hlt' : ¬ (R.length : Int)<(R.length : Int):=by omega
          clear hk
          obtain ⟨b,o,hA,hb,hcl⟩:=(HR.out.below HT.out.bel).at1 (i:=s) (by simp only; omega)
          simp only at hA hcl
          subst hA
          have g0:=hcl.c1
          simp only [Nat.mul_one] at g0
          have HRS : Hid (rkF R ((s : Nat) : Int)=R[s]):=Lib.hid (by unfold rkF; rw [Int.toNat_natCast,List.getElem?_eq_getElem (by omega)]; rfl)
          have hir:=HRK.out.rng _ (List.getElem_mem hs)
          have hord:=HT.out.ord
          have hne1 : w.heap.size≠gd:=by omega
          have hbl : b<w.heap.size:=hb
          have hne2 : b≠gd:=by omega
          clear hcl hb
          generalize R[s]=x at *
          obtain ⟨rs,rfl⟩:=Int.eq_ofNat_of_zero_le hir.1
          have hrs : rs<R.length:=by unfold Ir at hir; omega
          clear hir
          obtain ⟨x0,x1,xf,xz⟩:=HT.out.hx.b2
          obtain ⟨y0,y1,yf,yz⟩:=HT.out.cx.b2
          have d0:=HT.out.dx.cell s
          rw [intsA_at (by simpa using hs),List.getElem_replicate] at d0
          have df:=HT.out.dx.frozen s
          have HT8:=Lib.hid (HT.out.setD s 0)
          clear HT
          have hsn : (s : Int)<(R.length : Int):=by omega
          have hrn : (rs : Int)≤(R.length : Int):=by omega
          go_wp2_with fail
          have HI8 : Hid (UpI R.length (dirF back (lkE E)) (rkF R) 1000000000000 s rs (atF ((List.replicate R.length (-1)).set s 0)) (atF (List.replicate R.length (-1)))):=Lib.hid (by
            have h:=UpI.start (F:=dirF back (lkE E)) (n:=R.length) (rk:=rkF R) (M:=1000000000000) (s:=(s : Int)) (k:=rs) (by decide) (by unfold Ir; omega) (fun v hv=>(HRK.out.lt hv).1) HRS.out.symm
            have e:=atF_setA (l:=List.replicate R.length (-1)) (n:=R.length) (by simp) (u:=(s : Int)) (x:=0) (by unfold Ir; omega)
            rw [Int.toNat_natCast,atF_rep] at e
            rw [e,atF_rep]
            exact h)
          clear x0 x1 xf xz y0 y1 yf yz d0 df g0
          generalize wr.setCell ⟨gd,s,none⟩ (.int .i64 0)=w9 at *
          generalize (List.replicate R.length (-1)).set s 0=dl0 at *
          generalize List.replicate R.length (-1 : Int)=bl0 at *
          go_loopw [99] (fun i wr=>∃ (j : Nat) (dl bl : List Int),j≤R.length - rs∧i = .int .i64 j∧Hid (UpT w base gd gb gc gq (some ⟨b,o,none⟩) Rc EA Ec R E back rows R.length wr dl bl)∧Hid (UpI R.length (dirF back (lkE E)) (rkF R) 1000000000000 s (rs+j) (atF dl) (atF bl))) (fun i _=>(R.length - rs) - (intOf i).toNat)
          case atStart=>exact ⟨0,dl0,bl0,by omega,rfl,HT8,HI8⟩
          case round =>
            clear HT8 HI8
            obtain ⟨j,dl,bl,hj,rfl,HT,HI⟩:=hrel
            by_cases hlt : j<R.length - rs
            · have hlt' : (j : Int)<((R.length - rs : Nat) : Int):=by omega
              have hlt2 : rs+j<R.length:=by omega
              obtain ⟨hv,hrv⟩:=HRK.out.vat hlt2
              have q0:=HT.out.ox.cell (rs+j)
              rw [ordC_at R R.length (rs+j) hlt2,List.take_length,if_pos (perm_mem R.length R HRK.out.nod HRK.out.rng HRK.out.len _ hlt2)] at q0
              generalize vAt R (rs+j)=v at *
              obtain ⟨vm,rfl⟩:=Int.eq_ofNat_of_zero_le hv.1
              have hvm : vm<R.length:=by unfold Ir at hv; omega
              have HV:=Lib.hid hv
              have HRV:=Lib.hid hrv
              have hdl:=HT.out.dn
              have d0:=HT.out.dx.cell vm
              rw [intsA_at (by omega)] at d0
              have HDV : Hid (atF dl vm=dl[vm]):=Lib.hid (atF_get (by omega))
              clear hv hrv
              generalize dl[vm]=dv at *
              obtain ⟨y0,y1,yf,yz⟩:=HT.out.cx.b2
              by_cases hneg : dv<0
              · have HI2:=Lib.hid (HI.out.skip HV.out HRV.out (by rw [HDV.out]; exact hneg) HRK.out.inj)
                go_wp2_with fail
                go_roundw
                case rel=>exact ⟨j+1,dl,bl,by omega,by go_num,HT,HI2⟩
                case measure=>simp [intOf]; omega
              · replace hneg:=Int.not_lt.1 hneg
                obtain ⟨⟨sA,sc,sl⟩,hs1⟩ : ∃ s1,rows[vm]? = some s1:=⟨_,List.getElem?_eq_getElem (by rw [HT.out.rw_.len]; exact hvm)⟩
                have n0:=(HT.out.rw_.bn.cell vm).trans (svA_at hs1)
                have HS1:=Lib.hid hs1
                have HSL : Hid (sl=stpL back (rkF R) E vm):=Lib.hid (HT.out.rw_.has vm _ hs1)
                have hsl : sl.length≤81:=by
                  rw [HSL.out]
                  unfold stpL
                  refine Nat.le_trans (List.length_filter_le _ _) ?_
                  rw [List.length_map]
                  omega
                clear hs1
                simp only at n0
                go_wp2_with fail
                have HJ:=Lib.hid (HI.out.into (vm : Int))
                have HD0 : Hid (0≤atF dl vm):=Lib.hid (by rw [HDV.out]; exact hneg)
                clear d0 y0 y1 yf yz n0 HI HDV hneg hdl q0
                go_loopw [114] (fun i wr=>∃ (q : Nat) (dl bl : List Int),q≤sl.length∧i = .int .i64 q∧Hid (UpT w base gd gb gc gq (some ⟨b,o,none⟩) Rc EA Ec R E back rows R.length wr dl bl)∧Hid (UpJ R.length (dirF back (lkE E)) (rkF R) 1000000000000 s (rs+j) vm (sl.take q) (atF dl) (atF bl))∧Hid (0≤atF dl vm)) (fun i _=>sl.length - (intOf i).toNat)
                case atStart=>exact ⟨0,dl,bl,by omega,rfl,HT,HJ,HD0⟩
                case round =>
                  clear HT HJ HD0
                  obtain ⟨q,dl,bl,hq,rfl,HT,HJ,HD0⟩:=hrel
                  by_cases hlq : q<sl.length
                  · have hlq' : (q : Int)<(sl.length : Int):=by omega
                    obtain ⟨b',o',hA',hb',hcl⟩:=(Own.rd ED.k (HT.out.rw_.fam.own vm _ HS1.out)).at1 (i:=q) hlq
                    simp only at hA' hcl
                    subst hA'
                    have HXE:=Lib.hid (List.getElem?_eq_getElem hlq)
                    have hmem : sl[q] ∈ sl:=List.getElem_mem hlq
                    generalize sl[q]=e at *
                    obtain ⟨he1,he2,x,he3,he4,_⟩:=stpL_mem HK.out (show e ∈ stpL back (rkF R) E vm by rw [← HSL.out]; exact hmem)
                    clear hmem
                    obtain ⟨ef,et,en,ev⟩:=e
                    simp only at he1 he2 he3 he4
                    subst he1
                    obtain ⟨_,het,hen,heM⟩:=dirF_ok HED.out he3
                    rw [he4] at hen heM
                    obtain ⟨tm,rfl⟩:=Int.eq_ofNat_of_zero_le het.1
                    have htm : tm<R.length:=by unfold Ir at het; omega
                    obtain ⟨c0,c1,c2,c3⟩:=Cells.c4 hcl
                    have HX4:=Lib.hid he3
                    have HX5:=Lib.hid he4
                    have HX6:=Lib.hid he2
                    have HTM:=Lib.hid het
                    clear hcl hb' he2 he3 he4 het
                    have hal : Below wr.heap.size wr (wr.alloc (.cells #[.int .i64 (vm : Nat),.int .i64 (tm : Nat),.int .i64 en,.int .i64 ev] 44)):=(Below.refl _ _).alloc (Nat.le_refl _) _
                    have HG1 : Hid (Blk (wr.alloc (.cells #[.int .i64 (vm : Nat),.int .i64 (tm : Nat),.int .i64 en,.int .i64 ev] 44)) wr.heap.size 44 #[.int .i64 (vm : Nat),.int .i64 (tm : Nat),.int .i64 en,.int .i64 ev]):=Lib.hid (Blk.new _ _ _)
                    have HT1:=Lib.hid (HT.out.later hal)
                    have hge : gd<wr.heap.size∧gb<wr.heap.size∧gc<wr.heap.size:=⟨HT.out.dx.lt,HT.out.bx.lt,HT.out.cx.lt⟩
                    clear hal
                    go_wp2_with fail
                    clear c0 c1 c2 c3 HT
                    generalize wr.alloc (.cells #[.int .i64 (vm : Nat),.int .i64 (tm : Nat),.int .i64 en,.int .i64 ev] 44)=wd at *
                    generalize wr.heap.size=ge at *
                    have hdl:=HT1.out.dn
                    have d0:=HT1.out.dx.cell vm
                    rw [intsA_at (by omega)] at d0
                    have HDV : Hid (atF dl vm=dl[vm]):=Lib.hid (atF_get (by omega))
                    have d1:=HT1.out.dx.cell tm
                    rw [intsA_at (by omega)] at d1
                    have HDT : Hid (atF dl tm=dl[tm]):=Lib.hid (atF_get (by omega))
                    generalize dl[vm]=dv at *
                    generalize dl[tm]=dt at *
                    have hdv0 : 0≤dv:=by have:=HD0.out; rw [HDV.out] at this; exact this
                    have hdv9 : dv≤9000000000000:=by
                      have h1:=HJ.out.top vm HV.out
                      rw [HDV.out,HRV.out] at h1
                      omega
                    have hwr : IntKind.i64.wrap (dv+en)=dv+en:=by rw [IntKind.wrap_i64]; omega
                    refine wp_region_T (fun W=>W.cell? ⟨gc,0,none⟩=some (.slice (some ⟨gd,0,none⟩) R.length R.length)∧W.cell? ⟨gd,vm,none⟩=some (.int .i64 dv)∧W.cell? ⟨ge,2,none⟩=some (.int .i64 en)) (fun _=>false) (by kernel_rfl) ⟨HT1.out.cx.cell 0,d0,HG1.out.cell 2⟩ (fun hHeld=>?_)
                    refine wpAnyT_take2 (i:=0) (v:=?_) rfl rfl (by kernel_rfl) (by kernel_rfl) (by kernel_rfl) (by kernel_rfl) (fun _ _ _ h=>h) (Or.inl ⟨by rfl, ?_⟩) (by first | assumption | trivial) ?_
                    rotate_left
                    · (intro w hSw; (try dsimp only at hSw); go_simp) <;> (with_reducible rfl)
                    simp only [List.setIfInBounds_toArray,List.set_cons_zero,List.set_cons_succ]
                    refine wpAnyT_take2 (i:=1) (v:=?_) rfl rfl (by kernel_rfl) (by kernel_rfl) (by kernel_rfl) (by kernel_rfl) (fun _ _ _ h=>h) (Or.inl ⟨by rfl, ?_⟩) (by first | assumption | trivial) ?_
                    rotate_left
                    · (intro w hSw; (try dsimp only at hSw); go_simp) <;> (with_reducible rfl)
                    simp only [List.setIfInBounds_toArray,List.set_cons_zero,List.set_cons_succ]
                    refine wpAnyT_take2 (i:=2) (v:=?_) rfl rfl (by kernel_rfl) (by kernel_rfl) (by kernel_rfl) (by kernel_rfl) (fun _ _ _ h=>h) (Or.inl ⟨by rfl, ?_⟩) (by first | assumption | trivial) ?_
                    rotate_left
                    · (intro w hSw; (try dsimp only at hSw); go_simp) <;> (with_reducible rfl)
                    simp only [List.setIfInBounds_toArray,List.set_cons_zero,List.set_cons_succ]
                    refine wpAnyT_take2 (i:=3) (v:=?_) rfl rfl (by kernel_rfl) (by kernel_rfl) (by kernel_rfl) (by kernel_rfl) (fun _ _ _ h=>h) (Or.inl ⟨by rfl, ?_⟩) (by first | assumption | trivial) ?_
                    rotate_left
                    · (intro w hSw; (try dsimp only at hSw); go_simp) <;> (with_reducible rfl)
                    simp only [List.setIfInBounds_toArray,List.set_cons_zero,List.set_cons_succ]
                    refine wpAnyT_take2 (i:=4) (v:=?_) rfl rfl (by kernel_rfl) (by kernel_rfl) (by kernel_rfl) (by kernel_rfl) (fun _ _ _ h=>h) (Or.inl ⟨by rfl, ?_⟩) (by first | assumption | trivial) ?_
                    rotate_left
                    · (intro w hSw; (try dsimp only at hSw); go_simp) <;> (with_reducible rfl)
                    simp only [List.setIfInBounds_toArray,List.set_cons_zero,List.set_cons_succ]
                    refine wpAnyT_take2 (i:=5) (v:=?_) rfl rfl (by kernel_rfl) (by kernel_rfl) (by kernel_rfl) (by kernel_rfl) (fun _ _ _ h=>h) (Or.inl ⟨by rfl, ?_⟩) (by first | assumption | trivial) ?_
                    rotate_left
                    · (intro w hSw; (try dsimp only at hSw); go_simp) <;> (with_reducible rfl)
                    simp only [List.setIfInBounds_toArray,List.set_cons_zero,List.set_cons_succ]
                    refine wpAnyT_take2 (i:=6) (v:=?_) rfl rfl (by kernel_rfl) (by kernel_rfl) (by kernel_rfl) (by kernel_rfl) (fun _ _ _ h=>h) (Or.inl ⟨by rfl, ?_⟩) (by first | assumption | trivial) ?_
                    rotate_left
                    · (intro w hSw; (try dsimp only at hSw); go_simp) <;> (with_reducible rfl)
                    simp only [List.setIfInBounds_toArray,List.set_cons_zero,List.set_cons_succ]
                    refine wpAnyT_take2 (i:=7) (v:=?_) rfl rfl (by kernel_rfl) (by kernel_rfl) (by kernel_rfl) (by kernel_rfl) (fun _ _ _ h=>h) (Or.inl ⟨by rfl, ?_⟩) (by first | assumption | trivial) ?_
                    rotate_left
                    · (intro w hSw; (try dsimp only at hSw); go_simp) <;> (with_reducible rfl)
                    simp only [List.setIfInBounds_toArray,List.set_cons_zero,List.set_cons_succ]
                    refine wpAnyT_take2 (i:=8) (v:=?_) rfl rfl (by kernel_rfl) (by kernel_rfl) (by kernel_rfl) (by kernel_rfl) (fun _ _ _ h=>h) (Or.inl ⟨by rfl, ?_⟩) (by first | assumption | trivial) ?_
                    rotate_left
                    · (intro w hSw; (try dsimp only at hSw); go_simp) <;> (with_reducible rfl)
                    simp only [List.setIfInBounds_toArray,List.set_cons_zero,List.set_cons_succ]
                    refine wpAnyT_done (by kernel_rfl) ?_ _
                    clear hHeld
                    have hdr : Below wd.heap.size wd wd.drew:=Below.drew (Below.refl _ _)
                    have HT2:=Lib.hid (HT1.out.later hdr)
                    have HG2:=Lib.hid (HG1.out.later hdr)
                    clear HT1 HG1 d0 hdr
                    replace d1 : wd.drew.cell? ⟨gd,tm,none⟩=some (.int .i64 dt):=d1
                    generalize wd.drew=wd at *
                    have HTK : Hid (sl.take (q+1)=sl.take q ++ [(⟨(vm : Nat),(tm : Nat),en,ev⟩ : ED)]):=Lib.hid (by rw [List.take_add_one,HXE.out]; rfl)
                    obtain ⟨y0,y1,yf,yz⟩:=HT2.out.cx.b2
                    have x1:=HG2.out.cell 1
                    by_cases h0 : dt<0
                    · go_wp2_with fail
                      clear x1
                      clear yf yz
                      refine wp_region_T (fun W=>W.cell? ⟨gc,0,none⟩=some (.slice (some ⟨gd,0,none⟩) R.length R.length)∧W.cell? ⟨gc,1,none⟩=some (.slice (some ⟨gb,0,none⟩) R.length R.length)∧W.cell? ⟨ge,1,none⟩=some (.int .i64 (tm : Nat))) (fun _=>false) (by kernel_rfl) ⟨y0,y1,HG2.out.cell 1⟩ (fun hHeld=>?_)
                      refine wpAnyT_take2 (i:=0) (v:=?_) rfl rfl (by kernel_rfl) (by kernel_rfl) (by kernel_rfl) (by kernel_rfl) (fun _ _ _ h=>h) (Or.inl ⟨by rfl, ?_⟩) (by first | assumption | trivial) ?_
                      rotate_left
                      · (intro w hSw; (try dsimp only at hSw); go_simp) <;> (with_reducible rfl)
                      simp only [List.setIfInBounds_toArray,List.set_cons_zero,List.set_cons_succ]
                      refine wpAnyT_take2 (i:=1) (v:=?_) rfl rfl (by kernel_rfl) (by kernel_rfl) (by kernel_rfl) (by kernel_rfl) (fun _ _ _ h=>h) (Or.inl ⟨by rfl, ?_⟩) (by first | assumption | trivial) ?_
                      rotate_left
                      · (intro w hSw; (try dsimp only at hSw); go_simp) <;> (with_reducible rfl)
                      simp only [List.setIfInBounds_toArray,List.set_cons_zero,List.set_cons_succ]
                      refine wpAnyT_take2 (i:=2) (v:=?_) rfl rfl (by kernel_rfl) (by kernel_rfl) (by kernel_rfl) (by kernel_rfl) (fun _ _ _ h=>h) (Or.inl ⟨by rfl, ?_⟩) (by first | assumption | trivial) ?_
                      rotate_left
                      · (intro w hSw; (try dsimp only at hSw); go_simp) <;> (with_reducible rfl)
                      simp only [List.setIfInBounds_toArray,List.set_cons_zero,List.set_cons_succ]
                      refine wpAnyT_take2 (i:=3) (v:=?_) rfl rfl (by kernel_rfl) (by kernel_rfl) (by kernel_rfl) (by kernel_rfl) (fun _ _ _ h=>h) (Or.inl ⟨by rfl, ?_⟩) (by first | assumption | trivial) ?_
                      rotate_left
                      · (intro w hSw; (try dsimp only at hSw); go_simp) <;> (with_reducible rfl)
                      simp only [List.setIfInBounds_toArray,List.set_cons_zero,List.set_cons_succ]
                      refine wpAnyT_take2 (i:=4) (v:=?_) rfl rfl (by kernel_rfl) (by kernel_rfl) (by kernel_rfl) (by kernel_rfl) (fun _ _ _ h=>h) (Or.inl ⟨by rfl, ?_⟩) (by first | assumption | trivial) ?_
                      rotate_left
                      · (intro w hSw; (try dsimp only at hSw); go_simp) <;> (with_reducible rfl)
                      simp only [List.setIfInBounds_toArray,List.set_cons_zero,List.set_cons_succ]
                      refine wpAnyT_take2 (i:=5) (v:=?_) rfl rfl (by kernel_rfl) (by kernel_rfl) (by kernel_rfl) (by kernel_rfl) (fun _ _ _ h=>h) (Or.inl ⟨by rfl, ?_⟩) (by first | assumption | trivial) ?_
                      rotate_left
                      · (intro w hSw; (try dsimp only at hSw); go_simp) <;> (with_reducible rfl)
                      simp only [List.setIfInBounds_toArray,List.set_cons_zero,List.set_cons_succ]
                      refine wpAnyT_take2 (i:=6) (v:=?_) rfl rfl (by kernel_rfl) (by kernel_rfl) (by kernel_rfl) (by kernel_rfl) (fun _ _ _ h=>h) (Or.inl ⟨by rfl, ?_⟩) (by first | assumption | trivial) ?_
                      rotate_left
                      · (intro w hSw; (try dsimp only at hSw); go_simp) <;> (with_reducible rfl)
                      simp only [List.setIfInBounds_toArray,List.set_cons_zero,List.set_cons_succ]
                      refine wpAnyT_take2 (i:=7) (v:=?_) rfl rfl (by kernel_rfl) (by kernel_rfl) (by kernel_rfl) (by kernel_rfl) (fun _ _ _ h=>h) (Or.inl ⟨by rfl, ?_⟩) (by first | assumption | trivial) ?_
                      rotate_left
                      · (intro w hSw; (try dsimp only at hSw); go_simp) <;> (with_reducible rfl)
                      simp only [List.setIfInBounds_toArray,List.set_cons_zero,List.set_cons_succ]
                      refine wpAnyT_take2 (i:=8) (v:=?_) rfl rfl (by kernel_rfl) (by kernel_rfl) (by kernel_rfl) (by kernel_rfl) (fun _ _ _ h=>h) (Or.inl ⟨by rfl, ?_⟩) (by first | assumption | trivial) ?_
                      rotate_left
                      · (intro w hSw; (try dsimp only at hSw); go_simp) <;> (with_reducible rfl)
                      simp only [List.setIfInBounds_toArray,List.set_cons_zero,List.set_cons_succ]
                      refine wpAnyT_take2 (i:=9) (v:=?_) rfl rfl (by kernel_rfl) (by kernel_rfl) (by kernel_rfl) (by kernel_rfl) (fun _ _ _ h=>h) (Or.inl ⟨by rfl, ?_⟩) (by first | assumption | trivial) ?_
                      rotate_left
                      · (intro w hSw; (try dsimp only at hSw); go_simp) <;> (with_reducible rfl)
                      simp only [List.setIfInBounds_toArray,List.set_cons_zero,List.set_cons_succ]
                      refine wpAnyT_take2 (i:=10) (v:=?_) rfl rfl (by kernel_rfl) (by kernel_rfl) (by kernel_rfl) (by kernel_rfl) (fun _ _ _ h=>h) (Or.inl ⟨by rfl, ?_⟩) (by first | assumption | trivial) ?_
                      rotate_left
                      · (intro w hSw; (try dsimp only at hSw); go_simp) <;> (with_reducible rfl)
                      simp only [List.setIfInBounds_toArray,List.set_cons_zero,List.set_cons_succ]
                      clear hHeld
                      have hdr : Below wd.heap.size wd wd.drew:=Below.drew (Below.refl _ _)
                      have HT3:=Lib.hid (HT2.out.later hdr)
                      have HG3:=Lib.hid (HG2.out.later hdr)
                      have e0 : wd.drew.cell? ⟨gd,tm,none⟩=some (.int .i64 dt):=d1
                      clear hdr HT2 HG2 d1 y0 y1
                      generalize wd.drew=we at *
                      have df:=HT3.out.dx.frozen tm
                      have hbn:=HT3.out.bn
                      have b0:=HT3.out.bx.cell tm
                      rw [intsA_at (by omega)] at b0
                      have bf:=HT3.out.bx.frozen tm
                      have hne1 : gd≠gb:=by have:=HT3.out.ord; omega
                      have hne2 : gb≠gd:=hne1.symm
                      have HT4:=Lib.hid ((HT3.out.setD tm (dv+en)).setB tm vm)
                      have s5 : ∀ W,W=we.setCell ⟨gd,tm,none⟩ (.int .i64 (dv+en))→W.cell? ⟨gc,0,none⟩=some (.slice (some ⟨gd,0,none⟩) R.length R.length)∧W.cell? ⟨gc,1,none⟩=some (.slice (some ⟨gb,0,none⟩) R.length R.length)∧W.cell? ⟨ge,1,none⟩=some (.int .i64 (tm : Nat)):=fun W hW=>by
                        subst hW
                        exact ⟨(HT3.out.setD tm (dv+en)).cx.cell 0,(HT3.out.setD tm (dv+en)).cx.cell 1,(HG3.out.far (show ge≠gd by omega) _).cell 1⟩
                      refine wpAnyT_next (i:=11) (by kernel_rfl) rfl ?_
                      go_wp2_with fail
                      refine And.intro (by first | exact fun _=>s5 _ rfl | exact s5 _ rfl) ?_
                      refine wpAnyT_next (i:=12) (by kernel_rfl) rfl ?_
                      go_wp2_with fail
                      refine And.intro (by first | exact fun _=>s5 _ rfl | exact s5 _ rfl) ?_
                      clear s5
                      refine wpAnyT_next (i:=13) (by kernel_rfl) rfl ?_
                      go_wp2_with fail
                      try simp only [QT]
                      try (with_reducible refine And.intro (fun h=>by simp at h) ?_)
                      refine And.intro (by first | exact ⟨HT4.out.cx.cell 0,HT4.out.cx.cell 1,((HG3.out.far (show ge≠gd by omega) _).far (show ge≠gb by omega) _).cell 1⟩ | exact fun _=>⟨HT4.out.cx.cell 0,HT4.out.cx.cell 1,((HG3.out.far (show ge≠gd by omega) _).far (show ge≠gb by omega) _).cell 1⟩) ?_
                      refine wpAnyT_done (by kernel_rfl) ?_ _
                      have HJ4 : Hid (UpJ R.length (dirF back (lkE E)) (rkF R) 1000000000000 s (rs+j) vm (sl.take q ++ [⟨(vm : Nat),(tm : Nat),en,ev⟩]) (atF (dl.set tm (dv+en))) (atF (bl.set tm vm))):=Lib.hid (by
                        have h:=HJ.out.relax (e:=⟨(vm : Nat),(tm : Nat),en,ev⟩) HV.out HRV.out HD0.out HTM.out HX4.out HX5.out HX6.out hen heM (by rw [HDT.out,HDV.out]; exact .inl h0)
                        have e1:=atF_setA HT3.out.dn (u:=(tm : Int)) (x:=dv+en) HTM.out
                        have e2:=atF_setA HT3.out.bn (u:=(tm : Int)) (x:=(vm : Int)) HTM.out
                        rw [Int.toNat_natCast] at e1 e2
                        rw [e1,e2]
                        rw [HDV.out] at h
                        exact h)
                      have HD4 : Hid (0≤atF (dl.set tm (dv+en)) vm):=Lib.hid (by
                        have e1:=atF_setA HT3.out.dn (u:=(tm : Int)) (x:=dv+en) HTM.out
                        rw [Int.toNat_natCast] at e1
                        rw [e1]
                        dsimp only
                        split
                        · omega
                        · exact HD0.out)
                      clear e0 df b0 bf HT3 HG3
                      go_wp2_with fail
                      go_roundw
                      case rel=>exact ⟨q+1,dl.set tm (dv+en),bl.set tm vm,by omega,by go_num,HT4,Lib.hid (by rw [HTK.out]; exact HJ4.out),HD4⟩
                      case measure=>simp [intOf]; omega
                    · replace h0:=Int.not_lt.1 h0
                      by_cases h1 : dv+en<dt
                      · go_wp2_with fail
                        clear x1
                        clear yf yz
                        refine wp_region_T (fun W=>W.cell? ⟨gc,0,none⟩=some (.slice (some ⟨gd,0,none⟩) R.length R.length)∧W.cell? ⟨gc,1,none⟩=some (.slice (some ⟨gb,0,none⟩) R.length R.length)∧W.cell? ⟨ge,1,none⟩=some (.int .i64 (tm : Nat))) (fun _=>false) (by kernel_rfl) ⟨y0,y1,HG2.out.cell 1⟩ (fun hHeld=>?_)
                        refine wpAnyT_take2 (i:=0) (v:=?_) rfl rfl (by kernel_rfl) (by kernel_rfl) (by kernel_rfl) (by kernel_rfl) (fun _ _ _ h=>h) (Or.inl ⟨by rfl, ?_⟩) (by first | assumption | trivial) ?_
                        rotate_left
                        · (intro w hSw; (try dsimp only at hSw); go_simp) <;> (with_reducible rfl)
                        simp only [List.setIfInBounds_toArray,List.set_cons_zero,List.set_cons_succ]
                        refine wpAnyT_take2 (i:=1) (v:=?_) rfl rfl (by kernel_rfl) (by kernel_rfl) (by kernel_rfl) (by kernel_rfl) (fun _ _ _ h=>h) (Or.inl ⟨by rfl, ?_⟩) (by first | assumption | trivial) ?_
                        rotate_left
                        · (intro w hSw; (try dsimp only at hSw); go_simp) <;> (with_reducible rfl)
                        simp only [List.setIfInBounds_toArray,List.set_cons_zero,List.set_cons_succ]
                        refine wpAnyT_take2 (i:=2) (v:=?_) rfl rfl (by kernel_rfl) (by kernel_rfl) (by kernel_rfl) (by kernel_rfl) (fun _ _ _ h=>h) (Or.inl ⟨by rfl, ?_⟩) (by first | assumption | trivial) ?_
                        rotate_left
                        · (intro w hSw; (try dsimp only at hSw); go_simp) <;> (with_reducible rfl)
                        simp only [List.setIfInBounds_toArray,List.set_cons_zero,List.set_cons_succ]
                        refine wpAnyT_take2 (i:=3) (v:=?_) rfl rfl (by kernel_rfl) (by kernel_rfl) (by kernel_rfl) (by kernel_rfl) (fun _ _ _ h=>h) (Or.inl ⟨by rfl, ?_⟩) (by first | assumption | trivial) ?_
                        rotate_left
                        · (intro w hSw; (try dsimp only at hSw); go_simp) <;> (with_reducible rfl)
                        simp only [List.setIfInBounds_toArray,List.set_cons_zero,List.set_cons_succ]
                        refine wpAnyT_take2 (i:=4) (v:=?_) rfl rfl (by kernel_rfl) (by kernel_rfl) (by kernel_rfl) (by kernel_rfl) (fun _ _ _ h=>h) (Or.inl ⟨by rfl, ?_⟩) (by first | assumption | trivial) ?_
                        rotate_left
                        · (intro w hSw; (try dsimp only at hSw); go_simp) <;> (with_reducible rfl)
                        simp only [List.setIfInBounds_toArray,List.set_cons_zero,List.set_cons_succ]
                        refine wpAnyT_take2 (i:=5) (v:=?_) rfl rfl (by kernel_rfl) (by kernel_rfl) (by kernel_rfl) (by kernel_rfl) (fun _ _ _ h=>h) (Or.inl ⟨by rfl, ?_⟩) (by first | assumption | trivial) ?_
                        rotate_left
                        · (intro w hSw; (try dsimp only at hSw); go_simp) <;> (with_reducible rfl)
                        simp only [List.setIfInBounds_toArray,List.set_cons_zero,List.set_cons_succ]
                        refine wpAnyT_take2 (i:=6) (v:=?_) rfl rfl (by kernel_rfl) (by kernel_rfl) (by kernel_rfl) (by kernel_rfl) (fun _ _ _ h=>h) (Or.inl ⟨by rfl, ?_⟩) (by first | assumption | trivial) ?_
                        rotate_left
                        · (intro w hSw; (try dsimp only at hSw); go_simp) <;> (with_reducible rfl)
                        simp only [List.setIfInBounds_toArray,List.set_cons_zero,List.set_cons_succ]
                        refine wpAnyT_take2 (i:=7) (v:=?_) rfl rfl (by kernel_rfl) (by kernel_rfl) (by kernel_rfl) (by kernel_rfl) (fun _ _ _ h=>h) (Or.inl ⟨by rfl, ?_⟩) (by first | assumption | trivial) ?_
                        rotate_left
                        · (intro w hSw; (try dsimp only at hSw); go_simp) <;> (with_reducible rfl)
                        simp only [List.setIfInBounds_toArray,List.set_cons_zero,List.set_cons_succ]
                        refine wpAnyT_take2 (i:=8) (v:=?_) rfl rfl (by kernel_rfl) (by kernel_rfl) (by kernel_rfl) (by kernel_rfl) (fun _ _ _ h=>h) (Or.inl ⟨by rfl, ?_⟩) (by first | assumption | trivial) ?_
                        rotate_left
                        · (intro w hSw; (try dsimp only at hSw); go_simp) <;> (with_reducible rfl)
                        simp only [List.setIfInBounds_toArray,List.set_cons_zero,List.set_cons_succ]
                        refine wpAnyT_take2 (i:=9) (v:=?_) rfl rfl (by kernel_rfl) (by kernel_rfl) (by kernel_rfl) (by kernel_rfl) (fun _ _ _ h=>h) (Or.inl ⟨by rfl, ?_⟩) (by first | assumption | trivial) ?_
                        rotate_left
                        · (intro w hSw; (try dsimp only at hSw); go_simp) <;> (with_reducible rfl)
                        simp only [List.setIfInBounds_toArray,List.set_cons_zero,List.set_cons_succ]
                        refine wpAnyT_take2 (i:=10) (v:=?_) rfl rfl (by kernel_rfl) (by kernel_rfl) (by kernel_rfl) (by kernel_rfl) (fun _ _ _ h=>h) (Or.inl ⟨by rfl, ?_⟩) (by first | assumption | trivial) ?_
                        rotate_left
                        · (intro w hSw; (try dsimp only at hSw); go_simp) <;> (with_reducible rfl)
                        simp only [List.setIfInBounds_toArray,List.set_cons_zero,List.set_cons_succ]
                        clear hHeld
                        have hdr : Below wd.heap.size wd wd.drew:=Below.drew (Below.refl _ _)
                        have HT3:=Lib.hid (HT2.out.later hdr)
                        have HG3:=Lib.hid (HG2.out.later hdr)
                        have e0 : wd.drew.cell? ⟨gd,tm,none⟩=some (.int .i64 dt):=d1
                        clear hdr HT2 HG2 d1 y0 y1
                        generalize wd.drew=we at *
                        have df:=HT3.out.dx.frozen tm
                        have hbn:=HT3.out.bn
                        have b0:=HT3.out.bx.cell tm
                        rw [intsA_at (by omega)] at b0
                        have bf:=HT3.out.bx.frozen tm
                        have hne1 : gd≠gb:=by have:=HT3.out.ord; omega
                        have hne2 : gb≠gd:=hne1.symm
                        have HT4:=Lib.hid ((HT3.out.setD tm (dv+en)).setB tm vm)
                        have s5 : ∀ W,W=we.setCell ⟨gd,tm,none⟩ (.int .i64 (dv+en))→W.cell? ⟨gc,0,none⟩=some (.slice (some ⟨gd,0,none⟩) R.length R.length)∧W.cell? ⟨gc,1,none⟩=some (.slice (some ⟨gb,0,none⟩) R.length R.length)∧W.cell? ⟨ge,1,none⟩=some (.int .i64 (tm : Nat)):=fun W hW=>by
                          subst hW
                          exact ⟨(HT3.out.setD tm (dv+en)).cx.cell 0,(HT3.out.setD tm (dv+en)).cx.cell 1,(HG3.out.far (show ge≠gd by omega) _).cell 1⟩
                        refine wpAnyT_next (i:=11) (by kernel_rfl) rfl ?_
                        go_wp2_with fail
                        refine And.intro (by first | exact fun _=>s5 _ rfl | exact s5 _ rfl) ?_
                        refine wpAnyT_next (i:=12) (by kernel_rfl) rfl ?_
                        go_wp2_with fail
                        refine And.intro (by first | exact fun _=>s5 _ rfl | exact s5 _ rfl) ?_
                        clear s5
                        refine wpAnyT_next (i:=13) (by kernel_rfl) rfl ?_
                        go_wp2_with fail
                        try simp only [QT]
                        try (with_reducible refine And.intro (fun h=>by simp at h) ?_)
                        refine And.intro (by first | exact ⟨HT4.out.cx.cell 0,HT4.out.cx.cell 1,((HG3.out.far (show ge≠gd by omega) _).far (show ge≠gb by omega) _).cell 1⟩ | exact fun _=>⟨HT4.out.cx.cell 0,HT4.out.cx.cell 1,((HG3.out.far (show ge≠gd by omega) _).far (show ge≠gb by omega) _).cell 1⟩) ?_
                        refine wpAnyT_done (by kernel_rfl) ?_ _
                        have HJ4 : Hid (UpJ R.length (dirF back (lkE E)) (rkF R) 1000000000000 s (rs+j) vm (sl.take q ++ [⟨(vm : Nat),(tm : Nat),en,ev⟩]) (atF (dl.set tm (dv+en))) (atF (bl.set tm vm))):=Lib.hid (by
                          have h:=HJ.out.relax (e:=⟨(vm : Nat),(tm : Nat),en,ev⟩) HV.out HRV.out HD0.out HTM.out HX4.out HX5.out HX6.out hen heM (by rw [HDT.out,HDV.out]; exact .inr h1)
                          have e1:=atF_setA HT3.out.dn (u:=(tm : Int)) (x:=dv+en) HTM.out
                          have e2:=atF_setA HT3.out.bn (u:=(tm : Int)) (x:=(vm : Int)) HTM.out
                          rw [Int.toNat_natCast] at e1 e2
                          rw [e1,e2]
                          rw [HDV.out] at h
                          exact h)
                        have HD4 : Hid (0≤atF (dl.set tm (dv+en)) vm):=Lib.hid (by
                          have e1:=atF_setA HT3.out.dn (u:=(tm : Int)) (x:=dv+en) HTM.out
                          rw [Int.toNat_natCast] at e1
                          rw [e1]
                          dsimp only
                          split
                          · omega
                          · exact HD0.out)
                        clear e0 df b0 bf HT3 HG3
                        go_wp2_with fail
                        go_roundw
                        case rel=>exact ⟨q+1,dl.set tm (dv+en),bl.set tm vm,by omega,by go_num,HT4,Lib.hid (by rw [HTK.out]; exact HJ4.out),HD4⟩
                        case measure=>simp [intOf]; omega
                      · have HJ2:=Lib.hid (HJ.out.stay (e:=⟨(vm : Nat),(tm : Nat),en,ev⟩) (by rw [HDT.out,HDV.out]; rintro (h | h); exact absurd h (Int.not_lt.2 h0); exact h1 h))
                        go_wp2_with fail
                        go_roundw
                        case rel=>exact ⟨q+1,dl,bl,by omega,by go_num,HT2,Lib.hid (by rw [HTK.out]; exact HJ2.out),HD0⟩
                        case measure=>simp [intOf]; omega
                  · have hqn : q=sl.length:=by omega
                    subst hqn
                    have hlq' : ¬ (sl.length : Int)<(sl.length : Int):=by omega
                    have HI2:=Lib.hid (HJ.out.out HV.out HRV.out HRK.out.inj (fun t x h1 h2=>by
                      rw [List.take_of_length_le (Nat.le_refl _),HSL.out]
                      exact stpL_has h1 h2))
                    clear HJ hq
                    go_wp2_with fail
                    go_roundw
                    case rel=>exact ⟨j+1,dl,bl,by omega,by go_num,HT,HI2⟩
                    case measure=>simp [intOf]; omega
            · have hjn : rs+j=R.length:=by omega
              have hlt' : ¬ (j : Int)<((R.length - rs : Nat) : Int):=by omega
              have HI2:=HI.out
              rw [hjn] at HI2
              have HCL:=Lib.hid (HI2.done (fun v hv=>HRK.out.lt hv) (fun f t x h=>⟨(dirF_ok HED.out h).1,(dirF_ok HED.out h).2.1⟩) (fun v hv=>atF_out HT.out.dn hv))
              have HTP : Hid (∀ v,Ir R.length v→atF dl v≤9000000000000):=Lib.hid (fun v hv=>by
                have h1:=HI2.top v hv
                have h2:=(HRK.out.lt hv).2
                omega)
              clear HI2 HI
              obtain ⟨y0,y1,yf,yz⟩:=HT.out.cx.b2
              obtain ⟨z0,z1,zf,zz⟩:=HT.out.hy.b2
              go_wp2_with fail
              have HY:=(HT.out.hy.set_ 0 (.slice (some ⟨gd,0,none⟩) R.length R.length)).set_ 1 (.slice (some ⟨gb,0,none⟩) R.length R.length)
              obtain ⟨v0,v1,vf,vz⟩:=Blk.b2 (x:=.slice (some ⟨gd,0,none⟩) R.length R.length) (y:=.slice (some ⟨gb,0,none⟩) R.length R.length) HY
              have hor:=HT.out.ord
              refine bodyPost_ret (v:=.agg #[.slice (some ⟨gd,0,none⟩) R.length R.length,.slice (some ⟨gb,0,none⟩) R.length R.length]) ?_ rfl ⟨gd,gb,dl,bl,rfl,by omega,by omega,HT.out.dn,HT.out.bn,(HT.out.dx.far (show gd≠w.heap.size+1 by omega) _).far (show gd≠w.heap.size+1 by omega) _,(HT.out.bx.far (show gb≠w.heap.size+1 by omega) _).far (show gb≠w.heap.size+1 by omega) _,HCL.out,HTP.out,(HT.out.bel.setCell (p:=⟨w.heap.size+1,0,none⟩) (Nat.le_succ _) _).setCell (p:=⟨w.heap.size+1,1,none⟩) (Nat.le_succ _) _⟩
              simp [results,Try.results39,go_sem,v0,v1]
end Go.Proofs.Ytlbihfbeamlacaa
