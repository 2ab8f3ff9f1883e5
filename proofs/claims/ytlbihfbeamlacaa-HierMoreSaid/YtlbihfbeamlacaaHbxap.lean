/- Walk: a net before it is contracted. -/
import Derived.Test.YtlbihfbeamlacaaHbxao
set_option linter.unusedSimpArgs false
set_option linter.unusedVariables false
set_option maxRecDepth 100000
set_option maxHeartbeats 6400000
namespace Go.Proofs.Ytlbihfbeamlacaa
open Go.RowKit
theorem infoInts : Info Try.prog 23 (.slice none 0 0) 1 24:=info_mk (by kernel_rfl) rfl
theorem make_rows (n : Nat) (hn : n≤10000) (w : World) : (Instr.makeSlice 36 (.int .i64 (n : Int)) (.int .i64 (n : Int))).run Try.prog w = .ok (.slice (some ⟨w.heap.size,0,none⟩) n n) (w.alloc (.cells (svA (List.replicate n (⟨none,0,[]⟩ : Sl Int))) 23)):=by
  obtain ⟨i,hi,hz,hsize,hby,hzs⟩:=infoInts
  have h:=run_makeSlice w 36 23 i _ Try.underlying36 hi hz .i64 .i64 (n : Int) (n : Int) (by omega) (Int.le_refl _) (by rw [hsize]; omega) (by rw [hby]; omega) (by omega)
  have hs : svA (List.replicate n (⟨none,0,[]⟩ : Sl Int))=(List.replicate n (Value.slice none 0 0)).toArray:=by
    unfold svA
    rw [List.map_replicate]
    rfl
  rw [h,hsize,hs]
  simp only [Int.toNat_natCast,Nat.mul_one,made_rep (z:=Value.slice none 0 0) rfl]
/-- What opened's map holds. -/
def opnS (l : List ED) (e : ED) : List ED:=if e.f=e.t then l else addL l e
def opnL (es : List ED) : List ED:=es.foldl opnS []
theorem opnS_lk (l : List ED) (e : ED) (f t : Int) : lkE (opnS l e) f t=adF (lkE l) e f t:=by
  unfold opnS adF
  by_cases h : e.f=e.t
  · rw [if_pos h,if_neg (fun hc=>hc.1 h)]
  · rw [if_neg h,lkE_addL]
    by_cases h2 : e.f=f∧e.t=t
    · rw [if_pos h2,if_pos ⟨h,h2⟩]
    · rw [if_neg h2,if_neg (fun hc=>h2 hc.2)]
theorem opn_ini : ∀ (es : List ED) (l m : List ED),(∀ f t,lkE l f t=lkE m f t)→∀ f t,lkE (es.foldl opnS l) f t=lkE (es.foldl iniS m) f t
  | [],_,_,h,f,t=>h f t
  | e :: es,l,m,h,f,t=>by
    rw [List.foldl_cons,List.foldl_cons]
    refine opn_ini es _ _ (fun f t=>?_) f t
    rw [opnS_lk,iniS_lk]
    unfold adF
    rw [h f t]
theorem opnL_lk (es : List ED) (f t : Int) : lkE (opnL es) f t=lkE (iniL es) f t:=opn_ini es [] [] (fun _ _=>rfl) f t
theorem opnL_snoc {es : List ED} {k : Nat} {e : ED} (h : es[k]? = some e) : opnL (es.take (k+1))=opnS (opnL (es.take k)) e:=by
  rw [List.take_add_one,h]
  unfold opnL
  rw [List.foldl_append]
  rfl
/-- What stands while the net's parts are made. -/
structure OpS (n : Nat) (w W : World) (mb gi go : Nat) : Prop where
  bel : Below w.heap.size w W
  mp : MapE W mb []
  bi : Blk W gi 23 (svA (List.replicate n (⟨none,0,[]⟩ : Sl Int)))
  bo : Blk W go 23 (svA (List.replicate n (⟨none,0,[]⟩ : Sl Int)))
  ge : w.heap.size≤mb∧w.heap.size≤gi∧w.heap.size≤go
  ne : gi≠go
theorem NetSt.start {n : Nat} {w W : World} {mb gi go : Nat} (hd : Below w.heap.size w W) (hm : MapE W mb []) (hi : Blk W gi 23 (svA (List.replicate n (⟨none,0,[]⟩ : Sl Int)))) (ho : Blk W go 23 (svA (List.replicate n (⟨none,0,[]⟩ : Sl Int)))) (hge : w.heap.size≤mb∧w.heap.size≤gi∧w.heap.size≤go) (hne : gi≠go) :
    NetSt n (W.heap.size+1) W.heap.size mb gi go (· < w.heap.size) w (W.alloc (.cells #[.map (some mb),.slice (some ⟨gi,0,none⟩) n n,.slice (some ⟨go,0,none⟩) n n] 54)) [] (List.replicate n (⟨none,0,[]⟩ : Sl Int)) (List.replicate n (⟨none,0,[]⟩ : Sl Int)):=by
  have h1:=hm.lt
  have h2:=hi.lt
  have h3:=ho.lt
  have h4:=hd.size
  refine ⟨⟨Blk.new _ _ _,hm.alloc _,hi.alloc _,ho.alloc _, ?_,List.length_replicate,List.length_replicate,⟨by omega,by omega,by omega,by omega⟩,⟨by omega,by omega,hne⟩,by simp,(hd.mono (Nat.zero_le _)).alloc (Nat.zero_le _) _,fun b hb=>?_,fun s hs b hA hz=>?_,⟨by omega,by omega,by omega,by omega⟩,fun b hb=>hb⟩, ?_⟩
  · rw [List.replicate_append_replicate]
    exact Fam.start _
  · exact (Below.heap_alloc W _ b (by omega)).trans (hd.block b hb)
  · rw [List.replicate_append_replicate] at hs
    obtain ⟨_,rfl⟩:=List.mem_replicate.1 hs
    cases hA
  · rw [List.map_replicate]
    exact NIO.nil n
def OpnP (n : Nat) (w w' : World) (l : List ED) (r : Ending) : Prop:=∃ base g mb gi go ins outs,r = .returned (.pointer (some ⟨g,0,none⟩))∧NetSt n base g mb gi go (· < w.heap.size) w w' l ins outs
theorem hier_opened (es : Sl ED) (n : Nat) (w : World) (hr : Rd (· < w.heap.size) 4 ED.enc w es) (hn : n≤2000) (hE : ∀ e,e ∈ es.l→Ir n e.f∧Ir n e.t) :
    Calls Try.prog 26 #[.int .i64 (n : Nat),.slice es.A es.l.length es.c] w fun r w'=>OpnP n w w' (opnL es.l) r:=by
  have HR:=Lib.hid hr
  have HE:=Lib.hid hE
  have hlen:=hr.len
  clear hr hE
  obtain ⟨A,c,l⟩:=es
  simp only at HE hlen
  simp only
  have hmk:=make_rows n (by omega)
  have hmm:=@run_makeMap Try.prog
  go_enter Try.func26,Try.ntmps26
  go_wp2_with fail
  refine wp_region_T (fun W=>True) (fun _=>false) (by kernel_rfl) trivial (fun hHeld=>?_)
  have HD : Hid (Below w.heap.size w w.drew):=Lib.hid (Below.drew (Below.refl _ _))
  refine wpAnyT_take2 (i:=1) (v:=?_) rfl rfl (by kernel_rfl) (by kernel_rfl) (by kernel_rfl) (by kernel_rfl) (fun _ _ _ h=>h) (Or.inl ⟨by rfl, ?_⟩) (by first | assumption | trivial) ?_
  rotate_left
  · (intro w hSw; (try dsimp only at hSw); go_simp) <;> (with_reducible rfl)
  simp only [List.setIfInBounds_toArray,List.set_cons_zero,List.set_cons_succ]
  refine wpAnyT_take2 (i:=3) (v:=?_) rfl rfl (by kernel_rfl) (by kernel_rfl) (by kernel_rfl) (by kernel_rfl) (fun _ _ _ h=>h) (Or.inl ⟨by rfl, ?_⟩) (by first | assumption | trivial) ?_
  rotate_left
  · (intro w hSw; (try dsimp only at hSw); go_simp) <;> (with_reducible rfl)
  simp only [List.setIfInBounds_toArray,List.set_cons_zero,List.set_cons_succ]
  generalize w.drew=wd at *
  apply cutT
  · intro fin0
    have FIN:=Lib.hid fin0
    clear fin0
    refine wpAnyT_three (i:=0) (j:=2) (l:=4) (by kernel_rfl) rfl rfl rfl ?_ ?_ ?_
    · skip
      go_wp2_with fail
      have hb : Below wd.heap.size wd (wd.alloc (.map #[] 0)):=(Below.refl _ _).alloc (Nat.le_refl _) _
      have HMP : Hid (MapE (wd.alloc (.map #[] 0)) wd.heap.size []∧w.heap.size≤wd.heap.size):=Lib.hid ⟨MapE.made _,HD.out.size⟩
      replace HD:=Lib.hid (HD.out.trans (hb.mono HD.out.size))
      skip
      skip
      clear hb
      generalize wd.alloc (.map #[] 0)=v1 at *
      generalize wd.heap.size=mb at *
      refine wpAnyT_two (i:=2) (j:=4) (by kernel_rfl) rfl rfl ?_ ?_
      · skip
        go_wp2_with fail
        have hb : Below v1.heap.size v1 (v1.alloc (.cells (svA (List.replicate n (⟨none,0,[]⟩ : Sl Int))) 23)):=(Below.refl _ _).alloc (Nat.le_refl _) _
        have HBI : Hid (Blk (v1.alloc (.cells (svA (List.replicate n (⟨none,0,[]⟩ : Sl Int))) 23)) v1.heap.size 23 (svA (List.replicate n (⟨none,0,[]⟩ : Sl Int)))∧w.heap.size≤v1.heap.size):=Lib.hid ⟨Blk.new _ _ _,HD.out.size⟩
        replace HD:=Lib.hid (HD.out.trans (hb.mono HD.out.size))
        replace HMP:=Lib.hid (And.intro (HMP.out.1.later hb) HMP.out.2)
        skip
        clear hb
        generalize v1.alloc (.cells (svA (List.replicate n (⟨none,0,[]⟩ : Sl Int))) 23)=v2 at *
        generalize v1.heap.size=gi at *
        refine wpAnyT_next (i:=4) (by kernel_rfl) rfl ?_
        have HNE : Hid (gi≠v2.heap.size):=Lib.hid (Nat.ne_of_lt HBI.out.1.lt)
        go_wp2_with fail
        have hb : Below v2.heap.size v2 (v2.alloc (.cells (svA (List.replicate n (⟨none,0,[]⟩ : Sl Int))) 23)):=(Below.refl _ _).alloc (Nat.le_refl _) _
        have HBO : Hid (Blk (v2.alloc (.cells (svA (List.replicate n (⟨none,0,[]⟩ : Sl Int))) 23)) v2.heap.size 23 (svA (List.replicate n (⟨none,0,[]⟩ : Sl Int)))∧w.heap.size≤v2.heap.size):=Lib.hid ⟨Blk.new _ _ _,HD.out.size⟩
        replace HD:=Lib.hid (HD.out.trans (hb.mono HD.out.size))
        replace HMP:=Lib.hid (And.intro (HMP.out.1.later hb) HMP.out.2)
        replace HBI:=Lib.hid (And.intro (HBI.out.1.later hb) HBI.out.2)
        clear hb
        generalize v2.alloc (.cells (svA (List.replicate n (⟨none,0,[]⟩ : Sl Int))) 23)=v3 at *
        generalize v2.heap.size=go at *
        revert HNE
        revert HBO
        revert HBI
        revert HMP
        revert HD
        revert go
        revert gi
        revert mb
        revert v3
        exact FIN.out
      · skip
        go_wp2_with fail
        have hb : Below v1.heap.size v1 (v1.alloc (.cells (svA (List.replicate n (⟨none,0,[]⟩ : Sl Int))) 23)):=(Below.refl _ _).alloc (Nat.le_refl _) _
        have HBO : Hid (Blk (v1.alloc (.cells (svA (List.replicate n (⟨none,0,[]⟩ : Sl Int))) 23)) v1.heap.size 23 (svA (List.replicate n (⟨none,0,[]⟩ : Sl Int)))∧w.heap.size≤v1.heap.size):=Lib.hid ⟨Blk.new _ _ _,HD.out.size⟩
        replace HD:=Lib.hid (HD.out.trans (hb.mono HD.out.size))
        replace HMP:=Lib.hid (And.intro (HMP.out.1.later hb) HMP.out.2)
        skip
        clear hb
        generalize v1.alloc (.cells (svA (List.replicate n (⟨none,0,[]⟩ : Sl Int))) 23)=v2 at *
        generalize v1.heap.size=go at *
        refine wpAnyT_next (i:=2) (by kernel_rfl) rfl ?_
        have HNE : Hid (v2.heap.size≠go):=Lib.hid (Nat.ne_of_gt HBO.out.1.lt)
        go_wp2_with fail
        have hb : Below v2.heap.size v2 (v2.alloc (.cells (svA (List.replicate n (⟨none,0,[]⟩ : Sl Int))) 23)):=(Below.refl _ _).alloc (Nat.le_refl _) _
        have HBI : Hid (Blk (v2.alloc (.cells (svA (List.replicate n (⟨none,0,[]⟩ : Sl Int))) 23)) v2.heap.size 23 (svA (List.replicate n (⟨none,0,[]⟩ : Sl Int)))∧w.heap.size≤v2.heap.size):=Lib.hid ⟨Blk.new _ _ _,HD.out.size⟩
        replace HD:=Lib.hid (HD.out.trans (hb.mono HD.out.size))
        replace HMP:=Lib.hid (And.intro (HMP.out.1.later hb) HMP.out.2)
        replace HBO:=Lib.hid (And.intro (HBO.out.1.later hb) HBO.out.2)
        clear hb
        generalize v2.alloc (.cells (svA (List.replicate n (⟨none,0,[]⟩ : Sl Int))) 23)=v3 at *
        generalize v2.heap.size=gi at *
        exact wpAnyT_listed (by kernel_rfl) (FIN.out v3 mb gi go HD HMP HBI HBO HNE)
    · skip
      go_wp2_with fail
      have hb : Below wd.heap.size wd (wd.alloc (.cells (svA (List.replicate n (⟨none,0,[]⟩ : Sl Int))) 23)):=(Below.refl _ _).alloc (Nat.le_refl _) _
      have HBI : Hid (Blk (wd.alloc (.cells (svA (List.replicate n (⟨none,0,[]⟩ : Sl Int))) 23)) wd.heap.size 23 (svA (List.replicate n (⟨none,0,[]⟩ : Sl Int)))∧w.heap.size≤wd.heap.size):=Lib.hid ⟨Blk.new _ _ _,HD.out.size⟩
      replace HD:=Lib.hid (HD.out.trans (hb.mono HD.out.size))
      skip
      skip
      clear hb
      generalize wd.alloc (.cells (svA (List.replicate n (⟨none,0,[]⟩ : Sl Int))) 23)=v1 at *
      generalize wd.heap.size=gi at *
      refine wpAnyT_two (i:=0) (j:=4) (by kernel_rfl) rfl rfl ?_ ?_
      · skip
        go_wp2_with fail
        have hb : Below v1.heap.size v1 (v1.alloc (.map #[] 0)):=(Below.refl _ _).alloc (Nat.le_refl _) _
        have HMP : Hid (MapE (v1.alloc (.map #[] 0)) v1.heap.size []∧w.heap.size≤v1.heap.size):=Lib.hid ⟨MapE.made _,HD.out.size⟩
        replace HD:=Lib.hid (HD.out.trans (hb.mono HD.out.size))
        replace HBI:=Lib.hid (And.intro (HBI.out.1.later hb) HBI.out.2)
        skip
        clear hb
        generalize v1.alloc (.map #[] 0)=v2 at *
        generalize v1.heap.size=mb at *
        refine wpAnyT_next (i:=4) (by kernel_rfl) rfl ?_
        have HNE : Hid (gi≠v2.heap.size):=Lib.hid (Nat.ne_of_lt HBI.out.1.lt)
        go_wp2_with fail
        have hb : Below v2.heap.size v2 (v2.alloc (.cells (svA (List.replicate n (⟨none,0,[]⟩ : Sl Int))) 23)):=(Below.refl _ _).alloc (Nat.le_refl _) _
        have HBO : Hid (Blk (v2.alloc (.cells (svA (List.replicate n (⟨none,0,[]⟩ : Sl Int))) 23)) v2.heap.size 23 (svA (List.replicate n (⟨none,0,[]⟩ : Sl Int)))∧w.heap.size≤v2.heap.size):=Lib.hid ⟨Blk.new _ _ _,HD.out.size⟩
        replace HD:=Lib.hid (HD.out.trans (hb.mono HD.out.size))
        replace HBI:=Lib.hid (And.intro (HBI.out.1.later hb) HBI.out.2)
        replace HMP:=Lib.hid (And.intro (HMP.out.1.later hb) HMP.out.2)
        clear hb
        generalize v2.alloc (.cells (svA (List.replicate n (⟨none,0,[]⟩ : Sl Int))) 23)=v3 at *
        generalize v2.heap.size=go at *
        exact wpAnyT_listed (by kernel_rfl) (FIN.out v3 mb gi go HD HMP HBI HBO HNE)
      · skip
        have HNE : Hid (gi≠v1.heap.size):=Lib.hid (Nat.ne_of_lt HBI.out.1.lt)
        go_wp2_with fail
        have hb : Below v1.heap.size v1 (v1.alloc (.cells (svA (List.replicate n (⟨none,0,[]⟩ : Sl Int))) 23)):=(Below.refl _ _).alloc (Nat.le_refl _) _
        have HBO : Hid (Blk (v1.alloc (.cells (svA (List.replicate n (⟨none,0,[]⟩ : Sl Int))) 23)) v1.heap.size 23 (svA (List.replicate n (⟨none,0,[]⟩ : Sl Int)))∧w.heap.size≤v1.heap.size):=Lib.hid ⟨Blk.new _ _ _,HD.out.size⟩
        replace HD:=Lib.hid (HD.out.trans (hb.mono HD.out.size))
        replace HBI:=Lib.hid (And.intro (HBI.out.1.later hb) HBI.out.2)
        skip
        clear hb
        generalize v1.alloc (.cells (svA (List.replicate n (⟨none,0,[]⟩ : Sl Int))) 23)=v2 at *
        generalize v1.heap.size=go at *
        refine wpAnyT_next (i:=0) (by kernel_rfl) rfl ?_
        go_wp2_with fail
        have hb : Below v2.heap.size v2 (v2.alloc (.map #[] 0)):=(Below.refl _ _).alloc (Nat.le_refl _) _
        have HMP : Hid (MapE (v2.alloc (.map #[] 0)) v2.heap.size []∧w.heap.size≤v2.heap.size):=Lib.hid ⟨MapE.made _,HD.out.size⟩
        replace HD:=Lib.hid (HD.out.trans (hb.mono HD.out.size))
        replace HBI:=Lib.hid (And.intro (HBI.out.1.later hb) HBI.out.2)
        replace HBO:=Lib.hid (And.intro (HBO.out.1.later hb) HBO.out.2)
        clear hb
        generalize v2.alloc (.map #[] 0)=v3 at *
        generalize v2.heap.size=mb at *
        exact wpAnyT_listed (by kernel_rfl) (FIN.out v3 mb gi go HD HMP HBI HBO HNE)
    · skip
      go_wp2_with fail
      have hb : Below wd.heap.size wd (wd.alloc (.cells (svA (List.replicate n (⟨none,0,[]⟩ : Sl Int))) 23)):=(Below.refl _ _).alloc (Nat.le_refl _) _
      have HBO : Hid (Blk (wd.alloc (.cells (svA (List.replicate n (⟨none,0,[]⟩ : Sl Int))) 23)) wd.heap.size 23 (svA (List.replicate n (⟨none,0,[]⟩ : Sl Int)))∧w.heap.size≤wd.heap.size):=Lib.hid ⟨Blk.new _ _ _,HD.out.size⟩
      replace HD:=Lib.hid (HD.out.trans (hb.mono HD.out.size))
      skip
      skip
      clear hb
      generalize wd.alloc (.cells (svA (List.replicate n (⟨none,0,[]⟩ : Sl Int))) 23)=v1 at *
      generalize wd.heap.size=go at *
      refine wpAnyT_two (i:=0) (j:=2) (by kernel_rfl) rfl rfl ?_ ?_
      · skip
        go_wp2_with fail
        have hb : Below v1.heap.size v1 (v1.alloc (.map #[] 0)):=(Below.refl _ _).alloc (Nat.le_refl _) _
        have HMP : Hid (MapE (v1.alloc (.map #[] 0)) v1.heap.size []∧w.heap.size≤v1.heap.size):=Lib.hid ⟨MapE.made _,HD.out.size⟩
        replace HD:=Lib.hid (HD.out.trans (hb.mono HD.out.size))
        replace HBO:=Lib.hid (And.intro (HBO.out.1.later hb) HBO.out.2)
        skip
        clear hb
        generalize v1.alloc (.map #[] 0)=v2 at *
        generalize v1.heap.size=mb at *
        refine wpAnyT_next (i:=2) (by kernel_rfl) rfl ?_
        have HNE : Hid (v2.heap.size≠go):=Lib.hid (Nat.ne_of_gt HBO.out.1.lt)
        go_wp2_with fail
        have hb : Below v2.heap.size v2 (v2.alloc (.cells (svA (List.replicate n (⟨none,0,[]⟩ : Sl Int))) 23)):=(Below.refl _ _).alloc (Nat.le_refl _) _
        have HBI : Hid (Blk (v2.alloc (.cells (svA (List.replicate n (⟨none,0,[]⟩ : Sl Int))) 23)) v2.heap.size 23 (svA (List.replicate n (⟨none,0,[]⟩ : Sl Int)))∧w.heap.size≤v2.heap.size):=Lib.hid ⟨Blk.new _ _ _,HD.out.size⟩
        replace HD:=Lib.hid (HD.out.trans (hb.mono HD.out.size))
        replace HBO:=Lib.hid (And.intro (HBO.out.1.later hb) HBO.out.2)
        replace HMP:=Lib.hid (And.intro (HMP.out.1.later hb) HMP.out.2)
        clear hb
        generalize v2.alloc (.cells (svA (List.replicate n (⟨none,0,[]⟩ : Sl Int))) 23)=v3 at *
        generalize v2.heap.size=gi at *
        exact wpAnyT_listed (by kernel_rfl) (FIN.out v3 mb gi go HD HMP HBI HBO HNE)
      · skip
        have HNE : Hid (v1.heap.size≠go):=Lib.hid (Nat.ne_of_gt HBO.out.1.lt)
        go_wp2_with fail
        have hb : Below v1.heap.size v1 (v1.alloc (.cells (svA (List.replicate n (⟨none,0,[]⟩ : Sl Int))) 23)):=(Below.refl _ _).alloc (Nat.le_refl _) _
        have HBI : Hid (Blk (v1.alloc (.cells (svA (List.replicate n (⟨none,0,[]⟩ : Sl Int))) 23)) v1.heap.size 23 (svA (List.replicate n (⟨none,0,[]⟩ : Sl Int)))∧w.heap.size≤v1.heap.size):=Lib.hid ⟨Blk.new _ _ _,HD.out.size⟩
        replace HD:=Lib.hid (HD.out.trans (hb.mono HD.out.size))
        replace HBO:=Lib.hid (And.intro (HBO.out.1.later hb) HBO.out.2)
        skip
        clear hb
        generalize v1.alloc (.cells (svA (List.replicate n (⟨none,0,[]⟩ : Sl Int))) 23)=v2 at *
        generalize v1.heap.size=gi at *
        refine wpAnyT_next (i:=0) (by kernel_rfl) rfl ?_
        go_wp2_with fail
        have hb : Below v2.heap.size v2 (v2.alloc (.map #[] 0)):=(Below.refl _ _).alloc (Nat.le_refl _) _
        have HMP : Hid (MapE (v2.alloc (.map #[] 0)) v2.heap.size []∧w.heap.size≤v2.heap.size):=Lib.hid ⟨MapE.made _,HD.out.size⟩
        replace HD:=Lib.hid (HD.out.trans (hb.mono HD.out.size))
        replace HBO:=Lib.hid (And.intro (HBO.out.1.later hb) HBO.out.2)
        replace HBI:=Lib.hid (And.intro (HBI.out.1.later hb) HBI.out.2)
        clear hb
        generalize v2.alloc (.map #[] 0)=v3 at *
        generalize v2.heap.size=mb at *
        exact wpAnyT_listed (by kernel_rfl) (FIN.out v3 mb gi go HD HMP HBI HBO HNE)
  · intro W mb gi go HD HMP HBI HBO HNE
    refine wpAnyT_take2 (i:=5) (v:=?_) rfl rfl (by kernel_rfl) (by kernel_rfl) (by kernel_rfl) (by kernel_rfl) (fun _ _ _ h=>h) (Or.inl ⟨by rfl, ?_⟩) (by first | assumption | trivial) ?_
    rotate_left
    · (intro w hSw; (try dsimp only at hSw); go_simp) <;> (with_reducible rfl)
    simp only [List.setIfInBounds_toArray,List.set_cons_zero,List.set_cons_succ]
    clear hHeld hmk hmm
    have HST:=Lib.hid (NetSt.start HD.out HMP.out.1 HBI.out.1 HBO.out.1 ⟨HMP.out.2,HBI.out.2,HBO.out.2⟩ HNE.out)
    refine wpAnyT_next (i:=6) (by kernel_rfl) rfl ?_
    go_wp2_with fail
    clear HMP HBI HBO HNE HD
    generalize W.alloc (.cells #[.map (some mb),.slice (some ⟨gi,0,none⟩) n n,.slice (some ⟨go,0,none⟩) n n] 54)=w1 at *
    generalize W.heap.size+1=base at *
    generalize W.heap.size=g at *
    have hHeld : True:=trivial
    refine wpAnyT_take2 (i:=7) (v:=?_) rfl rfl (by kernel_rfl) (by kernel_rfl) (by kernel_rfl) (by kernel_rfl) (fun _ _ _ h=>h) (Or.inl ⟨by rfl, ?_⟩) (by first | assumption | trivial) ?_
    rotate_left
    · (intro w hSw; (try dsimp only at hSw); go_simp) <;> (with_reducible rfl)
    simp only [List.setIfInBounds_toArray,List.set_cons_zero,List.set_cons_succ]
    refine wpAnyT_done (by kernel_rfl) ?_ _
    clear hHeld
    go_wp2_with fail
    go_loopw [7,17] (fun _ i wr=>∃ (k : Nat) (ins outs : List (Sl Int)),k≤l.length∧i = .int .i64 k∧Hid (NetSt n base g mb gi go (· < w.heap.size) w wr (opnL (l.take k)) ins outs)) (fun _ i _=>l.length - (intOf i).toNat)
    case atStart=>exact ⟨0,_,_,by omega,rfl,HST⟩
    case round =>
      obtain ⟨k,ins,outs,hk,rfl,HS⟩:=hrel
      by_cases hlt : k<l.length
      · have hlt' : (k : Int)<(l.length : Int):=by omega
        have HBW : Hid (Below w.heap.size w wr):=Lib.hid (HS.out.m.below fun b hb=>hb)
        obtain ⟨b,o,rfl,hb,hcl⟩:=(HR.out.later HBW.out (Nat.le_refl _)).at1 hlt
        have hx : l[k]? = some l[k]:=List.getElem?_eq_getElem hlt
        have HX:=Lib.hid hx
        have HEX:=Lib.hid (HE.out l[k] (List.getElem_mem hlt))
        have HSN:=Lib.hid (opnL_snoc hx)
        clear hx
        generalize l[k]=x at *
        obtain ⟨xf,xt,xn,xv⟩:=x
        obtain ⟨g0,g1,g2,g3⟩:=hcl.c4
        clear hcl
        by_cases hft : xf=xt
        · subst hft
          have HS2 : Hid (NetSt n base g mb gi go (· < w.heap.size) w (wr.alloc (.cells #[.int .i64 xf,.int .i64 xf,.int .i64 xn,.int .i64 xv] 44)) (opnL (l.take (k+1))) ins outs):=Lib.hid (by
            rw [HSN.out]
            unfold opnS
            rw [if_pos rfl]
            exact HS.out.later ((Below.refl _ _).alloc (Nat.le_refl _) _))
          go_wp2_with fail
          go_roundw
          case rel=>exact ⟨k+1,ins,outs,by omega,by go_num,HS2⟩
          case measure=>simp [intOf]; omega
        · have HFT:=Lib.hid hft
          go_wp2_with fail
          have HS2:=Lib.hid (HS.out.later ((Below.refl wr.heap.size wr).alloc (Nat.le_refl _) (.cells #[.int .i64 xf,.int .i64 xt,.int .i64 xn,.int .i64 xv] 44)))
          clear g0 g1 g2 g3
          generalize wr.alloc (.cells #[.int .i64 xf,.int .i64 xt,.int .i64 xn,.int .i64 xv] 44)=w5 at *
          refine (net_add HS2.out ⟨xf,xt,xn,xv⟩ HEX.out.1 HEX.out.2 HFT.out hn).mono ?_
          rintro r w6 ⟨rfl,ins2,outs2,hst⟩
          have HS3 : Hid (NetSt n base g mb gi go (· < w.heap.size) w w6 (opnL (l.take (k+1))) ins2 outs2):=Lib.hid (by
            rw [HSN.out]
            unfold opnS
            rw [if_neg HFT.out]
            exact hst)
          clear hst HS2 hft
          go_wp2_with fail
          go_roundw
          case rel=>exact ⟨k+1,ins2,outs2,by omega,by go_num,HS3⟩
          case measure=>simp [intOf]; omega
      · have HFIN : Hid (NetSt n base g mb gi go (· < w.heap.size) w wr (opnL l) ins outs):=Lib.hid (by
          have h:=HS.out
          rw [List.take_of_length_le (by omega)] at h
          exact h)
        go_wp2_with fail
        go_ret
        exact ⟨base,g,mb,gi,go,ins,outs,rfl,HFIN.out⟩
end Go.Proofs.Ytlbihfbeamlacaa
