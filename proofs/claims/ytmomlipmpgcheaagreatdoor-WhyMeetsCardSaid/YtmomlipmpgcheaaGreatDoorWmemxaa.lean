/- Walk of WhyMeets. -/
import Derived.Test.YtmomlipmpgcheaaGreatDoorWbxbq
import Derived.Test.YtmomlipmpgcheaaGreatDoorWbxbr
set_option linter.unusedSimpArgs false
set_option linter.unusedVariables false
set_option maxRecDepth 100000
set_option maxHeartbeats 6400000
namespace Go.Proofs.YtmomlipmpgcheaaGreatDoor
open Go.RowKit
theorem why_er (L : List LT) (e : PT) (l : List TH) : (WhyV L e l).2=(HolV L e l).2:=by
  unfold WhyV
  split
  · rfl
  · rename_i h; exact (Classical.byContradiction fun hn=>h (fun h'=>hn h'.symm))
theorem oth_er (L : List LT) (e : PT) (l : List TH) (h : (HolV L e l).2≠0) : OthV L e l=([],[],(HolV L e l).2):=by
  unfold OthV
  rw [if_pos h]
theorem why_lt {L : List LT} {e : PT} {l : List TH} {i : Nat} (h : i ∈ (WhyV L e l).1) : i<l.length:=by
  unfold WhyV at h
  split at h
  · cases h
  · have:=(mem_bitL.1 h).1
    simpa [nsT] using this
theorem mem_int (l : List Nat) (n : Nat) : decide ((n : Int) ∈ intL l)=l.contains n:=by
  rw [Bool.eq_iff_iff,decide_eq_true_iff,List.contains_iff_mem]
  unfold intL
  rw [List.mem_map]
  constructor
  · rintro ⟨x,hx,h⟩
    have : x=n:=by omega
    rw [← this]; exact hx
  · intro h; exact ⟨n,h,rfl⟩
theorem bitL_len {n m : Nat} (h : n≤4) : (bitL n m).length≤4:=by
  unfold bitL
  exact Nat.le_trans (List.length_filter_le _ _) (by rw [List.length_range]; exact h)
theorem why_len {L : List LT} {e : PT} {l : List TH} (h : l.length≤4) : (WhyV L e l).1.length≤4:=by
  unfold WhyV
  split
  · simp
  · exact bitL_len (by simp [nsT]; exact h)
theorem oth_len {L : List LT} {e : PT} {l : List TH} (h : l.length≤4) : (OthV L e l).1.length≤4:=by
  unfold OthV
  split
  · simp
  · unfold othR
    split
    · simp
    · exact bitL_len h
theorem fixT_set {P Q : Nat→Bool} {l : List TH} {i : Nat} {x : TH} (h : l[i]? = some x) (hq : ∀ j,Q j=(P j || decide (j=i))) : (fixT P l).set i (bareT x)=fixT Q l:=by
  have hil:=(List.getElem?_eq_some_iff.1 h).1
  refine List.ext_getElem? fun j=>?_
  rw [List.getElem?_set,fixT_at,fixT_at,hq]
  by_cases hj : i=j
  · subst hj
    rw [if_pos rfl,if_pos (by rw [fixT_len]; exact hil),h]
    simp
  · rw [if_neg hj]
    have : decide (j=i)=false:=decide_eq_false (fun e=>hj e.symm)
    rw [this,Bool.or_false]
theorem enc_bare (x : TH) : (bareT x).enc=x.enc.set 3 (.slice none 0 0):=rfl
theorem enc_bare2 (x : TH) : (bareT x).enc=(bareT x).enc.set 3 (.slice none 0 0):=rfl
theorem fixT_none (l : List TH) : fixT (fun i=>decide (i ∈ ([] : List Nat))) l=l:=by
  refine List.ext_getElem? fun i=>?_
  rw [fixT_at]
  rcases l[i]? with _ | x
  · rfl
  · simp
theorem fix_two {P : Nat→Bool} {l : List TH} (h : ∀ x,x ∈ l→x.o.l.length≤2) : ∀ x,x ∈ fixT P l→x.o.l.length≤2:=fun x hx=>by
  obtain ⟨i,hi,he⟩:=List.mem_iff_getElem.1 hx
  have h2:=List.getElem?_eq_getElem hi
  rw [he,fixT_at] at h2
  rcases hl : l[i]? with _ | y
  · rw [hl] at h2; cases h2
  · rw [hl] at h2
    simp only [Option.map_some,Option.some.injEq] at h2
    have hy:=h y (List.mem_of_getElem? hl)
    split at h2
    · rw [← h2]; exact Nat.zero_le _
    · rw [← h2]; exact hy
theorem infoTH46 : Info Tryz.prog 53 (.agg #[.bool false,.string ByteArray.empty,.int .i64 0,.slice none 0 0]) 4 56:=info_mk (by kernel_rfl) rfl
theorem ThsAt.drewW {w : World} {s : Sl TH} (h : ThsAt (· < w.heap.size) w s) : ThsAt (· < w.drew.heap.size) w.drew s:=h.keep (fun _ _=>rfl) (fun _ h=>h)
theorem things_fix {F : Nat→Prop} {w : World} {A : Option Addr} {c : Nat} {l : List TH} (P : Nat→Bool) (hr : Rd F 4 TH.enc w ⟨A,c,fixT P l⟩) (h : ∀ x,x ∈ l→TH.At F w x) : ThsAt F w ⟨A,c,fixT P l⟩:=⟨hr,fun x hx=>by
  obtain ⟨i,hi,he⟩:=List.mem_iff_getElem.1 hx
  simp only at he hi
  have h2:=List.getElem?_eq_getElem hi
  rw [he,fixT_at] at h2
  rcases hl : l[i]? with _ | y
  · rw [hl] at h2; cases h2
  · rw [hl] at h2
    simp only [Option.map_some,Option.some.injEq] at h2
    have hy:=h y (List.mem_of_getElem? hl)
    split at h2
    · rw [← h2]; exact ⟨hy.nm,Rd.nil _ _ _ _⟩
    · rw [← h2]; exact hy⟩
theorem whymeets (L : Sl LT) (e : PT) (l : Sl TH) (w : World) (ht : TabW w) (hL : LetsAt (· < w.heap.size) w L) (he : PT.At (· < w.heap.size) w e) (hl : ThsAt (· < w.heap.size) w l) :
    Calls Tryz.prog 7 #[.slice L.A L.l.length L.c,e.v,.slice l.A l.l.length l.c] w fun r w'=>r = .returned (.bool true)∧Below w.heap.size w w':=by
  have HT:=Lib.hid ht
  have HL:=Lib.hid hL
  have HE:=Lib.hid he
  have HLL:=Lib.hid hl
  clear ht hL he hl
  obtain ⟨LA,Lc,L⟩:=L
  obtain ⟨A,c,l⟩:=l
  simp only
  have hev : ∃ ex : Array Value,e.v = .agg ex∧ex.size=5:=by
    obtain ⟨o,n,u,s,xA,xc,xl⟩:=e
    exact ⟨_,rfl,rfl⟩
  obtain ⟨ex,hev,hez⟩:=hev
  rw [hev]
  have HEV:=Lib.hid hev
  have HEZ:=Lib.hid hez
  clear hev hez
  go_enter Tryz.func7,Tryz.ntmps7
  go_wp2_with fail
  have hb1 : Below w.heap.size w (w.alloc (.cells ex 25)):=(Below.refl _ _).alloc (Nat.le_refl _) _
  have hx1 : Blk (w.alloc (.cells ex 25)) w.heap.size 25 ex:=Blk.new _ _ _
  generalize (w.alloc (.cells ex 25))=w1 at *
  refine (small_46 w1 (HT.out.later hb1)).mono ?_
  rintro r w2 ⟨rfl,hb2⟩
  have HB:=Lib.hid (hb1.trans (hb2.mono hb1.size))
  have HXE:=Lib.hid (hx1.later hb2)
  clear hb1 hx1 hb2
  go_wp2_with (refine wpList_store_row rfl 29 (.tmp 8) (.tmp 25) rfl w2.heap.size #[.string ⟨#[]⟩,.slice LA L.length Lc,.int .i64 0,.int .i64 0,.int .i64 0,.string ⟨#[]⟩,.slice none 0 0,.int .i64 0,.int .i64 0,.int .i64 0,.string ⟨#[]⟩,.slice none 0 0,.int .i64 0,.int .i64 0,.int .i64 0,.string ⟨#[]⟩,.slice none 0 0,.int .i64 0,.int .i64 0,.int .i64 0,.string ⟨#[]⟩,.slice none 0 0,.int .i64 0,.int .i64 0,.int .i64 0] rfl rfl 29 _ (Blk.new w2 29 #[.string ⟨#[]⟩,.slice none 0 0,.int .i64 0,.int .i64 0,.int .i64 0,.string ⟨#[]⟩,.slice none 0 0,.int .i64 0,.int .i64 0,.int .i64 0,.string ⟨#[]⟩,.slice none 0 0,.int .i64 0,.int .i64 0,.int .i64 0,.string ⟨#[]⟩,.slice none 0 0,.int .i64 0,.int .i64 0,.int .i64 0,.string ⟨#[]⟩,.slice none 0 0,.int .i64 0,.int .i64 0,.int .i64 0]) (by kernel_rfl) rfl (by kernel_rfl) ?_; apply Hid.out)
  have hr:=setRow_heap (w2.alloc (.cells #[.string ⟨#[]⟩,.slice none 0 0,.int .i64 0,.int .i64 0,.int .i64 0,.string ⟨#[]⟩,.slice none 0 0,.int .i64 0,.int .i64 0,.int .i64 0,.string ⟨#[]⟩,.slice none 0 0,.int .i64 0,.int .i64 0,.int .i64 0,.string ⟨#[]⟩,.slice none 0 0,.int .i64 0,.int .i64 0,.int .i64 0,.string ⟨#[]⟩,.slice none 0 0,.int .i64 0,.int .i64 0,.int .i64 0] 29)) w2.heap.size #[.string ⟨#[]⟩,.slice none 0 0,.int .i64 0,.int .i64 0,.int .i64 0,.string ⟨#[]⟩,.slice none 0 0,.int .i64 0,.int .i64 0,.int .i64 0,.string ⟨#[]⟩,.slice none 0 0,.int .i64 0,.int .i64 0,.int .i64 0,.string ⟨#[]⟩,.slice none 0 0,.int .i64 0,.int .i64 0,.int .i64 0,.string ⟨#[]⟩,.slice none 0 0,.int .i64 0,.int .i64 0,.int .i64 0] #[.string ⟨#[]⟩,.slice LA L.length Lc,.int .i64 0,.int .i64 0,.int .i64 0,.string ⟨#[]⟩,.slice none 0 0,.int .i64 0,.int .i64 0,.int .i64 0,.string ⟨#[]⟩,.slice none 0 0,.int .i64 0,.int .i64 0,.int .i64 0,.string ⟨#[]⟩,.slice none 0 0,.int .i64 0,.int .i64 0,.int .i64 0,.string ⟨#[]⟩,.slice none 0 0,.int .i64 0,.int .i64 0,.int .i64 0] 29 (0,0) (Blk.new w2 29 #[.string ⟨#[]⟩,.slice none 0 0,.int .i64 0,.int .i64 0,.int .i64 0,.string ⟨#[]⟩,.slice none 0 0,.int .i64 0,.int .i64 0,.int .i64 0,.string ⟨#[]⟩,.slice none 0 0,.int .i64 0,.int .i64 0,.int .i64 0,.string ⟨#[]⟩,.slice none 0 0,.int .i64 0,.int .i64 0,.int .i64 0,.string ⟨#[]⟩,.slice none 0 0,.int .i64 0,.int .i64 0,.int .i64 0])
  have hx : Blk ((w2.alloc (.cells #[.string ⟨#[]⟩,.slice none 0 0,.int .i64 0,.int .i64 0,.int .i64 0,.string ⟨#[]⟩,.slice none 0 0,.int .i64 0,.int .i64 0,.int .i64 0,.string ⟨#[]⟩,.slice none 0 0,.int .i64 0,.int .i64 0,.int .i64 0,.string ⟨#[]⟩,.slice none 0 0,.int .i64 0,.int .i64 0,.int .i64 0,.string ⟨#[]⟩,.slice none 0 0,.int .i64 0,.int .i64 0,.int .i64 0] 29)).setRow w2.heap.size #[.string ⟨#[]⟩,.slice LA L.length Lc,.int .i64 0,.int .i64 0,.int .i64 0,.string ⟨#[]⟩,.slice none 0 0,.int .i64 0,.int .i64 0,.int .i64 0,.string ⟨#[]⟩,.slice none 0 0,.int .i64 0,.int .i64 0,.int .i64 0,.string ⟨#[]⟩,.slice none 0 0,.int .i64 0,.int .i64 0,.int .i64 0,.string ⟨#[]⟩,.slice none 0 0,.int .i64 0,.int .i64 0,.int .i64 0]) w2.heap.size 29 #[.string ⟨#[]⟩,.slice LA L.length Lc,.int .i64 0,.int .i64 0,.int .i64 0,.string ⟨#[]⟩,.slice none 0 0,.int .i64 0,.int .i64 0,.int .i64 0,.string ⟨#[]⟩,.slice none 0 0,.int .i64 0,.int .i64 0,.int .i64 0,.string ⟨#[]⟩,.slice none 0 0,.int .i64 0,.int .i64 0,.int .i64 0,.string ⟨#[]⟩,.slice none 0 0,.int .i64 0,.int .i64 0,.int .i64 0]:=hr
  have hb : Below w2.heap.size w2 ((w2.alloc (.cells #[.string ⟨#[]⟩,.slice none 0 0,.int .i64 0,.int .i64 0,.int .i64 0,.string ⟨#[]⟩,.slice none 0 0,.int .i64 0,.int .i64 0,.int .i64 0,.string ⟨#[]⟩,.slice none 0 0,.int .i64 0,.int .i64 0,.int .i64 0,.string ⟨#[]⟩,.slice none 0 0,.int .i64 0,.int .i64 0,.int .i64 0,.string ⟨#[]⟩,.slice none 0 0,.int .i64 0,.int .i64 0,.int .i64 0] 29)).setRow w2.heap.size #[.string ⟨#[]⟩,.slice LA L.length Lc,.int .i64 0,.int .i64 0,.int .i64 0,.string ⟨#[]⟩,.slice none 0 0,.int .i64 0,.int .i64 0,.int .i64 0,.string ⟨#[]⟩,.slice none 0 0,.int .i64 0,.int .i64 0,.int .i64 0,.string ⟨#[]⟩,.slice none 0 0,.int .i64 0,.int .i64 0,.int .i64 0,.string ⟨#[]⟩,.slice none 0 0,.int .i64 0,.int .i64 0,.int .i64 0]):=((Below.refl _ _).alloc (Nat.le_refl _) _).trans (row_belowW (Nat.le_refl _))
  have hbv : (bylW ⟨LA,Lc,L⟩).v = .agg #[.string ⟨#[]⟩,.slice LA L.length Lc,.int .i64 0,.int .i64 0,.int .i64 0,.string ⟨#[]⟩,.slice none 0 0,.int .i64 0,.int .i64 0,.int .i64 0,.string ⟨#[]⟩,.slice none 0 0,.int .i64 0,.int .i64 0,.int .i64 0,.string ⟨#[]⟩,.slice none 0 0,.int .i64 0,.int .i64 0,.int .i64 0,.string ⟨#[]⟩,.slice none 0 0,.int .i64 0,.int .i64 0,.int .i64 0]:=rfl
  have hs : (#[.string ⟨#[]⟩,.slice LA L.length Lc,.int .i64 0,.int .i64 0,.int .i64 0,.string ⟨#[]⟩,.slice none 0 0,.int .i64 0,.int .i64 0,.int .i64 0,.string ⟨#[]⟩,.slice none 0 0,.int .i64 0,.int .i64 0,.int .i64 0,.string ⟨#[]⟩,.slice none 0 0,.int .i64 0,.int .i64 0,.int .i64 0,.string ⟨#[]⟩,.slice none 0 0,.int .i64 0,.int .i64 0,.int .i64 0] : Array Value).size=25:=rfl
  generalize ((w2.alloc (.cells #[.string ⟨#[]⟩,.slice none 0 0,.int .i64 0,.int .i64 0,.int .i64 0,.string ⟨#[]⟩,.slice none 0 0,.int .i64 0,.int .i64 0,.int .i64 0,.string ⟨#[]⟩,.slice none 0 0,.int .i64 0,.int .i64 0,.int .i64 0,.string ⟨#[]⟩,.slice none 0 0,.int .i64 0,.int .i64 0,.int .i64 0,.string ⟨#[]⟩,.slice none 0 0,.int .i64 0,.int .i64 0,.int .i64 0] 29)).setRow w2.heap.size #[.string ⟨#[]⟩,.slice LA L.length Lc,.int .i64 0,.int .i64 0,.int .i64 0,.string ⟨#[]⟩,.slice none 0 0,.int .i64 0,.int .i64 0,.int .i64 0,.string ⟨#[]⟩,.slice none 0 0,.int .i64 0,.int .i64 0,.int .i64 0,.string ⟨#[]⟩,.slice none 0 0,.int .i64 0,.int .i64 0,.int .i64 0,.string ⟨#[]⟩,.slice none 0 0,.int .i64 0,.int .i64 0,.int .i64 0])=w3 at *
  obtain ⟨cs,hcs⟩ : ∃ z : Array Value,#[.string ⟨#[]⟩,.slice LA L.length Lc,.int .i64 0,.int .i64 0,.int .i64 0,.string ⟨#[]⟩,.slice none 0 0,.int .i64 0,.int .i64 0,.int .i64 0,.string ⟨#[]⟩,.slice none 0 0,.int .i64 0,.int .i64 0,.int .i64 0,.string ⟨#[]⟩,.slice none 0 0,.int .i64 0,.int .i64 0,.int .i64 0,.string ⟨#[]⟩,.slice none 0 0,.int .i64 0,.int .i64 0,.int .i64 0]=z:=⟨_,rfl⟩
  rw [hcs] at hx hbv hs ⊢
  clear hr hcs
  have HXB:=Lib.hid hx
  have HBV:=Lib.hid hbv
  have HSZ:=Lib.hid hs
  replace HXE:=Lib.hid (HXE.out.later hb)
  replace HB:=Lib.hid (HB.out.trans (hb.mono HB.out.size))
  clear hx hb hbv hs
  generalize w2.heap.size=g8 at *
  refine Lib.hid ?_
  go_wp2_with (first
    | (refine wpList_load_row rfl 29 (.tmp 8) rfl g8 rfl 29 cs (0,0) _ HXB.out Tryz.underlying29 rfl (by rw [HSZ.out]; kernel_rfl) ?_)
    | (refine wpList_load_row rfl 25 (.tmp 4) rfl w.heap.size rfl 25 ex (0,0) _ HXE.out Tryz.underlying25 rfl (by rw [HEZ.out]; kernel_rfl) ?_))
  have hfew:=few_46 (bylW ⟨LA,Lc,L⟩) e ⟨A,c,l⟩ w3 (bylW_at (HL.out.later HB.out)) (HE.out.later HB.out) (HLL.out.later HB.out)
  rw [HBV.out,HEV.out] at hfew
  refine hfew.mono ?_
  clear hfew
  unfold FewP46
  rintro r w4 ⟨t,rfl,htf,hb4⟩
  replace HXB:=Lib.hid (HXB.out.later hb4)
  replace HXE:=Lib.hid (HXE.out.later hb4)
  replace HB:=Lib.hid (HB.out.trans (hb4.mono HB.out.size))
  have HTF:=Lib.hid htf
  clear hb4 htf
  rcases t with _ | _
  · go_wp2_with fail
    go_ret
    exact ⟨rfl,HB.out⟩
  obtain ⟨hL3,h4,h2⟩:=HTF.out rfl
  have H2:=Lib.hid h2
  clear h2 HTF hL3
  have HCV:=Lib.hid (fun (B : Option Addr) (d : Nat) (W : World) (m : List TH) (hW : Below w.heap.size w W) (hm : ThsAt (· < W.heap.size) W ⟨B,d,m⟩) (hm4 : m.length≤4) (hm2 : ∀ x,x ∈ m→x.o.l.length≤2)=>HBV.out ▸ HEV.out ▸ why_Why (bylW ⟨LA,Lc,L⟩) e ⟨B,d,m⟩ W (HT.out.later hW) (bylW_at (HL.out.later hW)) (HE.out.later hW) hm hm4 hm2)
  have HCO:=Lib.hid (fun (B : Option Addr) (d : Nat) (W : World) (m : List TH) (hW : Below w.heap.size w W) (hm : ThsAt (· < W.heap.size) W ⟨B,d,m⟩) (hm4 : m.length≤4) (hm2 : ∀ x,x ∈ m→x.o.l.length≤2)=>HBV.out ▸ HEV.out ▸ why_Otherwise (bylW ⟨LA,Lc,L⟩) e ⟨B,d,m⟩ W (HT.out.later hW) (bylW_at (HL.out.later hW)) (HE.out.later hW) hm hm4 hm2)
  have hll : (bylW ⟨LA,Lc,L⟩).lets.l=L:=rfl
  simp only [hll] at HCV HCO
  clear hll
  go_wp2_with fail
  refine wp_region_T (fun W=>Blk W g8 29 cs∧Blk W w.heap.size 25 ex) (fun _=>false) (by kernel_rfl) ⟨HXB.out.drew,HXE.out.drew⟩ (fun hHeld=>?_)
  refine wpAnyT_take2 (i:=0) (v:=.agg cs) rfl rfl (by kernel_rfl) (by kernel_rfl) (by kernel_rfl) (by kernel_rfl) (fun _ _ _ h=>h) (yl_row (by rfl) 29 (.tmp 8) rfl g8 rfl cs 29 _ (fun W h=>h.1) Tryz.underlying29 rfl (by rw [HSZ.out]; kernel_rfl)) hHeld ?_
  simp only [qsa,qsb,qsc]
  refine wpAnyT_take2 (i:=1) (v:=.agg ex) rfl rfl (by kernel_rfl) (by kernel_rfl) (by kernel_rfl) (by kernel_rfl) (fun _ _ _ h=>h) (yl_row (by rfl) 25 (.tmp 4) rfl w.heap.size rfl ex 25 _ (fun W h=>h.2) Tryz.underlying25 rfl (by rw [HEZ.out]; kernel_rfl)) hHeld ?_
  simp only [qsa,qsb,qsc]
  refine qtq 2 ?_
  simp only [qsa,qsb,qsc]
  clear hHeld
  refine wpAnyT_next (i:=3) (by kernel_rfl) rfl ?_
  go_wp2_with fail
  refine (law_things ⟨A,c,l⟩ _ (HLL.out.later HB.out.drew) h4).mono ?_
  unfold ThP
  rintro r va ⟨B,d,rfl,hth,hb1⟩
  have HQ : Hid (Below w4.heap.size w4 va):=Lib.hid (((Below.refl w4.heap.size w4).drew).trans hb1)
  have HXBa:=Lib.hid (HXB.out.later HQ.out)
  have HXEa:=Lib.hid (HXE.out.later HQ.out)
  have HTH:=Lib.hid hth
  clear hth hb1
  go_wp2_with fail
  refine And.intro (by first | exact fun _=>⟨HXBa.out,HXEa.out⟩ | exact ⟨HXBa.out,HXEa.out⟩) ?_
  refine wpAnyT_next (i:=4) (by kernel_rfl) rfl ?_
  go_wp2_with fail
  have hc:=HCV.out B d va l (HB.out.trans (HQ.out.mono HB.out.size)) HTH.out h4 H2.out
  try simp only at hc
  refine hc.mono ?_
  clear hc
  unfold WhyP
  rintro r w5 ⟨hb3,xA,xc,rfl,hx0⟩
  have HQ3:=Lib.hid (HQ.out.trans (hb3.mono HQ.out.size))
  have HXBc:=Lib.hid (HXB.out.later HQ3.out)
  have HXEc:=Lib.hid (HXE.out.later HQ3.out)
  have HOX:=Lib.hid hx0
  clear hb3 HTH HXBa HXEa hx0
  go_wp2_with fail
  refine And.intro (by first | exact fun _=>⟨HXBc.out,HXEc.out⟩ | exact ⟨HXBc.out,HXEc.out⟩) ?_
  have hHeld:=And.intro HXBc.out HXEc.out
  refine qtq 5 ?_
  simp only [qsa,qsb,qsc]
  refine qtq 6 ?_
  simp only [qsa,qsb,qsc]
  refine qtq 7 ?_
  simp only [qsa,qsb,qsc]
  refine qtq 8 ?_
  simp only [qsa,qsb,qsc]
  refine qtq 9 ?_
  simp only [qsa,qsb,qsc]
  refine wpAnyT_done (by kernel_rfl) ?_ _
  clear hHeld
  replace HB:=Lib.hid (HB.out.trans (HQ3.out.mono HB.out.size))
  replace HXB:=HXBc
  replace HXE:=HXEc
  clear HQ HQ3 HXBc HXEc
  go_wp2_with fail
  refine wp_region_T (fun W=>Blk W g8 29 cs∧Blk W w.heap.size 25 ex) (fun _=>false) (by kernel_rfl) ⟨HXB.out.drew,HXE.out.drew⟩ (fun hHeld=>?_)
  refine wpAnyT_take2 (i:=0) (v:=.agg cs) rfl rfl (by kernel_rfl) (by kernel_rfl) (by kernel_rfl) (by kernel_rfl) (fun _ _ _ h=>h) (yl_row (by rfl) 29 (.tmp 8) rfl g8 rfl cs 29 _ (fun W h=>h.1) Tryz.underlying29 rfl (by rw [HSZ.out]; kernel_rfl)) hHeld ?_
  simp only [qsa,qsb,qsc]
  refine wpAnyT_take2 (i:=1) (v:=.agg ex) rfl rfl (by kernel_rfl) (by kernel_rfl) (by kernel_rfl) (by kernel_rfl) (fun _ _ _ h=>h) (yl_row (by rfl) 25 (.tmp 4) rfl w.heap.size rfl ex 25 _ (fun W h=>h.2) Tryz.underlying25 rfl (by rw [HEZ.out]; kernel_rfl)) hHeld ?_
  simp only [qsa,qsb,qsc]
  refine qtq 2 ?_
  simp only [qsa,qsb,qsc]
  clear hHeld
  refine wpAnyT_next (i:=3) (by kernel_rfl) rfl ?_
  go_wp2_with fail
  refine (law_things ⟨A,c,l⟩ _ (HLL.out.later HB.out.drew) h4).mono ?_
  unfold ThP
  rintro r va ⟨B,d,rfl,hth,hb1⟩
  have HQ : Hid (Below w5.heap.size w5 va):=Lib.hid (((Below.refl w5.heap.size w5).drew).trans hb1)
  have HXBa:=Lib.hid (HXB.out.later HQ.out)
  have HXEa:=Lib.hid (HXE.out.later HQ.out)
  have HTH:=Lib.hid hth
  clear hth hb1
  go_wp2_with fail
  refine And.intro (by first | exact fun _=>⟨HXBa.out,HXEa.out⟩ | exact ⟨HXBa.out,HXEa.out⟩) ?_
  refine wpAnyT_next (i:=4) (by kernel_rfl) rfl ?_
  go_wp2_with fail
  have hc:=HCO.out B d va l (HB.out.trans (HQ.out.mono HB.out.size)) HTH.out h4 H2.out
  try simp only at hc
  refine hc.mono ?_
  clear hc
  unfold OthP
  rintro r w6 ⟨hb3,yA,yc,vA,vc,rfl,hy0,hv0⟩
  have HQ3:=Lib.hid (HQ.out.trans (hb3.mono HQ.out.size))
  have HXBc:=Lib.hid (HXB.out.later HQ3.out)
  have HXEc:=Lib.hid (HXE.out.later HQ3.out)
  replace HOX:=Lib.hid (HOX.out.below HQ3.out)
  have HOY:=Lib.hid hy0
  clear hb3 HTH HXBa HXEa hy0 hv0
  go_wp2_with fail
  refine And.intro (by first | exact fun _=>⟨HXBc.out,HXEc.out⟩ | exact ⟨HXBc.out,HXEc.out⟩) ?_
  have hHeld:=And.intro HXBc.out HXEc.out
  refine qtq 5 ?_
  simp only [qsa,qsb,qsc]
  refine qtq 6 ?_
  simp only [qsa,qsb,qsc]
  refine qtq 7 ?_
  simp only [qsa,qsb,qsc]
  refine qtq 8 ?_
  simp only [qsa,qsb,qsc]
  refine qtq 9 ?_
  simp only [qsa,qsb,qsc]
  refine qtq 10 ?_
  simp only [qsa,qsb,qsc]
  refine qtq 11 ?_
  simp only [qsa,qsb,qsc]
  refine wpAnyT_done (by kernel_rfl) ?_ _
  clear hHeld
  replace HB:=Lib.hid (HB.out.trans (HQ3.out.mono HB.out.size))
  replace HXB:=HXBc
  replace HXE:=HXEc
  clear HQ HQ3 HXBc HXEc
  have hlt:=fun i (hi : i ∈ (WhyV L e l).1)=>why_lt hi
  have hsl:=why_len (L:=L) (e:=e) h4
  have hcl:=oth_len (L:=L) (e:=e) h4
  have hmo:=fun (h : (HolV L e l).2=0)=>meets_ok h
  have hmf : (HolV L e l).2=0→∀ P : Nat→Bool,(∀ i,i ∈ (WhyV L e l).1→P i=true)→WhyV L e (fixT P l)=([],0)∧OthV L e (fixT P l)=([],[],4):=fun h P hP=>meets_fix h fun i hi=>hP i (by
    have hw : WhyV L e l=(whyL (nsT l) (ansW L e l),0):=by unfold WhyV; rw [if_neg (fun h'=>h' h)]
    rw [hw]; exact hi)
  rw [why_er]
  simp only [intL_len]
  generalize (WhyV L e l).1=st at *
  generalize (OthV L e l).1=ch at *
  generalize (OthV L e l).2.2=g at *
  generalize (OthV L e l).2.1=vs at *
  generalize (HolV L e l).2=her at *
  have HLT:=Lib.hid hlt
  have HMO:=Lib.hid hmo
  have HMF:=Lib.hid hmf
  clear hlt hmo hmf
  by_cases h0 : her=0
  case neg =>
    have hb0 : (her != 0)=true:=by simp [h0]
    clear h0
    go_wp2_with fail
    go_ret
    exact ⟨rfl,HB.out⟩
  subst h0
  have hmo:=HMO.out rfl
  have hmf:=HMF.out rfl
  replace HMO:=Lib.hid hmo
  replace HMF:=Lib.hid hmf
  clear hmo hmf
  go_wp2_with fail
  go_loopw [14,15] (fun mv iv wr=>∃ (k : Nat),k≤ch.length∧mv = .bool ((ch.take k).any (fun i=>decide (i ∈ st)))∧iv = .int .i64 k∧Hid (Below w6.heap.size w6 wr)) (fun _ iv _=>ch.length - (intOf iv).toNat)
  case atStart=>exact ⟨0,by omega,rfl,rfl,Lib.hid (Below.refl _ _)⟩
  case round =>
    obtain ⟨k,hk,rfl,rfl,HBR⟩:=hrel
    by_cases hlt : k<ch.length
    · have HNX : Hid ((ch.take (k+1)).any (fun i=>decide (i ∈ st))=((ch.take k).any (fun i=>decide (i ∈ st)) || decide (ch[k] ∈ st))):=Lib.hid (by rw [List.take_add_one,List.getElem?_eq_getElem hlt]; simp only [Option.toList,List.any_append,List.any_cons,List.any_nil,Bool.or_false])
      obtain ⟨mb,hmb⟩ : ∃ b,(ch.take k).any (fun i=>decide (i ∈ st))=b:=⟨_,rfl⟩
      rw [hmb] at HNX ⊢
      clear hmb
      have hki : k<(intL ch).length:=by rw [intL_len]; exact hlt
      have hrd:=(HOY.out.below HBR.out).rd ienc_k
      obtain ⟨b1,o1,hA1,hb1,hc1⟩:=hrd.at1 hki
      have hii : (intL ch)[k]=((ch[k] : Nat) : Int):=by simp only [intL,List.getElem_map]
      rw [hii] at hc1
      generalize ch[k]=i at *
      simp only at hA1
      rw [Nat.mul_one] at hc1
      have g0:=Cells.c1 hc1
      subst hA1
      clear hii hc1 hrd
      have hk8 : (k : Int)<(ch.length : Int):=by omega
      have hin:=law_in ⟨xA,xc,intL st⟩ (i : Nat) wr (((HOX.out.below HBR.out).rd ienc_k).mono (fun b hb=>hb.2))
      simp only [mem_int,intL_len,List.contains_eq_mem] at hin
      have HIN:=Lib.hid hin
      clear hin
      rcases mb with _ | _
      · go_wp2_with fail
        refine HIN.out.mono ?_
        rintro r w7 ⟨rfl,hb7⟩
        have HB7:=Lib.hid (HBR.out.trans (hb7.mono HBR.out.size))
        clear HIN hb7 g0
        go_wp2_with fail
        go_roundw
        case rel=>exact ⟨k+1,by omega,by rw [HNX.out,Bool.false_or],by go_num,HB7⟩
        case measure=>simp [intOf]; omega
      · go_wp2_with fail
        go_roundw
        case rel=>exact ⟨k+1,by omega,by rw [HNX.out]; rfl,by go_num,HBR⟩
        case measure=>simp [intOf]; omega
    · have hkl : k=ch.length:=by omega
      rw [hkl,List.take_length]
      clear hlt hk hkl
      obtain ⟨m1,m2,m3⟩:=HMO.out
      have hm1 : g=0→ch.any (fun i=>decide (i ∈ st))=true:=fun h=>by
        obtain ⟨i,h1,h2⟩:=m1 h
        exact List.any_eq_true.2 ⟨i,h1,decide_eq_true h2⟩
      generalize ch.any (fun i=>decide (i ∈ st))=mb at *
      clear m1 HMO
      have hl8 : l.length≤4:=h4
      rcases m3 with rfl | rfl
      · have hmb:=hm1 rfl
        subst hmb
        have hsn : ((st.length : Int) == 0)=false:=by
          rcases st with _ | ⟨x,r⟩
          · have:=m2 rfl
            cases this
          · simp
            omega
        clear m2 hm1
        have HR0:=Lib.hid ((HLL.out.later (HB.out.trans (HBR.out.mono HB.out.size))).rd)
        have HSN:=Lib.hid hsn
        go_wp2_with (at_builtin
                     go_must (refine wpl_append_sl _ rfl (.tmp 82) (.tmp 83) _ rfl Tryz.underlying26 infoTH46 (by omega) TH.enc_k TH.enc_one ⟨some ⟨wr.heap.size,0,none⟩,0,[]⟩ ⟨A,c,l⟩ rfl rfl (Own.lit wr #[] [] (Nat.le_refl _) (Nat.zero_le _) rfl TH.enc_k) (HR0.out.lt_alloc _) (by simp [maxLen]; omega) (by simp; omega) (by simp) ?_)
                     intro A1 c1 w7 hown hg hAA)
        have HBQ : Hid (Below wr.heap.size wr w7):=Lib.hid (((Below.refl _ _).alloc (Nat.le_refl _) _).grown hg (by simp) (by simp [Value.ownBlock]))
        rw [List.nil_append] at hown
        have HO7 : Hid (Own wr.heap.size 53 4 TH.enc w7 ⟨A1,c1,fixT (fun i=>decide (i ∈ st.take 0)) l⟩):=Lib.hid (by rw [List.take_zero,fixT_none]; exact hown)
        replace HOX:=Lib.hid (HOX.out.below HBR.out)
        replace HXB:=Lib.hid (HXB.out.later HBR.out)
        replace HXE:=Lib.hid (HXE.out.later HBR.out)
        replace HB:=Lib.hid (HB.out.trans (HBR.out.mono HB.out.size))
        clear hown hg hAA HOY HBR HR0 hsn HSN
        obtain ⟨w8,hw8⟩ : ∃ z,z=wr:=⟨_,rfl⟩
        rw [← hw8] at HBQ HO7 HOX HXB HXE HB
        clear hw8
        go_loopw [17] (fun iv wq=>∃ (k : Nat),k≤st.length∧iv = .int .i64 k∧Hid (Below w8.heap.size w8 wq)∧Hid (Own w8.heap.size 53 4 TH.enc wq ⟨A1,c1,fixT (fun i=>decide (i ∈ st.take k)) l⟩)) (fun iv _=>st.length - (intOf iv).toNat)
        case atStart=>exact ⟨0,by omega,rfl,HBQ,HO7⟩
        case round =>
          clear HBQ HO7
          obtain ⟨k,hk,rfl,HBQ,HO⟩:=hrel
          by_cases hlt : k<st.length
          · have hki : k<(intL st).length:=by rw [intL_len]; exact hlt
            obtain ⟨b1,o1,hA1,hb1,hc1⟩:=((HOX.out.below HBQ.out).rd ienc_k).at1 hki
            have hii : (intL st)[k]=((st[k] : Nat) : Int):=by simp only [intL,List.getElem_map]
            rw [hii] at hc1
            have hil:=HLT.out _ (List.getElem_mem hlt)
            have htk : st.take (k+1)=st.take k ++ [st[k]]:=by rw [List.take_add_one,List.getElem?_eq_getElem hlt]; rfl
            generalize st[k]=i at *
            have hfi : i<(fixT (fun i=>decide (i ∈ st.take k)) l).length:=by rw [fixT_len]; exact hil
            have hga : ∃ ga,A1=some ⟨ga,0,none⟩∧w8.heap.size≤ga:=by
              rcases HO.out.form with ⟨_,_,h0⟩ | ⟨g',h0,h1,_⟩
              · simp only at h0; rw [h0] at hfi; simp at hfi
              · exact ⟨g',h0,h1⟩
            obtain ⟨ga,rfl,hga⟩:=hga
            obtain ⟨X,hX⟩ : ∃ X,(fixT (fun i=>decide (i ∈ st.take k)) l)[i]? = some X:=⟨_,List.getElem?_eq_getElem hfi⟩
            have hbX : bareT X=bareT l[i]:=by
              rw [fixT_at,List.getElem?_eq_getElem hil] at hX
              simp only [Option.map_some,Option.some.injEq] at hX
              rw [← hX]
              split <;> rfl
            have hnew:=HO.out.set (i:=i) (j:=3) (y:=bareT X) (u:=.slice none 0 0) TH.enc_k rfl hX (by omega) (enc_bare X)
            rw [hbX,fixT_set (Q:=fun j=>decide (j ∈ st.take (k+1))) (List.getElem?_eq_getElem hil) (fun j=>by rw [htk]; simp [Bool.decide_or])] at hnew
            have c3:=HO.out.range TH.enc_k hX 3 _ rfl
            have hfz:=fun j=>HO.out.frozen rfl j
            have HN:=Lib.hid hnew
            have HBN : Hid (Below w8.heap.size w8 (wr.setCell ⟨ga,i * 4+3,none⟩ (.slice none 0 0))):=Lib.hid (below_setr (by simp only; exact hga) HBQ.out)
            simp only at hA1
            rw [Nat.mul_one] at hc1
            have g0:=Cells.c1 hc1
            subst hA1
            clear hii hc1 hnew hbX hX
            have hk8 : (k : Int)<(st.length : Int):=by omega
            have hi8 : (i : Int)<(l.length : Int):=by omega
            have hi0 : ¬ ((i : Int)<0):=by omega
            have hi9 : ¬ ((l.length : Int)≤(i : Int)):=by omega
            go_wp2_with fail
            clear c3 hfz g0
            generalize (wr.setCell ⟨ga,i * 4+3,none⟩ (.slice none 0 0))=w10 at *
            go_roundw
            case rel=>exact ⟨k+1,by omega,by go_num,HBN,HN⟩
            case measure=>simp [intOf]; omega
          · have hkl : k=st.length:=by omega
            rw [hkl,List.take_length] at HO
            clear hlt hk
            obtain ⟨hf1,hf2⟩:=HMF.out (fun i=>decide (i ∈ st)) (fun i hi=>decide_eq_true hi)
            have hat : ThsAt (· < wr.heap.size) wr ⟨A1,c1,fixT (fun i=>decide (i ∈ st)) l⟩:=things_fix _ ((HO.out.rd TH.enc_k).mono (fun b hb=>hb.2)) (fun x hx=>(HLL.out.all x hx).later (HB.out.trans (HBQ.out.mono HB.out.size)))
            have hf2l : ∀ x,x ∈ fixT (fun i=>decide (i ∈ st)) l→x.o.l.length≤2:=fix_two H2.out
            have hfl:=fixT_len (fun i=>decide (i ∈ st)) l
            rw [← hfl]
            replace HXB:=Lib.hid (HXB.out.later HBQ.out)
            replace HXE:=Lib.hid (HXE.out.later HBQ.out)
            replace HB:=Lib.hid (HB.out.trans (HBQ.out.mono HB.out.size))
            have hfl4 : (fixT (fun i=>decide (i ∈ st)) l).length≤4:=by rw [hfl]; exact h4
            clear HO HOX HBQ hfl
            generalize fixT (fun i=>decide (i ∈ st)) l=fl at *
            have HFA:=Lib.hid hat
            have HF2:=Lib.hid hf2l
            have HF3:=Lib.hid (And.intro hf1 hf2)
            clear hat hf2l hf1 hf2
            go_wp2_with fail
            refine wp_region_T (fun W=>Blk W g8 29 cs∧Blk W w.heap.size 25 ex) (fun _=>false) (by kernel_rfl) ⟨HXB.out.drew,HXE.out.drew⟩ (fun hHeld=>?_)
            refine wpAnyT_take2 (i:=0) (v:=.agg cs) rfl rfl (by kernel_rfl) (by kernel_rfl) (by kernel_rfl) (by kernel_rfl) (fun _ _ _ h=>h) (yl_row (by rfl) 29 (.tmp 8) rfl g8 rfl cs 29 _ (fun W h=>h.1) Tryz.underlying29 rfl (by rw [HSZ.out]; kernel_rfl)) hHeld ?_
            simp only [qsa,qsb,qsc]
            refine wpAnyT_take2 (i:=1) (v:=.agg ex) rfl rfl (by kernel_rfl) (by kernel_rfl) (by kernel_rfl) (by kernel_rfl) (fun _ _ _ h=>h) (yl_row (by rfl) 25 (.tmp 4) rfl w.heap.size rfl ex 25 _ (fun W h=>h.2) Tryz.underlying25 rfl (by rw [HEZ.out]; kernel_rfl)) hHeld ?_
            simp only [qsa,qsb,qsc]
            refine qtq 2 ?_
            simp only [qsa,qsb,qsc]
            clear hHeld
            refine wpAnyT_next (i:=3) (by kernel_rfl) rfl ?_
            go_wp2_with fail
            refine (law_things ⟨A1,c1,fl⟩ _ HFA.out.drewW hfl4).mono ?_
            unfold ThP
            rintro r va ⟨B,d,rfl,hth,hb1⟩
            have HQ : Hid (Below wr.heap.size wr va):=Lib.hid (((Below.refl wr.heap.size wr).drew).trans hb1)
            have HXBa:=Lib.hid (HXB.out.later HQ.out)
            have HXEa:=Lib.hid (HXE.out.later HQ.out)
            have HTH:=Lib.hid hth
            clear hth hb1
            go_wp2_with fail
            refine And.intro (by first | exact fun _=>⟨HXBa.out,HXEa.out⟩ | exact ⟨HXBa.out,HXEa.out⟩) ?_
            refine wpAnyT_next (i:=4) (by kernel_rfl) rfl ?_
            go_wp2_with fail
            have hc:=HCV.out B d va fl (HB.out.trans (HQ.out.mono HB.out.size)) HTH.out hfl4 HF2.out
            rw [HF3.out.1] at hc
            try simp only at hc
            refine hc.mono ?_
            clear hc
            unfold WhyP
            rintro r w9 ⟨hb3,xA,xc,rfl,hx0⟩
            have HQ3:=Lib.hid (HQ.out.trans (hb3.mono HQ.out.size))
            have HXBc:=Lib.hid (HXB.out.later HQ3.out)
            have HXEc:=Lib.hid (HXE.out.later HQ3.out)
            clear hb3 HTH HXBa HXEa hx0
            go_wp2_with fail
            refine And.intro (by first | exact fun _=>⟨HXBc.out,HXEc.out⟩ | exact ⟨HXBc.out,HXEc.out⟩) ?_
            have hHeld:=And.intro HXBc.out HXEc.out
            refine qtq 5 ?_
            simp only [qsa,qsb,qsc]
            refine qtq 6 ?_
            simp only [qsa,qsb,qsc]
            refine qtq 7 ?_
            simp only [qsa,qsb,qsc]
            refine qtq 8 ?_
            simp only [qsa,qsb,qsc]
            refine qtq 9 ?_
            simp only [qsa,qsb,qsc]
            refine wpAnyT_done (by kernel_rfl) ?_ _
            clear hHeld
            replace HB:=Lib.hid (HB.out.trans (HQ3.out.mono HB.out.size))
            replace HXB:=HXBc
            replace HXE:=HXEc
            replace HFA:=Lib.hid (HFA.out.later HQ3.out)
            clear HQ HQ3 HXBc HXEc
            go_wp2_with fail
            refine wp_region_T (fun W=>Blk W g8 29 cs∧Blk W w.heap.size 25 ex) (fun _=>false) (by kernel_rfl) ⟨HXB.out.drew,HXE.out.drew⟩ (fun hHeld=>?_)
            refine wpAnyT_take2 (i:=0) (v:=.agg cs) rfl rfl (by kernel_rfl) (by kernel_rfl) (by kernel_rfl) (by kernel_rfl) (fun _ _ _ h=>h) (yl_row (by rfl) 29 (.tmp 8) rfl g8 rfl cs 29 _ (fun W h=>h.1) Tryz.underlying29 rfl (by rw [HSZ.out]; kernel_rfl)) hHeld ?_
            simp only [qsa,qsb,qsc]
            refine wpAnyT_take2 (i:=1) (v:=.agg ex) rfl rfl (by kernel_rfl) (by kernel_rfl) (by kernel_rfl) (by kernel_rfl) (fun _ _ _ h=>h) (yl_row (by rfl) 25 (.tmp 4) rfl w.heap.size rfl ex 25 _ (fun W h=>h.2) Tryz.underlying25 rfl (by rw [HEZ.out]; kernel_rfl)) hHeld ?_
            simp only [qsa,qsb,qsc]
            refine qtq 2 ?_
            simp only [qsa,qsb,qsc]
            clear hHeld
            refine wpAnyT_next (i:=3) (by kernel_rfl) rfl ?_
            go_wp2_with fail
            refine (law_things ⟨A1,c1,fl⟩ _ HFA.out.drewW hfl4).mono ?_
            unfold ThP
            rintro r va ⟨B,d,rfl,hth,hb1⟩
            have HQ : Hid (Below w9.heap.size w9 va):=Lib.hid (((Below.refl w9.heap.size w9).drew).trans hb1)
            have HXBa:=Lib.hid (HXB.out.later HQ.out)
            have HXEa:=Lib.hid (HXE.out.later HQ.out)
            have HTH:=Lib.hid hth
            clear hth hb1
            go_wp2_with fail
            refine And.intro (by first | exact fun _=>⟨HXBa.out,HXEa.out⟩ | exact ⟨HXBa.out,HXEa.out⟩) ?_
            refine wpAnyT_next (i:=4) (by kernel_rfl) rfl ?_
            go_wp2_with fail
            have hc:=HCO.out B d va fl (HB.out.trans (HQ.out.mono HB.out.size)) HTH.out hfl4 HF2.out
            rw [HF3.out.2] at hc
            try simp only at hc
            refine hc.mono ?_
            clear hc
            unfold OthP
            rintro r w10 ⟨hb3,yA,yc,vA,vc,rfl,hy0,hv0⟩
            have HQ3:=Lib.hid (HQ.out.trans (hb3.mono HQ.out.size))
            have HXBc:=Lib.hid (HXB.out.later HQ3.out)
            have HXEc:=Lib.hid (HXE.out.later HQ3.out)
            clear hb3 HTH HXBa HXEa hy0 hv0
            go_wp2_with fail
            refine And.intro (by first | exact fun _=>⟨HXBc.out,HXEc.out⟩ | exact ⟨HXBc.out,HXEc.out⟩) ?_
            have hHeld:=And.intro HXBc.out HXEc.out
            refine qtq 5 ?_
            simp only [qsa,qsb,qsc]
            refine qtq 6 ?_
            simp only [qsa,qsb,qsc]
            refine qtq 7 ?_
            simp only [qsa,qsb,qsc]
            refine qtq 8 ?_
            simp only [qsa,qsb,qsc]
            refine qtq 9 ?_
            simp only [qsa,qsb,qsc]
            refine qtq 10 ?_
            simp only [qsa,qsb,qsc]
            refine qtq 11 ?_
            simp only [qsa,qsb,qsc]
            refine wpAnyT_done (by kernel_rfl) ?_ _
            clear hHeld
            replace HB:=Lib.hid (HB.out.trans (HQ3.out.mono HB.out.size))
            replace HXB:=HXBc
            replace HXE:=HXEc
            clear HQ HQ3 HXBc HXEc
            go_wp2_with fail
            go_ret
            exact ⟨rfl,HB.out⟩
      · by_cases hs0 : st=[]
        · have hsn : ((st.length : Int) == 0)=true:=by rw [hs0]; rfl
          clear m2 hm1 hs0
          have HR0:=Lib.hid ((HLL.out.later (HB.out.trans (HBR.out.mono HB.out.size))).rd)
          have HSN:=Lib.hid hsn
          go_wp2_with (at_builtin
                       go_must (refine wpl_append_sl _ rfl (.tmp 82) (.tmp 83) _ rfl Tryz.underlying26 infoTH46 (by omega) TH.enc_k TH.enc_one ⟨some ⟨wr.heap.size,0,none⟩,0,[]⟩ ⟨A,c,l⟩ rfl rfl (Own.lit wr #[] [] (Nat.le_refl _) (Nat.zero_le _) rfl TH.enc_k) (HR0.out.lt_alloc _) (by simp [maxLen]; omega) (by simp; omega) (by simp) ?_)
                       intro A1 c1 w7 hown hg hAA)
          have HBQ : Hid (Below wr.heap.size wr w7):=Lib.hid (((Below.refl _ _).alloc (Nat.le_refl _) _).grown hg (by simp) (by simp [Value.ownBlock]))
          rw [List.nil_append] at hown
          have HO7 : Hid (Own wr.heap.size 53 4 TH.enc w7 ⟨A1,c1,fixT (fun i=>decide (i ∈ st.take 0)) l⟩):=Lib.hid (by rw [List.take_zero,fixT_none]; exact hown)
          replace HOX:=Lib.hid (HOX.out.below HBR.out)
          replace HXB:=Lib.hid (HXB.out.later HBR.out)
          replace HXE:=Lib.hid (HXE.out.later HBR.out)
          replace HB:=Lib.hid (HB.out.trans (HBR.out.mono HB.out.size))
          clear hown hg hAA HOY HBR HR0 hsn HSN
          obtain ⟨w8,hw8⟩ : ∃ z,z=wr:=⟨_,rfl⟩
          rw [← hw8] at HBQ HO7 HOX HXB HXE HB
          clear hw8
          go_loopw [17] (fun iv wq=>∃ (k : Nat),k≤st.length∧iv = .int .i64 k∧Hid (Below w8.heap.size w8 wq)∧Hid (Own w8.heap.size 53 4 TH.enc wq ⟨A1,c1,fixT (fun i=>decide (i ∈ st.take k)) l⟩)) (fun iv _=>st.length - (intOf iv).toNat)
          case atStart=>exact ⟨0,by omega,rfl,HBQ,HO7⟩
          case round =>
            clear HBQ HO7
            obtain ⟨k,hk,rfl,HBQ,HO⟩:=hrel
            by_cases hlt : k<st.length
            · have hki : k<(intL st).length:=by rw [intL_len]; exact hlt
              obtain ⟨b1,o1,hA1,hb1,hc1⟩:=((HOX.out.below HBQ.out).rd ienc_k).at1 hki
              have hii : (intL st)[k]=((st[k] : Nat) : Int):=by simp only [intL,List.getElem_map]
              rw [hii] at hc1
              have hil:=HLT.out _ (List.getElem_mem hlt)
              have htk : st.take (k+1)=st.take k ++ [st[k]]:=by rw [List.take_add_one,List.getElem?_eq_getElem hlt]; rfl
              generalize st[k]=i at *
              have hfi : i<(fixT (fun i=>decide (i ∈ st.take k)) l).length:=by rw [fixT_len]; exact hil
              have hga : ∃ ga,A1=some ⟨ga,0,none⟩∧w8.heap.size≤ga:=by
                rcases HO.out.form with ⟨_,_,h0⟩ | ⟨g',h0,h1,_⟩
                · simp only at h0; rw [h0] at hfi; simp at hfi
                · exact ⟨g',h0,h1⟩
              obtain ⟨ga,rfl,hga⟩:=hga
              obtain ⟨X,hX⟩ : ∃ X,(fixT (fun i=>decide (i ∈ st.take k)) l)[i]? = some X:=⟨_,List.getElem?_eq_getElem hfi⟩
              have hbX : bareT X=bareT l[i]:=by
                rw [fixT_at,List.getElem?_eq_getElem hil] at hX
                simp only [Option.map_some,Option.some.injEq] at hX
                rw [← hX]
                split <;> rfl
              have hnew:=HO.out.set (i:=i) (j:=3) (y:=bareT X) (u:=.slice none 0 0) TH.enc_k rfl hX (by omega) (enc_bare X)
              rw [hbX,fixT_set (Q:=fun j=>decide (j ∈ st.take (k+1))) (List.getElem?_eq_getElem hil) (fun j=>by rw [htk]; simp [Bool.decide_or])] at hnew
              have c3:=HO.out.range TH.enc_k hX 3 _ rfl
              have hfz:=fun j=>HO.out.frozen rfl j
              have HN:=Lib.hid hnew
              have HBN : Hid (Below w8.heap.size w8 (wr.setCell ⟨ga,i * 4+3,none⟩ (.slice none 0 0))):=Lib.hid (below_setr (by simp only; exact hga) HBQ.out)
              simp only at hA1
              rw [Nat.mul_one] at hc1
              have g0:=Cells.c1 hc1
              subst hA1
              clear hii hc1 hnew hbX hX
              have hk8 : (k : Int)<(st.length : Int):=by omega
              have hi8 : (i : Int)<(l.length : Int):=by omega
              have hi0 : ¬ ((i : Int)<0):=by omega
              have hi9 : ¬ ((l.length : Int)≤(i : Int)):=by omega
              go_wp2_with fail
              clear c3 hfz g0
              generalize (wr.setCell ⟨ga,i * 4+3,none⟩ (.slice none 0 0))=w10 at *
              go_roundw
              case rel=>exact ⟨k+1,by omega,by go_num,HBN,HN⟩
              case measure=>simp [intOf]; omega
            · have hkl : k=st.length:=by omega
              rw [hkl,List.take_length] at HO
              clear hlt hk
              obtain ⟨hf1,hf2⟩:=HMF.out (fun i=>decide (i ∈ st)) (fun i hi=>decide_eq_true hi)
              have hat : ThsAt (· < wr.heap.size) wr ⟨A1,c1,fixT (fun i=>decide (i ∈ st)) l⟩:=things_fix _ ((HO.out.rd TH.enc_k).mono (fun b hb=>hb.2)) (fun x hx=>(HLL.out.all x hx).later (HB.out.trans (HBQ.out.mono HB.out.size)))
              have hf2l : ∀ x,x ∈ fixT (fun i=>decide (i ∈ st)) l→x.o.l.length≤2:=fix_two H2.out
              have hfl:=fixT_len (fun i=>decide (i ∈ st)) l
              rw [← hfl]
              replace HXB:=Lib.hid (HXB.out.later HBQ.out)
              replace HXE:=Lib.hid (HXE.out.later HBQ.out)
              replace HB:=Lib.hid (HB.out.trans (HBQ.out.mono HB.out.size))
              have hfl4 : (fixT (fun i=>decide (i ∈ st)) l).length≤4:=by rw [hfl]; exact h4
              clear HO HOX HBQ hfl
              generalize fixT (fun i=>decide (i ∈ st)) l=fl at *
              have HFA:=Lib.hid hat
              have HF2:=Lib.hid hf2l
              have HF3:=Lib.hid (And.intro hf1 hf2)
              clear hat hf2l hf1 hf2
              go_wp2_with fail
              refine wp_region_T (fun W=>Blk W g8 29 cs∧Blk W w.heap.size 25 ex) (fun _=>false) (by kernel_rfl) ⟨HXB.out.drew,HXE.out.drew⟩ (fun hHeld=>?_)
              refine wpAnyT_take2 (i:=0) (v:=.agg cs) rfl rfl (by kernel_rfl) (by kernel_rfl) (by kernel_rfl) (by kernel_rfl) (fun _ _ _ h=>h) (yl_row (by rfl) 29 (.tmp 8) rfl g8 rfl cs 29 _ (fun W h=>h.1) Tryz.underlying29 rfl (by rw [HSZ.out]; kernel_rfl)) hHeld ?_
              simp only [qsa,qsb,qsc]
              refine wpAnyT_take2 (i:=1) (v:=.agg ex) rfl rfl (by kernel_rfl) (by kernel_rfl) (by kernel_rfl) (by kernel_rfl) (fun _ _ _ h=>h) (yl_row (by rfl) 25 (.tmp 4) rfl w.heap.size rfl ex 25 _ (fun W h=>h.2) Tryz.underlying25 rfl (by rw [HEZ.out]; kernel_rfl)) hHeld ?_
              simp only [qsa,qsb,qsc]
              refine qtq 2 ?_
              simp only [qsa,qsb,qsc]
              clear hHeld
              refine wpAnyT_next (i:=3) (by kernel_rfl) rfl ?_
              go_wp2_with fail
              refine (law_things ⟨A1,c1,fl⟩ _ HFA.out.drewW hfl4).mono ?_
              unfold ThP
              rintro r va ⟨B,d,rfl,hth,hb1⟩
              have HQ : Hid (Below wr.heap.size wr va):=Lib.hid (((Below.refl wr.heap.size wr).drew).trans hb1)
              have HXBa:=Lib.hid (HXB.out.later HQ.out)
              have HXEa:=Lib.hid (HXE.out.later HQ.out)
              have HTH:=Lib.hid hth
              clear hth hb1
              go_wp2_with fail
              refine And.intro (by first | exact fun _=>⟨HXBa.out,HXEa.out⟩ | exact ⟨HXBa.out,HXEa.out⟩) ?_
              refine wpAnyT_next (i:=4) (by kernel_rfl) rfl ?_
              go_wp2_with fail
              have hc:=HCV.out B d va fl (HB.out.trans (HQ.out.mono HB.out.size)) HTH.out hfl4 HF2.out
              rw [HF3.out.1] at hc
              try simp only at hc
              refine hc.mono ?_
              clear hc
              unfold WhyP
              rintro r w9 ⟨hb3,xA,xc,rfl,hx0⟩
              have HQ3:=Lib.hid (HQ.out.trans (hb3.mono HQ.out.size))
              have HXBc:=Lib.hid (HXB.out.later HQ3.out)
              have HXEc:=Lib.hid (HXE.out.later HQ3.out)
              clear hb3 HTH HXBa HXEa hx0
              go_wp2_with fail
              refine And.intro (by first | exact fun _=>⟨HXBc.out,HXEc.out⟩ | exact ⟨HXBc.out,HXEc.out⟩) ?_
              have hHeld:=And.intro HXBc.out HXEc.out
              refine qtq 5 ?_
              simp only [qsa,qsb,qsc]
              refine qtq 6 ?_
              simp only [qsa,qsb,qsc]
              refine qtq 7 ?_
              simp only [qsa,qsb,qsc]
              refine qtq 8 ?_
              simp only [qsa,qsb,qsc]
              refine qtq 9 ?_
              simp only [qsa,qsb,qsc]
              refine wpAnyT_done (by kernel_rfl) ?_ _
              clear hHeld
              replace HB:=Lib.hid (HB.out.trans (HQ3.out.mono HB.out.size))
              replace HXB:=HXBc
              replace HXE:=HXEc
              replace HFA:=Lib.hid (HFA.out.later HQ3.out)
              clear HQ HQ3 HXBc HXEc
              go_wp2_with fail
              refine wp_region_T (fun W=>Blk W g8 29 cs∧Blk W w.heap.size 25 ex) (fun _=>false) (by kernel_rfl) ⟨HXB.out.drew,HXE.out.drew⟩ (fun hHeld=>?_)
              refine wpAnyT_take2 (i:=0) (v:=.agg cs) rfl rfl (by kernel_rfl) (by kernel_rfl) (by kernel_rfl) (by kernel_rfl) (fun _ _ _ h=>h) (yl_row (by rfl) 29 (.tmp 8) rfl g8 rfl cs 29 _ (fun W h=>h.1) Tryz.underlying29 rfl (by rw [HSZ.out]; kernel_rfl)) hHeld ?_
              simp only [qsa,qsb,qsc]
              refine wpAnyT_take2 (i:=1) (v:=.agg ex) rfl rfl (by kernel_rfl) (by kernel_rfl) (by kernel_rfl) (by kernel_rfl) (fun _ _ _ h=>h) (yl_row (by rfl) 25 (.tmp 4) rfl w.heap.size rfl ex 25 _ (fun W h=>h.2) Tryz.underlying25 rfl (by rw [HEZ.out]; kernel_rfl)) hHeld ?_
              simp only [qsa,qsb,qsc]
              refine qtq 2 ?_
              simp only [qsa,qsb,qsc]
              clear hHeld
              refine wpAnyT_next (i:=3) (by kernel_rfl) rfl ?_
              go_wp2_with fail
              refine (law_things ⟨A1,c1,fl⟩ _ HFA.out.drewW hfl4).mono ?_
              unfold ThP
              rintro r va ⟨B,d,rfl,hth,hb1⟩
              have HQ : Hid (Below w9.heap.size w9 va):=Lib.hid (((Below.refl w9.heap.size w9).drew).trans hb1)
              have HXBa:=Lib.hid (HXB.out.later HQ.out)
              have HXEa:=Lib.hid (HXE.out.later HQ.out)
              have HTH:=Lib.hid hth
              clear hth hb1
              go_wp2_with fail
              refine And.intro (by first | exact fun _=>⟨HXBa.out,HXEa.out⟩ | exact ⟨HXBa.out,HXEa.out⟩) ?_
              refine wpAnyT_next (i:=4) (by kernel_rfl) rfl ?_
              go_wp2_with fail
              have hc:=HCO.out B d va fl (HB.out.trans (HQ.out.mono HB.out.size)) HTH.out hfl4 HF2.out
              rw [HF3.out.2] at hc
              try simp only at hc
              refine hc.mono ?_
              clear hc
              unfold OthP
              rintro r w10 ⟨hb3,yA,yc,vA,vc,rfl,hy0,hv0⟩
              have HQ3:=Lib.hid (HQ.out.trans (hb3.mono HQ.out.size))
              have HXBc:=Lib.hid (HXB.out.later HQ3.out)
              have HXEc:=Lib.hid (HXE.out.later HQ3.out)
              clear hb3 HTH HXBa HXEa hy0 hv0
              go_wp2_with fail
              refine And.intro (by first | exact fun _=>⟨HXBc.out,HXEc.out⟩ | exact ⟨HXBc.out,HXEc.out⟩) ?_
              have hHeld:=And.intro HXBc.out HXEc.out
              refine qtq 5 ?_
              simp only [qsa,qsb,qsc]
              refine qtq 6 ?_
              simp only [qsa,qsb,qsc]
              refine qtq 7 ?_
              simp only [qsa,qsb,qsc]
              refine qtq 8 ?_
              simp only [qsa,qsb,qsc]
              refine qtq 9 ?_
              simp only [qsa,qsb,qsc]
              refine qtq 10 ?_
              simp only [qsa,qsb,qsc]
              refine qtq 11 ?_
              simp only [qsa,qsb,qsc]
              refine wpAnyT_done (by kernel_rfl) ?_ _
              clear hHeld
              replace HB:=Lib.hid (HB.out.trans (HQ3.out.mono HB.out.size))
              replace HXB:=HXBc
              replace HXE:=HXEc
              clear HQ HQ3 HXBc HXEc
              go_wp2_with fail
              go_ret
              exact ⟨rfl,HB.out⟩
        · have hsn : ((st.length : Int) == 0)=false:=by
            rcases st with _ | ⟨x,r⟩
            · exact absurd rfl hs0
            · simp
              omega
          clear m2 hm1 hs0
          have HR0:=Lib.hid ((HLL.out.later (HB.out.trans (HBR.out.mono HB.out.size))).rd)
          have HSN:=Lib.hid hsn
          go_wp2_with (at_builtin
                       go_must (refine wpl_append_sl _ rfl (.tmp 82) (.tmp 83) _ rfl Tryz.underlying26 infoTH46 (by omega) TH.enc_k TH.enc_one ⟨some ⟨wr.heap.size,0,none⟩,0,[]⟩ ⟨A,c,l⟩ rfl rfl (Own.lit wr #[] [] (Nat.le_refl _) (Nat.zero_le _) rfl TH.enc_k) (HR0.out.lt_alloc _) (by simp [maxLen]; omega) (by simp; omega) (by simp) ?_)
                       intro A1 c1 w7 hown hg hAA)
          have HBQ : Hid (Below wr.heap.size wr w7):=Lib.hid (((Below.refl _ _).alloc (Nat.le_refl _) _).grown hg (by simp) (by simp [Value.ownBlock]))
          rw [List.nil_append] at hown
          have HO7 : Hid (Own wr.heap.size 53 4 TH.enc w7 ⟨A1,c1,fixT (fun i=>decide (i ∈ st.take 0)) l⟩):=Lib.hid (by rw [List.take_zero,fixT_none]; exact hown)
          replace HOX:=Lib.hid (HOX.out.below HBR.out)
          replace HXB:=Lib.hid (HXB.out.later HBR.out)
          replace HXE:=Lib.hid (HXE.out.later HBR.out)
          replace HB:=Lib.hid (HB.out.trans (HBR.out.mono HB.out.size))
          clear hown hg hAA HOY HBR HR0 hsn HSN
          obtain ⟨w8,hw8⟩ : ∃ z,z=wr:=⟨_,rfl⟩
          rw [← hw8] at HBQ HO7 HOX HXB HXE HB
          clear hw8
          go_loopw [17] (fun iv wq=>∃ (k : Nat),k≤st.length∧iv = .int .i64 k∧Hid (Below w8.heap.size w8 wq)∧Hid (Own w8.heap.size 53 4 TH.enc wq ⟨A1,c1,fixT (fun i=>decide (i ∈ st.take k)) l⟩)) (fun iv _=>st.length - (intOf iv).toNat)
          case atStart=>exact ⟨0,by omega,rfl,HBQ,HO7⟩
          case round =>
            clear HBQ HO7
            obtain ⟨k,hk,rfl,HBQ,HO⟩:=hrel
            by_cases hlt : k<st.length
            · have hki : k<(intL st).length:=by rw [intL_len]; exact hlt
              obtain ⟨b1,o1,hA1,hb1,hc1⟩:=((HOX.out.below HBQ.out).rd ienc_k).at1 hki
              have hii : (intL st)[k]=((st[k] : Nat) : Int):=by simp only [intL,List.getElem_map]
              rw [hii] at hc1
              have hil:=HLT.out _ (List.getElem_mem hlt)
              have htk : st.take (k+1)=st.take k ++ [st[k]]:=by rw [List.take_add_one,List.getElem?_eq_getElem hlt]; rfl
              generalize st[k]=i at *
              have hfi : i<(fixT (fun i=>decide (i ∈ st.take k)) l).length:=by rw [fixT_len]; exact hil
              have hga : ∃ ga,A1=some ⟨ga,0,none⟩∧w8.heap.size≤ga:=by
                rcases HO.out.form with ⟨_,_,h0⟩ | ⟨g',h0,h1,_⟩
                · simp only at h0; rw [h0] at hfi; simp at hfi
                · exact ⟨g',h0,h1⟩
              obtain ⟨ga,rfl,hga⟩:=hga
              obtain ⟨X,hX⟩ : ∃ X,(fixT (fun i=>decide (i ∈ st.take k)) l)[i]? = some X:=⟨_,List.getElem?_eq_getElem hfi⟩
              have hbX : bareT X=bareT l[i]:=by
                rw [fixT_at,List.getElem?_eq_getElem hil] at hX
                simp only [Option.map_some,Option.some.injEq] at hX
                rw [← hX]
                split <;> rfl
              have hnew:=HO.out.set (i:=i) (j:=3) (y:=bareT X) (u:=.slice none 0 0) TH.enc_k rfl hX (by omega) (enc_bare X)
              rw [hbX,fixT_set (Q:=fun j=>decide (j ∈ st.take (k+1))) (List.getElem?_eq_getElem hil) (fun j=>by rw [htk]; simp [Bool.decide_or])] at hnew
              have c3:=HO.out.range TH.enc_k hX 3 _ rfl
              have hfz:=fun j=>HO.out.frozen rfl j
              have HN:=Lib.hid hnew
              have HBN : Hid (Below w8.heap.size w8 (wr.setCell ⟨ga,i * 4+3,none⟩ (.slice none 0 0))):=Lib.hid (below_setr (by simp only; exact hga) HBQ.out)
              simp only at hA1
              rw [Nat.mul_one] at hc1
              have g0:=Cells.c1 hc1
              subst hA1
              clear hii hc1 hnew hbX hX
              have hk8 : (k : Int)<(st.length : Int):=by omega
              have hi8 : (i : Int)<(l.length : Int):=by omega
              have hi0 : ¬ ((i : Int)<0):=by omega
              have hi9 : ¬ ((l.length : Int)≤(i : Int)):=by omega
              go_wp2_with fail
              clear c3 hfz g0
              generalize (wr.setCell ⟨ga,i * 4+3,none⟩ (.slice none 0 0))=w10 at *
              go_roundw
              case rel=>exact ⟨k+1,by omega,by go_num,HBN,HN⟩
              case measure=>simp [intOf]; omega
            · have hkl : k=st.length:=by omega
              rw [hkl,List.take_length] at HO
              clear hlt hk
              obtain ⟨hf1,hf2⟩:=HMF.out (fun i=>decide (i ∈ st)) (fun i hi=>decide_eq_true hi)
              have hat : ThsAt (· < wr.heap.size) wr ⟨A1,c1,fixT (fun i=>decide (i ∈ st)) l⟩:=things_fix _ ((HO.out.rd TH.enc_k).mono (fun b hb=>hb.2)) (fun x hx=>(HLL.out.all x hx).later (HB.out.trans (HBQ.out.mono HB.out.size)))
              have hf2l : ∀ x,x ∈ fixT (fun i=>decide (i ∈ st)) l→x.o.l.length≤2:=fix_two H2.out
              have hfl:=fixT_len (fun i=>decide (i ∈ st)) l
              rw [← hfl]
              replace HXB:=Lib.hid (HXB.out.later HBQ.out)
              replace HXE:=Lib.hid (HXE.out.later HBQ.out)
              replace HB:=Lib.hid (HB.out.trans (HBQ.out.mono HB.out.size))
              have hfl4 : (fixT (fun i=>decide (i ∈ st)) l).length≤4:=by rw [hfl]; exact h4
              clear HO HOX HBQ hfl
              generalize fixT (fun i=>decide (i ∈ st)) l=fl at *
              have HFA:=Lib.hid hat
              have HF2:=Lib.hid hf2l
              have HF3:=Lib.hid (And.intro hf1 hf2)
              clear hat hf2l hf1 hf2
              go_wp2_with fail
              refine wp_region_T (fun W=>Blk W g8 29 cs∧Blk W w.heap.size 25 ex) (fun _=>false) (by kernel_rfl) ⟨HXB.out.drew,HXE.out.drew⟩ (fun hHeld=>?_)
              refine wpAnyT_take2 (i:=0) (v:=.agg cs) rfl rfl (by kernel_rfl) (by kernel_rfl) (by kernel_rfl) (by kernel_rfl) (fun _ _ _ h=>h) (yl_row (by rfl) 29 (.tmp 8) rfl g8 rfl cs 29 _ (fun W h=>h.1) Tryz.underlying29 rfl (by rw [HSZ.out]; kernel_rfl)) hHeld ?_
              simp only [qsa,qsb,qsc]
              refine wpAnyT_take2 (i:=1) (v:=.agg ex) rfl rfl (by kernel_rfl) (by kernel_rfl) (by kernel_rfl) (by kernel_rfl) (fun _ _ _ h=>h) (yl_row (by rfl) 25 (.tmp 4) rfl w.heap.size rfl ex 25 _ (fun W h=>h.2) Tryz.underlying25 rfl (by rw [HEZ.out]; kernel_rfl)) hHeld ?_
              simp only [qsa,qsb,qsc]
              refine qtq 2 ?_
              simp only [qsa,qsb,qsc]
              clear hHeld
              refine wpAnyT_next (i:=3) (by kernel_rfl) rfl ?_
              go_wp2_with fail
              refine (law_things ⟨A1,c1,fl⟩ _ HFA.out.drewW hfl4).mono ?_
              unfold ThP
              rintro r va ⟨B,d,rfl,hth,hb1⟩
              have HQ : Hid (Below wr.heap.size wr va):=Lib.hid (((Below.refl wr.heap.size wr).drew).trans hb1)
              have HXBa:=Lib.hid (HXB.out.later HQ.out)
              have HXEa:=Lib.hid (HXE.out.later HQ.out)
              have HTH:=Lib.hid hth
              clear hth hb1
              go_wp2_with fail
              refine And.intro (by first | exact fun _=>⟨HXBa.out,HXEa.out⟩ | exact ⟨HXBa.out,HXEa.out⟩) ?_
              refine wpAnyT_next (i:=4) (by kernel_rfl) rfl ?_
              go_wp2_with fail
              have hc:=HCV.out B d va fl (HB.out.trans (HQ.out.mono HB.out.size)) HTH.out hfl4 HF2.out
              rw [HF3.out.1] at hc
              try simp only at hc
              refine hc.mono ?_
              clear hc
              unfold WhyP
              rintro r w9 ⟨hb3,xA,xc,rfl,hx0⟩
              have HQ3:=Lib.hid (HQ.out.trans (hb3.mono HQ.out.size))
              have HXBc:=Lib.hid (HXB.out.later HQ3.out)
              have HXEc:=Lib.hid (HXE.out.later HQ3.out)
              clear hb3 HTH HXBa HXEa hx0
              go_wp2_with fail
              refine And.intro (by first | exact fun _=>⟨HXBc.out,HXEc.out⟩ | exact ⟨HXBc.out,HXEc.out⟩) ?_
              have hHeld:=And.intro HXBc.out HXEc.out
              refine qtq 5 ?_
              simp only [qsa,qsb,qsc]
              refine qtq 6 ?_
              simp only [qsa,qsb,qsc]
              refine qtq 7 ?_
              simp only [qsa,qsb,qsc]
              refine qtq 8 ?_
              simp only [qsa,qsb,qsc]
              refine qtq 9 ?_
              simp only [qsa,qsb,qsc]
              refine wpAnyT_done (by kernel_rfl) ?_ _
              clear hHeld
              replace HB:=Lib.hid (HB.out.trans (HQ3.out.mono HB.out.size))
              replace HXB:=HXBc
              replace HXE:=HXEc
              replace HFA:=Lib.hid (HFA.out.later HQ3.out)
              clear HQ HQ3 HXBc HXEc
              go_wp2_with fail
              refine wp_region_T (fun W=>Blk W g8 29 cs∧Blk W w.heap.size 25 ex) (fun _=>false) (by kernel_rfl) ⟨HXB.out.drew,HXE.out.drew⟩ (fun hHeld=>?_)
              refine wpAnyT_take2 (i:=0) (v:=.agg cs) rfl rfl (by kernel_rfl) (by kernel_rfl) (by kernel_rfl) (by kernel_rfl) (fun _ _ _ h=>h) (yl_row (by rfl) 29 (.tmp 8) rfl g8 rfl cs 29 _ (fun W h=>h.1) Tryz.underlying29 rfl (by rw [HSZ.out]; kernel_rfl)) hHeld ?_
              simp only [qsa,qsb,qsc]
              refine wpAnyT_take2 (i:=1) (v:=.agg ex) rfl rfl (by kernel_rfl) (by kernel_rfl) (by kernel_rfl) (by kernel_rfl) (fun _ _ _ h=>h) (yl_row (by rfl) 25 (.tmp 4) rfl w.heap.size rfl ex 25 _ (fun W h=>h.2) Tryz.underlying25 rfl (by rw [HEZ.out]; kernel_rfl)) hHeld ?_
              simp only [qsa,qsb,qsc]
              refine qtq 2 ?_
              simp only [qsa,qsb,qsc]
              clear hHeld
              refine wpAnyT_next (i:=3) (by kernel_rfl) rfl ?_
              go_wp2_with fail
              refine (law_things ⟨A1,c1,fl⟩ _ HFA.out.drewW hfl4).mono ?_
              unfold ThP
              rintro r va ⟨B,d,rfl,hth,hb1⟩
              have HQ : Hid (Below w9.heap.size w9 va):=Lib.hid (((Below.refl w9.heap.size w9).drew).trans hb1)
              have HXBa:=Lib.hid (HXB.out.later HQ.out)
              have HXEa:=Lib.hid (HXE.out.later HQ.out)
              have HTH:=Lib.hid hth
              clear hth hb1
              go_wp2_with fail
              refine And.intro (by first | exact fun _=>⟨HXBa.out,HXEa.out⟩ | exact ⟨HXBa.out,HXEa.out⟩) ?_
              refine wpAnyT_next (i:=4) (by kernel_rfl) rfl ?_
              go_wp2_with fail
              have hc:=HCO.out B d va fl (HB.out.trans (HQ.out.mono HB.out.size)) HTH.out hfl4 HF2.out
              rw [HF3.out.2] at hc
              try simp only at hc
              refine hc.mono ?_
              clear hc
              unfold OthP
              rintro r w10 ⟨hb3,yA,yc,vA,vc,rfl,hy0,hv0⟩
              have HQ3:=Lib.hid (HQ.out.trans (hb3.mono HQ.out.size))
              have HXBc:=Lib.hid (HXB.out.later HQ3.out)
              have HXEc:=Lib.hid (HXE.out.later HQ3.out)
              clear hb3 HTH HXBa HXEa hy0 hv0
              go_wp2_with fail
              refine And.intro (by first | exact fun _=>⟨HXBc.out,HXEc.out⟩ | exact ⟨HXBc.out,HXEc.out⟩) ?_
              have hHeld:=And.intro HXBc.out HXEc.out
              refine qtq 5 ?_
              simp only [qsa,qsb,qsc]
              refine qtq 6 ?_
              simp only [qsa,qsb,qsc]
              refine qtq 7 ?_
              simp only [qsa,qsb,qsc]
              refine qtq 8 ?_
              simp only [qsa,qsb,qsc]
              refine qtq 9 ?_
              simp only [qsa,qsb,qsc]
              refine qtq 10 ?_
              simp only [qsa,qsb,qsc]
              refine qtq 11 ?_
              simp only [qsa,qsb,qsc]
              refine wpAnyT_done (by kernel_rfl) ?_ _
              clear hHeld
              replace HB:=Lib.hid (HB.out.trans (HQ3.out.mono HB.out.size))
              replace HXB:=HXBc
              replace HXE:=HXEc
              clear HQ HQ3 HXBc HXEc
              go_wp2_with fail
              go_ret
              exact ⟨rfl,HB.out⟩
end Go.Proofs.YtmomlipmpgcheaaGreatDoor
