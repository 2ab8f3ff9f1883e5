/- Walk: hier.Build. -/
import Derived.Test.YtlbihfbeamlacaaHbxau
set_option linter.unusedSimpArgs false
set_option linter.unusedVariables false
set_option maxRecDepth 100000
set_option maxHeartbeats 6400000
namespace Go.Proofs.Ytlbihfbeamlacaa
open Go.RowKit
instance (R : List Int) (n : Int) : Decidable (RkP R n):=by unfold RkP; infer_instance
theorem NetM.far {n base g mb gi go : Nat} {Z : Nat→Prop} {w0 w : World} {l : List ED} {ins outs : List (Sl Int)} {p : Addr} (h : NetM n base g mb gi go Z w0 w l ins outs) (hp : p.block≠g∧p.block≠mb∧p.block≠gi∧p.block≠go∧∀ s,s ∈ outs ++ ins→s.A≠some ⟨p.block,0,none⟩) (hz : ¬ Z p.block) (u : Value) : NetM n base g mb gi go Z w0 (w.setCell p u) l ins outs where
  bg:=h.bg.far (Ne.symm hp.1) u
  mp:=h.mp.far (Ne.symm hp.2.1) u
  bi:=h.bi.far (Ne.symm hp.2.2.1) u
  bo:=h.bo.far (Ne.symm hp.2.2.2.1) u
  fam:=h.fam.map_ fun s hs ho=>ho.other (fun k hA hc=>hp.2.2.2.2 s hs (by rw [hA,hc])) u
  li:=h.li
  lo:=h.lo
  lt:=h.lt
  ne:=h.ne
  bb:=Nat.le_trans h.bb (by simp)
  bs:=h.bs.setCell (Nat.zero_le _) _
  zk:=fun b hb=>(Below.heap_setCell w p u b (fun e=>hz (e ▸ hb))).trans (h.zk b hb)
  zf:=h.zf
  z4:=h.z4
  zl:=h.zl
/-- The order of the nodes, when k of them were laid. -/
def ordC (R : List Int) (k : Nat) : Array Value:=((List.range R.length).map fun (j : Nat)=>Value.int .i64 (if (j : Int) ∈ R.take k then vAt R j else 0)).toArray
theorem ordC_zero (R : List Int) : (List.replicate R.length (Value.int .i64 0)).toArray=ordC R 0:=by
  unfold ordC
  congr 1
  apply List.ext_getElem?
  intro i
  rw [List.getElem?_replicate,List.getElem?_map]
  by_cases h : i<R.length
  · rw [if_pos h,List.getElem?_range h]; simp
  · rw [if_neg h,List.getElem?_eq_none (by simpa using h)]; rfl
theorem ordC_at (R : List Int) (k m : Nat) (h : m<R.length) : (ordC R k)[m]? = some (.int .i64 (if (m : Int) ∈ R.take k then vAt R m else 0)):=by
  unfold ordC
  rw [List.getElem?_toArray,List.getElem?_map,List.getElem?_range h]; rfl
theorem vAt_of {R : List Int} (hn : R.Nodup) {k m : Nat} (h : R[k]? = some (m : Int)) : vAt R m=(k : Int):=by
  obtain ⟨hk,he⟩:=List.getElem?_eq_some_iff.1 h
  have hlt : R.findIdx (fun x=>decide (x=(m : Int)))<R.length:=List.findIdx_lt_length_of_exists ⟨_,List.mem_of_getElem? h,by simp⟩
  have hp:=List.findIdx_getElem (p:=fun x=>decide (x=(m : Int))) (xs:=R) (w:=hlt)
  simp only [decide_eq_true_eq] at hp
  have:=nodup_inj hn hlt hk (by rw [hp,he])
  unfold vAt
  omega
theorem ordC_step {R : List Int} (hn : R.Nodup) {k m : Nat} (h : R[k]? = some (m : Int)) : (ordC R k).setIfInBounds m (.int .i64 (k : Int))=ordC R (k+1):=by
  obtain ⟨hk,he⟩:=List.getElem?_eq_some_iff.1 h
  have ht : R.take (k+1)=R.take k ++ [(m : Int)]:=by rw [List.take_add_one,h]; rfl
  apply Array.ext_getElem?
  intro j
  rw [Array.getElem?_setIfInBounds]
  by_cases hj : j<R.length
  · rw [ordC_at R (k+1) j hj,ordC_at R k j hj,ht]
    by_cases hm : m=j
    · subst hm
      rw [if_pos rfl,if_pos (by unfold ordC; simpa using hj),vAt_of hn h]
      simp
    · rw [if_neg hm]
      have : ¬ (j : Int)=(m : Int):=by omega
      simp [this]
  · have h1 : ∀ k',(ordC R k')[j]? = none:=fun k'=>Array.getElem?_eq_none (by unfold ordC; simpa using hj)
    rw [h1,h1]
    by_cases hm : m=j
    · rw [if_pos hm,if_neg (by unfold ordC; simp; omega)]
    · rw [if_neg hm]
theorem make_ints (n : Nat) (hn : n≤10000) (w : World) : (Instr.makeSlice 23 (.int .i64 (n : Int)) (.int .i64 (n : Int))).run Try.prog w = .ok (.slice (some ⟨w.heap.size,0,none⟩) n n) (w.alloc (.cells (List.replicate n (.int .i64 0)).toArray 3)):=by
  obtain ⟨i,hi,hz,hsize,hby,hzs⟩:=infoInt
  have h:=run_makeSlice w 23 3 i _ Try.underlying23 hi hz .i64 .i64 (n : Int) (n : Int) (by omega) (Int.le_refl _) (by rw [hsize]; omega) (by rw [hby]; omega) (by omega)
  rw [h,hsize]
  simp only [Int.toNat_natCast,Nat.mul_one,made_rep (z:=Value.int .i64 0) rfl]
theorem badE_iff {n : Nat} {e : ED} : badE n e=false↔Ir n e.f∧Ir n e.t∧0≤e.n∧e.n≤1000000∧e.v = -1:=by
  unfold badE Ir
  simp only [Bool.or_eq_false_iff,decide_eq_false_iff_not]
  omega
theorem graphB_ok {n : Int} {es : List ED} (h : graphB n es=true) : 0≤n∧n≤2000∧es.length≤20000∧GrD n.toNat es:=by
  unfold graphB at h
  simp only [Bool.and_eq_true,decide_eq_true_eq,Bool.not_eq_true',List.any_eq_false] at h
  obtain ⟨h1,h2,h3,h4⟩:=h
  obtain ⟨m,rfl⟩:=Int.eq_ofNat_of_zero_le h1
  have h5 : ∀ e,e ∈ es→Ir m e.f∧Ir m e.t∧0≤e.n∧e.n≤1000000∧e.v = -1:=fun e he=>badE_iff.1 (by simpa using h4 e he)
  refine ⟨h1,h2,h3,⟨⟨fun e he=>?_,fun e he=>?_,fun e he=>(h5 e he).2.2.1⟩,fun e he=>(h5 e he).2.2.2.1,fun e he=>(h5 e he).2.2.2.2⟩⟩
  · rw [Int.toNat_natCast]; exact (h5 e he).1
  · rw [Int.toNat_natCast]; exact (h5 e he).2.1
/-- What Build returns. -/
def bldV (n : Int) (es : List ED) (R : List Int) : List Int × List ED × Int:=if graphB n es=true∧RkP R n then (R,bldL n.toNat es R,0) else ([],[],1)
def BldP (w w' : World) (v : List Int × List ED × Int) (r : Ending) : Prop:=∃ (RA EA : Option Addr) (Rc Ec : Nat),r = .returned (.tuple #[.agg #[.slice RA v.1.length Rc,.slice EA v.2.1.length Ec],.int .i64 v.2.2])∧Own w.heap.size 3 1 ienc w' ⟨RA,Rc,v.1⟩∧Own w.heap.size 44 4 ED.enc w' ⟨EA,Ec,v.2.1⟩∧Below w.heap.size w w'
/-- What the entries are when k nodes were contracted. -/
theorem bld_inv {n : Nat} {es L : List ED} {R : List Int} {k : Nat} (hg : GrD n es) (hR : RkOK n R) (hk : k≤n) (h9 : n≤9) (hL : KeyD L) (he : ∀ f t,lkE L f t=lkE (bldK n es R k) f t) : ∀ x,x ∈ L→0≤x.n∧x.n≤1000000000000:=fun x hx=>by
  obtain ⟨_,hi⟩:=bldK_P hg hR k hk
  have h1:=hL.lk hx
  rw [he] at h1
  have h2:=hi.ge _ _ _ h1
  have h3:=hi.top _ _ _ h1
  have h4 : ∀ j : Fin 10,(1000000 : Int) * 2 ^ (j : Nat)≤512000000:=by decide
  have h6:=h4 ⟨k,by omega⟩
  simp only at h6
  omega
/-- How long the slice in a struct's second cell is. -/
def cellLen (w : World) (g : Nat) : Nat:=match w.cell? ⟨g,1,none⟩ with
  | some (.slice _ n _)=>n
  | _=>0
theorem cellLen_of {w : World} {g n c : Nat} {A : Option Addr} {x : Value} {t : TypeId} (h : Blk w g t #[x,.slice A n c]) : cellLen w g=n:=by
  unfold cellLen
  rw [show w.cell? ⟨g,1,none⟩=some (.slice A n c) from h.cell 1]
theorem own_keep_lt {α : Type} {B N : Nat} {e : TypeId} {k : Nat} {enc : α→List Value} {w w' : World} {s : Sl α} {row : Option Nat} (h : Own B e k enc w s) (hg : w.grownBy w' row) (hlo : ∀ m,row=some m→N≤m) (hs : ∀ a,s.A=some ⟨a,0,none⟩→a<N) : Own B e k enc w' s:=by
  refine h.kept hg ?_
  rcases h.form with ⟨h0,_⟩ | ⟨g,h0,_⟩
  · left; rw [h0]; simp [Value.ownBlock]
  · right
    intro hc
    rw [h0] at hc
    simp only [Value.ownBlock] at hc
    have:=hlo g hc.symm
    have:=hs g h0
    omega
theorem rd_ed1 {W : World} {g : Nat} {x : ED} (h : Blk W g 44 x.enc.toArray) : Rd (· < W.heap.size) 4 ED.enc W ⟨some ⟨g,0,none⟩,1,[x]⟩ :=
  ⟨Nat.le_refl _,by unfold maxLen; simp,fun h=>by simp at h,fun i y hy=>by
    have hi : i=0:=by
      rcases i with _ | i
      · rfl
      · simp at hy
    subst hi
    have hxy : x=y:=by simpa using hy
    subst hxy
    exact ⟨g,0,rfl,h.lt,fun j u hu=>by rw [h.cell,Nat.zero_mul,Nat.zero_add]; simpa using hu⟩⟩
theorem hier_Build (n : Int) (es : Sl ED) (R : Sl Int) (w : World) (hr : Rd (· < w.heap.size) 4 ED.enc w es) (hR : Rd (· < w.heap.size) 1 ienc w R) (hl : R.l.length≤10000) (h9 : graphB n es.l=true→n≤9) :
    Calls Try.prog 10 #[.int .i64 n,.slice es.A es.l.length es.c,.slice R.A R.l.length R.c] w fun r w'=>BldP w w' (bldV n es.l R.l) r:=by
  have HE:=Lib.hid hr
  have HR:=Lib.hid hR
  have H9:=Lib.hid h9
  obtain ⟨V,hV⟩ : ∃ V,bldV n es.l R.l=V:=⟨_,rfl⟩
  rw [hV]
  have HV:=Lib.hid hV
  clear hr hR h9 hV
  go_enter Try.func10,Try.ntmps10
  go_wp2_with fail
  have HB1 : Hid (Below w.heap.size w (w.alloc (.cells #[.slice none 0 0,.slice none 0 0] 25))):=Lib.hid (by repeat (first | (with_reducible exact Below.refl _ _) | ((with_reducible refine below_setr ?_ ?_); focus (first | (simp; done) | (simp; omega) | omega)) | ((with_reducible refine below_allocr ?_ ?_); focus (first | (simp; done) | (simp; omega) | omega)) | (with_reducible refine Below.drew ?_) | (with_reducible refine below_drewN ?_ _)))
  have HX1 : Hid (Blk (w.alloc (.cells #[.slice none 0 0,.slice none 0 0] 25)) w.heap.size 25 #[.slice none 0 0,.slice none 0 0]):=Lib.hid (Blk.new _ _ _)
  generalize w.alloc (.cells #[.slice none 0 0,.slice none 0 0] 25)=w1 at *
  refine (hier_graph es n w1 (HE.out.later HB1.out (Nat.le_refl _))).mono ?_
  rintro r w2 ⟨rfl,hb2⟩
  have HB2:=Lib.hid (HB1.out.trans (hb2.mono HB1.out.size))
  have HX2:=Lib.hid (HX1.out.later hb2)
  clear hb2 HB1 HX1
  obtain ⟨gb,hgb⟩ : ∃ b,graphB n es.l=b:=⟨_,rfl⟩
  rw [hgb]
  have HGB:=Lib.hid hgb
  clear hgb
  rcases gb
  · have hv : V=([],[],1):=HV.out.symm.trans (by unfold bldV; rw [HGB.out,if_neg (fun h=>by simp at h)])
    subst hv
    obtain ⟨x0,x1,xf,xz⟩:=HX2.out.b2
    go_wp2_with fail
    have hy:=(HX2.out.set_ 0 (.slice none 0 0)).set_ 1 (.slice none 0 0)
    obtain ⟨y0,y1,yf,yz⟩:=Blk.b2 (x:=.slice none 0 0) (y:=.slice none 0 0) hy
    refine bodyPost_ret (v:=.tuple #[.agg #[.slice none 0 0,.slice none 0 0],.int .i64 1]) ?_ rfl ⟨none,none,0,0,rfl,Own.nil _ _ _ _ _,Own.nil _ _ _ _ _,(HB2.out.setCell (Nat.le_refl _) _).setCell (Nat.le_refl _) _⟩
    simp [results,Try.results10,go_sem,y0,y1]
  · obtain ⟨h0,h20,hel,hgd⟩:=graphB_ok HGB.out
    have h9:=H9.out HGB.out
    obtain ⟨m,rfl⟩:=Int.eq_ofNat_of_zero_le h0
    rw [Int.toNat_natCast] at hgd
    have HGD:=Lib.hid hgd
    have HM9 : Hid (m≤9):=Lib.hid (by omega)
    obtain ⟨t,ht⟩ : ∃ t : Bool,t=true↔RkP R.l m:=⟨decide (RkP R.l m),by simp⟩
    have HT:=Lib.hid ht
    clear ht hgd h0 h20 h9
    go_wp2_with fail
    refine (hier_ranks R m t HT.out w2 (HR.out.later HB2.out (Nat.le_refl _)) hl).mono ?_
    rintro r w3 ⟨rfl,hb3⟩
    have HB3:=Lib.hid (HB2.out.trans (hb3.mono HB2.out.size))
    have HX3:=Lib.hid (HX2.out.later hb3)
    clear hb3 HB2 HX2
    obtain ⟨x0,x1,xf,xz⟩:=HX3.out.b2
    rcases t
    · have hv : V=([],[],1):=HV.out.symm.trans (by
        unfold bldV
        rw [if_neg (fun h=>by have:=HT.out.2 h.2; simp at this)])
      subst hv
      have HB2:=HB3
      have HX2:=HX3
      go_wp2_with fail
      have hy:=(HX2.out.set_ 0 (.slice none 0 0)).set_ 1 (.slice none 0 0)
      obtain ⟨y0,y1,yf,yz⟩:=Blk.b2 (x:=.slice none 0 0) (y:=.slice none 0 0) hy
      refine bodyPost_ret (v:=.tuple #[.agg #[.slice none 0 0,.slice none 0 0],.int .i64 1]) ?_ rfl ⟨none,none,0,0,rfl,Own.nil _ _ _ _ _,Own.nil _ _ _ _ _,(HB2.out.setCell (Nat.le_refl _) _).setCell (Nat.le_refl _) _⟩
      simp [results,Try.results10,go_sem,y0,y1]
    · have hrp:=HT.out.1 rfl
      have HRP:=Lib.hid hrp
      have HRK:=Lib.hid hrp.ok
      have hv : V=(R.l,bldL m es.l R.l,0):=HV.out.symm.trans (by
        unfold bldV
        rw [if_pos ⟨HGB.out,hrp⟩,Int.toNat_natCast])
      subst hv
      clear HT hrp HV HGB H9
      go_wp2_with fail
      clear x0 x1 xf xz
      refine (hier_opened es m w3 (HE.out.later HB3.out (Nat.le_refl _)) (by have:=HM9.out; omega) (fun e he=>⟨HGD.out.gr.rf e he,HGD.out.gr.rt e he⟩)).mono ?_
      rintro r w4 ⟨base,g,mb,gi,go,ins,outs,rfl,hst⟩
      have HN4:=Lib.hid hst
      clear hst
      obtain ⟨RA,Rc,R⟩:=R
      simp only at hl HRP HRK
      have hmk:=make_ints m (by have:=HM9.out; omega)
      have hrl : R.length=m:=by have:=HRP.out.2.2; omega
      have hz:=ordC_zero R
      rw [hrl] at hz
      rw [hz] at hmk
      clear hz
      have HRL:=Lib.hid hrl
      clear hrl
      go_wp2_with fail
      have HFR:=Lib.hid HN4.out.m.fresh
      have HSZ : Hid (w3.heap.size≤w4.heap.size):=Lib.hid HN4.out.m.bs.size
      have HN5:=Lib.hid (HN4.out.later ((Below.refl w4.heap.size w4).alloc (Nat.le_refl _) (.cells (ordC R 0) 3)))
      have HO5 : Hid (Blk (w4.alloc (.cells (ordC R 0) 3)) w4.heap.size 3 (ordC R 0)):=Lib.hid (Blk.new _ _ _)
      clear HN4 hmk
      generalize w4.alloc (.cells (ordC R 0) 3)=w5 at *
      obtain ⟨gq,hgq⟩ : ∃ x,w4.heap.size=x:=⟨_,rfl⟩
      rw [hgq] at HO5 HSZ ⊢
      have HFQ:=Lib.hid (HFR.out gq (by omega))
      clear hgq HFR
      go_loopw [35] (fun i wr=>∃ (k : Nat),k≤R.length∧i = .int .i64 k∧Hid (NetSt m base g mb gi go (· < w3.heap.size) w3 wr (opnL es.l) ins outs)∧Hid (Blk wr gq 3 (ordC R k))) (fun i _=>R.length - (intOf i).toNat)
      case atStart=>exact ⟨0,by omega,rfl,HN5,HO5⟩
      case round =>
        clear HN5 HO5
        obtain ⟨k,hk,rfl,HN,HO⟩:=hrel
        have HBR : Hid (Below w.heap.size w wr):=Lib.hid (HB3.out.trans ((HN.out.m.below (B:=w3.heap.size) fun b hb=>hb).mono HB3.out.size))
        by_cases hlt : k<R.length
        · have hlt' : (k : Int)<(R.length : Int):=by omega
          obtain ⟨b,o,rfl,hb,hcl⟩:=(HR.out.later HBR.out (Nat.le_refl _)).at1 hlt
          have g0:=hcl.c1
          simp only [Nat.mul_one] at g0
          have hx : R[k]? = some R[k]:=List.getElem?_eq_getElem hlt
          have hir:=HRK.out.rng _ (List.getElem_mem hlt)
          clear hcl hb
          generalize R[k]=x at *
          obtain ⟨xm,rfl⟩:=Int.eq_ofNat_of_zero_le hir.1
          have hxl : xm<R.length:=by have:=HRL.out; unfold Ir at hir; omega
          have hxm : (xm : Int)<(m : Int):=by unfold Ir at hir; omega
          have o0:=HO.out.cell xm
          rw [ordC_at R k xm hxl] at o0
          have of:=HO.out.frozen xm
          have HO2:=Lib.hid (HO.out.set_ xm (.int .i64 (k : Int)))
          rw [ordC_step HRP.out.1 hx] at HO2
          have HN2 : Hid (NetSt m base g mb gi go (· < w3.heap.size) w3 (wr.setCell ⟨gq,xm,none⟩ (.int .i64 (k : Int))) (opnL es.l) ins outs):=Lib.hid ⟨HN.out.m.far (p:=⟨gq,xm,none⟩) HFQ.out (by have:=HSZ.out; simp only; omega) _,HN.out.i⟩
          clear hx hir
          go_wp2_with fail
          go_roundw
          case rel=>exact ⟨k+1,by omega,by go_num,HN2,HO2⟩
          case measure=>simp [intOf]; omega
        · have hkl : k=R.length:=by omega
          subst hkl
          have HOR : Hid (∀ j : Nat,j<m→(ordC R R.length)[j]? = some (.int .i64 (vAt R j))):=Lib.hid (fun j hj=>by
            rw [ordC_at R R.length j (by have:=HRL.out; omega),List.take_length,if_pos (perm_mem m R HRK.out.nod HRK.out.rng HRK.out.len j hj)])
          have HZ0 : Hid (NetSt m base g mb gi go (fun b=>b<wr.heap.size∧b≠g∧b≠mb∧b≠gi∧b≠go∧∀ s,s ∈ outs ++ ins→s.A≠some ⟨b,0,none⟩) wr wr (opnL es.l) ins outs):=Lib.hid ⟨HN.out.m.reZ,HN.out.i⟩
          obtain ⟨Z5,hZ5⟩ : ∃ X,X=fun b=>b<wr.heap.size∧b≠g∧b≠mb∧b≠gi∧b≠go∧∀ s,s ∈ outs ++ ins→s.A≠some ⟨b,0,none⟩:=⟨_,rfl⟩
          have HZQ : Hid (Z5 gq):=Lib.hid (by rw [hZ5]; exact ⟨HO.out.lt,HFQ.out⟩)
          have HZB : Hid (∀ b,b<w3.heap.size→Z5 b):=Lib.hid (fun b hb=>by rw [hZ5]; exact HN.out.m.sub b hb)
          rw [← hZ5] at HZ0
          have HRZ : Hid (Rd Z5 1 ienc wr ⟨RA,Rc,R⟩):=Lib.hid ((HR.out.keep (w':=wr) fun b hb=>HBR.out.block b hb).mono fun b hb=>HZB.out b (by have:=HB3.out.size; omega))
          have HX5 : Hid (Blk wr w.heap.size 25 #[.slice none 0 0,.slice none 0 0]):=Lib.hid (((HN.out.m.below (B:=w3.heap.size) fun b hb=>hb).block w.heap.size HX3.out.lt).trans HX3.out)
          have HLZ : Hid (∀ f t,lkE (opnL es.l) f t=lkE (bldK m es.l R 0) f t):=Lib.hid (fun f t=>opnL_lk es.l f t)
          have HXL : Hid (w.heap.size<w3.heap.size):=Lib.hid HX3.out.lt
          clear hZ5 HN HFQ HX3
          have hm9:=HM9.out
          obtain ⟨wo,hwo⟩ : ∃ x,x=wr:=⟨_,rfl⟩
          subst hwo
          go_wp2_with fail
          go_loopw [47] (fun i wr=>∃ (k : Nat) (L : List ED) (ins' outs' : List (Sl Int)),k≤m∧i = .int .i64 k∧Hid (NetSt m base g mb gi go Z5 wo wr L ins' outs')∧Hid (∀ f t,lkE L f t=lkE (bldK m es.l R k) f t)) (fun i _=>m - (intOf i).toNat)
          case atStart=>exact ⟨0,opnL es.l,ins,outs,by omega,rfl,HZ0,HLZ⟩
          case round =>
            clear HZ0 HLZ
            obtain ⟨k,L,ins',outs',hk,rfl,HS,HQ⟩:=hrel
            by_cases hlt : k<m
            · have hlt' : (k : Int)<(m : Int):=by omega
              have q0:=(show Blk wr gq 3 _ from (HS.out.m.zk gq HZQ.out).trans HO.out).cell k
              rw [HOR.out k hlt] at q0
              have qz:=(show Blk wr gq 3 _ from (HS.out.m.zk gq HZQ.out).trans HO.out).lt
              have HVI:=Lib.hid (HRK.out.vat hlt)
              have hcall:=net_contract HS.out ⟨RA,Rc,R⟩ (vAt R k) (HRZ.out.keep fun b hb=>HS.out.m.zk b hb) HRL.out HM9.out HVI.out.1 (bld_inv HGD.out HRK.out (by omega) HM9.out HS.out.i.key HQ.out)
              simp only at hcall
              obtain ⟨v,hv⟩ : ∃ v,vAt R k=v:=⟨_,rfl⟩
              rw [hv] at hcall q0 HVI
              have HVE:=Lib.hid hv
              clear hv
              go_wp2_with fail
              refine hcall.mono ?_
              clear hcall q0 qz
              rintro r w6 ⟨rfl,L2,ins2,outs2,hst,hq⟩
              have HS2:=Lib.hid hst
              have HQ2 : Hid (∀ f t,lkE L2 f t=lkE (bldK m es.l R (k+1)) f t):=Lib.hid (fun f t=>by
                obtain ⟨hsr,hiv⟩:=bldK_P HGD.out HRK.out k (by omega)
                have he : lkE L=lkE (bldK m es.l R k):=by funext f t; exact HQ.out f t
                rw [hq f t,he,bldK_succ,HVE.out]
                exact ((contE_lk (rk:=rkF R) (v:=v) (n:=m) hsr (fun f t x hx=>(hiv.key f t x hx).2.2)).2 f t).symm)
              clear hst hq HS HQ
              go_wp2_with fail
              go_roundw
              case rel=>exact ⟨k+1,L2,ins2,outs2,by omega,by go_num,HS2,HQ2⟩
              case measure=>simp [intOf]; omega
            · have hkm : k=m:=by omega
              subst hkm
              have HBW : Hid (Below w.heap.size w wr):=Lib.hid (HBR.out.trans (HS.out.m.below (B:=w.heap.size) fun b hb=>HZB.out b (by have:=HB3.out.size; omega)))
              have HX6 : Hid (Blk wr w.heap.size 25 #[.slice none 0 0,.slice none 0 0]):=Lib.hid ((HS.out.m.zk _ (HZB.out _ HXL.out)).trans HX5.out)
              have HM6:=Lib.hid HS.out.m.mp
              have HG6:=Lib.hid HS.out.m.bg
              have HLL : Hid (L.length≤81):=Lib.hid (by
                have h1:=HS.out.i.len
                have h3 : k * k≤9 * 9:=Nat.mul_le_mul hm9 hm9
                omega)
              clear HX5 HS HRZ HZQ HZB HOR HO HBR HSZ
              go_wp2_with fail
              refine (clone_int ⟨RA,Rc,R⟩ wr (HR.out.later HBW.out (Nat.le_refl _)) (by simp only; omega)).mono ?_
              rintro r w7 ⟨A7,c7,rfl,hown,hb⟩
              have HR7:=Lib.hid (hown.mono (show w.heap.size+1≤wr.heap.size from HX6.out.lt))
              have HB7:=Lib.hid (HBW.out.trans (hb.mono HBW.out.size))
              have HX7:=Lib.hid (HX6.out.later hb)
              have HM7:=Lib.hid (HM6.out.later hb)
              have HG7:=Lib.hid (HG6.out.later hb)
              clear hown hb HX6 HM6 HG6 HBW
              simp only at HR7 ⊢
              obtain ⟨g0,g1,g2,gf,gz⟩:=HG7.out.b3
              go_wp2_with (at_range; apply Hid.out)
              clear g0 g1 g2 gf gz
              have hal : Below w7.heap.size w7 (w7.alloc (.cells #[.slice A7 R.length c7,.slice none 0 0] 25)):=(Below.refl _ _).alloc (Nat.le_refl _) _
              have HH8 : Hid (Blk (w7.alloc (.cells #[.slice A7 R.length c7,.slice none 0 0] 25)) w7.heap.size 25 #[.slice A7 R.length c7,.slice none 0 0]):=Lib.hid (Blk.new _ _ _)
              have HNE : Hid (w.heap.size<w7.heap.size):=Lib.hid HX7.out.lt
              have HMH : Hid (mb<w7.heap.size):=Lib.hid HM7.out.lt
              have HR8:=Lib.hid (HR7.out.below hal)
              have HB8:=Lib.hid (HB7.out.trans (hal.mono HB7.out.size))
              have HX8:=Lib.hid (HX7.out.later hal)
              have HM8:=Lib.hid (HM7.out.later hal)
              have HAG : Hid (∀ a,A7=some ⟨a,0,none⟩→a<w7.heap.size):=Lib.hid HR7.out.bound
              clear hal HR7 HB7 HX7 HM7 HG7
              generalize w7.alloc (.cells #[.slice A7 R.length c7,.slice none 0 0] 25)=w8 at *
              generalize w7.heap.size=gh at *
              refine Lib.hid ?_
              refine wpl_range_E rfl (.tmp 64) 52 rfl 44 Try.underlying52 HM8.out rfl ?_
              rintro w9 hrg ⟨itm,hal⟩
              have hb : Below w8.heap.size w8 w9:=by rw [hal]; exact (Below.refl _ _).alloc (Nat.le_refl _) _
              have hsz : w9.heap.size=w8.heap.size+1:=by rw [hal]; simp
              have HRG:=Lib.hid hrg
              have HR9:=Lib.hid (HR8.out.below hb)
              have HB9:=Lib.hid (HB8.out.trans (hb.mono HB8.out.size))
              have HX9:=Lib.hid (HX8.out.later hb)
              have HH9:=Lib.hid (HH8.out.later hb)
              have HLT : Hid (w.heap.size<w9.heap.size∧mb<w9.heap.size∧gh<w9.heap.size∧w8.heap.size<w9.heap.size∧mb≠gh∧gh≠w8.heap.size∧w.heap.size≠gh):=Lib.hid (by
                have h1:=HX8.out.lt
                have h2:=HM8.out.lt
                have h3:=HH8.out.lt
                have h4:=HNE.out
                have h5:=HMH.out
                omega)
              have HKD:=Lib.hid HM8.out.keyD
              have HIT : Hid (w.heap.size<w8.heap.size):=Lib.hid HX8.out.lt
              have HA7 : Hid (∀ a,A7=some ⟨a,0,none⟩→a<w8.heap.size):=Lib.hid HR8.out.bound
              clear hal hb hsz hrg HR8 HB8 HX8 HH8 HM8
              generalize w8.heap.size=it at *
              go_frame
              refine wpList_nil ?_
              go_wp2_with fail
              go_loopw [66] (fun _ wr=>∃ (out : List ED) (A : Option Addr) (c : Nat),Hid (RngE wr mb it L out)∧Hid (Own w9.heap.size 44 4 ED.enc wr ⟨A,c,out⟩)∧Hid (Blk wr gh 25 #[.slice A7 R.length c7,.slice A out.length c])∧Hid (Below w.heap.size w wr)∧Hid (Blk wr w.heap.size 25 #[.slice none 0 0,.slice none 0 0])∧Hid (w9.heap.size≤wr.heap.size)∧Hid (Own (w.heap.size+1) 3 1 ienc wr ⟨A7,c7,R⟩)) (fun _ wr=>L.length - cellLen wr gh)
              case atStart=>exact ⟨[],none,0,HRG,Lib.hid (Own.nil _ _ _ _ _),HH9,HB9,HX9,Lib.hid (Nat.le_refl _),HR9⟩
              case round =>
                clear HRG HR9 HB9 HX9 HH9
                obtain ⟨out,A,c,HRG,HOU,HHH,HBB,HXX,HZZ,HRR⟩:=hrel
                go_wp2_with (at_next; apply Hid.out)
                refine Lib.hid ?_
                refine wpl_next_E rfl (.tmp 65) rfl rfl HRG.out ?_ ?_
                · intro hperm
                  go_frame
                  have HPM:=Lib.hid hperm
                  clear hperm
                  obtain ⟨h0,h1,hf,hz⟩:=HHH.out.b2
                  go_wp2_with fail
                  clear h0 h1 hf hz
                  refine (sort_edge ⟨A,c,out⟩ w9.heap.size wr HOU.out (by have:=HPM.out.length_eq; have:=HLL.out; simp only; omega)).mono ?_
                  rintro r w11 ⟨rfl,l',hp2,hpw,hown,hg⟩
                  simp only at hp2 hown hg
                  have hrow : ∀ q,(Value.slice A out.length c).ownBlock=some q→w9.heap.size≤q:=fun q hq=>(own_row HOU.out q hq).2.1
                  have HH2:=Lib.hid (HHH.out.grown hg (fun e=>by have:=hrow gh e.symm; have:=HLT.out; omega))
                  have HX2:=Lib.hid (HXX.out.grown hg (fun e=>by have:=hrow w.heap.size e.symm; have:=HLT.out; omega))
                  have HR2:=Lib.hid (own_keep_lt HRR.out hg hrow (fun a ha=>Nat.lt_trans (HA7.out a ha) HLT.out.2.2.2.1))
                  have HB2:=Lib.hid (HBB.out.trans (below_of_grown hg HBB.out.size (fun q hq=>by have:=hrow q hq; have:=HLT.out; omega)))
                  have HO2:=Lib.hid hown
                  have hlen : l'.length=out.length:=hp2.length_eq
                  have HLE : Hid (l'=bldL k es.l R):=Lib.hid (by
                    have hper:=hp2.trans HPM.out
                    refine srt_ext (srt_of HKD.out hper hpw) (build_ok HGD.out HRK.out).1 (fun f t=>?_)
                    rw [perm_lk HKD.out hper]
                    exact HQ.out f t)
                  have hol : (out.length : Int)≤200000:=by have:=HPM.out.length_eq; have:=HLL.out; omega
                  clear hp2 hpw hown hg hrow HRG HOU HHH HXX HRR HBB
                  obtain ⟨h0,h1,hf,hz⟩:=HH2.out.b2
                  obtain ⟨x0,x1,xf,xz⟩:=HX2.out.b2
                  go_wp2_with fail
                  have HY:=(HX2.out.set_ 0 (.slice A7 R.length c7)).set_ 1 (.slice A out.length c)
                  obtain ⟨y0,y1,yf,yz⟩:=Blk.b2 (x:=.slice A7 R.length c7) (y:=.slice A out.length c) HY
                  have HR3:=((HR2.out.far (a:=⟨w.heap.size,0,none⟩) (Nat.lt_succ_self _) (.slice A7 R.length c7)).far (a:=⟨w.heap.size,1,none⟩) (Nat.lt_succ_self _) (.slice A out.length c)).mono (Nat.le_succ w.heap.size)
                  have HO3:=((HO2.out.far (a:=⟨w.heap.size,0,none⟩) HLT.out.1 (.slice A7 R.length c7)).far (a:=⟨w.heap.size,1,none⟩) HLT.out.1 (.slice A out.length c)).mono (Nat.le_of_lt HLT.out.1)
                  clear x0 x1 xf xz h0 h1 hf hz
                  refine bodyPost_ret (v:=.tuple #[.agg #[.slice A7 R.length c7,.slice A out.length c],.int .i64 0]) ?_ rfl ⟨A7,A,c7,c,by rw [← HLE.out,hlen],HR3, ?_,(HB2.out.setCell (Nat.le_refl _) _).setCell (Nat.le_refl _) _⟩
                  · simp [results,Try.results10,go_sem,y0,y1]
                  · rw [← HLE.out]
                    exact HO3
                · intro x w10 hx hlt hrg hg hsz hen
                  go_frame
                  obtain ⟨xf,xt,xn,xv⟩:=x
                  simp only at hen ⊢
                  have HRG2:=Lib.hid hrg
                  have HOU2:=Lib.hid (HOU.out.kept hg (.inr (fun e=>by have:=(own_row HOU.out it e).2.1; have:=HLT.out; omega)))
                  have HHH2:=Lib.hid (HHH.out.grown hg (fun e=>by injection e with e; exact HLT.out.2.2.2.2.2.1 e))
                  have HXX2:=Lib.hid (HXX.out.grown hg (fun e=>by injection e with e; have:=HIT.out; omega))
                  have HRR2:=Lib.hid (own_keep_lt HRR.out hg (fun q hq=>by injection hq with hq; exact Nat.le_of_eq hq) HA7.out)
                  have HBB2:=Lib.hid (HBB.out.trans (below_of_grown hg HBB.out.size (fun q hq=>by injection hq with hq; subst hq; exact Nat.le_of_lt HIT.out)))
                  have HZZ2:=Lib.hid (Nat.le_trans HZZ.out hg.size)
                  have hcl:=cellLen_of HHH.out
                  have HCL:=Lib.hid hcl
                  have hLo:=hlt
                  have hL81:=HLL.out
                  clear hx hrg hg hsz HRG HOU HHH HXX HRR HBB HZZ hcl hlt
                  obtain ⟨h0,h1,hf,hz⟩:=HHH2.out.b2
                  go_wp2_with (at_builtin; apply Hid.out)
                  clear h0 h1 hf hz
                  refine Lib.hid ?_
                  generalize hW1 : w10.alloc (.cells #[.int .i64 xf,.int .i64 xt,.int .i64 xn,.int .i64 xv] 44)=wa
                  have hb1 : Below w10.heap.size w10 wa:=by rw [← hW1]; exact (Below.refl _ _).alloc (Nat.le_refl _) _
                  generalize hW2 : wa.alloc (.cells #[.int .i64 xf,.int .i64 xt,.int .i64 xn,.int .i64 xv] 44)=wb
                  have hb2 : Below wa.heap.size wa wb:=by rw [← hW2]; exact (Below.refl _ _).alloc (Nat.le_refl _) _
                  have hbb:=hb1.trans (hb2.mono hb1.size)
                  have HRG3:=Lib.hid (HRG2.out.below hbb HRG2.out.lt.1 HRG2.out.lt.2)
                  have HOU3:=Lib.hid (HOU2.out.below hbb)
                  have HHH3:=Lib.hid (HHH2.out.later hbb)
                  have HXX3:=Lib.hid (HXX2.out.later hbb)
                  have HRR3:=Lib.hid (HRR2.out.below hbb)
                  have HBB3:=Lib.hid (HBB2.out.trans (hbb.mono HBB2.out.size))
                  have HZZ3:=Lib.hid (Nat.le_trans HZZ2.out hbb.size)
                  have hsa : wa.heap.size=w10.heap.size+1:=by rw [← hW1]; simp
                  have hek : Blk wb (w10.heap.size+1) 44 (ED.enc ⟨xf,xt,xn,xv⟩).toArray:=by
                    rw [← hW2,← hsa]
                    exact Blk.new _ _ _
                  have HEK:=Lib.hid hek
                  have hz9 : w9.heap.size≤wb.heap.size:=HZZ3.out
                  clear hW1 hW2 hb1 hb2 hbb hsa hek HRG2 HOU2 HHH2 HXX2 HRR2 HBB2 HZZ2
                  refine wpl_append_sl _ rfl (.tmp 71) (.tmp 73) _ rfl Try.underlying22 infoEdge (by omega) ED.k ED.one ⟨A,c,out⟩ ⟨some ⟨w10.heap.size+1,0,none⟩,1,[⟨xf,xt,xn,xv⟩]⟩ rfl rfl HOU3.out (rd_ed1 HEK.out) (by simp [maxLen]; omega) (by simp; omega) hz9 ?_
                  intro A2 c2 wc hown hg _
                  simp only at hown hg
                  have hrow : ∀ q,(Value.slice A out.length c).ownBlock=some q→w9.heap.size≤q:=fun q hq=>(own_row HOU3.out q hq).2.1
                  have HRG4:=Lib.hid (HRG3.out.grown hg (fun e=>by have:=hrow mb e.symm; have:=HLT.out; omega) (fun e=>by have:=hrow it e.symm; have:=HLT.out; omega))
                  have HHH4:=Lib.hid (HHH3.out.grown hg (fun e=>by have:=hrow gh e.symm; have:=HLT.out; omega))
                  have HXX4:=Lib.hid (HXX3.out.grown hg (fun e=>by have:=hrow w.heap.size e.symm; have:=HLT.out; omega))
                  have HRR4:=Lib.hid (own_keep_lt HRR3.out hg hrow (fun a ha=>Nat.lt_trans (HA7.out a ha) HLT.out.2.2.2.1))
                  have HBB4:=Lib.hid (HBB3.out.trans (below_of_grown hg HBB3.out.size (fun q hq=>by have:=hrow q hq; have:=HLT.out; omega)))
                  have HZZ4:=Lib.hid (Nat.le_trans HZZ3.out hg.size)
                  have HOU4:=Lib.hid hown
                  have hle2 : (out ++ [(⟨xf,xt,xn,xv⟩ : ED)]).length=out.length+1:=by simp
                  clear hown hg hrow hz9 HRG3 HOU3 HHH3 HXX3 HRR3 HBB3 HZZ3 HEK
                  simp only [hle2]
                  obtain ⟨h0,h1,hf,hz⟩:=HHH4.out.b2
                  go_wp2_with fail
                  clear h0 h1 hf hz
                  have HHX:=HHH4.out.set_ 1 (.slice A2 (out.length+1) c2)
                  go_roundw
                  case rel=>exact ⟨out ++ [⟨xf,xt,xn,xv⟩],A2,c2,Lib.hid (HRG4.out.far (fun e=>HLT.out.2.2.2.2.1 e) (fun e=>HLT.out.2.2.2.2.2.1 e.symm) _),Lib.hid (HOU4.out.far HLT.out.2.2.1 _),Lib.hid (by rw [hle2]; exact HHX),Lib.hid (HBB4.out.setCell (Nat.le_of_lt HNE.out) _),Lib.hid (HXX4.out.far HLT.out.2.2.2.2.2.2 _),Lib.hid (by simpa using HZZ4.out),Lib.hid (HRR4.out.other (fun a ha=>Nat.ne_of_lt (HAG.out a ha)) _)⟩
                  case measure => 
                    rw [HCL.out,cellLen_of HHX]
                    omega
end Go.Proofs.Ytlbihfbeamlacaa
