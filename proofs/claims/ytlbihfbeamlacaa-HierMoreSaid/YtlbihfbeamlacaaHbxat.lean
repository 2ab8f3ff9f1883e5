/- Walk: a net's contract. -/
import Derived.Test.YtlbihfbeamlacaaHbxas
set_option linter.unusedSimpArgs false
set_option linter.unusedVariables false
set_option maxRecDepth 100000
set_option maxHeartbeats 6400000
namespace Go.Proofs.Ytlbihfbeamlacaa
open Go.RowKit
theorem own_apart {α : Type} {B' : Nat} {e : TypeId} {k : Nat} {enc : α→List Value} {w w' : World} {s t : Sl α} (h : Own w.heap.size e k enc w' s) (h' : Own B' e k enc w t) : ∀ a,t.A=some a→s.A≠some a:=fun a ht hs=>by
  rcases h.form with ⟨h0,_⟩ | ⟨g,h0,h1,_⟩
  · rw [h0] at hs; cases hs
  · have:=h'.bound g (by rw [ht,← hs,h0])
    omega
theorem kept_ap {α : Type} {B B' : Nat} {e : TypeId} {k : Nat} {enc : α→List Value} {w w' : World} {s t : Sl α} (h : Own B e k enc w s) (h' : Own B' e k enc w t) (hne : ∀ a,s.A=some a→t.A≠some a) (hg : w.grownBy w' (Value.slice s.A s.l.length s.c).ownBlock) : Own B' e k enc w' t:=by
  refine h'.kept hg ?_
  rcases h'.form with ⟨h0,_⟩ | ⟨g,h0,_⟩
  · left; rw [h0]; simp [Value.ownBlock]
  · right
    intro hc
    rw [h0] at hc
    simp only [Value.ownBlock] at hc
    have:=(own_row h g hc.symm).1
    exact hne _ this h0
def lowB (R : List Int) (v : Int) (u : Int) : Bool:=decide (rkF R u<rkF R v)
theorem contract1 (R : Sl Int) (n : Nat) (v u : Int) (gr gv : Nat) (w : World) (hr : Rd (· < w.heap.size) 1 ienc w R) (hn : R.l.length=n) (hv : Ir n v) (hu : Ir n u) (h1 : w.cell? ⟨gr,0,none⟩=some (.slice R.A R.l.length R.c)) (h2 : w.cell? ⟨gv,0,none⟩=some (.int .i64 v)) :
    Calls Try.prog 46 #[.int .i64 u,.pointer (some ⟨gr,0,none⟩),.pointer (some ⟨gv,0,none⟩)] w fun r w'=>r = .returned (.bool (lowB R.l v u))∧Below w.heap.size w w':=by
  obtain ⟨um,rfl⟩:=Int.eq_ofNat_of_zero_le hu.1
  obtain ⟨vm,rfl⟩:=Int.eq_ofNat_of_zero_le hv.1
  have hum : um<R.l.length:=by unfold Ir at hu; omega
  have hvm : vm<R.l.length:=by unfold Ir at hv; omega
  obtain ⟨b,o,hA,hb,hcl⟩:=hr.at1 hum
  obtain ⟨b',o',hA',hb',hcl'⟩:=hr.at1 hvm
  have HV : Hid (lowB R.l vm um=decide (R.l[um]<R.l[vm])):=Lib.hid (by
    unfold lowB rkF
    rw [Int.toNat_natCast,Int.toNat_natCast,List.getElem?_eq_getElem hum,List.getElem?_eq_getElem hvm]; rfl)
  rw [HV.out]
  obtain ⟨A,c,R⟩:=R
  simp only at hA hA' hum hvm hcl hcl' h1
  subst hA
  injection hA' with hA'
  injection hA' with e1 e2
  subst e1 e2
  have g0:=hcl.c1
  have g1:=hcl'.c1
  simp only [Nat.mul_one] at g0 g1
  have hum' : (um : Int)<(R.length : Int):=by omega
  have hvm' : (vm : Int)<(R.length : Int):=by omega
  simp only
  generalize R[um]=x at *
  generalize R[vm]=y at *
  clear hr hu hv hcl hcl' HV hn
  go_enter Try.func46,Try.ntmps46
  go_wp2_with fail
  refine wp_region_T (fun W=>W.cell? ⟨gr,0,none⟩=some (.slice (some ⟨b,o,none⟩) R.length c)∧W.cell? ⟨gv,0,none⟩=some (.int .i64 (vm : Nat))∧W.cell? ⟨b,o+um,none⟩=some (.int .i64 x)∧W.cell? ⟨b,o+vm,none⟩=some (.int .i64 y)) (fun _=>false) (by kernel_rfl) ⟨h1,h2,g0,g1⟩ (fun hHeld=>?_)
  refine wpAnyT_take2 (i:=0) (v:=?_) rfl rfl (by kernel_rfl) (by kernel_rfl) (by kernel_rfl) (by kernel_rfl) (fun _ _ _ h=>h) (Or.inl ⟨by rfl, ?_⟩) (by first | assumption | trivial) ?_
  rotate_left
  · (intro w hSw; (try dsimp only at hSw); go_simp) <;> (with_reducible rfl)
  simp only [List.setIfInBounds_toArray,List.set_cons_zero,List.set_cons_succ]
  refine wpAnyT_take2 (i:=1) (v:=?_) rfl rfl (by kernel_rfl) (by kernel_rfl) (by kernel_rfl) (by kernel_rfl) (fun _ _ _ h=>h) (Or.inl ⟨by rfl, ?_⟩) (by first | assumption | trivial) ?_
  rotate_left
  · (intro w hSw; (try dsimp only at hSw); go_simp) <;> (with_reducible rfl)
  simp only [List.setIfInBounds_toArray,List.set_cons_zero,List.set_cons_succ]
  refine wpAnyT_take2 (i:=2) (v:=?_) rfl rfl (by kernel_rfl) (by kernel_rfl) (by kernel_rfl) (by kernel_rfl) (fun _ _ _ h=>h) (Or.inl ⟨by rfl, ?_⟩) (by first | assumption | trivial) ?_
  rotate_left
  · (intro w hSw; (try dsimp only at hSw); go_simp) <;> (with_reducible rfl)
  simp only [List.setIfInBounds_toArray,List.set_cons_zero,List.set_cons_succ]
  refine wpAnyT_take2 (i:=3) (v:=?_) rfl rfl (by kernel_rfl) (by kernel_rfl) (by kernel_rfl) (by kernel_rfl) (fun _ _ _ h=>h) (Or.inl ⟨by rfl, ?_⟩) (by first | assumption | trivial) ?_
  rotate_left
  · (intro w hSw; (try dsimp only at hSw); go_simp) <;> (with_reducible rfl)
  simp only [List.setIfInBounds_toArray,List.set_cons_zero,List.set_cons_succ]
  refine wpAnyT_take2 (i:=4) (v:=?_) rfl rfl (by kernel_rfl) (by kernel_rfl) (by kernel_rfl) (by kernel_rfl) (fun _ _ _ h=>h) (Or.inl ⟨by rfl, ?_⟩) (by first | assumption | trivial) ?_
  rotate_left
  · (intro w hSw; (try dsimp only at hSw); go_simp) <;> (with_reducible rfl)
  simp only [List.setIfInBounds_toArray,List.set_cons_zero,List.set_cons_succ]
  refine wpAnyT_take2 (i:=5) (v:=?_) rfl rfl (by kernel_rfl) (by kernel_rfl) (by kernel_rfl) (by kernel_rfl) (fun _ _ _ h=>h) (Or.inl ⟨by rfl, ?_⟩) (by first | assumption | trivial) ?_
  rotate_left
  · (intro w hSw; (try dsimp only at hSw); go_simp) <;> (with_reducible rfl)
  simp only [List.setIfInBounds_toArray,List.set_cons_zero,List.set_cons_succ]
  refine wpAnyT_take2 (i:=6) (v:=?_) rfl rfl (by kernel_rfl) (by kernel_rfl) (by kernel_rfl) (by kernel_rfl) (fun _ _ _ h=>h) (Or.inl ⟨by rfl, ?_⟩) (by first | assumption | trivial) ?_
  rotate_left
  · (intro w hSw; (try dsimp only at hSw); go_simp) <;> (with_reducible rfl)
  simp only [List.setIfInBounds_toArray,List.set_cons_zero,List.set_cons_succ]
  refine wpAnyT_take2 (i:=7) (v:=?_) rfl rfl (by kernel_rfl) (by kernel_rfl) (by kernel_rfl) (by kernel_rfl) (fun _ _ _ h=>h) (Or.inl ⟨by rfl, ?_⟩) (by first | assumption | trivial) ?_
  rotate_left
  · (intro w hSw; (try dsimp only at hSw); go_simp) <;> (with_reducible rfl)
  simp only [List.setIfInBounds_toArray,List.set_cons_zero,List.set_cons_succ]
  refine wpAnyT_take2 (i:=8) (v:=?_) rfl rfl (by kernel_rfl) (by kernel_rfl) (by kernel_rfl) (by kernel_rfl) (fun _ _ _ h=>h) (Or.inl ⟨by rfl, ?_⟩) (by first | assumption | trivial) ?_
  rotate_left
  · (intro w hSw; (try dsimp only at hSw); go_simp) <;> (with_reducible rfl)
  simp only [List.setIfInBounds_toArray,List.set_cons_zero,List.set_cons_succ]
  refine wpAnyT_take2 (i:=9) (v:=?_) rfl rfl (by kernel_rfl) (by kernel_rfl) (by kernel_rfl) (by kernel_rfl) (fun _ _ _ h=>h) (Or.inl ⟨by rfl, ?_⟩) (by first | assumption | trivial) ?_
  rotate_left
  · (intro w hSw; (try dsimp only at hSw); go_simp) <;> (with_reducible rfl)
  simp only [List.setIfInBounds_toArray,List.set_cons_zero,List.set_cons_succ]
  refine wpAnyT_done (by kernel_rfl) ?_ _
  go_wp2_with fail
  go_ret
  exact ⟨rfl,Below.drew (Below.refl _ _)⟩
/-- What contract leaves. -/
def CnP (n base g mb gi go : Nat) (Z : Nat→Prop) (w0 w' : World) (l : List ED) (R : List Int) (v : Int) (r : Ending) : Prop:=r = .returned (.bool true)∧∃ L ins outs,NetSt n base g mb gi go Z w0 w' L ins outs∧∀ f t,lkE L f t=cvF (lkE l) (rkF R) v f t
theorem NetM.fresh {n base g mb gi go : Nat} {Z : Nat→Prop} {w0 w : World} {l : List ED} {ins outs : List (Sl Int)} (h : NetM n base g mb gi go Z w0 w l ins outs) : ∀ b,w.heap.size≤b→b≠g∧b≠mb∧b≠gi∧b≠go∧∀ s,s ∈ outs ++ ins→s.A≠some ⟨b,0,none⟩:=fun b hb=>by
  have h1:=h.lt
  have h2:=h.bb
  refine ⟨by omega,by omega,by omega,by omega,fun s hs hA=>?_⟩
  obtain ⟨i,hi⟩:=List.getElem?_of_mem hs
  have:=(h.fam.own i s hi).bound b hA
  omega
theorem net_contract {n base g mb gi go : Nat} {Z : Nat→Prop} {w0 w : World} {l : List ED} {ins outs : List (Sl Int)} (st : NetSt n base g mb gi go Z w0 w l ins outs) (R : Sl Int) (v : Int) (hR : Rd Z 1 ienc w R) (hRn : R.l.length=n) (h9 : n≤9) (hv : Ir n v) (hM : ∀ x,x ∈ l→0≤x.n∧x.n≤1000000000000) :
    Calls Try.prog 27 #[.pointer (some ⟨g,0,none⟩),.int .i64 v,.slice R.A R.l.length R.c] w fun r w'=>CnP n base g mb gi go Z w0 w' l R.l v r:=by
  have hmf : ∀ (fn : Fn) (first cap : Array Value) (w : World),(Instr.makeFunc fn first cap).run Try.prog w = .ok (.func fn first cap) w:=fun _ _ _ _=>rfl
  obtain ⟨vm,rfl⟩:=Int.eq_ofNat_of_zero_le hv.1
  obtain ⟨s1,hs1,ho1,hn1,hm1,hl1⟩:=st.outAt hv
  obtain ⟨s2,hs2,ho2,hn2,hm2,hl2⟩:=st.inAt hv
  rw [Int.toNat_natCast] at hs1 hs2
  have HST:=Lib.hid st
  have HV:=Lib.hid hv
  have HS1:=Lib.hid hs1
  have HS2:=Lib.hid hs2
  have HMI:=Lib.hid hM
  have HMO1:=Lib.hid hm1
  have HMO2:=Lib.hid hm2
  have HL : Hid (s1.l.length≤n∧s2.l.length≤n∧n≤9):=Lib.hid ⟨hl1,hl2,h9⟩
  have HM1 : Hid (∀ x,x ∈ s2.l→Ir n x):=Lib.hid (fun u hu=>by
    obtain ⟨x,hx,hf,_⟩:=lk_mem_iff.1 ((hm2 u).1 hu)
    rw [← hf]; exact (st.i.rng x hx).1)
  have HM2 : Hid (∀ x,x ∈ s1.l→Ir n x):=Lib.hid (fun u hu=>by
    obtain ⟨x,hx,_,ht⟩:=lk_mem_iff.1 ((hm1 u).1 hu)
    rw [← ht]; exact (st.i.rng x hx).2.1)
  have HRd : Hid (Rd (· < w.heap.size) 1 ienc w R):=Lib.hid (hR.mono fun b hb=>(st.m.sub b hb).1)
  have HRN:=Lib.hid hRn
  have HND : Hid (s1.l.Nodup∧s2.l.Nodup):=Lib.hid ⟨hn1,hn2⟩
  have HVM : Hid (vm<n):=Lib.hid (by unfold Ir at hv; omega)
  have HX1 : Hid (Rd (· < w.heap.size) 1 ienc w s2):=Lib.hid ((ho2.rd ienc_k).mono fun b hb=>hb.2)
  have HX2 : Hid (Rd (· < w.heap.size) 1 ienc w s1):=Lib.hid ((ho1.rd ienc_k).mono fun b hb=>hb.2)
  have HSZ : Hid (w.heap.size<w.heap.size+1):=Lib.hid (Nat.lt_succ_self _)
  clear st hv hs1 hs2 ho1 ho2 hn1 hn2 hm1 hm2 hl1 hl2 hR hRn h9 hM
  obtain ⟨RA,Rc,R⟩:=R
  simp only at HRN
  go_enter Try.func27,Try.ntmps27
  go_wp2_with fail
  have HB1 : Hid (Below w.heap.size w ((w.alloc (.cells #[.int .i64 (vm : Nat)] 3)).alloc (.cells #[.slice RA R.length Rc] 23))):=Lib.hid (by repeat (first | (with_reducible exact Below.refl _ _) | ((with_reducible refine below_setr ?_ ?_); focus (first | (simp; done) | (simp; omega) | omega)) | ((with_reducible refine below_allocr ?_ ?_); focus (first | (simp; done) | (simp; omega) | omega)) | (with_reducible refine Below.drew ?_) | (with_reducible refine below_drewN ?_ _)))
  have HBV : Hid (Blk ((w.alloc (.cells #[.int .i64 (vm : Nat)] 3)).alloc (.cells #[.slice RA R.length Rc] 23)) w.heap.size 3 #[.int .i64 (vm : Nat)]):=Lib.hid ((Blk.new _ _ _).alloc _)
  have HBR : Hid (Blk ((w.alloc (.cells #[.int .i64 (vm : Nat)] 3)).alloc (.cells #[.slice RA R.length Rc] 23)) (w.heap.size+1) 23 #[.slice RA R.length Rc]):=Lib.hid (Blk.new' (by simp))
  generalize (w.alloc (.cells #[.int .i64 (vm : Nat)] 3)).alloc (.cells #[.slice RA R.length Rc] 23)=w1 at *
  obtain ⟨gr,hgr⟩ : ∃ x,w.heap.size+1=x:=⟨_,rfl⟩
  rw [hgr] at HBR HSZ ⊢
  clear hgr
  obtain ⟨gv,hgv⟩ : ∃ x,w.heap.size=x:=⟨_,rfl⟩
  rw [hgv] at HBV ⊢
  have HGV : Hid (w.heap.size≤gv):=Lib.hid (by omega)
  clear hgv
  have HDR : Below w1.heap.size w1 w1.drew:=Below.drew (Below.refl _ _)
  replace HB1:=Lib.hid (HB1.out.trans (HDR.mono HB1.out.size))
  replace HBV:=Lib.hid (HBV.out.later HDR)
  replace HBR:=Lib.hid (HBR.out.later HDR)
  have hS2 : w1.drew.cell? ⟨g,1,none⟩=some (.slice (some ⟨gi,0,none⟩) n n)∧w1.drew.cell? ⟨g,2,none⟩=some (.slice (some ⟨go,0,none⟩) n n)∧w1.drew.cell? ⟨gv,0,none⟩=some (.int .i64 (vm : Nat))∧w1.drew.cell? ⟨gi,vm,none⟩=some (.slice s2.A s2.l.length s2.c)∧w1.drew.cell? ⟨go,vm,none⟩=some (.slice s1.A s1.l.length s1.c):=by
    have h:=HST.out.m.later HB1.out
    exact ⟨h.bg.cell 1,h.bg.cell 2,HBV.out.cell 0,(h.bi.cell vm).trans (svA_at HS2.out),(h.bo.cell vm).trans (svA_at HS1.out)⟩
  have HSA : Hid (∀ W,Below w1.drew.heap.size w1.drew W→W.cell? ⟨g,1,none⟩=some (.slice (some ⟨gi,0,none⟩) n n)∧W.cell? ⟨g,2,none⟩=some (.slice (some ⟨go,0,none⟩) n n)∧W.cell? ⟨gv,0,none⟩=some (.int .i64 (vm : Nat))∧W.cell? ⟨gi,vm,none⟩=some (.slice s2.A s2.l.length s2.c)∧W.cell? ⟨go,vm,none⟩=some (.slice s1.A s1.l.length s1.c)):=Lib.hid (fun W hW=>by
    have h:=(HST.out.m.later HB1.out).later hW
    exact ⟨h.bg.cell 1,h.bg.cell 2,(HBV.out.later hW).cell 0,(h.bi.cell vm).trans (svA_at HS2.out),(h.bo.cell vm).trans (svA_at HS1.out)⟩)
  have HLO : Hid (∀ W x,Ir n x→Below w1.drew.heap.size w1.drew W→Calls Try.prog 46 #[.int .i64 x,.pointer (some ⟨gr,0,none⟩),.pointer (some ⟨gv,0,none⟩)] W fun r w'=>r = .returned (.bool (lowB R vm x))∧Below W.heap.size W w'):=Lib.hid (fun W x hx hW =>
    contract1 ⟨RA,Rc,R⟩ n vm x gr gv W ((HRd.out.later HB1.out (Nat.le_refl _)).later hW (Nat.le_refl _)) HRN.out HV.out hx ((HBR.out.later hW).cell 0) ((HBV.out.later hW).cell 0))
  replace HX1 : Hid (Rd (· < w1.drew.heap.size) 1 ienc w1.drew s2):=Lib.hid (HX1.out.later HB1.out (Nat.le_refl _))
  replace HX2 : Hid (Rd (· < w1.drew.heap.size) 1 ienc w1.drew s1):=Lib.hid (HX2.out.later HB1.out (Nat.le_refl _))
  have hvn : (vm : Int)<(n : Int):=by have:=HVM.out; omega
  refine wp_region_T (fun W=>W.cell? ⟨g,1,none⟩=some (.slice (some ⟨gi,0,none⟩) n n)∧W.cell? ⟨g,2,none⟩=some (.slice (some ⟨go,0,none⟩) n n)∧W.cell? ⟨gv,0,none⟩=some (.int .i64 (vm : Nat))∧W.cell? ⟨gi,vm,none⟩=some (.slice s2.A s2.l.length s2.c)∧W.cell? ⟨go,vm,none⟩=some (.slice s1.A s1.l.length s1.c)) (fun _=>false) (by kernel_rfl) hS2 (fun hHeld=>?_)
  refine wpAnyT_take2 (i:=0) (v:=?_) rfl rfl (by kernel_rfl) (by kernel_rfl) (by kernel_rfl) (by kernel_rfl) (fun _ _ _ h=>h) (Or.inl ⟨by rfl, ?_⟩) (by first | assumption | trivial) ?_
  rotate_left
  · (intro w hSw; (try dsimp only at hSw); go_simp) <;> (with_reducible rfl)
  simp only [List.setIfInBounds_toArray,List.set_cons_zero,List.set_cons_succ]
  refine wpAnyT_take2 (i:=1) (v:=?_) rfl rfl (by kernel_rfl) (by kernel_rfl) (by kernel_rfl) (by kernel_rfl) (fun _ _ _ h=>h) (Or.inl ⟨by rfl, ?_⟩) (by first | assumption | trivial) ?_
  rotate_left
  · (intro w hSw; (try dsimp only at hSw); go_simp) <;> (with_reducible rfl)
  simp only [List.setIfInBounds_toArray,List.set_cons_zero,List.set_cons_succ]
  refine wpAnyT_take2 (i:=2) (v:=?_) rfl rfl (by kernel_rfl) (by kernel_rfl) (by kernel_rfl) (by kernel_rfl) (fun _ _ _ h=>h) (Or.inl ⟨by rfl, ?_⟩) (by first | assumption | trivial) ?_
  rotate_left
  · (intro w hSw; (try dsimp only at hSw); go_simp) <;> (with_reducible rfl)
  simp only [List.setIfInBounds_toArray,List.set_cons_zero,List.set_cons_succ]
  refine wpAnyT_take2 (i:=3) (v:=?_) rfl rfl (by kernel_rfl) (by kernel_rfl) (by kernel_rfl) (by kernel_rfl) (fun _ _ _ h=>h) (Or.inl ⟨by rfl, ?_⟩) (by first | assumption | trivial) ?_
  rotate_left
  · (intro w hSw; (try dsimp only at hSw); go_simp) <;> (with_reducible rfl)
  simp only [List.setIfInBounds_toArray,List.set_cons_zero,List.set_cons_succ]
  refine wpAnyT_take2 (i:=4) (v:=?_) rfl rfl (by kernel_rfl) (by kernel_rfl) (by kernel_rfl) (by kernel_rfl) (fun _ _ _ h=>h) (Or.inl ⟨by rfl, ?_⟩) (by first | assumption | trivial) ?_
  rotate_left
  · (intro w hSw; (try dsimp only at hSw); go_simp) <;> (with_reducible rfl)
  simp only [List.setIfInBounds_toArray,List.set_cons_zero,List.set_cons_succ]
  refine wpAnyT_take2 (i:=5) (v:=?_) rfl rfl (by kernel_rfl) (by kernel_rfl) (by kernel_rfl) (by kernel_rfl) (fun _ _ _ h=>h) (Or.inl ⟨by rfl, ?_⟩) (by first | assumption | trivial) ?_
  rotate_left
  · (intro w hSw; (try dsimp only at hSw); go_simp) <;> (with_reducible rfl)
  simp only [List.setIfInBounds_toArray,List.set_cons_zero,List.set_cons_succ]
  refine wpAnyT_take2 (i:=6) (v:=?_) rfl rfl (by kernel_rfl) (by kernel_rfl) (by kernel_rfl) (by kernel_rfl) (fun _ _ _ h=>h) (Or.inl ⟨by rfl, ?_⟩) (by first | assumption | trivial) ?_
  rotate_left
  · (intro w hSw; (try dsimp only at hSw); go_simp) <;> (with_reducible rfl)
  simp only [List.setIfInBounds_toArray,List.set_cons_zero,List.set_cons_succ]
  refine wpAnyT_take2 (i:=8) (v:=?_) rfl rfl (by kernel_rfl) (by kernel_rfl) (by kernel_rfl) (by kernel_rfl) (fun _ _ _ h=>h) (Or.inl ⟨by rfl, ?_⟩) (by first | assumption | trivial) ?_
  rotate_left
  · (intro w hSw; (try dsimp only at hSw); go_simp) <;> (with_reducible rfl)
  simp only [List.setIfInBounds_toArray,List.set_cons_zero,List.set_cons_succ]
  refine wpAnyT_take2 (i:=10) (v:=?_) rfl rfl (by kernel_rfl) (by kernel_rfl) (by kernel_rfl) (by kernel_rfl) (fun _ _ _ h=>h) (Or.inl ⟨by rfl, ?_⟩) (by first | assumption | trivial) ?_
  rotate_left
  · (intro w hSw; (try dsimp only at hSw); go_simp) <;> (with_reducible rfl)
  simp only [List.setIfInBounds_toArray,List.set_cons_zero,List.set_cons_succ]
  refine wpAnyT_take2 (i:=11) (v:=?_) rfl rfl (by kernel_rfl) (by kernel_rfl) (by kernel_rfl) (by kernel_rfl) (fun _ _ _ h=>h) (Or.inl ⟨by rfl, ?_⟩) (by first | assumption | trivial) ?_
  rotate_left
  · (intro w hSw; (try dsimp only at hSw); go_simp) <;> (with_reducible rfl)
  simp only [List.setIfInBounds_toArray,List.set_cons_zero,List.set_cons_succ]
  refine wpAnyT_take2 (i:=12) (v:=?_) rfl rfl (by kernel_rfl) (by kernel_rfl) (by kernel_rfl) (by kernel_rfl) (fun _ _ _ h=>h) (Or.inl ⟨by rfl, ?_⟩) (by first | assumption | trivial) ?_
  rotate_left
  · (intro w hSw; (try dsimp only at hSw); go_simp) <;> (with_reducible rfl)
  simp only [List.setIfInBounds_toArray,List.set_cons_zero,List.set_cons_succ]
  refine wpAnyT_take2 (i:=13) (v:=?_) rfl rfl (by kernel_rfl) (by kernel_rfl) (by kernel_rfl) (by kernel_rfl) (fun _ _ _ h=>h) (Or.inl ⟨by rfl, ?_⟩) (by first | assumption | trivial) ?_
  rotate_left
  · (intro w hSw; (try dsimp only at hSw); go_simp) <;> (with_reducible rfl)
  simp only [List.setIfInBounds_toArray,List.set_cons_zero,List.set_cons_succ]
  refine wpAnyT_take2 (i:=14) (v:=?_) rfl rfl (by kernel_rfl) (by kernel_rfl) (by kernel_rfl) (by kernel_rfl) (fun _ _ _ h=>h) (Or.inl ⟨by rfl, ?_⟩) (by first | assumption | trivial) ?_
  rotate_left
  · (intro w hSw; (try dsimp only at hSw); go_simp) <;> (with_reducible rfl)
  simp only [List.setIfInBounds_toArray,List.set_cons_zero,List.set_cons_succ]
  refine wpAnyT_take2 (i:=15) (v:=?_) rfl rfl (by kernel_rfl) (by kernel_rfl) (by kernel_rfl) (by kernel_rfl) (fun _ _ _ h=>h) (Or.inl ⟨by rfl, ?_⟩) (by first | assumption | trivial) ?_
  rotate_left
  · (intro w hSw; (try dsimp only at hSw); go_simp) <;> (with_reducible rfl)
  simp only [List.setIfInBounds_toArray,List.set_cons_zero,List.set_cons_succ]
  refine wpAnyT_take2 (i:=16) (v:=?_) rfl rfl (by kernel_rfl) (by kernel_rfl) (by kernel_rfl) (by kernel_rfl) (fun _ _ _ h=>h) (Or.inl ⟨by rfl, ?_⟩) (by first | assumption | trivial) ?_
  rotate_left
  · (intro w hSw; (try dsimp only at hSw); go_simp) <;> (with_reducible rfl)
  simp only [List.setIfInBounds_toArray,List.set_cons_zero,List.set_cons_succ]
  refine wpAnyT_take2 (i:=18) (v:=?_) rfl rfl (by kernel_rfl) (by kernel_rfl) (by kernel_rfl) (by kernel_rfl) (fun _ _ _ h=>h) (Or.inl ⟨by rfl, ?_⟩) (by first | assumption | trivial) ?_
  rotate_left
  · (intro w hSw; (try dsimp only at hSw); go_simp) <;> (with_reducible rfl)
  simp only [List.setIfInBounds_toArray,List.set_cons_zero,List.set_cons_succ]
  clear hHeld hS2 HDR hvn
  generalize w1.drew=wd at *
  have HD : Hid (Below wd.heap.size wd wd):=Lib.hid (Below.refl _ _)
  apply cutT
  · intro fin0
    have FIN:=Lib.hid fin0
    clear fin0
    refine wpAnyT_next (i:=7) (by kernel_rfl) rfl ?_
    go_wp2_with fail
    refine (clone_int s2 wd (HX1.out.later HD.out (Nat.le_refl _)) (by have:=HL.out; omega)).mono ?_
    rintro r v1 ⟨A1,c1,rfl,hown,hb⟩
    have HI : Hid (Own wd.heap.size 3 1 ienc v1 ⟨A1,c1,s2.l⟩):=Lib.hid (hown.mono HD.out.size)
    replace HD:=Lib.hid (HD.out.trans (hb.mono HD.out.size))
    clear hown hb
    go_wp2_with fail
    refine And.intro (by first | exact fun _=>HSA.out _ HD.out | exact HSA.out _ HD.out) ?_
    refine wpAnyT_next (i:=9) (by kernel_rfl) rfl ?_
    go_wp2_with fail
    refine (del_lo wd.heap.size ⟨A1,c1,s2.l⟩ (lowB R vm) gr gv v1 HI.out HD.out.size (by have:=HL.out; simp only; omega) (fun W x hx hW=>HLO.out W x (HM1.out x hx) (HD.out.trans hW))).mono ?_
    rintro r v2 ⟨rfl,hown,hg⟩
    replace HD:=Lib.hid (HD.out.trans (below_of_grown hg HD.out.size (fun m hm=>(own_row HI.out m hm).2.1)))
    replace HI:=Lib.hid hown
    clear hown hg
    go_wp2_with fail
    refine And.intro (by first | exact fun _=>HSA.out _ HD.out | exact HSA.out _ HD.out) ?_
    refine wpAnyT_next (i:=17) (by kernel_rfl) rfl ?_
    go_wp2_with fail
    refine (clone_int s1 v2 (HX2.out.later HD.out (Nat.le_refl _)) (by have:=HL.out; omega)).mono ?_
    rintro r v3 ⟨A2,c2,rfl,hown,hb⟩
    have HO : Hid (Own wd.heap.size 3 1 ienc v3 ⟨A2,c2,s1.l⟩):=Lib.hid (hown.mono HD.out.size)
    have HNE : Hid (∀ a,A1=some a→A2≠some a):=Lib.hid (own_apart hown HI.out)
    replace HI:=Lib.hid (HI.out.below hb)
    replace HD:=Lib.hid (HD.out.trans (hb.mono HD.out.size))
    clear hown hb
    go_wp2_with fail
    refine And.intro (by first | exact fun _=>HSA.out _ HD.out | exact HSA.out _ HD.out) ?_
    refine wpAnyT_next (i:=19) (by kernel_rfl) rfl ?_
    go_wp2_with fail
    refine (del_lo wd.heap.size ⟨A2,c2,s1.l⟩ (lowB R vm) gr gv v3 HO.out HD.out.size (by have:=HL.out; simp only; omega) (fun W x hx hW=>HLO.out W x (HM2.out x hx) (HD.out.trans hW))).mono ?_
    rintro r v4 ⟨rfl,hown,hg⟩
    replace HI:=Lib.hid (kept_ap HO.out HI.out (fun a h1 h2=>HNE.out a h2 h1) hg)
    replace HD:=Lib.hid (HD.out.trans (below_of_grown hg HD.out.size (fun m hm=>(own_row HO.out m hm).2.1)))
    replace HO:=Lib.hid hown
    clear hown hg
    go_wp2_with fail
    refine And.intro (by first | exact fun _=>HSA.out _ HD.out | exact HSA.out _ HD.out) ?_
    revert HNE
    revert HO
    revert HI
    revert HD
    revert v4
    revert c2
    revert A2
    revert c1
    revert A1
    exact FIN.out
  · intro A1 c1 A2 c2 W HD HI HO HNE
    have hHeld:=HSA.out _ HD.out
    refine wpAnyT_take2 (i:=20) (v:=?_) rfl rfl (by kernel_rfl) (by kernel_rfl) (by kernel_rfl) (by kernel_rfl) (fun _ _ _ h=>h) (Or.inl ⟨by rfl, ?_⟩) (by first | assumption | trivial) ?_
    rotate_left
    · (intro w hSw; (try dsimp only at hSw); go_simp) <;> (with_reducible rfl)
    simp only [List.setIfInBounds_toArray,List.set_cons_zero,List.set_cons_succ]
    refine wpAnyT_take2 (i:=21) (v:=?_) rfl rfl (by kernel_rfl) (by kernel_rfl) (by kernel_rfl) (by kernel_rfl) (fun _ _ _ h=>h) (Or.inl ⟨by rfl, ?_⟩) (by first | assumption | trivial) ?_
    rotate_left
    · (intro w hSw; (try dsimp only at hSw); go_simp) <;> (with_reducible rfl)
    simp only [List.setIfInBounds_toArray,List.set_cons_zero,List.set_cons_succ]
    refine wpAnyT_done (by kernel_rfl) ?_ _
    clear hHeld
    go_wp2_with fail
    refine (sort_own wd.heap.size ⟨A1,c1,s2.l.filter fun x=>!lowB R vm x⟩ W HI.out (by have:=HL.out; have:=List.length_filter_le (fun x=>!lowB R vm x) s2.l; simp only; omega)).mono ?_
    rintro r w3 ⟨rfl,m1,hp1,hown,hg⟩
    simp only at hp1 hown
    have HO3:=Lib.hid (kept_ap HI.out HO.out HNE.out hg)
    have HD3:=Lib.hid (HD.out.trans (below_of_grown hg HD.out.size (fun m hm=>(own_row HI.out m hm).2.1)))
    have HI3:=Lib.hid hown
    have HP1:=Lib.hid hp1
    have e1 : (s2.l.filter fun x=>!lowB R vm x).length=m1.length:=hp1.length_eq.symm
    rw [e1]
    clear e1 hp1 hown hg HI HO HD
    go_wp2_with fail
    refine (sort_own wd.heap.size ⟨A2,c2,s1.l.filter fun x=>!lowB R vm x⟩ w3 HO3.out (by have:=HL.out; have:=List.length_filter_le (fun x=>!lowB R vm x) s1.l; simp only; omega)).mono ?_
    rintro r w4 ⟨rfl,m2,hp2,hown,hg⟩
    simp only at hp2 hown
    have HI4:=Lib.hid (kept_ap HO3.out HI3.out (fun a h1 h2=>HNE.out a h2 h1) hg)
    have HD4:=Lib.hid (HD3.out.trans (below_of_grown hg HD3.out.size (fun m hm=>(own_row HO3.out m hm).2.1)))
    have HO4:=Lib.hid hown
    have HP2:=Lib.hid hp2
    have e2 : (s1.l.filter fun x=>!lowB R vm x).length=m2.length:=hp2.length_eq.symm
    rw [e2]
    clear e2 hp2 hown hg HI3 HO3 HD3
    have HBW : Hid (Below w.heap.size w w4):=Lib.hid (HB1.out.trans (HD4.out.mono HB1.out.size))
    have HFR:=Lib.hid HST.out.m.fresh
    have HZ0 : Hid (NetSt n base g mb gi go (fun b=>b<w4.heap.size∧b≠g∧b≠mb∧b≠gi∧b≠go∧∀ s,s ∈ outs ++ ins→s.A≠some ⟨b,0,none⟩) w4 w4 l ins outs):=Lib.hid ⟨(HST.out.m.later HBW.out).reZ,HST.out.i⟩
    obtain ⟨Z4,hZ4⟩ : ∃ X,X=fun b=>b<w4.heap.size∧b≠g∧b≠mb∧b≠gi∧b≠go∧∀ s,s ∈ outs ++ ins→s.A≠some ⟨b,0,none⟩:=⟨_,rfl⟩
    have hfz : ∀ b,w.heap.size≤b→b<w4.heap.size→Z4 b:=fun b h1 h2=>by rw [hZ4]; exact ⟨h2,HFR.out b h1⟩
    have HRI : Hid (Rd Z4 1 ienc w4 ⟨A1,c1,m1⟩):=Lib.hid ((HI4.out.rd ienc_k).mono fun b hb=>hfz b (by have:=HB1.out.size; omega) hb.2)
    have HRO : Hid (Rd Z4 1 ienc w4 ⟨A2,c2,m2⟩):=Lib.hid ((HO4.out.rd ienc_k).mono fun b hb=>hfz b (by have:=HB1.out.size; omega) hb.2)
    have HBV4:=Lib.hid (HBV.out.later HD4.out)
    have HZV : Hid (Z4 gv):=Lib.hid (hfz gv HGV.out HBV4.out.lt)
    have HSUB : Hid (∀ b,Z b→Z4 b):=Lib.hid (fun b hb=>by rw [hZ4]; exact (HST.out.m.later HBW.out).sub b hb)
    rw [← hZ4] at HZ0
    clear hZ4 hfz HFR HI4 HO4 HSA HLO HX1 HX2 HBV HBR HD4 HB1 HNE HRd
    have hlm1:=HRI.out.len
    have hlm2:=HRO.out.len
    simp only at hlm1 hlm2
    have HPQ1 : Hid (∀ u,u ∈ m1↔lkE l u vm≠none∧¬ rkF R u<rkF R vm):=Lib.hid (fun u=>by
      rw [HP1.out.mem_iff,List.mem_filter,HMO2.out u]
      unfold lowB
      simp)
    have HPQ2 : Hid (∀ u,u ∈ m2↔lkE l vm u≠none∧¬ rkF R u<rkF R vm):=Lib.hid (fun u=>by
      rw [HP2.out.mem_iff,List.mem_filter,HMO1.out u]
      unfold lowB
      simp)
    have HI1 : Hid (∀ x,x ∈ m1→Ir n x):=Lib.hid (fun x hx=>HM1.out x (List.mem_filter.1 (HP1.out.mem_iff.1 hx)).1)
    have HI2 : Hid (∀ x,x ∈ m2→Ir n x):=Lib.hid (fun x hx=>HM2.out x (List.mem_filter.1 (HP2.out.mem_iff.1 hx)).1)
    have HN12 : Hid (m1.Nodup∧m2.Nodup):=Lib.hid ⟨HP1.out.nodup_iff.2 (HND.out.2.filter _),HP2.out.nodup_iff.2 (HND.out.1.filter _)⟩
    clear HND
    clear HP1 HP2 HM1 HM2 HMO1 HMO2
    go_wp2_with fail
    go_loopw [41] (fun i wr=>∃ (k : Nat) (L : List ED) (ins' outs' : List (Sl Int)),k≤m1.length∧i = .int .i64 k∧Hid (NetSt n base g mb gi go Z4 w4 wr L ins' outs')∧Hid (CvQ l (rkF R) vm (fun f t=>f ∈ m1.take k∧t ∈ m2) L)) (fun i _=>m1.length - (intOf i).toNat)
    case atStart=>exact ⟨0,l,ins,outs,by omega,rfl,HZ0,Lib.hid (CvQ.nil.cast (by simp))⟩
    case round =>
      obtain ⟨k,L,ins',outs',hk,rfl,HS,HQ⟩:=hrel
      by_cases hlt : k<m1.length
      · have hlt' : (k : Int)<(m1.length : Int):=by omega
        have hrk:=(HRI.out.keep (w':=wr) fun b hb=>HS.out.m.zk b hb)
        obtain ⟨b,o,hA,hb,hcl⟩:=hrk.at1 hlt
        simp only at hA
        subst hA
        have g0:=hcl.c1
        simp only [Nat.mul_one] at g0
        have hx : m1[k]? = some m1[k]:=List.getElem?_eq_getElem hlt
        have HUM:=Lib.hid (List.getElem_mem hlt)
        have HUN : Hid (m1[k] ∉ m1.take k):=Lib.hid (fun hc=>by
          obtain ⟨i,hi,he⟩:=List.mem_iff_getElem.1 hc
          rw [List.length_take] at hi
          rw [List.getElem_take] at he
          have:=nodup_inj HN12.out.1 (i:=i) (j:=k) (by omega) hlt he
          omega)
        have HTK : Hid (m1.take (k+1)=m1.take k ++ [m1[k]]):=Lib.hid (by rw [List.take_add_one,hx]; rfl)
        clear hx hcl hrk hb
        generalize m1[k]=u at *
        have HU:=Lib.hid (HI1.out u HUM.out)
        obtain ⟨um,hum⟩:=Int.eq_ofNat_of_zero_le HU.out.1
        subst hum
        go_wp2_with fail
        clear g0
        have HQ0 : Hid (CvQ l (rkF R) vm (fun f t=>(f ∈ m1.take k∧t ∈ m2)∨(f=(um : Int)∧t ∈ m2.take 0)) L):=Lib.hid (HQ.out.cast (by simp))
        go_loopw [47] (fun i wr=>∃ (j : Nat) (L : List ED) (ins' outs' : List (Sl Int)),j≤m2.length∧i = .int .i64 j∧Hid (NetSt n base g mb gi go Z4 w4 wr L ins' outs')∧Hid (CvQ l (rkF R) vm (fun f t=>(f ∈ m1.take k∧t ∈ m2)∨(f=(um : Int)∧t ∈ m2.take j)) L)) (fun i _=>m2.length - (intOf i).toNat)
        case atStart=>exact ⟨0,L,ins',outs',by omega,rfl,HS,HQ0⟩
        case round =>
          clear HS HQ HQ0
          obtain ⟨j,L,ins',outs',hj,rfl,HS,HQ⟩:=hrel
          by_cases hjt : j<m2.length
          · have hjt' : (j : Int)<(m2.length : Int):=by omega
            have hrk:=(HRO.out.keep (w':=wr) fun b hb=>HS.out.m.zk b hb)
            obtain ⟨b',o',hA,hb,hcl⟩:=hrk.at1 hjt
            simp only at hA
            subst hA
            have g0:=hcl.c1
            simp only [Nat.mul_one] at g0
            have hx : m2[j]? = some m2[j]:=List.getElem?_eq_getElem hjt
            have HWM:=Lib.hid (List.getElem_mem hjt)
            have HWN : Hid (m2[j] ∉ m2.take j):=Lib.hid (fun hc=>by
              obtain ⟨i,hi,he⟩:=List.mem_iff_getElem.1 hc
              rw [List.length_take] at hi
              rw [List.getElem_take] at he
              have:=nodup_inj HN12.out.2 (i:=i) (j:=j) (by omega) hjt he
              omega)
            have HTJ : Hid (m2.take (j+1)=m2.take j ++ [m2[j]]):=Lib.hid (by rw [List.take_add_one,hx]; rfl)
            clear hx hcl hrk hb
            generalize m2[j]=x at *
            have HX:=Lib.hid (HI2.out x HWM.out)
            obtain ⟨xm,hxm⟩:=Int.eq_ofNat_of_zero_le HX.out.1
            subst hxm
            have HCA : Hid (∀ L',CvQ l (rkF R) vm (fun f t=>((f ∈ m1.take k∧t ∈ m2)∨(f=(um : Int)∧t ∈ m2.take j))∨(f=(um : Int)∧t=(xm : Int))) L'→CvQ l (rkF R) vm (fun f t=>(f ∈ m1.take k∧t ∈ m2)∨(f=(um : Int)∧t ∈ m2.take (j+1))) L'):=Lib.hid (fun L' h=>h.cast (fun f t=>by
              rw [HTJ.out,List.mem_append,List.mem_singleton]
              constructor
              · rintro ((h | ⟨h1,h2⟩) | ⟨h1,h2⟩)
                · exact .inl h
                · exact .inr ⟨h1,.inl h2⟩
                · exact .inr ⟨h1,.inr h2⟩
              · rintro (h | ⟨h1,h2 | h2⟩)
                · exact .inl (.inl h)
                · exact .inl (.inr ⟨h1,h2⟩)
                · exact .inr ⟨h1,h2⟩))
            by_cases hux : um=xm
            · subst hux
              have HQ2 : Hid (CvQ l (rkF R) vm (fun f t=>(f ∈ m1.take k∧t ∈ m2)∨(f=(um : Int)∧t ∈ m2.take (j+1))) L):=Lib.hid (HCA.out L (HQ.out.self_ (by
                cases hc : lkE l (um : Int) (um : Int) with
                | none=>rfl
                | some y=>exact absurd ((lkE_key hc).1.trans (lkE_key hc).2.symm) (HST.out.i.rng y (lkE_mem hc)).2.2)))
              go_wp2_with fail
              go_roundw
              case rel=>exact ⟨j+1,L,ins',outs',by omega,by go_num,HS,HQ2⟩
              case measure=>simp [intOf]; omega
            · have hne : ((um : Int) != (xm : Int))=true:=by simp; omega
              have HVV : Hid (lkE l (vm : Int) (vm : Int)=none):=Lib.hid (by
                cases hc : lkE l (vm : Int) (vm : Int) with
                | none=>rfl
                | some y=>exact absurd ((lkE_key hc).1.trans (lkE_key hc).2.symm) (HST.out.i.rng y (lkE_mem hc)).2.2)
              obtain ⟨ea,hea⟩:=Option.ne_none_iff_exists'.1 ((HPQ1.out _).1 HUM.out).1
              obtain ⟨eb,heb⟩:=Option.ne_none_iff_exists'.1 ((HPQ2.out _).1 HWM.out).1
              have HLA : Hid (lkE L (um : Int) (vm : Int)=some ea):=Lib.hid ((HQ.out.to HVV.out _).trans hea)
              have HLB : Hid (lkE L (vm : Int) (xm : Int)=some eb):=Lib.hid ((HQ.out.from_ HVV.out _).trans heb)
              have HNA:=Lib.hid (HMI.out ea (lkE_mem hea))
              have HNB:=Lib.hid (HMI.out eb (lkE_mem heb))
              have HQ2 : Hid (CvQ l (rkF R) vm (fun f t=>(f ∈ m1.take k∧t ∈ m2)∨(f=(um : Int)∧t ∈ m2.take (j+1))) (addL L ⟨(um : Int),(xm : Int),ea.n+eb.n,(vm : Int)⟩)):=Lib.hid (HCA.out _ (HQ.out.add hea heb (by
                rintro (h | h | h)
                · exact hux (by omega)
                · have:=((HPQ1.out _).1 HUM.out).2
                  omega
                · have:=((HPQ2.out _).1 HWM.out).2
                  omega) (by
                rintro (⟨h,_⟩ | ⟨_,h⟩)
                · exact HUN.out h
                · exact HWN.out h)))
              have HID : Hid (I64 (um : Nat)∧I64 (vm : Nat)∧I64 (xm : Nat)):=Lib.hid (by
                have h1:=HU.out
                have h2:=HX.out
                have h3:=HVM.out
                have h4:=HL.out.2.2
                unfold Ir at h1 h2
                unfold I64
                omega)
              have HUX : Hid ((um : Int)≠(xm : Int)):=Lib.hid (by omega)
              clear hea heb hux
              go_wp2_with fail
              clear g0 hne
              have hS12 : wr.drew.cell? ⟨g,0,none⟩=some (.map (some mb))∧wr.drew.cell? ⟨gv,0,none⟩=some (.int .i64 (vm : Nat))∧Hid (∃ L' : List ED,MapE wr.drew mb L'∧lkE L' (um : Int) (vm : Int)=some ea∧lkE L' (vm : Int) (xm : Int)=some eb):=⟨HS.out.m.bg.cell 0,(show Blk wr gv 3 _ from (HS.out.m.zk gv HZV.out).trans HBV4.out).cell 0,Lib.hid ⟨L,HS.out.m.mp,HLA.out,HLB.out⟩⟩
              refine wp_region_T (fun W=>W.cell? ⟨g,0,none⟩=some (.map (some mb))∧W.cell? ⟨gv,0,none⟩=some (.int .i64 (vm : Nat))∧Hid (∃ L' : List ED,MapE W mb L'∧lkE L' (um : Int) (vm : Int)=some ea∧lkE L' (vm : Int) (xm : Int)=some eb)) (fun _=>false) (by kernel_rfl) hS12 (fun hHeld=>?_)
              have hfd : ∀ (a b c d : Int) (W : World),(Instr.field 44 (.agg #[.int .i64 a,.int .i64 b,.int .i64 c,.int .i64 d]) 2).run Try.prog W = .ok (.int .i64 c) W:=fun _ _ _ _ _=>by kernel_rfl
              have hna:=HNA.out
              have hnb:=HNB.out
              refine wpAnyT_take2 (i:=0) (v:=?_) rfl rfl (by kernel_rfl) (by kernel_rfl) (by kernel_rfl) (by kernel_rfl) (fun _ _ _ h=>h) (Or.inl ⟨by rfl, ?_⟩) (by first | assumption | trivial) ?_
              rotate_left
              · (intro w hSw; (try dsimp only at hSw); go_simp) <;> (with_reducible rfl)
              simp only [List.setIfInBounds_toArray,List.set_cons_zero,List.set_cons_succ]
              refine wpAnyT_take2 (i:=1) (v:=?_) rfl rfl (by kernel_rfl) (by kernel_rfl) (by kernel_rfl) (by kernel_rfl) (fun _ _ _ h=>h) (Or.inl ⟨by rfl, ?_⟩) (by first | assumption | trivial) ?_
              rotate_left
              · (intro w hSw; (try dsimp only at hSw); go_simp) <;> (with_reducible rfl)
              simp only [List.setIfInBounds_toArray,List.set_cons_zero,List.set_cons_succ]
              refine wpAnyT_take2 (i:=2) (v:=?_) rfl rfl (by kernel_rfl) (by kernel_rfl) (by kernel_rfl) (by kernel_rfl) (fun _ _ _ h=>h) (Or.inl ⟨by rfl, ?_⟩) (by first | assumption | trivial) ?_
              rotate_left
              · (intro w hSw; (try dsimp only at hSw); go_simp) <;> (with_reducible rfl)
              simp only [List.setIfInBounds_toArray,List.set_cons_zero,List.set_cons_succ]
              refine wpAnyT_take2 (i:=3) (v:=?_) rfl rfl (by kernel_rfl) (by kernel_rfl) (by kernel_rfl) (by kernel_rfl) (fun _ _ _ h=>h) (Or.inl ⟨by rfl, ?_⟩) (by first | assumption | trivial) ?_
              rotate_left
              · (intro w hSw; (try dsimp only at hSw); go_simp) <;> (with_reducible rfl)
              simp only [List.setIfInBounds_toArray,List.set_cons_zero,List.set_cons_succ]
              refine wpAnyT_take2 (i:=4) (v:=?_) rfl rfl (by kernel_rfl) (by kernel_rfl) (by kernel_rfl) (by kernel_rfl) (fun _ _ _ h=>h) (Or.inl ⟨by rfl, ?_⟩) (by first | assumption | trivial) ?_
              rotate_left
              · (intro w hSw; (try dsimp only at hSw); go_simp) <;> (with_reducible rfl)
              simp only [List.setIfInBounds_toArray,List.set_cons_zero,List.set_cons_succ]
              refine wpAnyT_take2 (i:=5) (v:=?_) rfl rfl (by kernel_rfl) (by kernel_rfl) (by kernel_rfl) (by kernel_rfl) (fun _ _ _ h=>h) (Or.inl ⟨by rfl, ?_⟩) (by first | assumption | trivial) ?_
              rotate_left
              · (intro w hSw; (try dsimp only at hSw); go_simp) <;> (with_reducible rfl)
              simp only [List.setIfInBounds_toArray,List.set_cons_zero,List.set_cons_succ]
              refine wpAnyT_take2 (i:=6) (v:=?_) rfl rfl (by kernel_rfl) (by kernel_rfl) (by kernel_rfl) (by kernel_rfl) (fun _ _ _ h=>h) (Or.inl ⟨by rfl, ?_⟩) (by first | assumption | trivial) ?_
              rotate_left
              · (intro w hSw; (try dsimp only at hSw); go_simp) <;> (with_reducible rfl)
              simp only [List.setIfInBounds_toArray,List.set_cons_zero,List.set_cons_succ]
              refine wpAnyT_take2 (i:=7) (v:=?_) rfl rfl (by kernel_rfl) (by kernel_rfl) (by kernel_rfl) (by kernel_rfl) (fun _ _ _ h=>h) (Or.inl ⟨by rfl, ?_⟩) (by first | assumption | trivial) ?_
              rotate_left
              · (intro w hSw; (try dsimp only at hSw); go_simp) <;> (with_reducible rfl)
              simp only [List.setIfInBounds_toArray,List.set_cons_zero,List.set_cons_succ]
              refine wpAnyT_take2 (i:=8) (v:=?_) rfl rfl (by kernel_rfl) (by kernel_rfl) (by kernel_rfl) (by kernel_rfl) (fun _ _ _ h=>h) (Or.inl ⟨by rfl, ?_⟩) (by first | assumption | trivial) ?_
              rotate_left
              · (intro w hSw; (try dsimp only at hSw); go_simp) <;> (with_reducible rfl)
              simp only [List.setIfInBounds_toArray,List.set_cons_zero,List.set_cons_succ]
              refine wpAnyT_take2 (i:=9) (v:=?_) rfl rfl (by kernel_rfl) (by kernel_rfl) (by kernel_rfl) (by kernel_rfl) (fun _ _ _ h=>h) (Or.inl ⟨by rfl, ?_⟩) (by first | assumption | trivial) ?_
              rotate_left
              · (intro w hSw; (try dsimp only at hSw); go_simp) <;> (with_reducible rfl)
              simp only [List.setIfInBounds_toArray,List.set_cons_zero,List.set_cons_succ]
              refine wpAnyT_take2 (i:=10) (v:=.agg #[.int .i64 ea.f,.int .i64 ea.t,.int .i64 ea.n,.int .i64 ea.v]) rfl rfl (by kernel_rfl) (by kernel_rfl) (by kernel_rfl) (by kernel_rfl) (fun _ _ _ h=>h) (Or.inl ⟨by rfl, ?_⟩) (by first | assumption | trivial) ?_
              · exact fun W hW=>hW.2.2.out.elim fun L' h=>exec_look_val rfl Try.underlying52 h.1 rfl rfl HID.out.1 HID.out.2.1 h.2.1
              simp only [List.setIfInBounds_toArray,List.set_cons_zero,List.set_cons_succ]
              refine wpAnyT_take2 (i:=11) (v:=?_) rfl rfl (by kernel_rfl) (by kernel_rfl) (by kernel_rfl) (by kernel_rfl) (fun _ _ _ h=>h) (Or.inl ⟨by rfl, ?_⟩) (by first | assumption | trivial) ?_
              rotate_left
              · (intro w hSw; (try dsimp only at hSw); go_simp) <;> (with_reducible rfl)
              simp only [List.setIfInBounds_toArray,List.set_cons_zero,List.set_cons_succ]
              refine wpAnyT_take2 (i:=12) (v:=?_) rfl rfl (by kernel_rfl) (by kernel_rfl) (by kernel_rfl) (by kernel_rfl) (fun _ _ _ h=>h) (Or.inl ⟨by rfl, ?_⟩) (by first | assumption | trivial) ?_
              rotate_left
              · (intro w hSw; (try dsimp only at hSw); go_simp) <;> (with_reducible rfl)
              simp only [List.setIfInBounds_toArray,List.set_cons_zero,List.set_cons_succ]
              refine wpAnyT_take2 (i:=13) (v:=?_) rfl rfl (by kernel_rfl) (by kernel_rfl) (by kernel_rfl) (by kernel_rfl) (fun _ _ _ h=>h) (Or.inl ⟨by rfl, ?_⟩) (by first | assumption | trivial) ?_
              rotate_left
              · (intro w hSw; (try dsimp only at hSw); go_simp) <;> (with_reducible rfl)
              simp only [List.setIfInBounds_toArray,List.set_cons_zero,List.set_cons_succ]
              refine wpAnyT_take2 (i:=14) (v:=?_) rfl rfl (by kernel_rfl) (by kernel_rfl) (by kernel_rfl) (by kernel_rfl) (fun _ _ _ h=>h) (Or.inl ⟨by rfl, ?_⟩) (by first | assumption | trivial) ?_
              rotate_left
              · (intro w hSw; (try dsimp only at hSw); go_simp) <;> (with_reducible rfl)
              simp only [List.setIfInBounds_toArray,List.set_cons_zero,List.set_cons_succ]
              refine wpAnyT_take2 (i:=15) (v:=?_) rfl rfl (by kernel_rfl) (by kernel_rfl) (by kernel_rfl) (by kernel_rfl) (fun _ _ _ h=>h) (Or.inl ⟨by rfl, ?_⟩) (by first | assumption | trivial) ?_
              rotate_left
              · (intro w hSw; (try dsimp only at hSw); go_simp) <;> (with_reducible rfl)
              simp only [List.setIfInBounds_toArray,List.set_cons_zero,List.set_cons_succ]
              refine wpAnyT_take2 (i:=16) (v:=?_) rfl rfl (by kernel_rfl) (by kernel_rfl) (by kernel_rfl) (by kernel_rfl) (fun _ _ _ h=>h) (Or.inl ⟨by rfl, ?_⟩) (by first | assumption | trivial) ?_
              rotate_left
              · (intro w hSw; (try dsimp only at hSw); go_simp) <;> (with_reducible rfl)
              simp only [List.setIfInBounds_toArray,List.set_cons_zero,List.set_cons_succ]
              refine wpAnyT_take2 (i:=17) (v:=?_) rfl rfl (by kernel_rfl) (by kernel_rfl) (by kernel_rfl) (by kernel_rfl) (fun _ _ _ h=>h) (Or.inl ⟨by rfl, ?_⟩) (by first | assumption | trivial) ?_
              rotate_left
              · (intro w hSw; (try dsimp only at hSw); go_simp) <;> (with_reducible rfl)
              simp only [List.setIfInBounds_toArray,List.set_cons_zero,List.set_cons_succ]
              refine wpAnyT_take2 (i:=18) (v:=?_) rfl rfl (by kernel_rfl) (by kernel_rfl) (by kernel_rfl) (by kernel_rfl) (fun _ _ _ h=>h) (Or.inl ⟨by rfl, ?_⟩) (by first | assumption | trivial) ?_
              rotate_left
              · (intro w hSw; (try dsimp only at hSw); go_simp) <;> (with_reducible rfl)
              simp only [List.setIfInBounds_toArray,List.set_cons_zero,List.set_cons_succ]
              refine wpAnyT_take2 (i:=19) (v:=.agg #[.int .i64 eb.f,.int .i64 eb.t,.int .i64 eb.n,.int .i64 eb.v]) rfl rfl (by kernel_rfl) (by kernel_rfl) (by kernel_rfl) (by kernel_rfl) (fun _ _ _ h=>h) (Or.inl ⟨by rfl, ?_⟩) (by first | assumption | trivial) ?_
              · exact fun W hW=>hW.2.2.out.elim fun L' h=>exec_look_val rfl Try.underlying52 h.1 rfl rfl HID.out.2.1 HID.out.2.2 h.2.2
              simp only [List.setIfInBounds_toArray,List.set_cons_zero,List.set_cons_succ]
              refine wpAnyT_take2 (i:=20) (v:=?_) rfl rfl (by kernel_rfl) (by kernel_rfl) (by kernel_rfl) (by kernel_rfl) (fun _ _ _ h=>h) (Or.inl ⟨by rfl, ?_⟩) (by first | assumption | trivial) ?_
              rotate_left
              · (intro w hSw; (try dsimp only at hSw); go_simp) <;> (with_reducible rfl)
              simp only [List.setIfInBounds_toArray,List.set_cons_zero,List.set_cons_succ]
              refine wpAnyT_take2 (i:=21) (v:=?_) rfl rfl (by kernel_rfl) (by kernel_rfl) (by kernel_rfl) (by kernel_rfl) (fun _ _ _ h=>h) (Or.inl ⟨by rfl, ?_⟩) (by first | assumption | trivial) ?_
              rotate_left
              · (intro w hSw; (try dsimp only at hSw); go_simp) <;> (with_reducible rfl)
              simp only [List.setIfInBounds_toArray,List.set_cons_zero,List.set_cons_succ]
              refine wpAnyT_take2 (i:=22) (v:=?_) rfl rfl (by kernel_rfl) (by kernel_rfl) (by kernel_rfl) (by kernel_rfl) (fun _ _ _ h=>h) (Or.inl ⟨by rfl, ?_⟩) (by first | assumption | trivial) ?_
              rotate_left
              · (intro w hSw; (try dsimp only at hSw); go_simp) <;> (with_reducible rfl)
              simp only [List.setIfInBounds_toArray,List.set_cons_zero,List.set_cons_succ]
              refine wpAnyT_take2 (i:=23) (v:=?_) rfl rfl (by kernel_rfl) (by kernel_rfl) (by kernel_rfl) (by kernel_rfl) (fun _ _ _ h=>h) (Or.inl ⟨by rfl, ?_⟩) (by first | assumption | trivial) ?_
              rotate_left
              · (intro w hSw; (try dsimp only at hSw); go_simp) <;> (with_reducible rfl)
              simp only [List.setIfInBounds_toArray,List.set_cons_zero,List.set_cons_succ]
              clear hHeld hS12 hfd hna hnb
              replace HS:=Lib.hid (HS.out.later (Below.drew (Below.refl wr.heap.size wr)))
              generalize wr.drew=wd2 at *
              refine wpAnyT_next (i:=24) (by kernel_rfl) rfl ?_
              go_wp2_with fail
              have hw : wrap64 (ea.n+eb.n)=ea.n+eb.n:=by
                have h1:=HNA.out
                have h2:=HNB.out
                unfold wrap64
                omega
              rw [hw]
              clear hw
              refine (net_add HS.out ⟨(um : Int),(xm : Int),ea.n+eb.n,(vm : Int)⟩ HU.out HX.out HUX.out (by have:=HL.out; omega)).mono ?_
              rintro r w6 ⟨rfl,ins2,outs2,hst⟩
              have HS6:=Lib.hid hst
              have hS12 : w6.cell? ⟨g,0,none⟩=some (.map (some mb))∧w6.cell? ⟨gv,0,none⟩=some (.int .i64 (vm : Nat))∧Hid (∃ L' : List ED,MapE w6 mb L'∧lkE L' (um : Int) (vm : Int)=some ea∧lkE L' (vm : Int) (xm : Int)=some eb):=by
                have hxv : (xm : Int)≠(vm : Int):=fun hc=>by
                  have h:=HVV.out
                  have h2:=HLB.out
                  rw [hc,HQ.out.from_ HVV.out,h] at h2
                  cases h2
                have huv : (um : Int)≠(vm : Int):=fun hc=>by
                  have h:=HVV.out
                  have h2:=HLA.out
                  rw [hc,HQ.out.to HVV.out,h] at h2
                  cases h2
                refine ⟨hst.m.bg.cell 0,(show Blk w6 gv 3 _ from (hst.m.zk gv HZV.out).trans HBV4.out).cell 0,Lib.hid ⟨_,hst.m.mp, ?_, ?_⟩⟩
                · rw [lkE_addL,if_neg (fun hc=>hxv hc.2)]
                  exact HLA.out
                · rw [lkE_addL,if_neg (fun hc=>huv hc.1)]
                  exact HLB.out
              clear hst HS
              go_wp2_with fail
              refine And.intro (by first | exact fun _=>hS12 | exact hS12) ?_
              refine wpAnyT_done (by kernel_rfl) ?_ _
              clear hS12
              go_wp2_with fail
              go_roundw
              case rel=>exact ⟨j+1,_,ins2,outs2,by omega,by go_num,HS6,HQ2⟩
              case measure=>simp [intOf]; omega
          · have HQ2 : Hid (CvQ l (rkF R) vm (fun f t=>f ∈ m1.take (k+1)∧t ∈ m2) L):=Lib.hid (HQ.out.cast (fun f t=>by
              rw [HTK.out,List.take_of_length_le (l:=m2) (by omega),List.mem_append,List.mem_singleton]
              constructor
              · rintro (⟨h1,h2⟩ | ⟨h1,h2⟩)
                · exact ⟨.inl h1,h2⟩
                · exact ⟨.inr h1,h2⟩
              · rintro ⟨h1 | h1,h2⟩
                · exact .inl ⟨h1,h2⟩
                · exact .inr ⟨h1,h2⟩))
            have b0:=HS.out.m.bg.cell 0
            have hln : (L.length : Int)≤200000:=by
              have h1:=HS.out.i.len
              have h2:=HL.out.2.2
              have h3 : n * n≤9 * 9:=Nat.mul_le_mul h2 h2
              omega
            have hlr:=run_len_E (ty:=3) Try.underlying52 HS.out.m.mp
            go_wp2_with fail
            clear b0 hln hlr
            go_roundw
            case rel=>exact ⟨k+1,L,ins',outs',by omega,by go_num,HS,HQ2⟩
            case measure=>simp [intOf]; omega
      · have hkl : m1.take k=m1:=List.take_of_length_le (by omega)
        have HFI : Hid (∀ f t,lkE L f t=cvF (lkE l) (rkF R) vm f t):=Lib.hid (by
          have h:=HQ.out
          rw [hkl] at h
          exact h.done (fun u=>(HPQ1.out u).trans (by simp)) (fun u=>(HPQ2.out u).trans (by simp)))
        have HFS : Hid (NetSt n base g mb gi go Z w0 wr L ins' outs'):=Lib.hid ⟨(HST.out.m.later HBW.out).back HS.out.m HSUB.out,HS.out.i⟩
        clear hkl HQ HS
        go_wp2_with fail
        go_ret
        exact ⟨rfl,L,ins',outs',HFS.out,HFI.out⟩
end Go.Proofs.Ytlbihfbeamlacaa
