/- Walk: the reference's Build. -/
import Derived.Test.YtlbihfbeamlacaaHbxbj
import Derived.Test.YtlbihfbeamlacaaHbxbk
set_option linter.unusedSimpArgs false
set_option linter.unusedVariables false
set_option maxRecDepth 100000
set_option maxHeartbeats 6400000
namespace Go.Proofs.Ytlbihfbeamlacaa
open Go.RowKit
theorem mem_insE {e x : ED} : ∀ {l : List ED},x ∈ insE e l→x=e∨x ∈ l
  | [],h=>by unfold insE at h; exact .inl (by simpa using h)
  | y :: l,h=>by
    unfold insE at h
    split at h
    · rcases List.mem_cons.1 h with h | h
      · exact .inr (h ▸ List.mem_cons_self ..)
      · rcases mem_insE h with h | h
        · exact .inl h
        · exact .inr (List.mem_cons_of_mem _ h)
    · rcases List.mem_cons.1 h with h | h
      · exact .inl h
      · exact .inr h
theorem mem_putE {e x : ED} {l : List ED} (h : x ∈ putE e l) : x=e∨x ∈ l:=by
  unfold putE at h
  obtain ⟨y,hy,he⟩:=List.mem_map.1 h
  split at he
  · exact .inl he.symm
  · exact .inr (he ▸ hy)
theorem mem_addE {e x : ED} {l : List ED} (h : x ∈ addE l e) : x=e∨x ∈ l:=by
  unfold addE at h
  split at h
  · split at h
    · exact mem_putE h
    · exact .inr h
  · exact mem_insE h
theorem iniL_mem {n : Nat} {es : List ED} (hg : GrE n es) : ∀ (l : List ED),(∀ x,x ∈ l→x ∈ es)→∀ m,(∀ x,x ∈ m→Ir n x.f∧Ir n x.t)→∀ x,x ∈ l.foldl iniS m→Ir n x.f∧Ir n x.t
  | [],_,m,hm,x,hx=>hm x hx
  | e :: l,h,m,hm,x,hx=>iniL_mem hg l (fun y hy=>h y (List.mem_cons_of_mem _ hy)) (iniS m e) (fun y hy=>by
    unfold iniS at hy
    split at hy
    · exact hm y hy
    · rcases mem_addE hy with rfl | hy
      · exact ⟨hg.rf _ (h _ (List.mem_cons_self ..)),hg.rt _ (h _ (List.mem_cons_self ..))⟩
      · exact hm y hy) x hx
theorem ini_srt : ∀ (l : List ED) (m : List ED),SrtE m→SrtE (l.foldl iniS m)
  | [],_,h=>h
  | e :: l,_,h=>ini_srt l _ (iniS_srt h e)
/-- The entries while the edges are added. -/
theorem ini_at {n : Nat} {es : List ED} (hg : GrE n es) (h9 : n≤9) (k : Nat) : KeyD ((es.take k).foldl iniS [])∧((es.take k).foldl iniS []).length≤81:=by
  have hk:=SrtE.keyD (ini_srt (es.take k) [] List.Pairwise.nil)
  refine ⟨hk, ?_⟩
  have h1:=keyD_len hk (iniL_mem hg (es.take k) (fun x hx=>List.mem_of_mem_take hx) [] (fun x hx=>by simp at hx))
  have h2 : n * n≤9 * 9:=Nat.mul_le_mul h9 h9
  omega
/-- The entries while a node is contracted. -/
structure MidP (n : Nat) (v : Int) (m : List ED) : Prop where
  key : KeyD m
  len : m.length≤81
  to : ∀ u a,lkE m u v=some a→0≤a.n∧a.n≤512000000
  fr : ∀ u a,lkE m v u=some a→0≤a.n∧a.n≤512000000
theorem bld_mid {n : Nat} {es : List ED} {R : List Int} (hg : GrD n es) (hR : RkOK n R) (h9 : n≤9) {r : Nat} (hr : r<n) (u k : Nat) : MidP n (vAt R r) (rowP (rkF R) (vAt R r) (u : Int) k (contE n (rkF R) (vAt R r) u (bldK n es R r))):=by
  obtain ⟨hs,hi⟩:=bldK_P hg hR r (by omega)
  have hv : lkE (bldK n es R r) (vAt R r) (vAt R r)=none:=by
    cases hc : lkE (bldK n es R r) (vAt R r) (vAt R r) with
    | none=>rfl
    | some x=>exact absurd rfl (hi.key _ _ x hc).2.2.2.2
  have hc:=rowP_P (contE_P (rk:=rkF R) hs hv n u) hv (u:=(u : Int)) (fun w h=>by omega) k
  have hkd:=SrtE.keyD hc.srt
  have hb : ∀ f t a,lkE (bldK n es R r) f t=some a→0≤a.n∧a.n≤512000000:=fun f t a ha=>by
    have h1:=hi.ge _ _ _ ha
    have h2:=hi.top _ _ _ ha
    have h4 : ∀ j : Fin 10,(1000000 : Int) * 2 ^ (j : Nat)≤512000000:=by decide
    have h6:=h4 ⟨r,by omega⟩
    simp only at h6
    omega
  refine ⟨hkd, ?_,fun u a ha=>hb _ _ _ ((hc.to hv u).symm.trans ha),fun u a ha=>hb _ _ _ ((hc.from_ hv u).symm.trans ha)⟩
  have h1:=keyD_len (n:=n) hkd (fun x hx=>by
    have hx:=hkd.lk hx
    have hcl : lkE (bldK n es R r) x.f x.t=some x→Ir n x.f∧Ir n x.t:=fun h=>⟨(hi.key _ _ _ h).2.2.1,(hi.key _ _ _ h).2.2.2.1⟩
    by_cases hp : ((0≤x.f∧x.f<(u : Int))∧0≤x.t∧x.t<(n : Int))∨(x.f=(u : Int)∧0≤x.t∧x.t<(k : Int))
    · rw [hc.yes _ _ hp] at hx
      unfold cvF at hx
      split at hx
      · rename_i a b ha hb
        exact ⟨(hi.key _ _ _ ha).2.2.1,(hi.key _ _ _ hb).2.2.2.1⟩
      · exact hcl hx
    · rw [hc.no _ _ hp] at hx
      exact hcl hx)
  have h2 : n * n≤9 * 9:=Nat.mul_le_mul h9 h9
  omega
theorem contE_zero (n : Nat) (rk : Int→Int) (v : Int) (l : List ED) : contE n rk v 0 l=l:=rfl
theorem rowP_zero (rk : Int→Int) (v u : Int) (l : List ED) : rowP rk v u 0 l=l:=rfl
theorem vat_find {n : Nat} {R : List Int} (h : RkOK n R) {r : Nat} (hr : r<n) : ∃ fi : Nat,vAt R r=(fi : Int)∧fi<n∧R[fi]? = some (r : Int)∧∀ j x,j<fi→R[j]? = some x→x≠(r : Int):=by
  have hm:=perm_mem n R h.nod h.rng h.len r hr
  have hlt : R.findIdx (fun x=>decide (x=(r : Int)))<R.length:=List.findIdx_lt_length_of_exists ⟨_,hm,by simp⟩
  have hp:=List.findIdx_getElem (p:=fun x=>decide (x=(r : Int))) (xs:=R) (w:=hlt)
  simp only [decide_eq_true_eq] at hp
  refine ⟨_,rfl,by have:=h.len; omega,by rw [List.getElem?_eq_getElem hlt,hp],fun j x hj hx hc=>?_⟩
  have hjl : j<R.length:=by omega
  have h1 : ¬ R[j]=(r : Int):=by simpa using List.not_of_lt_findIdx hj
  rw [List.getElem?_eq_getElem hjl] at hx
  injection hx with hx
  exact h1 (by rw [hx,hc])
theorem contP_a {rk : Int→Int} {v u w : Int} {l : List ED} (h : lkE l u v=none) : contP rk v l u w=l:=by unfold contP; rw [h]
theorem contP_b {rk : Int→Int} {v u w : Int} {l : List ED} (h : lkE l v w=none) : contP rk v l u w=l:=by
  unfold contP
  rw [h]
  cases lkE l u v <;> rfl
theorem contP_c {rk : Int→Int} {v u w : Int} {l : List ED} (h : u=w∨rk u<rk v∨rk w<rk v) : contP rk v l u w=l:=by
  unfold contP
  cases lkE l u v with
  | none=>rfl
  | some a =>
    cases lkE l v w with
    | none=>rfl
    | some b=>simp only; rw [if_pos h]
theorem contP_d {rk : Int→Int} {v u w : Int} {l : List ED} {a b : ED} (h1 : lkE l u v=some a) (h2 : lkE l v w=some b) (h : ¬ (u=w∨rk u<rk v∨rk w<rk v)) : contP rk v l u w=addE l ⟨u,w,a.n+b.n,v⟩:=by
  unfold contP
  rw [h1,h2]
  simp only
  rw [if_neg h]
theorem rkF_at {R : List Int} {k : Nat} {x : Int} (h : R[k]? = some x) : rkF R (k : Int)=x:=by
  unfold rkF
  rw [Int.toNat_natCast,h]
  rfl
theorem r13_Build (n : Int) (es : Sl ED) (R : Sl Int) (w : World) (hr : Rd (· < w.heap.size) 4 ED.enc w es) (hR : Rd (· < w.heap.size) 1 ienc w R) (hl : R.l.length≤10000) (h9 : graphB n es.l=true→n≤9) :
    Calls Try.prog 11 #[.int .i64 n,.slice es.A es.l.length es.c,.slice R.A R.l.length R.c] w fun r w'=>BldP w w' (bldV n es.l R.l) r:=by
  have HE:=Lib.hid hr
  have HR:=Lib.hid hR
  have H9:=Lib.hid h9
  obtain ⟨V,hV⟩ : ∃ V,bldV n es.l R.l=V:=⟨_,rfl⟩
  rw [hV]
  have HV:=Lib.hid hV
  clear hr hR h9 hV
  go_enter Try.func11,Try.ntmps11
  go_wp2_with fail
  have HB1 : Hid (Below w.heap.size w (w.alloc (.cells #[.slice none 0 0,.slice none 0 0] 25))):=Lib.hid (by repeat (first | (with_reducible exact Below.refl _ _) | ((with_reducible refine below_setr ?_ ?_); focus (first | (simp; done) | (simp; omega) | omega)) | ((with_reducible refine below_allocr ?_ ?_); focus (first | (simp; done) | (simp; omega) | omega)) | (with_reducible refine Below.drew ?_) | (with_reducible refine below_drewN ?_ _)))
  have HX1 : Hid (Blk (w.alloc (.cells #[.slice none 0 0,.slice none 0 0] 25)) w.heap.size 25 #[.slice none 0 0,.slice none 0 0]):=Lib.hid (Blk.new _ _ _)
  generalize w.alloc (.cells #[.slice none 0 0,.slice none 0 0] 25)=w1 at *
  refine (r13_Graph es n w1 (HE.out.later HB1.out (Nat.le_refl _))).mono ?_
  rintro r w2 ⟨rfl,hb2⟩
  have HB2:=Lib.hid (HB1.out.trans (hb2.mono HB1.out.size))
  have HX2:=Lib.hid (HX1.out.later hb2)
  clear hb2 HB1 HX1
  obtain ⟨gb,hgb⟩ : ∃ b,graphB n es.l=b:=⟨_,rfl⟩
  rw [hgb]
  have HGB:=Lib.hid hgb
  clear hgb
  rcases gb
  · have hv : V=([],[],1):=HV.out.symm.trans (by unfold bldV; rw [HGB.out,if_neg (fun h=>by simp at h)])
    subst hv
    obtain ⟨x0,x1,xf,xz⟩:=HX2.out.b2
    go_wp2_with fail
    have hy:=(HX2.out.set_ 0 (.slice none 0 0)).set_ 1 (.slice none 0 0)
    obtain ⟨y0,y1,yf,yz⟩:=Blk.b2 (x:=.slice none 0 0) (y:=.slice none 0 0) hy
    refine bodyPost_ret (v:=.tuple #[.agg #[.slice none 0 0,.slice none 0 0],.int .i64 1]) ?_ rfl ⟨none,none,0,0,rfl,Own.nil _ _ _ _ _,Own.nil _ _ _ _ _,(HB2.out.setCell (Nat.le_refl _) _).setCell (Nat.le_refl _) _⟩
    simp [results,Try.results11,go_sem,y0,y1]
  · obtain ⟨h0,h20,hel,hgd⟩:=graphB_ok HGB.out
    have h9:=H9.out HGB.out
    obtain ⟨m,rfl⟩:=Int.eq_ofNat_of_zero_le h0
    rw [Int.toNat_natCast] at hgd
    have HGD:=Lib.hid hgd
    have hm9 : m≤9:=by omega
    obtain ⟨t,ht⟩ : ∃ t : Bool,t=true↔RkP R.l m:=⟨decide (RkP R.l m),by simp⟩
    have HT:=Lib.hid ht
    clear ht hgd h0 h20 h9
    go_wp2_with fail
    refine (r13_Ranks R m t HT.out w2 (HR.out.later HB2.out (Nat.le_refl _))).mono ?_
    rintro r w3 ⟨rfl,hb3⟩
    have HB3:=Lib.hid (HB2.out.trans (hb3.mono HB2.out.size))
    have HX3:=Lib.hid (HX2.out.later hb3)
    clear hb3 HB2 HX2
    obtain ⟨x0,x1,xf,xz⟩:=HX3.out.b2
    rcases t
    · have hv : V=([],[],1):=HV.out.symm.trans (by
        unfold bldV
        rw [if_neg (fun h=>by have:=HT.out.2 h.2; simp at this)])
      subst hv
      have HB2:=HB3
      have HX2:=HX3
      go_wp2_with fail
      have hy:=(HX2.out.set_ 0 (.slice none 0 0)).set_ 1 (.slice none 0 0)
      obtain ⟨y0,y1,yf,yz⟩:=Blk.b2 (x:=.slice none 0 0) (y:=.slice none 0 0) hy
      refine bodyPost_ret (v:=.tuple #[.agg #[.slice none 0 0,.slice none 0 0],.int .i64 1]) ?_ rfl ⟨none,none,0,0,rfl,Own.nil _ _ _ _ _,Own.nil _ _ _ _ _,(HB2.out.setCell (Nat.le_refl _) _).setCell (Nat.le_refl _) _⟩
      simp [results,Try.results11,go_sem,y0,y1]
    · have hrp:=HT.out.1 rfl
      have HRP:=Lib.hid hrp
      have HRK:=Lib.hid hrp.ok
      have hv : V=(R.l,bldL m es.l R.l,0):=HV.out.symm.trans (by
        unfold bldV
        rw [if_pos ⟨HGB.out,hrp⟩,Int.toNat_natCast])
      subst hv
      clear HT hrp HV HGB H9
      obtain ⟨RA,Rc,R⟩:=R
      obtain ⟨EA,Ec,es⟩:=es
      simp only at hl hel HRP HRK HGD
      have hrl : R.length=m:=by have:=HRP.out.2.2; omega
      have HRL:=Lib.hid hrl
      have hbs : w.heap.size+1≤w3.heap.size:=HX3.out.lt
      have hbw : w.heap.size≤w.heap.size+1:=Nat.le_succ _
      obtain ⟨bs,hbs2⟩ : ∃ x,x=w.heap.size+1:=⟨_,rfl⟩
      have HBS : Hid (bs=w.heap.size+1):=Lib.hid hbs2
      rw [← hbs2] at hbs hbw
      clear hrl hbs2
      go_wp2_with fail
      clear x0 x1 xf xz
      go_loopw [8,9] (fun X Y wr=>∃ (k : Nat) (A : Option Addr) (c : Nat) (L : List ED),k≤es.length∧X = .slice A L.length c∧Y = .int .i64 k∧Hid ((es.take k).foldl iniS []=L)∧Hid (Own bs 44 4 ED.enc wr ⟨A,c,L⟩)∧Hid (Below bs w3 wr)) (fun _ Y _=>es.length - (intOf Y).toNat)
      case atStart=>exact ⟨0,none,0,[],by omega,rfl,rfl,Lib.hid rfl,Lib.hid (Own.nil _ _ _ _ _),Lib.hid (Below.refl _ _)⟩
      case round =>
        obtain ⟨k,A,c,L,hk,rfl,rfl,HL,HO,HU⟩:=hrel
        have HBW : Hid (Below w.heap.size w wr):=Lib.hid (HB3.out.trans (HU.out.mono hbw))
        have hsz : bs≤wr.heap.size:=Nat.le_trans hbs HU.out.size
        have hini:=ini_at HGD.out.gr hm9 k
        rw [HL.out] at hini
        obtain ⟨hkd,h81⟩:=hini
        have HKD:=Lib.hid hkd
        clear hkd
        by_cases hlt : k<es.length
        · have hlt' : (k : Int)<(es.length : Int):=by omega
          obtain ⟨b,o,hA,hb,hcl⟩:=(HE.out.later HBW.out (Nat.le_refl _)).at1 hlt
          simp only at hA hcl
          subst hA
          have HXE : Hid (es[k]? = some es[k]):=Lib.hid (List.getElem?_eq_getElem hlt)
          have htk : (es.take (k+1)).foldl iniS []=iniS L es[k]:=by
            rw [List.take_add_one,HXE.out,List.foldl_append,HL.out]
            rfl
          generalize es[k]=e at *
          have hadd:=r13_add bs ⟨A,c,L⟩ e wr.drew HO.out.drew HKD.out hsz (by simp only; omega)
          obtain ⟨xf,xt,xn,xv⟩:=e
          obtain ⟨c0,c1,c2,c3⟩:=Cells.c4 hcl
          simp only [ED.v'] at hadd
          have HADD:=Lib.hid hadd
          have HTK:=Lib.hid htk
          have HDV:=Lib.hid (Below.drew HU.out)
          have HOD:=Lib.hid HO.out.drew
          clear hcl hb hadd htk HL HXE HBW HU HO HKD
          by_cases hft : xf=xt
          · subst hft
            go_wp2_with fail
            refine wp_region_T (fun W=>W.cell? ⟨b,o+k * 4,none⟩=some (.int .i64 xf)∧W.cell? ⟨b,o+k * 4+1,none⟩=some (.int .i64 xf)) (fun _=>false) (by kernel_rfl) ⟨c0,c1⟩ (fun hHeld=>?_)
            refine wpAnyT_take2 (i:=0) (v:=?_) rfl rfl (by kernel_rfl) (by kernel_rfl) (by kernel_rfl) (by kernel_rfl) (fun _ _ _ h=>h) (Or.inl ⟨by rfl, ?_⟩) (by first | assumption | trivial) ?_
            rotate_left
            · (intro w hSw; (try dsimp only at hSw); go_simp) <;> (with_reducible rfl)
            simp only [List.setIfInBounds_toArray,List.set_cons_zero,List.set_cons_succ]
            refine wpAnyT_take2 (i:=1) (v:=?_) rfl rfl (by kernel_rfl) (by kernel_rfl) (by kernel_rfl) (by kernel_rfl) (fun _ _ _ h=>h) (Or.inl ⟨by rfl, ?_⟩) (by first | assumption | trivial) ?_
            rotate_left
            · (intro w hSw; (try dsimp only at hSw); go_simp) <;> (with_reducible rfl)
            simp only [List.setIfInBounds_toArray,List.set_cons_zero,List.set_cons_succ]
            refine wpAnyT_take2 (i:=2) (v:=?_) rfl rfl (by kernel_rfl) (by kernel_rfl) (by kernel_rfl) (by kernel_rfl) (fun _ _ _ h=>h) (Or.inl ⟨by rfl, ?_⟩) (by first | assumption | trivial) ?_
            rotate_left
            · (intro w hSw; (try dsimp only at hSw); go_simp) <;> (with_reducible rfl)
            simp only [List.setIfInBounds_toArray,List.set_cons_zero,List.set_cons_succ]
            refine wpAnyT_take2 (i:=3) (v:=?_) rfl rfl (by kernel_rfl) (by kernel_rfl) (by kernel_rfl) (by kernel_rfl) (fun _ _ _ h=>h) (Or.inl ⟨by rfl, ?_⟩) (by first | assumption | trivial) ?_
            rotate_left
            · (intro w hSw; (try dsimp only at hSw); go_simp) <;> (with_reducible rfl)
            simp only [List.setIfInBounds_toArray,List.set_cons_zero,List.set_cons_succ]
            refine wpAnyT_take2 (i:=4) (v:=?_) rfl rfl (by kernel_rfl) (by kernel_rfl) (by kernel_rfl) (by kernel_rfl) (fun _ _ _ h=>h) (Or.inl ⟨by rfl, ?_⟩) (by first | assumption | trivial) ?_
            rotate_left
            · (intro w hSw; (try dsimp only at hSw); go_simp) <;> (with_reducible rfl)
            simp only [List.setIfInBounds_toArray,List.set_cons_zero,List.set_cons_succ]
            refine wpAnyT_take2 (i:=5) (v:=?_) rfl rfl (by kernel_rfl) (by kernel_rfl) (by kernel_rfl) (by kernel_rfl) (fun _ _ _ h=>h) (Or.inl ⟨by rfl, ?_⟩) (by first | assumption | trivial) ?_
            rotate_left
            · (intro w hSw; (try dsimp only at hSw); go_simp) <;> (with_reducible rfl)
            simp only [List.setIfInBounds_toArray,List.set_cons_zero,List.set_cons_succ]
            refine wpAnyT_take2 (i:=6) (v:=?_) rfl rfl (by kernel_rfl) (by kernel_rfl) (by kernel_rfl) (by kernel_rfl) (fun _ _ _ h=>h) (Or.inl ⟨by rfl, ?_⟩) (by first | assumption | trivial) ?_
            rotate_left
            · (intro w hSw; (try dsimp only at hSw); go_simp) <;> (with_reducible rfl)
            simp only [List.setIfInBounds_toArray,List.set_cons_zero,List.set_cons_succ]
            refine wpAnyT_take2 (i:=7) (v:=?_) rfl rfl (by kernel_rfl) (by kernel_rfl) (by kernel_rfl) (by kernel_rfl) (fun _ _ _ h=>h) (Or.inl ⟨by rfl, ?_⟩) (by first | assumption | trivial) ?_
            rotate_left
            · (intro w hSw; (try dsimp only at hSw); go_simp) <;> (with_reducible rfl)
            simp only [List.setIfInBounds_toArray,List.set_cons_zero,List.set_cons_succ]
            refine wpAnyT_take2 (i:=8) (v:=?_) rfl rfl (by kernel_rfl) (by kernel_rfl) (by kernel_rfl) (by kernel_rfl) (fun _ _ _ h=>h) (Or.inl ⟨by rfl, ?_⟩) (by first | assumption | trivial) ?_
            rotate_left
            · (intro w hSw; (try dsimp only at hSw); go_simp) <;> (with_reducible rfl)
            simp only [List.setIfInBounds_toArray,List.set_cons_zero,List.set_cons_succ]
            refine wpAnyT_take2 (i:=9) (v:=?_) rfl rfl (by kernel_rfl) (by kernel_rfl) (by kernel_rfl) (by kernel_rfl) (fun _ _ _ h=>h) (Or.inl ⟨by rfl, ?_⟩) (by first | assumption | trivial) ?_
            rotate_left
            · (intro w hSw; (try dsimp only at hSw); go_simp) <;> (with_reducible rfl)
            simp only [List.setIfInBounds_toArray,List.set_cons_zero,List.set_cons_succ]
            refine wpAnyT_take2 (i:=10) (v:=.bool false) rfl rfl (by kernel_rfl) (by kernel_rfl) (by kernel_rfl) (by kernel_rfl) (fun _ _ _ h=>h) (Or.inl ⟨by rfl, ?_⟩) (by first | assumption | trivial) ?_
            · (intro w hSw; (try dsimp only at hSw); go_simp) <;> (first | (with_reducible rfl) | assumption | (simp; done) | (simp [*]; done) | (simp; omega))
            simp only [List.setIfInBounds_toArray,List.set_cons_zero,List.set_cons_succ]
            refine wpAnyT_done (by kernel_rfl) ?_ _
            clear hHeld
            go_wp2_with fail
            go_roundw
            case rel=>exact ⟨k+1,A,c,L,by omega,rfl,by go_num,Lib.hid (HTK.out.trans (show (if xf=xf then L else addE L ⟨xf,xf,xn,xv⟩)=L from if_pos rfl)),HOD,HDV⟩
            case measure=>simp [intOf]; omega
          · have hfb : (xf == xt)=false:=by simpa using hft
            have HTK2:=Lib.hid (HTK.out.trans (show (if xf=xt then L else addE L ⟨xf,xt,xn,xv⟩)=addE L ⟨xf,xt,xn,xv⟩ from if_neg hft))
            obtain ⟨L2,hL2⟩ : ∃ x,addE L ⟨xf,xt,xn,xv⟩=x:=⟨_,rfl⟩
            rw [hL2] at HTK2 HADD
            clear hL2 HTK
            go_wp2_with fail
            refine wp_region_T (fun W=>W.cell? ⟨b,o+k * 4,none⟩=some (.int .i64 xf)∧W.cell? ⟨b,o+k * 4+1,none⟩=some (.int .i64 xt)) (fun _=>false) (by kernel_rfl) ⟨c0,c1⟩ (fun hHeld=>?_)
            refine wpAnyT_take2 (i:=0) (v:=?_) rfl rfl (by kernel_rfl) (by kernel_rfl) (by kernel_rfl) (by kernel_rfl) (fun _ _ _ h=>h) (Or.inl ⟨by rfl, ?_⟩) (by first | assumption | trivial) ?_
            rotate_left
            · (intro w hSw; (try dsimp only at hSw); go_simp) <;> (with_reducible rfl)
            simp only [List.setIfInBounds_toArray,List.set_cons_zero,List.set_cons_succ]
            refine wpAnyT_take2 (i:=1) (v:=?_) rfl rfl (by kernel_rfl) (by kernel_rfl) (by kernel_rfl) (by kernel_rfl) (fun _ _ _ h=>h) (Or.inl ⟨by rfl, ?_⟩) (by first | assumption | trivial) ?_
            rotate_left
            · (intro w hSw; (try dsimp only at hSw); go_simp) <;> (with_reducible rfl)
            simp only [List.setIfInBounds_toArray,List.set_cons_zero,List.set_cons_succ]
            refine wpAnyT_take2 (i:=2) (v:=?_) rfl rfl (by kernel_rfl) (by kernel_rfl) (by kernel_rfl) (by kernel_rfl) (fun _ _ _ h=>h) (Or.inl ⟨by rfl, ?_⟩) (by first | assumption | trivial) ?_
            rotate_left
            · (intro w hSw; (try dsimp only at hSw); go_simp) <;> (with_reducible rfl)
            simp only [List.setIfInBounds_toArray,List.set_cons_zero,List.set_cons_succ]
            refine wpAnyT_take2 (i:=3) (v:=?_) rfl rfl (by kernel_rfl) (by kernel_rfl) (by kernel_rfl) (by kernel_rfl) (fun _ _ _ h=>h) (Or.inl ⟨by rfl, ?_⟩) (by first | assumption | trivial) ?_
            rotate_left
            · (intro w hSw; (try dsimp only at hSw); go_simp) <;> (with_reducible rfl)
            simp only [List.setIfInBounds_toArray,List.set_cons_zero,List.set_cons_succ]
            refine wpAnyT_take2 (i:=4) (v:=?_) rfl rfl (by kernel_rfl) (by kernel_rfl) (by kernel_rfl) (by kernel_rfl) (fun _ _ _ h=>h) (Or.inl ⟨by rfl, ?_⟩) (by first | assumption | trivial) ?_
            rotate_left
            · (intro w hSw; (try dsimp only at hSw); go_simp) <;> (with_reducible rfl)
            simp only [List.setIfInBounds_toArray,List.set_cons_zero,List.set_cons_succ]
            refine wpAnyT_take2 (i:=5) (v:=?_) rfl rfl (by kernel_rfl) (by kernel_rfl) (by kernel_rfl) (by kernel_rfl) (fun _ _ _ h=>h) (Or.inl ⟨by rfl, ?_⟩) (by first | assumption | trivial) ?_
            rotate_left
            · (intro w hSw; (try dsimp only at hSw); go_simp) <;> (with_reducible rfl)
            simp only [List.setIfInBounds_toArray,List.set_cons_zero,List.set_cons_succ]
            refine wpAnyT_take2 (i:=6) (v:=?_) rfl rfl (by kernel_rfl) (by kernel_rfl) (by kernel_rfl) (by kernel_rfl) (fun _ _ _ h=>h) (Or.inl ⟨by rfl, ?_⟩) (by first | assumption | trivial) ?_
            rotate_left
            · (intro w hSw; (try dsimp only at hSw); go_simp) <;> (with_reducible rfl)
            simp only [List.setIfInBounds_toArray,List.set_cons_zero,List.set_cons_succ]
            refine wpAnyT_take2 (i:=7) (v:=?_) rfl rfl (by kernel_rfl) (by kernel_rfl) (by kernel_rfl) (by kernel_rfl) (fun _ _ _ h=>h) (Or.inl ⟨by rfl, ?_⟩) (by first | assumption | trivial) ?_
            rotate_left
            · (intro w hSw; (try dsimp only at hSw); go_simp) <;> (with_reducible rfl)
            simp only [List.setIfInBounds_toArray,List.set_cons_zero,List.set_cons_succ]
            refine wpAnyT_take2 (i:=8) (v:=?_) rfl rfl (by kernel_rfl) (by kernel_rfl) (by kernel_rfl) (by kernel_rfl) (fun _ _ _ h=>h) (Or.inl ⟨by rfl, ?_⟩) (by first | assumption | trivial) ?_
            rotate_left
            · (intro w hSw; (try dsimp only at hSw); go_simp) <;> (with_reducible rfl)
            simp only [List.setIfInBounds_toArray,List.set_cons_zero,List.set_cons_succ]
            refine wpAnyT_take2 (i:=9) (v:=?_) rfl rfl (by kernel_rfl) (by kernel_rfl) (by kernel_rfl) (by kernel_rfl) (fun _ _ _ h=>h) (Or.inl ⟨by rfl, ?_⟩) (by first | assumption | trivial) ?_
            rotate_left
            · (intro w hSw; (try dsimp only at hSw); go_simp) <;> (with_reducible rfl)
            simp only [List.setIfInBounds_toArray,List.set_cons_zero,List.set_cons_succ]
            refine wpAnyT_take2 (i:=10) (v:=.bool true) rfl rfl (by kernel_rfl) (by kernel_rfl) (by kernel_rfl) (by kernel_rfl) (fun _ _ _ h=>h) (Or.inl ⟨by rfl, ?_⟩) (by first | assumption | trivial) ?_
            · (intro w hSw; (try dsimp only at hSw); go_simp) <;> (first | (with_reducible rfl) | assumption | (simp; done) | (simp [*]; done) | (simp; omega))
            simp only [List.setIfInBounds_toArray,List.set_cons_zero,List.set_cons_succ]
            refine wpAnyT_done (by kernel_rfl) ?_ _
            clear hHeld
            go_wp2_with fail
            refine HADD.out.mono ?_
            clear HADD
            rintro r w5 ⟨A2,c2',rfl,hown,hb⟩
            have HO5:=Lib.hid hown
            have HU5:=Lib.hid (HDV.out.trans hb)
            clear hown hb HDV HOD c0 c1 c2 c3
            go_wp2_with fail
            go_roundw
            case rel=>exact ⟨k+1,A2,c2',L2,by omega,rfl,by go_num,HTK2,HO5,HU5⟩
            case measure=>simp [intOf]; omega
        · have hke : k=es.length:=by omega
          subst hke
          have HL0 : Hid (L=bldK m es R 0):=Lib.hid (by rw [← HL.out,List.take_length]; rfl)
          have hlt' : ¬ (es.length : Int)<(es.length : Int):=by omega
          clear HL HKD HBW hk h81
          go_wp2_with fail
          go_loopw [8,11] (fun X Y wr=>∃ (r : Nat) (A : Option Addr) (c : Nat) (L : List ED),r≤m∧X = .slice A L.length c∧Y = .int .i64 r∧Hid (L=bldK m es R r)∧Hid (Own bs 44 4 ED.enc wr ⟨A,c,L⟩)∧Hid (Below bs w3 wr)) (fun _ Y _=>m - (intOf Y).toNat)
          case atStart=>exact ⟨0,A,c,L,by omega,rfl,rfl,HL0,HO,HU⟩
          case round =>
            clear HL0 HO HU hsz
            obtain ⟨r,A,c,L,hr,rfl,rfl,HL,HO,HU⟩:=hrel
            have hsz : bs≤wr.heap.size:=Nat.le_trans hbs HU.out.size
            by_cases hlr : r<m
            · have hlr' : (r : Int)<(m : Int):=by omega
              obtain ⟨fi,hfi,hfm,hfr,hfn⟩:=vat_find HRK.out hlr
              have HFI:=Lib.hid hfi
              have HFR:=Lib.hid hfr
              have HFN:=Lib.hid hfn
              clear hfi hfr hfn
              go_wp2_with fail
              obtain ⟨wa,hwa⟩ : ∃ x,x=wr:=⟨_,rfl⟩
              subst hwa
              go_loopw [12] (fun Z wr=>∃ (k : Nat),k≤fi∧Z = .int .i64 k∧Hid (Below wa.heap.size wa wr)) (fun Z _=>fi - (intOf Z).toNat)
              case atStart=>exact ⟨0,by omega,rfl,Lib.hid (Below.refl _ _)⟩
              case round =>
                obtain ⟨k,hkf,rfl,HA⟩:=hrel
                have HU1:=Lib.hid (HU.out.trans (HA.out.mono hsz))
                have HBW : Hid (Below w.heap.size w wr):=Lib.hid (HB3.out.trans (HU1.out.mono hbw))
                have hkR : k<R.length:=by have:=HRL.out; omega
                obtain ⟨b,o,hA,hb,hcl⟩:=(HR.out.later HBW.out (Nat.le_refl _)).at1 hkR
                simp only at hA hcl
                subst hA
                have g0:=hcl.c1
                rw [Nat.mul_one] at g0
                have hkR' : (k : Int)<(R.length : Int):=by omega
                have HXR : Hid (R[k]? = some R[k]):=Lib.hid (List.getElem?_eq_getElem hkR)
                generalize R[k]=x at *
                clear hcl hb HBW
                by_cases hkf2 : k<fi
                · have hxr : (x != (r : Int))=true:=by simpa using HFN.out k x hkf2 HXR.out
                  have hxr' : ¬ x=(r : Int):=HFN.out k x hkf2 HXR.out
                  clear HU1
                  go_wp2_with fail
                  go_roundw
                  case rel=>exact ⟨k+1,by omega,by go_num,HA⟩
                  case measure=>simp [intOf]; omega
                · have hke : k=fi:=by omega
                  subst hke
                  have hxr : x=(r : Int):=by
                    have h1:=HXR.out.symm.trans HFR.out
                    injection h1
                  subst hxr
                  have HO1:=Lib.hid (HO.out.below HA.out)
                  have HRV : Hid (rkF R ((k : Nat) : Int)=(r : Int)):=Lib.hid (rkF_at HFR.out)
                  have hsz1 : bs≤wr.heap.size:=Nat.le_trans hbs HU1.out.size
                  clear HO HU HA HFN hkf2 hkf hsz HXR
                  go_wp2_with fail
                  clear g0
                  obtain ⟨fi,hfi2⟩ : ∃ x,x=k:=⟨_,rfl⟩
                  subst hfi2
                  obtain ⟨wb,hwb⟩ : ∃ x,x=wr:=⟨_,rfl⟩
                  subst hwb
                  go_loopw [8,13] (fun X Y wr=>∃ (u : Nat) (A : Option Addr) (c : Nat) (M : List ED),u≤m∧X = .slice A M.length c∧Y = .int .i64 u∧Hid (M=contE m (rkF R) ((fi : Nat) : Int) u L)∧Hid (Own bs 44 4 ED.enc wr ⟨A,c,M⟩)∧Hid (Below bs w3 wr)) (fun _ Y _=>m - (intOf Y).toNat)
                  case atStart=>exact ⟨0,A,c,L,by omega,rfl,rfl,Lib.hid rfl,HO1,HU1⟩
                  case round =>
                    clear HO1 HU1 hsz1
                    obtain ⟨u,A,c,M,hu,rfl,rfl,HM,HO,HU⟩:=hrel
                    by_cases hum : u<m
                    · have hum' : (u : Int)<(m : Int):=by omega
                      go_wp2_with fail
                      obtain ⟨wc,hwc⟩ : ∃ x,x=wr:=⟨_,rfl⟩
                      subst hwc
                      go_loopw [8,14] (fun X Y wr=>∃ (k : Nat) (A : Option Addr) (c : Nat) (M' : List ED),k≤m∧X = .slice A M'.length c∧Y = .int .i64 k∧Hid (M'=rowP (rkF R) ((fi : Nat) : Int) ((u : Nat) : Int) k M)∧Hid (Own bs 44 4 ED.enc wr ⟨A,c,M'⟩)∧Hid (Below bs w3 wr)) (fun _ Y _=>m - (intOf Y).toNat)
                      case atStart=>exact ⟨0,A,c,M,by omega,rfl,rfl,Lib.hid rfl,HO,HU⟩
                      case round =>
                        clear HO HU
                        obtain ⟨k,A,c,M',hk,rfl,rfl,HMM,HO,HU⟩:=hrel
                        by_cases hkm : k<m
                        · have hkm' : (k : Int)<(m : Int):=by omega
                          have hmid:=bld_mid HGD.out HRK.out hm9 hlr u k
                          rw [HFI.out,← HL.out,← HM.out,← HMM.out] at hmid
                          have HMD:=Lib.hid hmid
                          have hszr : bs≤wr.heap.size:=Nat.le_trans hbs HU.out.size
                          have hc1:=r13_At ⟨A,c,M'⟩ ((u : Nat) : Int) ((fi : Nat) : Int) wr ((Own.rd ED.k HO.out).mono fun b hb=>hb.2)
                          have hc2:=fun w1 hr=>r13_At ⟨A,c,M'⟩ ((fi : Nat) : Int) ((k : Nat) : Int) w1 hr
                          simp only at hc1 hc2
                          generalize hi1 : idxP (fun x : ED=>decide (x.f=((u : Nat) : Int)) && decide (x.t=((fi : Nat) : Int))) 0 M'=i1 at hc1
                          generalize hi2 : idxP (fun x : ED=>decide (x.f=((fi : Nat) : Int)) && decide (x.t=((k : Nat) : Int))) 0 M'=i2 at hc2
                          have HC1:=Lib.hid hc1
                          have HC2:=Lib.hid hc2
                          have HI1:=Lib.hid hi1
                          have HI2:=Lib.hid hi2
                          clear hmid hc1 hc2 hi1 hi2
                          go_wp2_with fail
                          refine HC1.out.mono ?_
                          clear HC1
                          rintro r1 wd ⟨rfl,hb⟩
                          have HO1:=Lib.hid (HO.out.below hb)
                          have HU1:=Lib.hid (HU.out.trans (hb.mono hszr))
                          clear hb HO HU
                          go_wp2_with fail
                          refine (HC2.out wd ((Own.rd ED.k HO1.out).mono fun b hb=>hb.2)).mono ?_
                          clear HC2
                          rintro r2 we ⟨rfl,hb⟩
                          have HO2:=Lib.hid (HO1.out.below hb)
                          have HU2:=Lib.hid (HU1.out.trans (hb.mono (Nat.le_trans hbs HU1.out.size)))
                          clear hb HO1 HU1 hszr
                          rcases at_lk M' ((u : Nat) : Int) ((fi : Nat) : Int) with ⟨h1,h2⟩ | ⟨ka,a,h1,h2,h3,_,_⟩
                          · rw [HI1.out] at h1
                            subst h1
                            go_wp2_with fail
                            go_roundw
                            case rel=>exact ⟨k+1,_,c,M',by omega,rfl,by go_num,Lib.hid (by rw [rowP_succ,← HMM.out]; exact (contP_a h2).symm),HO2,HU2⟩
                            case measure=>simp [intOf]; omega
                          · rw [HI1.out] at h1
                            subst h1
                            rcases at_lk M' ((fi : Nat) : Int) ((k : Nat) : Int) with ⟨h4,h5⟩ | ⟨kb,bb,h4,h5,h6,_,_⟩
                            · rw [HI2.out] at h4
                              subst h4
                              clear h2
                              have H3:=Lib.hid h3
                              clear h3
                              have H5:=Lib.hid h5
                              clear h5
                              go_wp2_with fail
                              go_roundw
                              case rel=>exact ⟨k+1,_,c,M',by omega,rfl,by go_num,Lib.hid (by rw [rowP_succ,← HMM.out]; exact (contP_b H5.out).symm),HO2,HU2⟩
                              case measure=>simp [intOf]; omega
                            · rw [HI2.out] at h4
                              subst h4
                              have hkal : ka<M'.length:=(List.getElem?_eq_some_iff.1 h2).1
                              have hkbl : kb<M'.length:=(List.getElem?_eq_some_iff.1 h5).1
                              obtain ⟨g,rfl,hg1,hg2,_,_,c2,_⟩:=own_edge HO2.out h2
                              obtain ⟨g',hgg,_,_,_,_,d2,_⟩:=own_edge HO2.out h5
                              have hgg' : g=g':=by injection hgg with hgg; injection hgg
                              subst hgg'
                              have HBW : Hid (Below w.heap.size w we):=Lib.hid (HB3.out.trans (HU2.out.mono hbw))
                              have huR : u<R.length:=by have:=HRL.out; omega
                              have hkR : k<R.length:=by have:=HRL.out; omega
                              obtain ⟨b1,o1,hA,hb,hcl⟩:=(HR.out.later HBW.out (Nat.le_refl _)).at1 huR
                              obtain ⟨b2,o2,hA',hb',hcl'⟩:=(HR.out.later HBW.out (Nat.le_refl _)).at1 hkR
                              simp only at hA hA' hcl hcl'
                              have e1 : b=b1∧o=o1:=by simpa using hA
                              have e2 : b=b2∧o=o2:=by simpa using hA'
                              obtain ⟨e1,e3⟩:=e1
                              obtain ⟨e2,e4⟩:=e2
                              subst e1 e2 e3 e4
                              have g0:=hcl.c1
                              have g1:=hcl'.c1
                              rw [Nat.mul_one] at g0 g1
                              have HRU : Hid (rkF R ((u : Nat) : Int)=R[u]):=Lib.hid (rkF_at (List.getElem?_eq_getElem huR))
                              have HRW : Hid (rkF R ((k : Nat) : Int)=R[k]):=Lib.hid (rkF_at (List.getElem?_eq_getElem hkR))
                              generalize R[u]=xu at *
                              generalize R[k]=xk at *
                              have huR' : (u : Int)<(R.length : Int):=by omega
                              have hkR' : (k : Int)<(R.length : Int):=by omega
                              have H3:=Lib.hid h3
                              have H6:=Lib.hid h6
                              have hbda:=HMD.out.to _ _ h3
                              have hbdb:=HMD.out.fr _ _ h6
                              have HL81:=Lib.hid HMD.out.len
                              have HKD:=Lib.hid HMD.out.key
                              clear hA hA' hb hb' hcl hcl' hgg h3 h6 h2 h5 HI1 HI2 HMD
                              by_cases huk : u=k
                              · have huk':=huk.symm
                                subst huk'
                                go_wp2_with fail
                                go_roundw
                                case rel=>exact ⟨k+1,_,c,M',by omega,rfl,by go_num,Lib.hid (by rw [rowP_succ,← HMM.out]; exact (contP_c (.inl rfl)).symm),HO2,HU2⟩
                                case measure=>simp [intOf]; omega
                              · have hukb : (((u : Nat) : Int) == ((k : Nat) : Int))=false:=by rw [beq_eq_false_iff_ne]; omega
                                have huki : ¬ ((u : Nat) : Int)=((k : Nat) : Int):=by omega
                                by_cases hxu : xu<(r : Int)
                                · have HCC : Hid (rkF R ((u : Nat) : Int)<rkF R ((fi : Nat) : Int)):=Lib.hid (by rw [HRU.out,HRV.out]; exact hxu)
                                  go_wp2_with fail
                                  go_roundw
                                  case rel=>exact ⟨k+1,_,c,M',by omega,rfl,by go_num,Lib.hid (by rw [rowP_succ,← HMM.out]; exact (contP_c (.inr (.inl HCC.out))).symm),HO2,HU2⟩
                                  case measure=>simp [intOf]; omega
                                · by_cases hxk : xk<(r : Int)
                                  · have HCC : Hid (rkF R ((k : Nat) : Int)<rkF R ((fi : Nat) : Int)):=Lib.hid (by rw [HRW.out,HRV.out]; exact hxk)
                                    go_wp2_with fail
                                    go_roundw
                                    case rel=>exact ⟨k+1,_,c,M',by omega,rfl,by go_num,Lib.hid (by rw [rowP_succ,← HMM.out]; exact (contP_c (.inr (.inr HCC.out))).symm),HO2,HU2⟩
                                    case measure=>simp [intOf]; omega
                                  · have HCD:=Lib.hid (contP_d H3.out H6.out (w:=((k : Nat) : Int)) (rk:=rkF R) (by rw [HRU.out,HRV.out,HRW.out]; omega))
                                    obtain ⟨af,at_,an,av⟩:=a
                                    obtain ⟨bf,bt,bn,bv⟩:=bb
                                    simp only at c2 d2 hbda hbdb HCD
                                    have hwr : IntKind.i64.wrap (an+bn)=an+bn:=by rw [IntKind.wrap_i64]; omega
                                    have hadd:=r13_add bs ⟨some ⟨g,0,none⟩,c,M'⟩ ⟨((u : Nat) : Int),((k : Nat) : Int),an+bn,((fi : Nat) : Int)⟩ we.drew HO2.out.drew HKD.out (Nat.le_trans hbs HU2.out.size) (by have:=HL81.out; simp only; omega)
                                    simp only [ED.v'] at hadd
                                    obtain ⟨M2,hM2⟩ : ∃ x,addE M' ⟨((u : Nat) : Int),((k : Nat) : Int),an+bn,((fi : Nat) : Int)⟩=x:=⟨_,rfl⟩
                                    rw [hM2] at hadd HCD
                                    have HADD:=Lib.hid hadd
                                    have HDV:=Lib.hid (Below.drew HU2.out)
                                    clear hM2 hadd H3 H6 HRU HRW HKD HL81 HO2
                                    go_wp2_with fail
                                    clear g0 g1
                                    refine wp_region_T (fun W=>W.cell? ⟨g,ka * 4+2,none⟩=some (.int .i64 an)∧W.cell? ⟨g,kb * 4+2,none⟩=some (.int .i64 bn)) (fun i=>16≤i) (by kernel_rfl) ⟨c2,d2⟩ (fun hHeld=>?_)
                                    refine wpAnyT_take3 (i:=0) (v:=?_) rfl rfl (by kernel_rfl) (by kernel_rfl) (by kernel_rfl) (by kernel_rfl) (by kernel_rfl) (fun _ _ _ h=>h) (Or.inl ⟨by rfl, ?_⟩) (by first | assumption | trivial) ?_
                                    rotate_left
                                    · (intro w hSw; (try dsimp only at hSw); go_simp) <;> (with_reducible rfl)
                                    simp only [List.setIfInBounds_toArray,List.set_cons_zero,List.set_cons_succ]
                                    refine wpAnyT_take3 (i:=1) (v:=?_) rfl rfl (by kernel_rfl) (by kernel_rfl) (by kernel_rfl) (by kernel_rfl) (by kernel_rfl) (fun _ _ _ h=>h) (Or.inl ⟨by rfl, ?_⟩) (by first | assumption | trivial) ?_
                                    rotate_left
                                    · (intro w hSw; (try dsimp only at hSw); go_simp) <;> (with_reducible rfl)
                                    simp only [List.setIfInBounds_toArray,List.set_cons_zero,List.set_cons_succ]
                                    refine wpAnyT_take3 (i:=2) (v:=?_) rfl rfl (by kernel_rfl) (by kernel_rfl) (by kernel_rfl) (by kernel_rfl) (by kernel_rfl) (fun _ _ _ h=>h) (Or.inl ⟨by rfl, ?_⟩) (by first | assumption | trivial) ?_
                                    rotate_left
                                    · (intro w hSw; (try dsimp only at hSw); go_simp) <;> (with_reducible rfl)
                                    simp only [List.setIfInBounds_toArray,List.set_cons_zero,List.set_cons_succ]
                                    refine wpAnyT_take3 (i:=3) (v:=?_) rfl rfl (by kernel_rfl) (by kernel_rfl) (by kernel_rfl) (by kernel_rfl) (by kernel_rfl) (fun _ _ _ h=>h) (Or.inl ⟨by rfl, ?_⟩) (by first | assumption | trivial) ?_
                                    rotate_left
                                    · (intro w hSw; (try dsimp only at hSw); go_simp) <;> (with_reducible rfl)
                                    simp only [List.setIfInBounds_toArray,List.set_cons_zero,List.set_cons_succ]
                                    refine wpAnyT_take3 (i:=4) (v:=?_) rfl rfl (by kernel_rfl) (by kernel_rfl) (by kernel_rfl) (by kernel_rfl) (by kernel_rfl) (fun _ _ _ h=>h) (Or.inl ⟨by rfl, ?_⟩) (by first | assumption | trivial) ?_
                                    rotate_left
                                    · (intro w hSw; (try dsimp only at hSw); go_simp) <;> (with_reducible rfl)
                                    simp only [List.setIfInBounds_toArray,List.set_cons_zero,List.set_cons_succ]
                                    refine wpAnyT_take3 (i:=5) (v:=?_) rfl rfl (by kernel_rfl) (by kernel_rfl) (by kernel_rfl) (by kernel_rfl) (by kernel_rfl) (fun _ _ _ h=>h) (Or.inl ⟨by rfl, ?_⟩) (by first | assumption | trivial) ?_
                                    rotate_left
                                    · (intro w hSw; (try dsimp only at hSw); go_simp) <;> (with_reducible rfl)
                                    simp only [List.setIfInBounds_toArray,List.set_cons_zero,List.set_cons_succ]
                                    refine wpAnyT_take3 (i:=6) (v:=?_) rfl rfl (by kernel_rfl) (by kernel_rfl) (by kernel_rfl) (by kernel_rfl) (by kernel_rfl) (fun _ _ _ h=>h) (Or.inl ⟨by rfl, ?_⟩) (by first | assumption | trivial) ?_
                                    rotate_left
                                    · (intro w hSw; (try dsimp only at hSw); go_simp) <;> (with_reducible rfl)
                                    simp only [List.setIfInBounds_toArray,List.set_cons_zero,List.set_cons_succ]
                                    refine wpAnyT_take3 (i:=7) (v:=?_) rfl rfl (by kernel_rfl) (by kernel_rfl) (by kernel_rfl) (by kernel_rfl) (by kernel_rfl) (fun _ _ _ h=>h) (Or.inl ⟨by rfl, ?_⟩) (by first | assumption | trivial) ?_
                                    rotate_left
                                    · (intro w hSw; (try dsimp only at hSw); go_simp) <;> (with_reducible rfl)
                                    simp only [List.setIfInBounds_toArray,List.set_cons_zero,List.set_cons_succ]
                                    refine wpAnyT_take3 (i:=8) (v:=?_) rfl rfl (by kernel_rfl) (by kernel_rfl) (by kernel_rfl) (by kernel_rfl) (by kernel_rfl) (fun _ _ _ h=>h) (Or.inl ⟨by rfl, ?_⟩) (by first | assumption | trivial) ?_
                                    rotate_left
                                    · (intro w hSw; (try dsimp only at hSw); go_simp) <;> (with_reducible rfl)
                                    simp only [List.setIfInBounds_toArray,List.set_cons_zero,List.set_cons_succ]
                                    refine wpAnyT_take3 (i:=9) (v:=?_) rfl rfl (by kernel_rfl) (by kernel_rfl) (by kernel_rfl) (by kernel_rfl) (by kernel_rfl) (fun _ _ _ h=>h) (Or.inl ⟨by rfl, ?_⟩) (by first | assumption | trivial) ?_
                                    rotate_left
                                    · (intro w hSw; (try dsimp only at hSw); go_simp) <;> (with_reducible rfl)
                                    simp only [List.setIfInBounds_toArray,List.set_cons_zero,List.set_cons_succ]
                                    refine wpAnyT_take3 (i:=10) (v:=?_) rfl rfl (by kernel_rfl) (by kernel_rfl) (by kernel_rfl) (by kernel_rfl) (by kernel_rfl) (fun _ _ _ h=>h) (Or.inl ⟨by rfl, ?_⟩) (by first | assumption | trivial) ?_
                                    rotate_left
                                    · (intro w hSw; (try dsimp only at hSw); go_simp) <;> (with_reducible rfl)
                                    simp only [List.setIfInBounds_toArray,List.set_cons_zero,List.set_cons_succ]
                                    refine wpAnyT_take3 (i:=11) (v:=?_) rfl rfl (by kernel_rfl) (by kernel_rfl) (by kernel_rfl) (by kernel_rfl) (by kernel_rfl) (fun _ _ _ h=>h) (Or.inl ⟨by rfl, ?_⟩) (by first | assumption | trivial) ?_
                                    rotate_left
                                    · (intro w hSw; (try dsimp only at hSw); go_simp) <;> (with_reducible rfl)
                                    simp only [List.setIfInBounds_toArray,List.set_cons_zero,List.set_cons_succ]
                                    refine wpAnyT_take3 (i:=12) (v:=?_) rfl rfl (by kernel_rfl) (by kernel_rfl) (by kernel_rfl) (by kernel_rfl) (by kernel_rfl) (fun _ _ _ h=>h) (Or.inl ⟨by rfl, ?_⟩) (by first | assumption | trivial) ?_
                                    rotate_left
                                    · (intro w hSw; (try dsimp only at hSw); go_simp) <;> (with_reducible rfl)
                                    simp only [List.setIfInBounds_toArray,List.set_cons_zero,List.set_cons_succ]
                                    refine wpAnyT_take3 (i:=13) (v:=.int .i64 (an+bn)) rfl rfl (by kernel_rfl) (by kernel_rfl) (by kernel_rfl) (by kernel_rfl) (by kernel_rfl) (fun _ _ _ h=>h) (Or.inl ⟨by rfl, ?_⟩) (by first | assumption | trivial) ?_
                                    · (intro w hSw; (try dsimp only at hSw); go_simp) <;> (first | (with_reducible rfl) | assumption | (simp; done) | (simp [*]; done) | (simp; omega))
                                    simp only [List.setIfInBounds_toArray,List.set_cons_zero,List.set_cons_succ]
                                    refine wpAnyT_take3 (i:=14) (v:=?_) rfl rfl (by kernel_rfl) (by kernel_rfl) (by kernel_rfl) (by kernel_rfl) (by kernel_rfl) (fun _ _ _ h=>h) (Or.inl ⟨by rfl, ?_⟩) (by first | assumption | trivial) ?_
                                    rotate_left
                                    · (intro w hSw; (try dsimp only at hSw); go_simp) <;> (with_reducible rfl)
                                    simp only [List.setIfInBounds_toArray,List.set_cons_zero,List.set_cons_succ]
                                    refine wpAnyT_take3 (i:=15) (v:=?_) rfl rfl (by kernel_rfl) (by kernel_rfl) (by kernel_rfl) (by kernel_rfl) (by kernel_rfl) (fun _ _ _ h=>h) (Or.inl ⟨by rfl, ?_⟩) (by first | assumption | trivial) ?_
                                    rotate_left
                                    · (intro w hSw; (try dsimp only at hSw); go_simp) <;> (with_reducible rfl)
                                    simp only [List.setIfInBounds_toArray,List.set_cons_zero,List.set_cons_succ]
                                    clear hHeld
                                    refine wpAnyT_next (i:=16) (by kernel_rfl) rfl ?_
                                    go_wp2_with fail
                                    refine HADD.out.mono ?_
                                    clear HADD
                                    rintro r wf ⟨A2,c2',rfl,hown,hb⟩
                                    have HO3:=Lib.hid hown
                                    have HU3:=Lib.hid (HDV.out.trans hb)
                                    clear hown hb HDV c2 d2 HU2
                                    go_wp2_with fail
                                    try simp only [QT]
                                    try (with_reducible refine And.intro (fun h=>by simp at h) ?_)
                                    refine wpAnyT_next (i:=17) (by kernel_rfl) rfl ?_
                                    go_wp2_with fail
                                    try simp only [QT]
                                    try (with_reducible refine And.intro (fun h=>by simp at h) ?_)
                                    refine wpAnyT_done (by kernel_rfl) ?_ _
                                    go_wp2_with fail
                                    go_roundw
                                    case rel=>exact ⟨k+1,A2,c2',M2,by omega,rfl,by go_num,Lib.hid (by rw [rowP_succ,← HMM.out]; exact HCD.out.symm),HO3,HU3⟩
                                    case measure=>simp [intOf]; omega
                        · have hke : k=m:=by omega
                          subst hke
                          have hkm' : ¬ (k : Int)<(k : Int):=by omega
                          have HM2 : Hid (M'=contE k (rkF R) ((fi : Nat) : Int) (u+1) L):=Lib.hid (by rw [contE_succ,← HM.out]; exact HMM.out)
                          go_wp2_with fail
                          go_roundw
                          case rel=>exact ⟨u+1,A,c,M',by omega,rfl,by go_num,HM2,HO,HU⟩
                          case measure=>simp [intOf]; omega
                    · have hue : u=m:=by omega
                      subst hue
                      have hum' : ¬ (u : Int)<(u : Int):=by omega
                      have HL2 : Hid (M=bldK u es R (r+1)):=Lib.hid (by rw [bldK_succ,HFI.out,← HL.out]; exact HM.out)
                      go_wp2_with fail
                      go_roundw
                      case rel=>exact ⟨r+1,A,c,M,by omega,rfl,by go_num,HL2,HO,HU⟩
                      case measure=>simp [intOf]; omega
            · have hrm : r=m:=by omega
              subst hrm
              have hlr' : ¬ (r : Int)<(r : Int):=by omega
              have HBW : Hid (Below w.heap.size w wr):=Lib.hid (HB3.out.trans (HU.out.mono hbw))
              have HX4:=Lib.hid (HX3.out.below HU.out (by have:=HBS.out; omega))
              have HOA : Hid (∀ a,A=some ⟨a,0,none⟩→a<wr.heap.size):=Lib.hid HO.out.bound
              have hRl : R.length≤9:=by have:=HRL.out; omega
              go_wp2_with (at_builtin; apply Hid.out)
              refine Lib.hid ?_
              have hal : Below wr.heap.size wr (wr.alloc (.cells #[] 3)):=(Below.refl _ _).alloc (Nat.le_refl _) _
              have HN5 : Hid (Own wr.heap.size 3 1 ienc (wr.alloc (.cells #[] 3)) ⟨some ⟨wr.heap.size,0,none⟩,0,[]⟩):=Lib.hid (Own.lit wr #[] [] (Nat.le_refl _) (by simp) rfl ienc_k)
              have HO5:=Lib.hid (HO.out.below hal)
              have HX5:=Lib.hid (HX4.out.later hal)
              have HB5:=Lib.hid (HBW.out.trans (hal.mono HBW.out.size))
              have HR5:=Lib.hid (HR.out.later HB5.out (Nat.le_refl _))
              have hz5 : wr.heap.size≤(wr.alloc (.cells #[] 3)).heap.size:=hal.size
              have HXL : Hid (w.heap.size<wr.heap.size):=Lib.hid HX4.out.lt
              clear hal HO HX4 HBW HU
              generalize wr.alloc (.cells #[] 3)=w5 at *
              refine wpl_append_sl _ rfl (.tmp 129) (.tmp 130) _ rfl Try.underlying23 infoInt (by omega) ienc_k ienc_one ⟨some ⟨wr.heap.size,0,none⟩,0,[]⟩ ⟨RA,Rc,R⟩ rfl rfl HN5.out HR5.out (by simp [maxLen]; omega) (by simp; omega) hz5 ?_
              intro A6 c6 w6 hown hg hAA
              clear hAA
              simp only [List.nil_append] at hown hg
              simp only [List.nil_append]
              have hro : ∀ q,(Value.slice (some ⟨wr.heap.size,0,none⟩) ([] : List Int).length 0).ownBlock=some q→wr.heap.size≤q:=fun q hq=>(own_row HN5.out q hq).2.1
              have HO6:=Lib.hid (own_keep_lt HO5.out hg hro HOA.out)
              have HX6:=Lib.hid (HX5.out.grown hg (fun e=>by have:=hro _ e.symm; have:=HXL.out; omega))
              have HB6:=Lib.hid (HB5.out.trans (below_of_grown hg HB5.out.size (fun q hq=>by have:=hro q hq; have:=HXL.out; omega)))
              have HN6:=Lib.hid (hown.mono (show bs≤wr.heap.size from hsz))
              clear hown hg hro HO5 HX5 HB5 HR5 HN5 hz5
              obtain ⟨x0,x1,xf,xz⟩:=HX6.out.b2
              go_wp2_with fail
              have HY:=(HX6.out.set_ 0 (.slice A6 R.length c6)).set_ 1 (.slice A L.length c)
              obtain ⟨y0,y1,yf,yz⟩:=Blk.b2 (x:=.slice A6 R.length c6) (y:=.slice A L.length c) HY
              have hwb : w.heap.size<bs:=by have:=HBS.out; omega
              have HR3:=((HN6.out.far (a:=⟨w.heap.size,0,none⟩) hwb (.slice A6 R.length c6)).far (a:=⟨w.heap.size,1,none⟩) hwb (.slice A L.length c)).mono hbw
              have HO3:=((HO6.out.far (a:=⟨w.heap.size,0,none⟩) hwb (.slice A6 R.length c6)).far (a:=⟨w.heap.size,1,none⟩) hwb (.slice A L.length c)).mono hbw
              clear x0 x1 xf xz
              refine bodyPost_ret (v:=.tuple #[.agg #[.slice A6 R.length c6,.slice A L.length c],.int .i64 0]) ?_ rfl ⟨A6,A,c6,c, ?_,HR3, ?_,(HB6.out.setCell (Nat.le_refl _) _).setCell (Nat.le_refl _) _⟩
              · simp [results,Try.results11,go_sem,y0,y1]
              · rw [HL.out]
                rfl
              · have e : bldL r es R=L:=HL.out.symm
                simp only [e]
                exact HO3
end Go.Proofs.Ytlbihfbeamlacaa
