/- Walks: where two climbs meet; Dist. -/
import Derived.Test.YtlbihfbeamlacaaHbxaz
import Derived.Test.YtlbihfbeamlacaaHbxaf
set_option linter.unusedSimpArgs false
set_option linter.unusedVariables false
set_option maxRecDepth 100000
set_option maxHeartbeats 6400000
namespace Go.Proofs.Ytlbihfbeamlacaa
open Go.RowKit
instance (n : Nat) (v : Int) : Decidable (Ir n v):=inferInstanceAs (Decidable (0≤v∧v<(n : Int)))
/-- What both lists hold: distances that are not too long, or -1. -/
def DsL (n : Nat) (l : List Int) : Prop:=l.length=n∧∀ x,x ∈ l→-1≤x∧x≤9000000000000
theorem hier_meet (n : Nat) (hn : n≤9) (a b p q : Sl Int) (w : World) (ha : Rd (· < w.heap.size) 1 ienc w a) (hb : Rd (· < w.heap.size) 1 ienc w b) (la : DsL n a.l) (lb : DsL n b.l) :
    Calls Try.prog 38 #[.agg #[.slice a.A a.l.length a.c,.slice p.A p.l.length p.c],.agg #[.slice b.A b.l.length b.c,.slice q.A q.l.length q.c]] w fun r w'=>r = .returned (.tuple #[.int .i64 (meetL (atF a.l) (atF b.l) n).1,.int .i64 (meetL (atF a.l) (atF b.l) n).2])∧Below w.heap.size w w':=by
  have HA:=Lib.hid ha
  have HB:=Lib.hid hb
  have HLA:=Lib.hid la
  have HLB:=Lib.hid lb
  clear ha hb la lb
  obtain ⟨A,c,l⟩:=a
  obtain ⟨B,d,m⟩:=b
  simp only at HLA HLB ⊢
  go_enter Try.func38,Try.ntmps38
  go_wp2_with fail
  have HB1 : Hid (Below w.heap.size w ((w.alloc (.cells #[.slice A l.length c,.slice p.A p.l.length p.c] 65)).alloc (.cells #[.slice B m.length d,.slice q.A q.l.length q.c] 65))):=Lib.hid (by repeat (first | (with_reducible exact Below.refl _ _) | ((with_reducible refine below_setr ?_ ?_); focus (first | (simp; done) | (simp; omega) | omega)) | ((with_reducible refine below_allocr ?_ ?_); focus (first | (simp; done) | (simp; omega) | omega)) | (with_reducible refine Below.drew ?_) | (with_reducible refine below_drewN ?_ _)))
  have HX1 : Hid (Blk ((w.alloc (.cells #[.slice A l.length c,.slice p.A p.l.length p.c] 65)).alloc (.cells #[.slice B m.length d,.slice q.A q.l.length q.c] 65)) (w.heap.size+1) 65 #[.slice B m.length d,.slice q.A q.l.length q.c]):=Lib.hid (by
    have h:=Blk.new (w.alloc (.cells #[.slice A l.length c,.slice p.A p.l.length p.c] 65)) 65 #[.slice B m.length d,.slice q.A q.l.length q.c]
    simpa using h)
  generalize (w.alloc (.cells #[.slice A l.length c,.slice p.A p.l.length p.c] 65)).alloc (.cells #[.slice B m.length d,.slice q.A q.l.length q.c] 65)=w1 at *
  go_loopw [6,7,13] (fun u v i wr=>∃ (k : Nat) (sa sl : Int),k≤l.length∧u = .int .i64 sa∧v = .int .i64 sl∧i = .int .i64 k∧Hid ((List.range k).foldl (meetS (atF l) (atF m)) (-1, -1)=(sa,sl))∧Hid (Below w.heap.size w wr)∧Hid (Blk wr (w.heap.size+1) 65 #[.slice B m.length d,.slice q.A q.l.length q.c])) (fun _ _ i _=>l.length - (intOf i).toNat)
  case atStart=>exact ⟨0, -1, -1,by omega,rfl,rfl,rfl,Lib.hid rfl,HB1,HX1⟩
  case round =>
    clear HB1 HX1
    obtain ⟨k,sa,sl,hk,rfl,rfl,rfl,HS,HW,HX⟩:=hrel
    by_cases hlt : k<l.length
    · have hlt' : (k : Int)<(l.length : Int):=by omega
      have hk99 : k<100:=by have:=HLA.out.1; omega
      have hlm : k<m.length:=by have:=HLA.out.1; have:=HLB.out.1; omega
      obtain ⟨b,o,hA,hb,hcl⟩:=(HA.out.later HW.out (Nat.le_refl _)).at1 hlt
      obtain ⟨b',o',hA',hb',hcl'⟩:=(HB.out.later HW.out (Nat.le_refl _)).at1 hlm
      simp only at hA hA' hcl hcl'
      subst hA hA'
      have g0:=hcl.c1
      have g1:=hcl'.c1
      simp only [Nat.mul_one] at g0 g1
      have HXA : Hid (atF l k=l[k]):=Lib.hid (atF_get (by omega))
      have HXB : Hid (atF m k=m[k]):=Lib.hid (atF_get (by omega))
      have hx:=HLA.out.2 _ (List.getElem_mem hlt)
      have hy:=HLB.out.2 _ (List.getElem_mem hlm)
      clear hcl hcl' hb hb'
      generalize l[k]=x at *
      generalize m[k]=y at *
      have HST : Hid ((List.range (k+1)).foldl (meetS (atF l) (atF m)) (-1, -1)=if 0≤x∧0≤y∧(sa<0∨x+y<sl) then ((k : Int),x+y) else (sa,sl)):=Lib.hid (by
        rw [List.range_succ,List.foldl_append,HS.out,List.foldl_cons,List.foldl_nil]
        unfold meetS
        rw [HXA.out,HXB.out])
      have hwr : IntKind.i64.wrap (x+y)=x+y:=by rw [IntKind.wrap_i64]; omega
      obtain ⟨x0,x1,xf,xz⟩:=HX.out.b2
      clear HS HXA HXB
      by_cases h1 : 0≤x
      · by_cases h2 : 0≤y
        · by_cases h3 : sa<0
          · go_wp2_with fail
            have HQ : Hid ((List.range (k+1)).foldl (meetS (atF l) (atF m)) (-1, -1)=((k : Int),x+y)):=Lib.hid (HST.out.trans (if_pos ⟨h1,h2,.inl h3⟩))
            refine wp_region_T (fun W=>W.cell? ⟨w.heap.size+1,0,none⟩=some (.slice (some ⟨b',o',none⟩) m.length d)∧W.cell? ⟨b',o'+k,none⟩=some (.int .i64 y)) (fun _=>false) (by kernel_rfl) ⟨x0,g1⟩ (fun hHeld=>?_)
            refine wpAnyT_take2 (i:=0) (v:=?_) rfl rfl (by kernel_rfl) (by kernel_rfl) (by kernel_rfl) (by kernel_rfl) (fun _ _ _ h=>h) (Or.inl ⟨by rfl, ?_⟩) (by first | assumption | trivial) ?_
            rotate_left
            · (intro w hSw; (try dsimp only at hSw); go_simp) <;> (with_reducible rfl)
            simp only [List.setIfInBounds_toArray,List.set_cons_zero,List.set_cons_succ]
            refine wpAnyT_take2 (i:=1) (v:=?_) rfl rfl (by kernel_rfl) (by kernel_rfl) (by kernel_rfl) (by kernel_rfl) (fun _ _ _ h=>h) (Or.inl ⟨by rfl, ?_⟩) (by first | assumption | trivial) ?_
            rotate_left
            · (intro w hSw; (try dsimp only at hSw); go_simp) <;> (with_reducible rfl)
            simp only [List.setIfInBounds_toArray,List.set_cons_zero,List.set_cons_succ]
            refine wpAnyT_take2 (i:=2) (v:=?_) rfl rfl (by kernel_rfl) (by kernel_rfl) (by kernel_rfl) (by kernel_rfl) (fun _ _ _ h=>h) (Or.inl ⟨by rfl, ?_⟩) (by first | assumption | trivial) ?_
            rotate_left
            · (intro w hSw; (try dsimp only at hSw); go_simp) <;> (with_reducible rfl)
            simp only [List.setIfInBounds_toArray,List.set_cons_zero,List.set_cons_succ]
            refine wpAnyT_take2 (i:=3) (v:=?_) rfl rfl (by kernel_rfl) (by kernel_rfl) (by kernel_rfl) (by kernel_rfl) (fun _ _ _ h=>h) (Or.inl ⟨by rfl, ?_⟩) (by first | assumption | trivial) ?_
            rotate_left
            · (intro w hSw; (try dsimp only at hSw); go_simp) <;> (with_reducible rfl)
            simp only [List.setIfInBounds_toArray,List.set_cons_zero,List.set_cons_succ]
            refine wpAnyT_take2 (i:=4) (v:=?_) rfl rfl (by kernel_rfl) (by kernel_rfl) (by kernel_rfl) (by kernel_rfl) (fun _ _ _ h=>h) (Or.inl ⟨by rfl, ?_⟩) (by first | assumption | trivial) ?_
            rotate_left
            · (intro w hSw; (try dsimp only at hSw); go_simp) <;> (with_reducible rfl)
            simp only [List.setIfInBounds_toArray,List.set_cons_zero,List.set_cons_succ]
            refine wpAnyT_take2 (i:=5) (v:=?_) rfl rfl (by kernel_rfl) (by kernel_rfl) (by kernel_rfl) (by kernel_rfl) (fun _ _ _ h=>h) (Or.inl ⟨by rfl, ?_⟩) (by first | assumption | trivial) ?_
            rotate_left
            · (intro w hSw; (try dsimp only at hSw); go_simp) <;> (with_reducible rfl)
            simp only [List.setIfInBounds_toArray,List.set_cons_zero,List.set_cons_succ]
            refine wpAnyT_take2 (i:=6) (v:=?_) rfl rfl (by kernel_rfl) (by kernel_rfl) (by kernel_rfl) (by kernel_rfl) (fun _ _ _ h=>h) (Or.inl ⟨by rfl, ?_⟩) (by first | assumption | trivial) ?_
            rotate_left
            · (intro w hSw; (try dsimp only at hSw); go_simp) <;> (with_reducible rfl)
            simp only [List.setIfInBounds_toArray,List.set_cons_zero,List.set_cons_succ]
            refine wpAnyT_take2 (i:=7) (v:=?_) rfl rfl (by kernel_rfl) (by kernel_rfl) (by kernel_rfl) (by kernel_rfl) (fun _ _ _ h=>h) (Or.inl ⟨by rfl, ?_⟩) (by first | assumption | trivial) ?_
            rotate_left
            · (intro w hSw; (try dsimp only at hSw); go_simp) <;> (with_reducible rfl)
            simp only [List.setIfInBounds_toArray,List.set_cons_zero,List.set_cons_succ]
            refine wpAnyT_take2 (i:=8) (v:=?_) rfl rfl (by kernel_rfl) (by kernel_rfl) (by kernel_rfl) (by kernel_rfl) (fun _ _ _ h=>h) (Or.inl ⟨by rfl, ?_⟩) (by first | assumption | trivial) ?_
            rotate_left
            · (intro w hSw; (try dsimp only at hSw); go_simp) <;> (with_reducible rfl)
            simp only [List.setIfInBounds_toArray,List.set_cons_zero,List.set_cons_succ]
            refine wpAnyT_take2 (i:=9) (v:=?_) rfl rfl (by kernel_rfl) (by kernel_rfl) (by kernel_rfl) (by kernel_rfl) (fun _ _ _ h=>h) (Or.inl ⟨by rfl, ?_⟩) (by first | assumption | trivial) ?_
            rotate_left
            · (intro w hSw; (try dsimp only at hSw); go_simp) <;> (with_reducible rfl)
            simp only [List.setIfInBounds_toArray,List.set_cons_zero,List.set_cons_succ]
            refine wpAnyT_done (by kernel_rfl) ?_ _
            clear hHeld
            have hdr : Below wr.heap.size wr wr.drew:=Below.drew (Below.refl _ _)
            have HW2:=Lib.hid (HW.out.trans (hdr.mono HW.out.size))
            have HX2:=Lib.hid (HX.out.later hdr)
            clear HST HW HX hdr x0 x1 xf xz g0 g1
            go_wp2_with fail
            go_roundw
            case rel=>exact ⟨k+1,k,x+y,by omega,rfl,rfl,by go_num,HQ,HW2,HX2⟩
            case measure=>simp [intOf]; omega
          · replace h3:=Int.not_lt.1 h3
            by_cases h4 : x+y<sl
            · go_wp2_with fail
              have HQ : Hid ((List.range (k+1)).foldl (meetS (atF l) (atF m)) (-1, -1)=((k : Int),x+y)):=Lib.hid (HST.out.trans (if_pos ⟨h1,h2,.inr h4⟩))
              refine wp_region_T (fun W=>W.cell? ⟨w.heap.size+1,0,none⟩=some (.slice (some ⟨b',o',none⟩) m.length d)∧W.cell? ⟨b',o'+k,none⟩=some (.int .i64 y)) (fun _=>false) (by kernel_rfl) ⟨x0,g1⟩ (fun hHeld=>?_)
              refine wpAnyT_take2 (i:=0) (v:=?_) rfl rfl (by kernel_rfl) (by kernel_rfl) (by kernel_rfl) (by kernel_rfl) (fun _ _ _ h=>h) (Or.inl ⟨by rfl, ?_⟩) (by first | assumption | trivial) ?_
              rotate_left
              · (intro w hSw; (try dsimp only at hSw); go_simp) <;> (with_reducible rfl)
              simp only [List.setIfInBounds_toArray,List.set_cons_zero,List.set_cons_succ]
              refine wpAnyT_take2 (i:=1) (v:=?_) rfl rfl (by kernel_rfl) (by kernel_rfl) (by kernel_rfl) (by kernel_rfl) (fun _ _ _ h=>h) (Or.inl ⟨by rfl, ?_⟩) (by first | assumption | trivial) ?_
              rotate_left
              · (intro w hSw; (try dsimp only at hSw); go_simp) <;> (with_reducible rfl)
              simp only [List.setIfInBounds_toArray,List.set_cons_zero,List.set_cons_succ]
              refine wpAnyT_take2 (i:=2) (v:=?_) rfl rfl (by kernel_rfl) (by kernel_rfl) (by kernel_rfl) (by kernel_rfl) (fun _ _ _ h=>h) (Or.inl ⟨by rfl, ?_⟩) (by first | assumption | trivial) ?_
              rotate_left
              · (intro w hSw; (try dsimp only at hSw); go_simp) <;> (with_reducible rfl)
              simp only [List.setIfInBounds_toArray,List.set_cons_zero,List.set_cons_succ]
              refine wpAnyT_take2 (i:=3) (v:=?_) rfl rfl (by kernel_rfl) (by kernel_rfl) (by kernel_rfl) (by kernel_rfl) (fun _ _ _ h=>h) (Or.inl ⟨by rfl, ?_⟩) (by first | assumption | trivial) ?_
              rotate_left
              · (intro w hSw; (try dsimp only at hSw); go_simp) <;> (with_reducible rfl)
              simp only [List.setIfInBounds_toArray,List.set_cons_zero,List.set_cons_succ]
              refine wpAnyT_take2 (i:=4) (v:=?_) rfl rfl (by kernel_rfl) (by kernel_rfl) (by kernel_rfl) (by kernel_rfl) (fun _ _ _ h=>h) (Or.inl ⟨by rfl, ?_⟩) (by first | assumption | trivial) ?_
              rotate_left
              · (intro w hSw; (try dsimp only at hSw); go_simp) <;> (with_reducible rfl)
              simp only [List.setIfInBounds_toArray,List.set_cons_zero,List.set_cons_succ]
              refine wpAnyT_take2 (i:=5) (v:=?_) rfl rfl (by kernel_rfl) (by kernel_rfl) (by kernel_rfl) (by kernel_rfl) (fun _ _ _ h=>h) (Or.inl ⟨by rfl, ?_⟩) (by first | assumption | trivial) ?_
              rotate_left
              · (intro w hSw; (try dsimp only at hSw); go_simp) <;> (with_reducible rfl)
              simp only [List.setIfInBounds_toArray,List.set_cons_zero,List.set_cons_succ]
              refine wpAnyT_take2 (i:=6) (v:=?_) rfl rfl (by kernel_rfl) (by kernel_rfl) (by kernel_rfl) (by kernel_rfl) (fun _ _ _ h=>h) (Or.inl ⟨by rfl, ?_⟩) (by first | assumption | trivial) ?_
              rotate_left
              · (intro w hSw; (try dsimp only at hSw); go_simp) <;> (with_reducible rfl)
              simp only [List.setIfInBounds_toArray,List.set_cons_zero,List.set_cons_succ]
              refine wpAnyT_take2 (i:=7) (v:=?_) rfl rfl (by kernel_rfl) (by kernel_rfl) (by kernel_rfl) (by kernel_rfl) (fun _ _ _ h=>h) (Or.inl ⟨by rfl, ?_⟩) (by first | assumption | trivial) ?_
              rotate_left
              · (intro w hSw; (try dsimp only at hSw); go_simp) <;> (with_reducible rfl)
              simp only [List.setIfInBounds_toArray,List.set_cons_zero,List.set_cons_succ]
              refine wpAnyT_take2 (i:=8) (v:=?_) rfl rfl (by kernel_rfl) (by kernel_rfl) (by kernel_rfl) (by kernel_rfl) (fun _ _ _ h=>h) (Or.inl ⟨by rfl, ?_⟩) (by first | assumption | trivial) ?_
              rotate_left
              · (intro w hSw; (try dsimp only at hSw); go_simp) <;> (with_reducible rfl)
              simp only [List.setIfInBounds_toArray,List.set_cons_zero,List.set_cons_succ]
              refine wpAnyT_take2 (i:=9) (v:=?_) rfl rfl (by kernel_rfl) (by kernel_rfl) (by kernel_rfl) (by kernel_rfl) (fun _ _ _ h=>h) (Or.inl ⟨by rfl, ?_⟩) (by first | assumption | trivial) ?_
              rotate_left
              · (intro w hSw; (try dsimp only at hSw); go_simp) <;> (with_reducible rfl)
              simp only [List.setIfInBounds_toArray,List.set_cons_zero,List.set_cons_succ]
              refine wpAnyT_done (by kernel_rfl) ?_ _
              clear hHeld
              have hdr : Below wr.heap.size wr wr.drew:=Below.drew (Below.refl _ _)
              have HW2:=Lib.hid (HW.out.trans (hdr.mono HW.out.size))
              have HX2:=Lib.hid (HX.out.later hdr)
              clear HST HW HX hdr x0 x1 xf xz g0 g1
              go_wp2_with fail
              go_roundw
              case rel=>exact ⟨k+1,k,x+y,by omega,rfl,rfl,by go_num,HQ,HW2,HX2⟩
              case measure=>simp [intOf]; omega
            · skip
              have HQ : Hid ((List.range (k+1)).foldl (meetS (atF l) (atF m)) (-1, -1)=(sa,sl)):=Lib.hid (HST.out.trans (if_neg (fun h=>by omega)))
              clear HST
              go_wp2_with fail
              go_roundw
              case rel=>exact ⟨k+1,sa,sl,by omega,rfl,rfl,by go_num,HQ,HW,HX⟩
              case measure=>simp [intOf]; omega
        · skip
          have HQ : Hid ((List.range (k+1)).foldl (meetS (atF l) (atF m)) (-1, -1)=(sa,sl)):=Lib.hid (HST.out.trans (if_neg (fun h=>h2 h.2.1)))
          clear HST
          go_wp2_with fail
          go_roundw
          case rel=>exact ⟨k+1,sa,sl,by omega,rfl,rfl,by go_num,HQ,HW,HX⟩
          case measure=>simp [intOf]; omega
      · skip
        have HQ : Hid ((List.range (k+1)).foldl (meetS (atF l) (atF m)) (-1, -1)=(sa,sl)):=Lib.hid (HST.out.trans (if_neg (fun h=>h1 h.1)))
        clear HST
        go_wp2_with fail
        go_roundw
        case rel=>exact ⟨k+1,sa,sl,by omega,rfl,rfl,by go_num,HQ,HW,HX⟩
        case measure=>simp [intOf]; omega
    · have hkl : k=l.length:=by omega
      subst hkl
      have hlt' : ¬ (l.length : Int)<(l.length : Int):=by omega
      have HV : Hid (meetL (atF l) (atF m) n=(sa,sl)):=Lib.hid (by
        unfold meetL
        rw [← HLA.out.1]
        exact HS.out)
      go_wp2_with fail
      try simp only [Exit.inBlock,Exit.then]
      refine bodyPost_ret (v:=.tuple #[.int .i64 sa,.int .i64 sl]) ?_ rfl ⟨by rw [HV.out],HW.out⟩
      simp [results,Try.results38,go_sem,]
theorem hier_node (R : Sl Int) (E : Sl ED) (v : Int) (w : World) (hl : R.l.length≤10000) :
    Calls Try.prog 37 #[.agg #[.slice R.A R.l.length R.c,.slice E.A E.l.length E.c],.int .i64 v] w fun r w'=>r = .returned (.bool (decide (Ir R.l.length v)))∧Below w.heap.size w w':=by
  obtain ⟨t,ht⟩ : ∃ t,decide (Ir R.l.length v)=t:=⟨_,rfl⟩
  rw [ht]
  have HT:=Lib.hid ht
  clear ht
  by_cases h0 : 0≤v
  · by_cases h1 : v<(R.l.length : Int)
    · have HQ : Hid (true=t):=Lib.hid ((decide_eq_true (show Ir R.l.length v from ⟨h0,h1⟩)).symm.trans HT.out)
      go_enter Try.func37,Try.ntmps37
      go_wp2_with fail
      go_ret
      exact ⟨ret_bool HQ.out,(by repeat (first | (with_reducible exact Below.refl _ _) | ((with_reducible refine below_setr ?_ ?_); focus (first | (simp; done) | (simp; omega) | omega)) | ((with_reducible refine below_allocr ?_ ?_); focus (first | (simp; done) | (simp; omega) | omega)) | (with_reducible refine Below.drew ?_) | (with_reducible refine below_drewN ?_ _)))⟩
    · have HQ : Hid (false=t):=Lib.hid ((decide_eq_false (show ¬ Ir R.l.length v from fun h=>h1 h.2)).symm.trans HT.out)
      go_enter Try.func37,Try.ntmps37
      go_wp2_with fail
      go_ret
      exact ⟨ret_bool HQ.out,(by repeat (first | (with_reducible exact Below.refl _ _) | ((with_reducible refine below_setr ?_ ?_); focus (first | (simp; done) | (simp; omega) | omega)) | ((with_reducible refine below_allocr ?_ ?_); focus (first | (simp; done) | (simp; omega) | omega)) | (with_reducible refine Below.drew ?_) | (with_reducible refine below_drewN ?_ _)))⟩
  · have HQ : Hid (false=t):=Lib.hid ((decide_eq_false (show ¬ Ir R.l.length v from fun h=>h0 h.1)).symm.trans HT.out)
    go_enter Try.func37,Try.ntmps37
    go_wp2_with fail
    go_ret
    exact ⟨ret_bool HQ.out,(by repeat (first | (with_reducible exact Below.refl _ _) | ((with_reducible refine below_setr ?_ ?_); focus (first | (simp; done) | (simp; omega) | omega)) | ((with_reducible refine below_allocr ?_ ?_); focus (first | (simp; done) | (simp; omega) | omega)) | (with_reducible refine Below.drew ?_) | (with_reducible refine below_drewN ?_ _)))⟩
end Go.Proofs.Ytlbihfbeamlacaa
