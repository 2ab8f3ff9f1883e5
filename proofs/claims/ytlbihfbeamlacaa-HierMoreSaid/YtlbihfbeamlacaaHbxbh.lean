/- Walks: the reference's Ranks. -/
import Derived.Test.YtlbihfbeamlacaaHbxbg
set_option linter.unusedSimpArgs false
set_option linter.unusedVariables false
set_option maxRecDepth 100000
set_option maxHeartbeats 6400000
namespace Go.Proofs.Ytlbihfbeamlacaa
open Go.RowKit
theorem r13_Ranks (s : Sl Int) (n : Int) (t : Bool) (ht : t=true↔RkP s.l n) (w : World) (hr : Rd (· < w.heap.size) 1 ienc w s) :
    Calls Try.prog 33 #[.slice s.A s.l.length s.c,.int .i64 n] w fun r w'=>r = .returned (.bool t)∧Below w.heap.size w w':=by
  obtain ⟨A,c,R⟩:=s
  have hl:=hr.len
  simp only at hl ht ⊢
  have HR:=Lib.hid hr
  have HT : Hid (t=true↔R.Nodup∧(∀ x,x ∈ R→0≤x∧x<n)∧(R.length : Int)=n):=Lib.hid (ht.trans RkP.iff)
  clear hr ht
  go_enter Try.func33,Try.ntmps33
  go_wp2_with fail
  go_loopw [5,6] (fun v _ wr=>∃ (k : Nat),k≤R.length∧v = .int .i64 k∧Hid (RkQ R n k)∧Hid (Below w.heap.size w wr)) (fun v _ _=>R.length - (intOf v).toNat)
  case atStart=>exact ⟨0,by omega,rfl,Lib.hid ⟨by simp,fun x hx=>by simp at hx⟩,Lib.hid (Below.refl _ _)⟩
  case round =>
    obtain ⟨k,hk,rfl,HP,HW⟩:=hrel
    by_cases hlt : k<R.length
    · obtain ⟨b,o,hA,hb,hcl⟩:=(HR.out.later HW.out (Nat.le_refl _)).at1 hlt
      simp only at hA hcl
      subst hA
      have g0:=hcl.c1
      rw [Nat.mul_one] at g0
      have HX:=Lib.hid (List.getElem?_eq_getElem hlt)
      generalize R[k]=x at *
      clear hcl hb
      have hbad : ¬ (0≤x∧x<n)→t=false:=fun h=>by
        cases t
        · rfl
        · exact absurd ((HT.out.1 rfl).2.1 x (List.mem_of_getElem? HX.out)) h
      by_cases h0 : x<0
      · have hv : t=false:=hbad (by omega)
        subst hv
        clear hbad
        go_wp2_with fail
        go_ret
        exact ⟨rfl,HW.out⟩
      replace h0:=Int.not_lt.1 h0
      by_cases h1 : n≤x
      · have hv : t=false:=hbad (by omega)
        subst hv
        clear hbad
        go_wp2_with fail
        go_ret
        exact ⟨rfl,HW.out⟩
      replace h1:=Int.not_le.1 h1
      clear hbad
      go_wp2_with fail
      clear g0
      go_loopw [6] (fun v wr=>∃ (j : Nat),j≤k∧v = .int .i64 j∧Hid (∀ j' y,j'<j→R[j']? = some y→y≠x)∧Hid (Below w.heap.size w wr)) (fun v _=>k - (intOf v).toNat)
      case atStart=>exact ⟨0,by omega,rfl,Lib.hid (fun _ _ h=>absurd h (Nat.not_lt_zero _)),HW⟩
      case round =>
        clear HW
        obtain ⟨j,hj,rfl,HJ,HW⟩:=hrel
        by_cases hjk : j<k
        · have hjl : j<R.length:=by omega
          obtain ⟨b',o',hA,hb,hcl⟩:=(HR.out.later HW.out (Nat.le_refl _)).at1 hjl
          obtain ⟨b2,o2,hA2,hb2,hcl2⟩:=(HR.out.later HW.out (Nat.le_refl _)).at1 hlt
          simp only at hA hA2 hcl hcl2
          have e1 : b=b'∧o=o':=by simpa using hA
          have e2 : b=b2∧o=o2:=by simpa using hA2
          obtain ⟨rfl,rfl⟩:=e1
          obtain ⟨rfl,rfl⟩:=e2
          have hxk : R[k]=x:=by
            have h:=HX.out
            rw [List.getElem?_eq_getElem hlt] at h
            injection h
          have g0:=hcl.c1
          have g1:=hcl2.c1
          rw [Nat.mul_one] at g0 g1
          rw [hxk] at g1
          have HY:=Lib.hid (List.getElem?_eq_getElem hjl)
          clear hcl hcl2 hb hb2 hxk hA hA2
          generalize R[j]=y at *
          by_cases hxy : y=x
          · have hv : t=false:=by
              cases t
              · rfl
              · exact absurd (HT.out.1 rfl).1 (RkQ.twice hjk (by rw [HY.out,hxy]) HX.out)
            subst hv hxy
            go_wp2_with fail
            refine wp_region_T (fun W=>W.cell? ⟨b,o+j,none⟩=some (.int .i64 y)∧W.cell? ⟨b,o+k,none⟩=some (.int .i64 y)) (fun _=>false) (by kernel_rfl) ⟨g0,g1⟩ (fun hHeld=>?_)
            refine wpAnyT_take2 (i:=0) (v:=?_) rfl rfl (by kernel_rfl) (by kernel_rfl) (by kernel_rfl) (by kernel_rfl) (fun _ _ _ h=>h) (Or.inl ⟨by rfl, ?_⟩) (by first | assumption | trivial) ?_
            rotate_left
            · (intro w hSw; (try dsimp only at hSw); go_simp) <;> (with_reducible rfl)
            simp only [List.setIfInBounds_toArray,List.set_cons_zero,List.set_cons_succ]
            refine wpAnyT_take2 (i:=1) (v:=?_) rfl rfl (by kernel_rfl) (by kernel_rfl) (by kernel_rfl) (by kernel_rfl) (fun _ _ _ h=>h) (Or.inl ⟨by rfl, ?_⟩) (by first | assumption | trivial) ?_
            rotate_left
            · (intro w hSw; (try dsimp only at hSw); go_simp) <;> (with_reducible rfl)
            simp only [List.setIfInBounds_toArray,List.set_cons_zero,List.set_cons_succ]
            refine wpAnyT_take2 (i:=2) (v:=?_) rfl rfl (by kernel_rfl) (by kernel_rfl) (by kernel_rfl) (by kernel_rfl) (fun _ _ _ h=>h) (Or.inl ⟨by rfl, ?_⟩) (by first | assumption | trivial) ?_
            rotate_left
            · (intro w hSw; (try dsimp only at hSw); go_simp) <;> (with_reducible rfl)
            simp only [List.setIfInBounds_toArray,List.set_cons_zero,List.set_cons_succ]
            refine wpAnyT_take2 (i:=3) (v:=?_) rfl rfl (by kernel_rfl) (by kernel_rfl) (by kernel_rfl) (by kernel_rfl) (fun _ _ _ h=>h) (Or.inl ⟨by rfl, ?_⟩) (by first | assumption | trivial) ?_
            rotate_left
            · (intro w hSw; (try dsimp only at hSw); go_simp) <;> (with_reducible rfl)
            simp only [List.setIfInBounds_toArray,List.set_cons_zero,List.set_cons_succ]
            refine wpAnyT_take2 (i:=4) (v:=?_) rfl rfl (by kernel_rfl) (by kernel_rfl) (by kernel_rfl) (by kernel_rfl) (fun _ _ _ h=>h) (Or.inl ⟨by rfl, ?_⟩) (by first | assumption | trivial) ?_
            rotate_left
            · (intro w hSw; (try dsimp only at hSw); go_simp) <;> (with_reducible rfl)
            simp only [List.setIfInBounds_toArray,List.set_cons_zero,List.set_cons_succ]
            refine wpAnyT_take2 (i:=5) (v:=?_) rfl rfl (by kernel_rfl) (by kernel_rfl) (by kernel_rfl) (by kernel_rfl) (fun _ _ _ h=>h) (Or.inl ⟨by rfl, ?_⟩) (by first | assumption | trivial) ?_
            rotate_left
            · (intro w hSw; (try dsimp only at hSw); go_simp) <;> (with_reducible rfl)
            simp only [List.setIfInBounds_toArray,List.set_cons_zero,List.set_cons_succ]
            refine wpAnyT_take2 (i:=6) (v:=?_) rfl rfl (by kernel_rfl) (by kernel_rfl) (by kernel_rfl) (by kernel_rfl) (fun _ _ _ h=>h) (Or.inl ⟨by rfl, ?_⟩) (by first | assumption | trivial) ?_
            rotate_left
            · (intro w hSw; (try dsimp only at hSw); go_simp) <;> (with_reducible rfl)
            simp only [List.setIfInBounds_toArray,List.set_cons_zero,List.set_cons_succ]
            refine wpAnyT_take2 (i:=7) (v:=?_) rfl rfl (by kernel_rfl) (by kernel_rfl) (by kernel_rfl) (by kernel_rfl) (fun _ _ _ h=>h) (Or.inl ⟨by rfl, ?_⟩) (by first | assumption | trivial) ?_
            rotate_left
            · (intro w hSw; (try dsimp only at hSw); go_simp) <;> (with_reducible rfl)
            simp only [List.setIfInBounds_toArray,List.set_cons_zero,List.set_cons_succ]
            clear hHeld
            have hHeld:=And.intro g0 g1
            refine wpAnyT_take2 (i:=8) (v:=.bool true) rfl rfl (by kernel_rfl) (by kernel_rfl) (by kernel_rfl) (by kernel_rfl) (fun _ _ _ h=>h) (Or.inl ⟨by rfl, ?_⟩) (by first | assumption | trivial) ?_
            · (intro w hSw; (try dsimp only at hSw); go_simp) <;> (first | (with_reducible rfl) | assumption | (simp; done) | (simp [*]; done) | (simp; omega))
            simp only [List.setIfInBounds_toArray,List.set_cons_zero,List.set_cons_succ]
            refine wpAnyT_done (by kernel_rfl) ?_ _
            clear hHeld
            go_wp2_with fail
            go_ret
            exact ⟨rfl,Below.drew HW.out⟩
          · have hxb : (y == x)=false:=by simpa using hxy
            have HJ2 : Hid (∀ j' z,j'<j+1→R[j']? = some z→z≠x):=Lib.hid (fun j' z h hz=>by
              by_cases he : j'=j
              · subst he
                rw [HY.out] at hz
                injection hz with hz
                rw [← hz]; exact hxy
              · exact HJ.out j' z (by omega) hz)
            go_wp2_with fail
            refine wp_region_T (fun W=>W.cell? ⟨b,o+j,none⟩=some (.int .i64 y)∧W.cell? ⟨b,o+k,none⟩=some (.int .i64 x)) (fun _=>false) (by kernel_rfl) ⟨g0,g1⟩ (fun hHeld=>?_)
            refine wpAnyT_take2 (i:=0) (v:=?_) rfl rfl (by kernel_rfl) (by kernel_rfl) (by kernel_rfl) (by kernel_rfl) (fun _ _ _ h=>h) (Or.inl ⟨by rfl, ?_⟩) (by first | assumption | trivial) ?_
            rotate_left
            · (intro w hSw; (try dsimp only at hSw); go_simp) <;> (with_reducible rfl)
            simp only [List.setIfInBounds_toArray,List.set_cons_zero,List.set_cons_succ]
            refine wpAnyT_take2 (i:=1) (v:=?_) rfl rfl (by kernel_rfl) (by kernel_rfl) (by kernel_rfl) (by kernel_rfl) (fun _ _ _ h=>h) (Or.inl ⟨by rfl, ?_⟩) (by first | assumption | trivial) ?_
            rotate_left
            · (intro w hSw; (try dsimp only at hSw); go_simp) <;> (with_reducible rfl)
            simp only [List.setIfInBounds_toArray,List.set_cons_zero,List.set_cons_succ]
            refine wpAnyT_take2 (i:=2) (v:=?_) rfl rfl (by kernel_rfl) (by kernel_rfl) (by kernel_rfl) (by kernel_rfl) (fun _ _ _ h=>h) (Or.inl ⟨by rfl, ?_⟩) (by first | assumption | trivial) ?_
            rotate_left
            · (intro w hSw; (try dsimp only at hSw); go_simp) <;> (with_reducible rfl)
            simp only [List.setIfInBounds_toArray,List.set_cons_zero,List.set_cons_succ]
            refine wpAnyT_take2 (i:=3) (v:=?_) rfl rfl (by kernel_rfl) (by kernel_rfl) (by kernel_rfl) (by kernel_rfl) (fun _ _ _ h=>h) (Or.inl ⟨by rfl, ?_⟩) (by first | assumption | trivial) ?_
            rotate_left
            · (intro w hSw; (try dsimp only at hSw); go_simp) <;> (with_reducible rfl)
            simp only [List.setIfInBounds_toArray,List.set_cons_zero,List.set_cons_succ]
            refine wpAnyT_take2 (i:=4) (v:=?_) rfl rfl (by kernel_rfl) (by kernel_rfl) (by kernel_rfl) (by kernel_rfl) (fun _ _ _ h=>h) (Or.inl ⟨by rfl, ?_⟩) (by first | assumption | trivial) ?_
            rotate_left
            · (intro w hSw; (try dsimp only at hSw); go_simp) <;> (with_reducible rfl)
            simp only [List.setIfInBounds_toArray,List.set_cons_zero,List.set_cons_succ]
            refine wpAnyT_take2 (i:=5) (v:=?_) rfl rfl (by kernel_rfl) (by kernel_rfl) (by kernel_rfl) (by kernel_rfl) (fun _ _ _ h=>h) (Or.inl ⟨by rfl, ?_⟩) (by first | assumption | trivial) ?_
            rotate_left
            · (intro w hSw; (try dsimp only at hSw); go_simp) <;> (with_reducible rfl)
            simp only [List.setIfInBounds_toArray,List.set_cons_zero,List.set_cons_succ]
            refine wpAnyT_take2 (i:=6) (v:=?_) rfl rfl (by kernel_rfl) (by kernel_rfl) (by kernel_rfl) (by kernel_rfl) (fun _ _ _ h=>h) (Or.inl ⟨by rfl, ?_⟩) (by first | assumption | trivial) ?_
            rotate_left
            · (intro w hSw; (try dsimp only at hSw); go_simp) <;> (with_reducible rfl)
            simp only [List.setIfInBounds_toArray,List.set_cons_zero,List.set_cons_succ]
            refine wpAnyT_take2 (i:=7) (v:=?_) rfl rfl (by kernel_rfl) (by kernel_rfl) (by kernel_rfl) (by kernel_rfl) (fun _ _ _ h=>h) (Or.inl ⟨by rfl, ?_⟩) (by first | assumption | trivial) ?_
            rotate_left
            · (intro w hSw; (try dsimp only at hSw); go_simp) <;> (with_reducible rfl)
            simp only [List.setIfInBounds_toArray,List.set_cons_zero,List.set_cons_succ]
            clear hHeld
            have hHeld:=And.intro g0 g1
            refine wpAnyT_take2 (i:=8) (v:=.bool false) rfl rfl (by kernel_rfl) (by kernel_rfl) (by kernel_rfl) (by kernel_rfl) (fun _ _ _ h=>h) (Or.inl ⟨by rfl, ?_⟩) (by first | assumption | trivial) ?_
            · (intro w hSw; (try dsimp only at hSw); go_simp) <;> (first | (with_reducible rfl) | assumption | (simp; done) | (simp [*]; done) | (simp; omega))
            simp only [List.setIfInBounds_toArray,List.set_cons_zero,List.set_cons_succ]
            refine wpAnyT_done (by kernel_rfl) ?_ _
            clear hHeld
            go_wp2_with fail
            go_roundw
            case rel=>exact ⟨j+1,by omega,by go_num,HJ2,Lib.hid (Below.drew HW.out)⟩
            case measure=>simp [intOf]; omega
        · have hjk2 : j=k:=by omega
          subst hjk2
          have hj9 : ¬ (j : Int)<(j : Int):=by omega
          have HP2:=Lib.hid (HP.out.next HX.out h0 h1 HJ.out)
          clear HP HJ
          go_wp2_with fail
          go_roundw
          case rel=>exact ⟨j+1,by omega,by go_num,HP2,HW⟩
          case measure=>simp [intOf]; omega
    · have hkl : k=R.length:=by omega
      subst hkl
      have hl9 : ¬ (R.length : Int)<(R.length : Int):=by omega
      have HF : Hid (decide ((R.length : Int)=n)=t):=Lib.hid (by
        have h:=HP.out
        unfold RkQ at h
        rw [List.take_of_length_le (Nat.le_refl _)] at h
        cases t
        · refine decide_eq_false fun hc=>?_
          exact absurd (HT.out.2 ⟨h.1,h.2,hc⟩) (by simp)
        · exact decide_eq_true (HT.out.1 rfl).2.2)
      clear HT HP
      go_wp2_with fail
      go_ret
      exact ⟨ret_bool (by first | exact HF.out | (rw [← HF.out]; simp; done) | (rw [← HF.out])),HW.out⟩
end Go.Proofs.Ytlbihfbeamlacaa
