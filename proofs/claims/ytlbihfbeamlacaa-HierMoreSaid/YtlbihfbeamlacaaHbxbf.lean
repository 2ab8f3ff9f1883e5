/- Walks: the reference's small functions. -/
import Derived.Test.YtlbihfbeamlacaaHbxam
import Derived.Test.YtlbihfbeamlacaaHbxbe
set_option linter.unusedSimpArgs false
set_option linter.unusedVariables false
set_option maxRecDepth 100000
set_option maxHeartbeats 6400000
namespace Go.Proofs.Ytlbihfbeamlacaa
open Go.RowKit
theorem r13_At (s : Sl ED) (f t : Int) (w : World) (hr : Rd (· < w.heap.size) 4 ED.enc w s) :
    Calls Try.prog 22 #[.slice s.A s.l.length s.c,.int .i64 f,.int .i64 t] w fun e w'=>e = .returned (.int .i64 (idxP (fun x=>decide (x.f=f) && decide (x.t=t)) 0 s.l))∧Below w.heap.size w w':=by
  obtain ⟨A,c,l⟩:=s
  have hl:=hr.len
  simp only at hl
  have HR:=Lib.hid hr
  clear hr
  simp only
  obtain ⟨V,hV⟩ : ∃ V,idxP (fun x : ED=>decide (x.f=f) && decide (x.t=t)) 0 l=V:=⟨_,rfl⟩
  rw [hV]
  have HV:=Lib.hid hV
  clear hV
  go_enter Try.func22,Try.ntmps22
  go_wp2_with fail
  go_loopw [7] (fun v wr=>∃ (k : Nat),k≤l.length∧v = .int .i64 k∧Hid (idxP (fun x : ED=>decide (x.f=f) && decide (x.t=t)) k (l.drop k)=V)∧Hid (Below w.heap.size w wr)) (fun v _=>l.length - (intOf v).toNat)
  case atStart=>exact ⟨0,by omega,rfl,HV,Lib.hid (Below.refl _ _)⟩
  case round =>
    clear HV
    obtain ⟨k,hk,rfl,HP,HW⟩:=hrel
    by_cases hlt : k<l.length
    · have HP2:=HP.out
      rw [List.drop_eq_getElem_cons hlt] at HP2
      unfold idxP at HP2
      replace HP2:=Lib.hid HP2
      clear HP
      obtain ⟨b,o,hA,hb,hcl⟩:=(HR.out.later HW.out (Nat.le_refl _)).at1 hlt
      simp only at hA hcl
      subst hA
      have HX:=Lib.hid (List.getElem?_eq_getElem hlt)
      generalize l[k]=e at *
      obtain ⟨ef,et,en,ev⟩:=e
      obtain ⟨c0,c1,c2,c3⟩:=Cells.c4 hcl
      clear hcl hb
      by_cases h1 : ef=f
      · by_cases h2 : et=t
        · have HQ : Hid ((k : Int)=V):=Lib.hid (by have h:=HP2.out; rw [if_pos (by simp [h1,h2])] at h; exact h)
          obtain rfl:=HQ.out
          subst h1 h2
          clear HP2 HQ
          go_wp2_with fail
          go_ret
          exact ⟨rfl,HW.out⟩
        · have HN:=Lib.hid (show idxP (fun x : ED=>decide (x.f=f) && decide (x.t=t)) (k+1) (l.drop (k+1))=V by have h:=HP2.out; rw [if_neg (by simp [h2])] at h; exact h)
          have hb2 : (et == t)=false:=by simpa using h2
          subst h1
          clear HP2
          go_wp2_with fail
          go_roundw
          case rel=>exact ⟨k+1,by omega,by go_num,HN,HW⟩
          case measure=>simp [intOf]; omega
      · have HN:=Lib.hid (show idxP (fun x : ED=>decide (x.f=f) && decide (x.t=t)) (k+1) (l.drop (k+1))=V by have h:=HP2.out; rw [if_neg (by simp [h1])] at h; exact h)
        have hb1 : (ef == f)=false:=by simpa using h1
        clear HP2
        go_wp2_with fail
        go_roundw
        case rel=>exact ⟨k+1,by omega,by go_num,HN,HW⟩
        case measure=>simp [intOf]; omega
    · have HQ : Hid (-1=V):=Lib.hid (by
        have h:=HP.out
        rw [List.drop_eq_nil_of_le (by omega)] at h
        exact h)
      obtain rfl:=HQ.out
      clear HP HQ
      go_wp2_with fail
      go_ret
      exact ⟨rfl,HW.out⟩
theorem law_edge (f t n : Int) (w : World) : Calls Try.prog 23 #[.int .i64 f,.int .i64 t,.int .i64 n] w fun r w'=>r = .returned (ED.v' ⟨f,t,n, -1⟩)∧Below w.heap.size w w':=by
  go_enter Try.func23,Try.ntmps23
  go_wp2_with fail
  try simp only [Exit.inBlock,Exit.then]
  refine bodyPost_ret (v:=.agg #[.int .i64 f,.int .i64 t,.int .i64 n,.int .i64 (-1)]) ?_ rfl ⟨rfl,(by repeat (first | (with_reducible exact Below.refl _ _) | ((with_reducible refine below_setr ?_ ?_); focus (first | (simp; done) | (simp; omega) | omega)) | ((with_reducible refine below_allocr ?_ ?_); focus (first | (simp; done) | (simp; omega) | omega)) | (with_reducible refine Below.drew ?_) | (with_reducible refine below_drewN ?_ _)))⟩
  simp [results,Try.results23,go_sem,]
def fewB (n : Int) (es : List ED) (R : List Int) : Bool:=(decide (n≤9) || decide (2000<n)) && (decide (es.length≤24) && decide (R.length≤10))
theorem law_few (n : Int) (es : Sl ED) (R : Sl Int) (w : World) (h1 : es.l.length≤9223372036854775807) (h2 : R.l.length≤9223372036854775807) : Calls Try.prog 9 #[.int .i64 n,.slice es.A es.l.length es.c,.slice R.A R.l.length R.c] w fun r w'=>r = .returned (.bool (fewB n es.l R.l))∧Below w.heap.size w w':=by
  obtain ⟨EA,Ec,E⟩:=es
  obtain ⟨RA,Rc,R⟩:=R
  simp only at h1 h2 ⊢
  unfold fewB
  by_cases a1 : n≤9
  · by_cases a2 : E.length≤24
    · have a2' : (E.length : Int)≤24:=by omega
      by_cases a3 : R.length≤10
      · have a3' : (R.length : Int)≤10:=by omega
        go_enter Try.func9,Try.ntmps9
        go_wp2_with fail
        go_ret
        exact ⟨ret_bool (by simp [a1,a2,a3] <;> (intros; omega)),Below.refl _ _⟩
      · have a3' : ¬ (R.length : Int)≤10:=by omega
        go_enter Try.func9,Try.ntmps9
        go_wp2_with fail
        go_ret
        exact ⟨ret_bool (by simp [a1,a2,a3] <;> (intros; omega)),Below.refl _ _⟩
    · have a2' : ¬ (E.length : Int)≤24:=by omega
      go_enter Try.func9,Try.ntmps9
      go_wp2_with fail
      go_ret
      exact ⟨ret_bool (by simp [a1,a2] <;> (intros; omega)),Below.refl _ _⟩
  · by_cases a0 : 2000<n
    · by_cases a2 : E.length≤24
      · have a2' : (E.length : Int)≤24:=by omega
        by_cases a3 : R.length≤10
        · have a3' : (R.length : Int)≤10:=by omega
          go_enter Try.func9,Try.ntmps9
          go_wp2_with fail
          go_ret
          exact ⟨ret_bool (by simp [a0,a2,a3] <;> (intros; omega)),Below.refl _ _⟩
        · have a3' : ¬ (R.length : Int)≤10:=by omega
          go_enter Try.func9,Try.ntmps9
          go_wp2_with fail
          go_ret
          exact ⟨ret_bool (by simp [a0,a2,a3] <;> (intros; omega)),Below.refl _ _⟩
      · have a2' : ¬ (E.length : Int)≤24:=by omega
        go_enter Try.func9,Try.ntmps9
        go_wp2_with fail
        go_ret
        exact ⟨ret_bool (by simp [a0,a2] <;> (intros; omega)),Below.refl _ _⟩
    · go_enter Try.func9,Try.ntmps9
      go_wp2_with fail
      go_ret
      exact ⟨ret_bool (by simp [a0,a1] <;> (intros; omega)),Below.refl _ _⟩
theorem r13_Least (s : Sl ED) (f t : Int) (w : World) (hr : Rd (· < w.heap.size) 4 ED.enc w s) :
    Calls Try.prog 21 #[.slice s.A s.l.length s.c,.int .i64 f,.int .i64 t] w fun e w'=>e = .returned (.int .i64 (leastE s.l f t))∧Below w.heap.size w w':=by
  obtain ⟨A,c,l⟩:=s
  have hl:=hr.len
  simp only at hl
  have HR:=Lib.hid hr
  clear hr
  simp only
  go_enter Try.func21,Try.ntmps21
  go_wp2_with fail
  go_loopw [7,8] (fun m v wr=>∃ (k : Nat) (mm : Int),k≤l.length∧v = .int .i64 k∧m = .int .i64 mm∧Hid (leastE (l.take k) f t=mm)∧Hid (Below w.heap.size w wr)) (fun _ v _=>l.length - (intOf v).toNat)
  case atStart=>exact ⟨0, -1,by omega,rfl,rfl,Lib.hid rfl,Lib.hid (Below.refl _ _)⟩
  case round =>
    obtain ⟨k,mm,hk,rfl,rfl,HP,HW⟩:=hrel
    by_cases hlt : k<l.length
    · have HT : Hid (∀ x,l[k]? = some x→leastE (l.take (k+1)) f t=lstS mm x f t):=Lib.hid (fun x hx=>by
        rw [List.take_add_one,hx]
        show leastE (l.take k ++ [x]) f t=_
        rw [leastE_snoc,HP.out])
      clear HP
      obtain ⟨b,o,hA,hb,hcl⟩:=(HR.out.later HW.out (Nat.le_refl _)).at1 hlt
      simp only at hA hcl
      subst hA
      have HX:=Lib.hid (List.getElem?_eq_getElem hlt)
      generalize l[k]=e at *
      obtain ⟨ef,et,en,ev⟩:=e
      obtain ⟨c0,c1,c2,c3⟩:=Cells.c4 hcl
      clear hcl hb
      have HQ:=Lib.hid (HT.out _ HX.out)
      clear HT
      by_cases hc : ef=f∧et=t∧(mm<0∨en<mm)
      · have HN:=Lib.hid (HQ.out.trans (if_pos hc))
        clear HQ
        obtain ⟨h1,h2,h3⟩:=hc
        subst h1 h2
        by_cases h4 : mm<0
        · go_wp2_with fail
          go_roundw
          case rel=>exact ⟨k+1,en,by omega,by go_num,rfl,HN,HW⟩
          case measure=>simp [intOf]; omega
        · have h5 : en<mm:=by omega
          go_wp2_with fail
          go_roundw
          case rel=>exact ⟨k+1,en,by omega,by go_num,rfl,HN,HW⟩
          case measure=>simp [intOf]; omega
      · have HN:=Lib.hid (HQ.out.trans (if_neg hc))
        clear HQ
        by_cases h1 : ef=f
        · subst h1
          by_cases h2 : et=t
          · subst h2
            have h4 : ¬ mm<0:=fun h=>hc ⟨rfl,rfl,.inl h⟩
            have h5 : ¬ en<mm:=fun h=>hc ⟨rfl,rfl,.inr h⟩
            clear hc
            go_wp2_with fail
            go_roundw
            case rel=>exact ⟨k+1,mm,by omega,by go_num,rfl,HN,HW⟩
            case measure=>simp [intOf]; omega
          · have hb2 : (et == t)=false:=by simpa using h2
            clear hc
            go_wp2_with fail
            go_roundw
            case rel=>exact ⟨k+1,mm,by omega,by go_num,rfl,HN,HW⟩
            case measure=>simp [intOf]; omega
        · have hb1 : (ef == f)=false:=by simpa using h1
          clear hc
          go_wp2_with fail
          go_roundw
          case rel=>exact ⟨k+1,mm,by omega,by go_num,rfl,HN,HW⟩
          case measure=>simp [intOf]; omega
    · have hkl : k=l.length:=by omega
      subst hkl
      have HQ:=HP.out
      rw [List.take_of_length_le (Nat.le_refl _)] at HQ
      subst HQ
      go_wp2_with fail
      go_ret
      exact ⟨rfl,HW.out⟩
end Go.Proofs.Ytlbihfbeamlacaa
