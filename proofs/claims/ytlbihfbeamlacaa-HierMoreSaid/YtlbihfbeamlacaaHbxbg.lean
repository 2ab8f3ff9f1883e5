/- Walks: the reference's Graph and Ranks. -/
import Derived.Test.YtlbihfbeamlacaaHbxbf
import Derived.Test.YtlbihfbeamlacaaHbxaf
set_option linter.unusedSimpArgs false
set_option linter.unusedVariables false
set_option maxRecDepth 100000
set_option maxHeartbeats 6400000
namespace Go.Proofs.Ytlbihfbeamlacaa
open Go.RowKit
theorem r13_Graph (s : Sl ED) (n : Int) (w : World) (hr : Rd (· < w.heap.size) 4 ED.enc w s) :
    Calls Try.prog 16 #[.int .i64 n,.slice s.A s.l.length s.c] w fun r w'=>r = .returned (.bool (graphB n s.l))∧Below w.heap.size w w':=by
  obtain ⟨A,c,l⟩:=s
  have hl:=hr.len
  simp only at hl
  have HR:=Lib.hid hr
  clear hr
  simp only
  obtain ⟨V,hV⟩ : ∃ V,graphB n l=V:=⟨_,rfl⟩
  rw [hV]
  have HV:=Lib.hid hV
  clear hV
  by_cases a1 : n<0
  · have hv : V=false:=HV.out.symm.trans (by unfold graphB; rw [show decide (0≤n)=false from decide_eq_false (by omega)]; simp)
    subst hv
    go_enter Try.func16,Try.ntmps16
    go_wp2_with fail
    go_ret
    exact ⟨rfl,Below.refl _ _⟩
  by_cases a2 : 2000<n
  · have hv : V=false:=HV.out.symm.trans (by unfold graphB; rw [show decide (n≤2000)=false from decide_eq_false (by omega)]; simp)
    subst hv
    go_enter Try.func16,Try.ntmps16
    go_wp2_with fail
    go_ret
    exact ⟨rfl,Below.refl _ _⟩
  by_cases a3 : 20000<l.length
  · have hv : V=false:=HV.out.symm.trans (by unfold graphB; rw [show decide (l.length≤20000)=false from decide_eq_false (by omega)]; simp)
    have a3' : (20000 : Int)<l.length:=by omega
    subst hv
    go_enter Try.func16,Try.ntmps16
    go_wp2_with fail
    go_ret
    exact ⟨rfl,Below.refl _ _⟩
  have a3' : ¬ (20000 : Int)<l.length:=by omega
  have HB : Hid (∀ x,x ∈ l→badE n x=true→V=false):=Lib.hid (fun x hx hb=>HV.out.symm.trans (by
    unfold graphB
    rw [show l.any (badE n)=true from List.any_eq_true.2 ⟨x,hx,hb⟩]
    simp))
  have HG : Hid ((∀ x,x ∈ l→badE n x=false)→V=true):=Lib.hid (fun h=>HV.out.symm.trans (by
    unfold graphB
    rw [show l.any (badE n)=false from List.any_eq_false.2 (fun x hx=>by rw [h x hx]; simp)]
    simp
    omega))
  clear HV
  go_enter Try.func16,Try.ntmps16
  go_wp2_with fail
  go_loopw [5] (fun v wr=>∃ (k : Nat),k≤l.length∧v = .int .i64 k∧Hid (∀ x,x ∈ l.take k→badE n x=false)∧Hid (Below w.heap.size w wr)) (fun v _=>l.length - (intOf v).toNat)
  case atStart=>exact ⟨0,by omega,rfl,Lib.hid (fun x hx=>by simp at hx),Lib.hid (Below.refl _ _)⟩
  case round =>
    obtain ⟨k,hk,rfl,HP,HW⟩:=hrel
    by_cases hlt : k<l.length
    · have HM : Hid (∀ x,l[k]? = some x→x ∈ l):=Lib.hid (fun x hx=>List.mem_of_getElem? hx)
      have HT : Hid (∀ x,l[k]? = some x→badE n x=false→∀ y,y ∈ l.take (k+1)→badE n y=false):=Lib.hid (fun x hx hb y hy=>by
        rw [List.take_add_one,hx] at hy
        rcases List.mem_append.1 hy with hy | hy
        · exact HP.out y hy
        · rw [List.mem_singleton.1 (show y ∈ [x] from hy)]; exact hb)
      clear HP
      obtain ⟨b,o,hA,hb,hcl⟩:=(HR.out.later HW.out (Nat.le_refl _)).at1 hlt
      simp only at hA hcl
      subst hA
      have HX:=Lib.hid (List.getElem?_eq_getElem hlt)
      generalize l[k]=e at *
      obtain ⟨ef,et,en,ev⟩:=e
      obtain ⟨c0,c1,c2,c3⟩:=Cells.c4 hcl
      clear hcl hb
      have HBD:=Lib.hid (HB.out _ (HM.out _ HX.out))
      have HTD:=Lib.hid (HT.out _ HX.out)
      clear HM HT
      unfold badE at HBD HTD
      simp only at HBD HTD
      by_cases h : ef<0
      · have hv : V=false:=HBD.out (by simp [h])
        subst hv
        go_wp2_with fail
        go_ret
        exact ⟨rfl,HW.out.alloc HW.out.size _⟩
      first
      | replace h:=Int.not_lt.1 h
      | replace h:=Int.not_le.1 h
      by_cases h : n≤ef
      · have hv : V=false:=HBD.out (by simp [h])
        subst hv
        go_wp2_with fail
        go_ret
        exact ⟨rfl,HW.out.alloc HW.out.size _⟩
      first
      | replace h:=Int.not_lt.1 h
      | replace h:=Int.not_le.1 h
      by_cases h : et<0
      · have hv : V=false:=HBD.out (by simp [h])
        subst hv
        go_wp2_with fail
        go_ret
        exact ⟨rfl,HW.out.alloc HW.out.size _⟩
      first
      | replace h:=Int.not_lt.1 h
      | replace h:=Int.not_le.1 h
      by_cases h : n≤et
      · have hv : V=false:=HBD.out (by simp [h])
        subst hv
        go_wp2_with fail
        go_ret
        exact ⟨rfl,HW.out.alloc HW.out.size _⟩
      first
      | replace h:=Int.not_lt.1 h
      | replace h:=Int.not_le.1 h
      by_cases h : en<0
      · have hv : V=false:=HBD.out (by simp [h])
        subst hv
        go_wp2_with fail
        go_ret
        exact ⟨rfl,HW.out.alloc HW.out.size _⟩
      first
      | replace h:=Int.not_lt.1 h
      | replace h:=Int.not_le.1 h
      by_cases h : 1000000<en
      · have hv : V=false:=HBD.out (by simp [h])
        subst hv
        go_wp2_with fail
        go_ret
        exact ⟨rfl,HW.out.alloc HW.out.size _⟩
      first
      | replace h:=Int.not_lt.1 h
      | replace h:=Int.not_le.1 h
      by_cases h : ev = -1
      · subst h
        have HN:=Lib.hid (HTD.out (by simp; omega))
        clear HTD HBD
        go_wp2_with fail
        go_roundw
        case rel=>exact ⟨k+1,by omega,by go_num,HN,Lib.hid (HW.out.alloc HW.out.size _)⟩
        case measure=>simp [intOf]; omega
      · have hv : V=false:=HBD.out (by simp [h])
        have hb : (ev == -1)=false:=by simpa using h
        have hb2 : (ev != -1)=true:=by simpa using h
        subst hv
        go_wp2_with fail
        go_ret
        exact ⟨rfl,HW.out.alloc HW.out.size _⟩
    · have hv : V=true:=HG.out (fun x hx=>HP.out x (by rw [List.take_of_length_le (by omega)]; exact hx))
      subst hv
      go_wp2_with fail
      go_ret
      exact ⟨rfl,HW.out⟩
/-- A rank that comes twice. -/
def RkQ (R : List Int) (n : Int) (k : Nat) : Prop:=(R.take k).Nodup∧∀ x,x ∈ R.take k→0≤x∧x<n
theorem RkQ.next {R : List Int} {n x : Int} {k : Nat} (h : RkQ R n k) (hx : R[k]? = some x) (h0 : 0≤x) (hn : x<n) (hi : ∀ j y,j<k→R[j]? = some y→y≠x) : RkQ R n (k+1):=by
  unfold RkQ at *
  rw [List.take_add_one,hx]
  refine ⟨?_,fun y hy=>?_⟩
  · show (R.take k ++ [x]).Nodup
    refine nodup_snoc h.1 (fun hm=>?_)
    obtain ⟨j,hj,he⟩:=List.mem_iff_getElem.1 hm
    rw [List.length_take] at hj
    rw [List.getElem_take] at he
    exact hi j _ (by omega) (List.getElem?_eq_getElem (by omega)) he
  · rcases List.mem_append.1 hy with hy | hy
    · exact h.2 y hy
    · rw [List.mem_singleton.1 (show y ∈ [x] from hy)]; exact ⟨h0,hn⟩
theorem RkQ.twice {R : List Int} {x : Int} {j k : Nat} (hj : j<k) (h1 : R[j]? = some x) (h2 : R[k]? = some x) : ¬ R.Nodup:=fun h=>by
  obtain ⟨l1,e1⟩:=List.getElem?_eq_some_iff.1 h1
  obtain ⟨l2,e2⟩:=List.getElem?_eq_some_iff.1 h2
  have:=nodup_inj h l1 l2 (e1.trans e2.symm)
  omega
theorem RkP.iff {R : List Int} {n : Int} : RkP R n↔R.Nodup∧(∀ x,x ∈ R→0≤x∧x<n)∧(R.length : Int)=n:=by
  unfold RkP
  constructor
  · rintro ⟨h1,h2,h3⟩
    exact ⟨h1,fun x hx=>by have:=h2 x hx; omega,h3⟩
  · rintro ⟨h1,h2,h3⟩
    exact ⟨h1,fun x hx=>by have:=h2 x hx; omega,h3⟩
end Go.Proofs.Ytlbihfbeamlacaa
