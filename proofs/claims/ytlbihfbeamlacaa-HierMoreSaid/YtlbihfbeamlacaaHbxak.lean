/- A region that draws its order: loads first under a condition S; the operations of T (late stores) need not keep S. -/
import Derived.Test.YtlbihfbeamlacaaHbxaa
set_option linter.unusedSimpArgs false
set_option linter.unusedVariables false
set_option maxRecDepth 100000
set_option maxHeartbeats 6400000
namespace Go.Proofs.Ytlbihfbeamlacaa
open Go.RowKit
section
variable {P : Program} {ops : Array Oper} {Q : Exit→Act→World→Prop} {md : Region.Mode} {S : World→Prop} {T : Nat→Bool}
def wpAnyT (P : Program) (md : Region.Mode) (ops : Array Oper) (Q : Exit→Act→World→Prop) (S : World→Prop) (T : Nat→Bool) : Nat→Array Bool→Act→World→Prop
  | 0,listed,a,w=>Region.ready md ops listed=[]∧Q .normal a w
  | fuel+1,listed,a,w =>
    (Region.ready md ops listed=[]→Q .normal a w) ∧
    ∀ i ∈ Region.ready md ops listed,wpOp P ops Q i (fun a' w'=>(T i=false→S w')∧wpAnyT P md ops Q S T fuel (listed.setIfInBounds i true) a' w') a w
theorem wpAny_of_T : ∀ (fuel : Nat) (listed : Array Bool) (a : Act) (w : World),wpAnyT P md ops Q S T fuel listed a w→wpAny P md ops Q fuel listed a w
  | 0,_,_,_,h=>h
  | fuel+1,_,_,_,h=>⟨h.1,fun i hi=>wpOp_mono (fun a' w' h'=>wpAny_of_T fuel _ a' w' h'.2) (h.2 i hi)⟩
theorem wpAnyT_first {i : Nat} {oi : Oper} {v : Value} (hi : ops[i]? = some oi) (hsel : ∀ (j : Nat) (o : Oper) cs b,ops[j]? = some o→o.op≠.select cs b)
    (hT : ∀ j oj,ops[j]? = some oj→T j=true→∃ e ∈ oj.after,Region.binds md e=true∧e.on=i)
    (hQ : ∀ c a w,Q (.panic c) (a.put oi.dst v) w→Q (.panic c) a w) :
    ∀ (fuel : Nat) (listed : Array Bool) (a : Act) (w : World),
      (∀ j oj,ops[j]? = some oj→j≠i→listed.getD j true=false→(∀ e ∈ oj.after,Region.binds md e=true→e.on≠i)→oi.apart ops oj=true) →
      i ∈ Region.ready md ops listed→YieldsIf P ops S oi v a→S w →
      wpAnyT P md ops Q S T fuel (listed.setIfInBounds i true) (a.put oi.dst v) w→wpAnyT P md ops Q S T (fuel+1) listed a w:=by
  intro fuel
  induction fuel with
  | zero =>
    intro listed a w _ hr hy hS H
    refine ⟨fun h=>(by rw [h] at hr; cases hr),fun j hj=>?_⟩
    by_cases hji : j=i
    · subst hji; exact hy.wpOp hi hS ⟨fun _=>hS,H⟩
    · have:=ready_mono hj hji
      rw [H.1] at this
      cases this
  | succ fuel ih =>
    intro listed a w hfree hr hy hS H
    refine ⟨fun h=>(by rw [h] at hr; cases hr),fun j hj=>?_⟩
    by_cases hji : j=i
    · subst hji; exact hy.wpOp hi hS ⟨fun _=>hS,H⟩
    · have h1:=H.2 j (ready_mono hj hji)
      obtain ⟨hjun,oj,hoj,hall⟩:=mem_ready.1 hj
      have hnot : ∀ e ∈ oj.after,Region.binds md e=true→e.on≠i:=fun e he hb heq=>by
        have h1:=hall e he hb
        have h0:=(mem_ready.1 hr).1
        rw [heq] at h1
        rcases Nat.lt_or_ge i listed.size with h' | h'
        · simp [h'] at h0 h1; rw [h0] at h1; cases h1
        · simp [Array.getElem?_eq_none h'] at h1
      have hTj : T j=false:=by
        rcases h : T j
        · rfl
        · obtain ⟨e,he,hb,ho⟩:=hT j oj hoj h
          exact absurd ho (hnot e he hb)
      have h2:=wpOp_putIf hoj (hfree j oj hoj hji hjun hnot) (fun cs b=>hsel i oi cs b hi) (fun cs b=>hsel j oj cs b hoj) hQ hy h1
      have hfree' : ∀ k ok,ops[k]? = some ok→k≠i→(listed.setIfInBounds j true).getD k true=false →
          (∀ e ∈ ok.after,Region.binds md e=true→e.on≠i)→oi.apart ops ok=true:=fun k ok hk hki hun hno=>by
        refine hfree k ok hk hki ?_ hno
        by_cases hjk : j=k
        · subst hjk; exact hjun
        · rw [getD_set_ne true hjk] at hun; exact hun
      refine wpOp_mono (fun a' w' h3=>⟨fun _=>h3.2.1 hTj,ih (listed.setIfInBounds j true) a' w' hfree' (ready_mono hr (Ne.symm hji)) h3.1 (h3.2.1 hTj) ?_⟩) h2
      rw [Array.setIfInBounds_comm _ _ hji]
      exact h3.2.2
/-- Every operation of T waits for number i. -/
def waitT (md : Region.Mode) (ops : Array Oper) (T : Nat→Bool) (i : Nat) : Bool :=
  (List.range ops.size).all fun j=>!T j || (match ops[j]? with | some oj=>oj.after.any (fun e=>Region.binds md e && e.on == i) | none=>true)
theorem waitT_spec {i : Nat} (h : waitT md ops T i=true) : ∀ j oj,ops[j]? = some oj→T j=true→∃ e ∈ oj.after,Region.binds md e=true∧e.on=i:=by
  intro j oj hj hT
  have hlt : j<ops.size:=(Array.getElem?_eq_some_iff.1 hj).1
  have:=List.all_eq_true.1 h j (List.mem_range.2 hlt)
  rw [hT,hj] at this
  simp only [Bool.not_true,Bool.false_or] at this
  obtain ⟨e,he,hb⟩:=Array.any_eq_true'.1 this
  simp only [Bool.and_eq_true,beq_iff_eq] at hb
  exact ⟨e,he,hb.1,hb.2⟩
theorem wpAnyT_take {i : Nat} {oi : Oper} {v : Value} {fuel : Nat} {listed : Array Bool} {a : Act} {w : World} (hi : ops[i]? = some oi)
    (hs : Region.noSelect ops=true) (hf : Region.free md ops listed i=true) (hr : (Region.ready md ops listed).contains i=true) (hw : waitT md ops T i=true)
    (hQ : ∀ c a w,Q (.panic c) (a.put oi.dst v) w→Q (.panic c) a w) (hy : YieldsIf P ops S oi v a) (hS : S w)
    (h : wpAnyT P md ops Q S T fuel (listed.setIfInBounds i true) (a.put oi.dst v) w) : wpAnyT P md ops Q S T (fuel+1) listed a w :=
  wpAnyT_first hi (Region.noSelect_spec hs) (waitT_spec hw) hQ fuel listed a w (Region.free_spec hi hf) (by simpa using hr) hy hS h
def QT (Q : Exit→Act→World→Prop) (K : Act→World→Prop) : Exit→Act→World→Prop
  | .normal,a,w=>K a w
  | e,a,w=>Q e a w
theorem wpOp_of_list {i : Nat} {o : Oper} {K : Act→World→Prop} {a : Act} {w : World} (ho : ops[i]? = some o) (h : wpList P ops (QT Q K) [o] a w) : wpOp P ops Q i K a w:=by
  unfold wpList at h
  unfold wpOp
  rw [ho]
  show if Region.wanted o (yielded ops a.tmps)=true then _ else _
  split
  · rename_i hw
    rw [if_pos hw] at h
    rcases h with h | ⟨h1,h2⟩
    · refine .inl ?_
      unfold Oper.wp at *
      generalize (execOp a.eval o).run P w=r at *
      cases r with
      | ok n w' =>
        cases n <;> simp only [Oper.upon] at h ⊢
        case value u=>exact h
        case skip=>exact h
        case defer d=>exact h
        case enter f args =>
          refine Calls.mono h fun e w'' he=>?_
          cases e <;> exact he
        case row row args=>exact h
      | halt x w' =>
        cases x <;> simp only [Oper.upon] at h ⊢
        case panic u=>exact h
    · exact .inr ⟨h1,h2⟩
  · rename_i hw
    rw [if_neg hw] at h
    exact h
theorem wpAnyT_next {i : Nat} {o : Oper} {fuel : Nat} {listed : Array Bool} {a : Act} {w : World} (hr : Region.ready md ops listed=[i]) (ho : ops[i]? = some o)
    (h : wpList P ops (QT Q fun a' w'=>(T i=false→S w')∧wpAnyT P md ops Q S T fuel (listed.setIfInBounds i true) a' w') [o] a w) : wpAnyT P md ops Q S T (fuel+1) listed a w :=
by
  refine ⟨fun h0=>?_,fun j hj=>?_⟩
  · rw [hr] at h0; cases h0
  · rw [hr] at hj
    rcases List.mem_singleton.1 hj with rfl
    exact wpOp_of_list ho h
theorem wpAnyT_done {listed : Array Bool} {a : Act} {w : World} (hr : Region.ready md ops listed=[]) (h : Q .normal a w) : ∀ fuel,wpAnyT P md ops Q S T fuel listed a w
  | 0=>⟨hr,h⟩
  | _+1=>⟨fun _=>h,by rw [hr]; simp⟩
theorem wp_region_T {id : Nat} {a : Act} {w : World} (S : World→Prop) (T : Nat→Bool) (hm : P.follows .mixedOrders=true) (hS : S w.drew)
    (h : S w.drew→wpAnyT P .any ops Q S T ops.size (Array.replicate ops.size false) a w.drew) : (Code.region id ops true).wp P Q a w :=
  wp_region_any hm (wpAny_of_T _ _ _ _ (h hS))
end
section
variable {P : Program} {ops : Array Oper} {Q : Exit→Act→World→Prop} {md : Region.Mode} {S : World→Prop} {T : Nat→Bool}
theorem wpAnyT_two {i j : Nat} {o o' : Oper} {fuel : Nat} {listed : Array Bool} {a : Act} {w : World} (hr : Region.ready md ops listed=[i,j]) (ho : ops[i]? = some o) (ho' : ops[j]? = some o')
    (h : wpList P ops (QT Q fun a' w'=>(T i=false→S w')∧wpAnyT P md ops Q S T fuel (listed.setIfInBounds i true) a' w') [o] a w)
    (h' : wpList P ops (QT Q fun a' w'=>(T j=false→S w')∧wpAnyT P md ops Q S T fuel (listed.setIfInBounds j true) a' w') [o'] a w) : wpAnyT P md ops Q S T (fuel+1) listed a w:=by
  refine ⟨fun h0=>?_,fun k hk=>?_⟩
  · rw [hr] at h0; cases h0
  · rw [hr] at hk
    rcases List.mem_cons.1 hk with rfl | hk
    · exact wpOp_of_list ho h
    · rcases List.mem_singleton.1 hk with rfl
      exact wpOp_of_list ho' h'
end
section
variable {P : Program} {ops : Array Oper} {Q : Exit→Act→World→Prop} {md : Region.Mode} {S : World→Prop} {T : Nat→Bool}
theorem wpAnyT_take2 {i d : Nat} {oi : Oper} {v : Value} {fuel : Nat} {listed : Array Bool} {a : Act} {w : World} (hi : ops[i]? = some oi) (hd : oi.dst=some d)
    (hs : Region.noSelect ops=true) (hf : Region.free md ops listed i=true) (hr : (Region.ready md ops listed).contains i=true) (hw : waitT md ops T i=true)
    (hQ : ∀ c a w,Q (.panic c) (a.put oi.dst v) w→Q (.panic c) a w) (hy : YieldsIf P ops S oi v a) (hS : S w)
    (h : wpAnyT P md ops Q S T fuel (listed.setIfInBounds i true) { a with tmps:=a.tmps.setIfInBounds d v } w) : wpAnyT P md ops Q S T (fuel+1) listed a w :=
  wpAnyT_take hi hs hf hr hw hQ hy hS (by rw [hd]; exact h)
end
section
variable {P : Program} {ops : Array Oper} {Q : Exit→Act→World→Prop} {md : Region.Mode}
theorem wpAnyT_weaken {S' : World→Prop} {T' T : Nat→Bool} : ∀ (fuel : Nat) (listed : Array Bool) (a : Act) (w : World),wpAnyT P md ops Q S' T' fuel listed a w→wpAnyT P md ops Q (fun _=>True) T fuel listed a w
  | 0,_,_,_,h=>h
  | fuel+1,_,_,_,h=>⟨h.1,fun i hi=>wpOp_mono (fun a' w' h'=>⟨fun _=>trivial,wpAnyT_weaken fuel _ a' w' h'.2⟩) (h.2 i hi)⟩
theorem wpAnyT_switch {T : Nat→Bool} {fuel : Nat} {listed : Array Bool} {a : Act} {w : World} (S' : World→Prop) (T' : Nat→Bool) (hS : S' w) (h : S' w→wpAnyT P md ops Q S' T' fuel listed a w) : wpAnyT P md ops Q (fun _=>True) T fuel listed a w :=
  wpAnyT_weaken _ _ _ _ (h hS)
end
section
variable {P : Program} {ops : Array Oper} {Q : Exit→Act→World→Prop} {md : Region.Mode} {S : World→Prop} {T : Nat→Bool}
theorem wpAnyT_three {i j l : Nat} {o o' o'' : Oper} {fuel : Nat} {listed : Array Bool} {a : Act} {w : World} (hr : Region.ready md ops listed=[i,j,l]) (ho : ops[i]? = some o) (ho' : ops[j]? = some o') (ho'' : ops[l]? = some o'')
    (h : wpList P ops (QT Q fun a' w'=>(T i=false→S w')∧wpAnyT P md ops Q S T fuel (listed.setIfInBounds i true) a' w') [o] a w)
    (h' : wpList P ops (QT Q fun a' w'=>(T j=false→S w')∧wpAnyT P md ops Q S T fuel (listed.setIfInBounds j true) a' w') [o'] a w)
    (h'' : wpList P ops (QT Q fun a' w'=>(T l=false→S w')∧wpAnyT P md ops Q S T fuel (listed.setIfInBounds l true) a' w') [o''] a w) : wpAnyT P md ops Q S T (fuel+1) listed a w:=by
  refine ⟨fun h0=>?_,fun k hk=>?_⟩
  · rw [hr] at h0; cases h0
  · rw [hr] at hk
    rcases List.mem_cons.1 hk with rfl | hk
    · exact wpOp_of_list ho h
    · rcases List.mem_cons.1 hk with rfl | hk
      · exact wpOp_of_list ho' h'
      · rcases List.mem_singleton.1 hk with rfl
        exact wpOp_of_list ho'' h''
theorem wpAnyT_four {i j l m : Nat} {o o' o'' o3 : Oper} {fuel : Nat} {listed : Array Bool} {a : Act} {w : World} (hr : Region.ready md ops listed=[i,j,l,m]) (ho : ops[i]? = some o) (ho' : ops[j]? = some o') (ho'' : ops[l]? = some o'') (ho3 : ops[m]? = some o3)
    (h : wpList P ops (QT Q fun a' w'=>(T i=false→S w')∧wpAnyT P md ops Q S T fuel (listed.setIfInBounds i true) a' w') [o] a w)
    (h' : wpList P ops (QT Q fun a' w'=>(T j=false→S w')∧wpAnyT P md ops Q S T fuel (listed.setIfInBounds j true) a' w') [o'] a w)
    (h'' : wpList P ops (QT Q fun a' w'=>(T l=false→S w')∧wpAnyT P md ops Q S T fuel (listed.setIfInBounds l true) a' w') [o''] a w)
    (h3 : wpList P ops (QT Q fun a' w'=>(T m=false→S w')∧wpAnyT P md ops Q S T fuel (listed.setIfInBounds m true) a' w') [o3] a w) : wpAnyT P md ops Q S T (fuel+1) listed a w:=by
  refine ⟨fun h0=>?_,fun k hk=>?_⟩
  · rw [hr] at h0; cases h0
  · rw [hr] at hk
    rcases List.mem_cons.1 hk with rfl | hk
    · exact wpOp_of_list ho h
    · rcases List.mem_cons.1 hk with rfl | hk
      · exact wpOp_of_list ho' h'
      · rcases List.mem_cons.1 hk with rfl | hk
        · exact wpOp_of_list ho'' h''
        · rcases List.mem_singleton.1 hk with rfl
          exact wpOp_of_list ho3 h3
theorem wpAnyT_listed {fuel : Nat} {l l' : Array Bool} {a : Act} {w : World} (h : l=l') (hw : wpAnyT P md ops Q S T fuel l a w) : wpAnyT P md ops Q S T fuel l' a w:=h ▸ hw
end
end Go.Proofs.Ytlbihfbeamlacaa
