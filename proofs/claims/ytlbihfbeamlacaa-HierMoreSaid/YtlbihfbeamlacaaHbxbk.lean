/- A drawn region: late operations that wait by way of others. -/
import Derived.Test.YtlbihfbeamlacaaHbxak
set_option linter.unusedSimpArgs false
set_option linter.unusedVariables false
set_option maxRecDepth 100000
set_option maxHeartbeats 6400000
namespace Go.Proofs.Ytlbihfbeamlacaa
open Go.RowKit
section
variable {P : Program} {ops : Array Oper} {Q : Exit→Act→World→Prop} {md : Region.Mode} {S : World→Prop} {T : Nat→Bool}
/-- Number i is waited for, directly or by way of others. -/
inductive RchT (md : Region.Mode) (ops : Array Oper) (i : Nat) : Nat→Prop
  | step {j : Nat} {oj : Oper} {e : Edge} : ops[j]? = some oj→e ∈ oj.after→Region.binds md e=true→e.on=i→RchT md ops i j
  | via {j : Nat} {oj : Oper} {e : Edge} : ops[j]? = some oj→e ∈ oj.after→Region.binds md e=true→RchT md ops i e.on→RchT md ops i j
def ClsT (md : Region.Mode) (ops : Array Oper) (listed : Array Bool) : Prop:=∀ k ok,ops[k]? = some ok→listed.getD k false=true→∀ e ∈ ok.after,Region.binds md e=true→listed.getD e.on false=true
theorem RchT.listed {i j : Nat} {listed : Array Bool} (h : RchT md ops i j) (hc : ClsT md ops listed) : (∀ oj,ops[j]? = some oj→∀ e ∈ oj.after,Region.binds md e=true→listed.getD e.on false=true)→listed.getD i false=true:=by
  induction h with
  | step ho he hb hi=>intro hall; rw [← hi]; exact hall _ ho _ he hb
  | via ho he hb _ ih=>intro hall; exact ih (fun ok hk e' he' hb'=>hc _ ok hk (hall _ ho _ he hb) e' he' hb')
theorem ClsT.next {j : Nat} {listed : Array Bool} (hc : ClsT md ops listed) (hj : j ∈ Region.ready md ops listed) : ClsT md ops (listed.setIfInBounds j true):=by
  obtain ⟨_,oj,hoj,hall⟩:=mem_ready.1 hj
  intro k ok hk hl e he hb
  by_cases hkj : j=k
  · subst hkj
    rw [hoj] at hk
    injection hk with hk
    subst hk
    exact getD_set_true (hall e he hb)
  · rw [getD_set_ne false hkj] at hl
    exact getD_set_true (hc k ok hk hl e he hb)
theorem wpAnyT_first3 {i : Nat} {oi : Oper} {v : Value} (hi : ops[i]? = some oi) (hsel : ∀ (j : Nat) (o : Oper) cs b,ops[j]? = some o→o.op≠.select cs b)
    (hT : ∀ j,T j=true→ops[j]?.isSome=true→RchT md ops i j)
    (hQ : ∀ c a w,Q (.panic c) (a.put oi.dst v) w→Q (.panic c) a w) :
    ∀ (fuel : Nat) (listed : Array Bool) (a : Act) (w : World),ClsT md ops listed →
      (∀ j oj,ops[j]? = some oj→j≠i→listed.getD j true=false→(∀ e ∈ oj.after,Region.binds md e=true→e.on≠i)→oi.apart ops oj=true) →
      i ∈ Region.ready md ops listed→YieldsIf P ops S oi v a→S w →
      wpAnyT P md ops Q S T fuel (listed.setIfInBounds i true) (a.put oi.dst v) w→wpAnyT P md ops Q S T (fuel+1) listed a w:=by
  intro fuel
  induction fuel with
  | zero =>
    intro listed a w _ _ hr hy hS H
    refine ⟨fun h=>(by rw [h] at hr; cases hr),fun j hj=>?_⟩
    by_cases hji : j=i
    · subst hji; exact hy.wpOp hi hS ⟨fun _=>hS,H⟩
    · have:=ready_mono hj hji
      rw [H.1] at this
      cases this
  | succ fuel ih =>
    intro listed a w hcl hfree hr hy hS H
    refine ⟨fun h=>(by rw [h] at hr; cases hr),fun j hj=>?_⟩
    by_cases hji : j=i
    · subst hji; exact hy.wpOp hi hS ⟨fun _=>hS,H⟩
    · have h1:=H.2 j (ready_mono hj hji)
      obtain ⟨hjun,oj,hoj,hall⟩:=mem_ready.1 hj
      have hun : ¬ listed.getD i false=true:=fun h1=>by
        have h0:=(mem_ready.1 hr).1
        rcases Nat.lt_or_ge i listed.size with h' | h'
        · simp [h'] at h0 h1; rw [h0] at h1; cases h1
        · simp [Array.getElem?_eq_none h'] at h1
      have hnot : ∀ e ∈ oj.after,Region.binds md e=true→e.on≠i:=fun e he hb heq=>by
        have h1:=hall e he hb
        rw [heq] at h1
        exact hun h1
      have hTj : T j=false:=by
        rcases h : T j
        · rfl
        · exact absurd ((hT j h (by rw [hoj]; rfl)).listed hcl (fun o ho e he hb=>by
            rw [hoj] at ho
            injection ho with ho
            subst ho
            exact hall e he hb)) hun
      have h2:=wpOp_putIf hoj (hfree j oj hoj hji hjun hnot) (fun cs b=>hsel i oi cs b hi) (fun cs b=>hsel j oj cs b hoj) hQ hy h1
      have hfree' : ∀ k ok,ops[k]? = some ok→k≠i→(listed.setIfInBounds j true).getD k true=false →
          (∀ e ∈ ok.after,Region.binds md e=true→e.on≠i)→oi.apart ops ok=true:=fun k ok hk hki hun hno=>by
        refine hfree k ok hk hki ?_ hno
        by_cases hjk : j=k
        · subst hjk; exact hjun
        · rw [getD_set_ne true hjk] at hun; exact hun
      refine wpOp_mono (fun a' w' h3=>⟨fun _=>h3.2.1 hTj,ih (listed.setIfInBounds j true) a' w' (hcl.next hj) hfree' (ready_mono hr (Ne.symm hji)) h3.1 (h3.2.1 hTj) ?_⟩) h2
      rw [Array.setIfInBounds_comm _ _ hji]
      exact h3.2.2
def rchB (md : Region.Mode) (ops : Array Oper) (i : Nat) : Nat→Nat→Bool
  | 0,_=>false
  | f+1,j=>match ops[j]? with
    | some oj=>oj.after.any fun e=>Region.binds md e && (e.on == i || rchB md ops i f e.on)
    | none=>false
theorem rchB_spec {i : Nat} : ∀ (f j : Nat),rchB md ops i f j=true→RchT md ops i j
  | 0,j,h=>by simp [rchB] at h
  | f+1,j,h=>by
    unfold rchB at h
    split at h
    · rename_i oj ho
      obtain ⟨e,he,hb⟩:=Array.any_eq_true'.1 h
      simp only [Bool.and_eq_true,Bool.or_eq_true,beq_iff_eq] at hb
      rcases hb with ⟨h1,h2 | h2⟩
      · exact .step ho he h1 h2
      · exact .via ho he h1 (rchB_spec f _ h2)
    · cases h
def waitT3 (md : Region.Mode) (ops : Array Oper) (T : Nat→Bool) (i : Nat) : Bool:=(List.range ops.size).all fun j=>!T j || rchB md ops i 9 j
theorem waitT3_spec {i : Nat} (h : waitT3 md ops T i=true) : ∀ j,T j=true→ops[j]?.isSome=true→RchT md ops i j:=fun j hT hs=>by
  obtain ⟨oj,hj⟩:=Option.isSome_iff_exists.1 hs
  have hlt : j<ops.size:=(Array.getElem?_eq_some_iff.1 hj).1
  have:=List.all_eq_true.1 h j (List.mem_range.2 hlt)
  rw [hT] at this
  simp only [Bool.not_true,Bool.false_or] at this
  exact rchB_spec _ _ this
def clsB (md : Region.Mode) (ops : Array Oper) (listed : Array Bool) : Bool:=(List.range ops.size).all fun k=>!(listed.getD k false) || (match ops[k]? with | some ok=>ok.after.toList.all (fun e=>!(Region.binds md e) || listed.getD e.on false) | none=>true)
theorem clsB_spec {listed : Array Bool} (h : clsB md ops listed=true) : ClsT md ops listed:=fun k ok hk hl e he hb=>by
  have hlt : k<ops.size:=(Array.getElem?_eq_some_iff.1 hk).1
  have:=List.all_eq_true.1 h k (List.mem_range.2 hlt)
  rw [hl,hk] at this
  simp only [Bool.not_true,Bool.false_or] at this
  have:=List.all_eq_true.1 this e (by simpa using he)
  rw [hb] at this
  simpa using this
theorem wpAnyT_take3 {i d : Nat} {oi : Oper} {v : Value} {fuel : Nat} {listed : Array Bool} {a : Act} {w : World} (hi : ops[i]? = some oi) (hd : oi.dst=some d)
    (hs : Region.noSelect ops=true) (hf : Region.free md ops listed i=true) (hr : (Region.ready md ops listed).contains i=true) (hw : waitT3 md ops T i=true) (hc : clsB md ops listed=true)
    (hQ : ∀ c a w,Q (.panic c) (a.put oi.dst v) w→Q (.panic c) a w) (hy : YieldsIf P ops S oi v a) (hS : S w)
    (h : wpAnyT P md ops Q S T fuel (listed.setIfInBounds i true) { a with tmps:=a.tmps.setIfInBounds d v } w) : wpAnyT P md ops Q S T (fuel+1) listed a w :=
  wpAnyT_first3 hi (Region.noSelect_spec hs) (waitT3_spec hw) hQ fuel listed a w (clsB_spec hc) (Region.free_spec hi hf) (by simpa using hr) hy hS (by rw [hd]; exact h)
end
end Go.Proofs.Ytlbihfbeamlacaa
