/- What Build answers is a right hierarchy; the place of a new entry. -/
import Derived.Test.YtlbihfbeamlacaaHbxbd
import Derived.Test.YtlbihfbeamlacaaHbxbh
set_option linter.unusedSimpArgs false
set_option linter.unusedVariables false
set_option maxRecDepth 100000
set_option maxHeartbeats 6400000
namespace Go.Proofs.Ytlbihfbeamlacaa
open Go.RowKit
theorem SrtE.keyD {l : List ED} (h : SrtE l) : KeyD l:=List.Pairwise.imp (fun {a b} hab hk=>by
  unfold ltE at hab
  omega) h
/-- Keys that differ, all of nodes: no more than there are pairs. -/
theorem keyD_len {n : Nat} {l : List ED} (h : KeyD l) (hr : ∀ e,e ∈ l→Ir n e.f∧Ir n e.t) : l.length≤n * n:=by
  have h1 : (l.map fun x=>x.f * (n : Int)+x.t).Nodup:=by
    refine nodup_map_inj (List.Pairwise.imp_of_mem (fun {a b} ha hb hab hc=>hab ?_) h)
    obtain ⟨a1,a2⟩:=hr a ha
    obtain ⟨b1,b2⟩:=hr b hb
    unfold Ir at a1 a2 b1 b2
    have hn : (0 : Int)<n:=by omega
    have e1 : a.f=b.f:=by
      have ea : (a.f * n+a.t) / n=a.f:=by rw [Int.add_comm,Int.add_mul_ediv_right _ _ (by omega),Int.ediv_eq_zero_of_lt a2.1 a2.2,Int.zero_add]
      have eb : (b.f * n+b.t) / n=b.f:=by rw [Int.add_comm,Int.add_mul_ediv_right _ _ (by omega),Int.ediv_eq_zero_of_lt b2.1 b2.2,Int.zero_add]
      rw [← ea,← eb,hc]
    refine ⟨e1, ?_⟩
    rw [e1] at hc
    omega
  have h2:=nodup_len (n * n) _ h1 (fun x hx=>by
    obtain ⟨a,ha,rfl⟩:=List.mem_map.1 hx
    obtain ⟨a1,a2⟩:=hr a ha
    unfold Ir at *
    have h3 : 0≤a.f * n:=Int.mul_nonneg a1.1 (by omega)
    have h4 : (a.f+1) * n≤(n : Int) * n:=Int.mul_le_mul_of_nonneg_right (by omega) (by omega)
    rw [Int.add_mul,Int.one_mul] at h4
    rw [Int.natCast_mul]
    omega)
  rw [List.length_map] at h2
  exact h2
/-- What Build answers is a right hierarchy. -/
theorem bld_right {n : Nat} {es : List ED} {R : List Int} (hg : GrD n es) (hR : RkOK n R) (h9 : n≤9) : HRt n es (tabK es n) R (bldL n es R):=by
  obtain ⟨h1,h2⟩:=build_ok hg hR
  have hk : KeyD (bldL n es R):=SrtE.keyD h1
  have hok : ∀ e,e ∈ bldL n es R→Ir n e.f∧Ir n e.t∧0≤e.n∧e.n≤1000000000000:=fun e he=>by
    have hl:=hk.lk he
    obtain ⟨_,_,h3,h4,_⟩:=h2.inv.key _ _ _ hl
    have h5:=h2.inv.ge _ _ _ hl
    have h6:=h2.inv.top _ _ _ hl
    have h7 : ∀ j : Fin 10,(1000000 : Int) * 2 ^ (j : Nat)≤512000000:=by decide
    have h8:=h7 ⟨n,by omega⟩
    simp only at h8
    exact ⟨h3,h4,by omega,by omega⟩
  refine ⟨hR,h9,hk,hok, ?_,h2⟩
  have h3:=keyD_len hk (fun e he=>⟨(hok e he).1,(hok e he).2.1⟩)
  have h4 : n * n≤9 * 9:=Nat.mul_le_mul h9 h9
  omega
/-- Where a new entry is put. -/
theorem insE_at (e : ED) : ∀ l : List ED,insE e l=l.take (l.takeWhile fun x=>decide (ltE x e)).length ++ e :: l.drop (l.takeWhile fun x=>decide (ltE x e)).length
  | []=>rfl
  | x :: l=>by
    unfold insE
    by_cases h : ltE x e
    · rw [if_pos h,List.takeWhile_cons,if_pos (decide_eq_true h),List.length_cons,List.take_succ_cons,List.drop_succ_cons,List.cons_append,← insE_at e l]
    · rw [if_neg h,List.takeWhile_cons,if_neg (by simpa using h)]
      rfl
theorem putE_none {e : ED} : ∀ {l : List ED},(∀ x,x ∈ l→¬ (x.f=e.f∧x.t=e.t))→putE e l=l
  | [],_=>rfl
  | x :: l,h=>by
    have ih:=putE_none (e:=e) (l:=l) (fun y hy=>h y (List.mem_cons_of_mem _ hy))
    show (if keyE x e.f e.t=true then e else x) :: putE e l=x :: l
    rw [ih,if_neg (nk (h x (List.mem_cons_self ..)))]
theorem putE_set {e : ED} : ∀ {l : List ED} {k : Nat} {x : ED},KeyD l→l[k]? = some x→x.f=e.f→x.t=e.t→putE e l=l.set k e
  | [],k,x,_,h,_,_=>by simp at h
  | y :: l,k,x,hd,h,hf,ht=>by
    obtain ⟨h1,h2⟩:=List.pairwise_cons.1 hd
    show (if keyE y e.f e.t=true then e else y) :: putE e l=(y :: l).set k e
    rcases k with _ | k
    · have hxy : y=x:=by simpa using h
      subst hxy
      rw [if_pos (keyE_iff.2 ⟨hf,ht⟩),putE_none (fun z hz hc=>h1 z hz ⟨hf.trans hc.1.symm,ht.trans hc.2.symm⟩)]
      rfl
    · have hl : l[k]? = some x:=by simpa using h
      have hm:=List.mem_of_getElem? hl
      rw [if_neg (nk (fun hc=>h1 x hm ⟨hc.1.trans hf.symm,hc.2.trans ht.symm⟩)),putE_set h2 hl hf ht]
      rfl
/-- What the reference's At finds. -/
theorem at_lk (l : List ED) (f t : Int) : (idxP (fun x : ED=>decide (x.f=f) && decide (x.t=t)) 0 l = -1∧lkE l f t=none)∨∃ (k : Nat) (x : ED),idxP (fun x : ED=>decide (x.f=f) && decide (x.t=t)) 0 l=(k : Int)∧l[k]? = some x∧lkE l f t=some x∧x.f=f∧x.t=t:=by
  have hp : ∀ x : ED,(decide (x.f=f) && decide (x.t=t))=keyE x f t:=fun x=>rfl
  rcases idxP_ge (fun x : ED=>decide (x.f=f) && decide (x.t=t)) l 0 with ⟨h1,h2⟩ | ⟨j,x,h1,h2,h3,h4⟩
  · refine .inl ⟨h1, ?_⟩
    unfold lkE
    exact List.find?_eq_none.2 (fun x hx=>by have:=h2 x hx; rw [hp] at this; rw [this]; simp)
  · rw [Nat.zero_add] at h1
    rw [hp] at h3
    refine .inr ⟨j,x,h1,h2, ?_,keyE_iff.1 h3⟩
    obtain ⟨hj,he⟩:=List.getElem?_eq_some_iff.1 h2
    have hs : l=l.take j ++ x :: l.drop (j+1):=by
      rw [← he,← List.drop_eq_getElem_cons hj,List.take_append_drop]
    unfold lkE
    rw [hs,List.find?_append,List.find?_eq_none.2 (fun y hy=>by have:=h4 y hy; rw [hp] at this; rw [this]; simp),List.find?_cons,h3]
    rfl
end Go.Proofs.Ytlbihfbeamlacaa
