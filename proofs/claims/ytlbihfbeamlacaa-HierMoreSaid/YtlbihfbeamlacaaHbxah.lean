/- The plain law of the net while it is contracted: a map's entries, the neighbours of each node. -/
import Derived.Test.YtlbihfbeamlacaaHbxag
set_option linter.unusedSimpArgs false
set_option linter.unusedVariables false
set_option maxRecDepth 100000
set_option maxHeartbeats 6400000
namespace Go.Proofs.Ytlbihfbeamlacaa
open Go.RowKit
/-- No key twice. -/
def KeyD (l : List ED) : Prop:=l.Pairwise fun a b=>¬ (a.f=b.f∧a.t=b.t)
theorem KeyD.lk : ∀ {l : List ED},KeyD l→∀ {x : ED},x ∈ l→lkE l x.f x.t=some x
  | [],_,x,hx=>by cases hx
  | y :: l,h,x,hx=>by
    obtain ⟨h1,h2⟩:=List.pairwise_cons.1 h
    rw [lkE_cons]
    rcases List.mem_cons.1 hx with rfl | hx
    · rw [if_pos (keyE_iff.2 ⟨rfl,rfl⟩)]
    · rw [if_neg (nk (h1 x hx))]
      exact KeyD.lk h2 hx
theorem lkE_snoc {e : ED} {f t : Int} : ∀ {l : List ED},lkE l e.f e.t=none→lkE (l ++ [e]) f t=if e.f=f∧e.t=t then some e else lkE l f t
  | [],_=>by
    rw [List.nil_append,lkE_cons]
    by_cases he : e.f=f∧e.t=t
    · rw [if_pos (keyE_iff.2 he),if_pos he]
    · rw [if_neg (nk he),if_neg he]
  | x :: l,h=>by
    rw [lkE_cons] at h
    have hx : ¬ (x.f=e.f∧x.t=e.t):=fun hc=>by rw [if_pos (keyE_iff.2 hc)] at h; cases h
    rw [if_neg (nk hx)] at h
    rw [List.cons_append,lkE_cons,lkE_cons,lkE_snoc h]
    by_cases he : e.f=f∧e.t=t
    · rw [if_pos he,if_neg (nk (fun hk=>hx ⟨hk.1.trans he.1.symm,hk.2.trans he.2.symm⟩)),if_pos he]
    · rw [if_neg he,if_neg he]
theorem KeyD.snoc {l : List ED} {e : ED} (h : KeyD l) (hn : lkE l e.f e.t=none) : KeyD (l ++ [e]):=by
  refine List.pairwise_append.2 ⟨h,List.pairwise_singleton _ _,fun a ha b hb=>?_⟩
  rw [List.mem_singleton.1 hb]
  exact lkE_none hn a ha
theorem putE_at {e x : ED} : (if keyE x e.f e.t=true then e else x).f=x.f∧(if keyE x e.f e.t=true then e else x).t=x.t:=by
  split
  · rename_i h
    obtain ⟨h1,h2⟩:=keyE_iff.1 h
    exact ⟨h1.symm,h2.symm⟩
  · exact ⟨rfl,rfl⟩
theorem KeyD.put {l : List ED} (h : KeyD l) (e : ED) : KeyD (putE e l):=by
  unfold putE KeyD
  rw [List.pairwise_map]
  refine List.Pairwise.imp (fun {a b} hab=>?_) h
  rw [(putE_at (e:=e) (x:=a)).1,(putE_at (e:=e) (x:=a)).2,(putE_at (e:=e) (x:=b)).1,(putE_at (e:=e) (x:=b)).2]
  exact hab
theorem putE_mem {e x : ED} {l : List ED} (h : x ∈ putE e l) : x=e∨x ∈ l:=by
  unfold putE at h
  obtain ⟨y,hy,rfl⟩:=List.mem_map.1 h
  split
  · exact .inl rfl
  · exact .inr hy
theorem putE_len (e : ED) (l : List ED) : (putE e l).length=l.length:=by unfold putE; rw [List.length_map]
theorem lk_mem_iff {l : List ED} {f t : Int} : lkE l f t≠none↔∃ x,x ∈ l∧x.f=f∧x.t=t:=by
  constructor
  · intro h
    cases hx : lkE l f t with
    | none=>exact absurd hx h
    | some x=>exact ⟨x,lkE_mem hx,lkE_key hx⟩
  · rintro ⟨x,hx,rfl,rfl⟩ hc
    exact lkE_none hc x hx ⟨rfl,rfl⟩
/-- What the map holds behind add. -/
def addL (l : List ED) (e : ED) : List ED:=match lkE l e.f e.t with
  | some o=>if e.n<o.n then putE e l else l
  | none=>l ++ [e]
theorem addL_no {l : List ED} {e : ED} (h : lkE l e.f e.t=none) : addL l e=l ++ [e]:=by unfold addL; rw [h]
theorem addL_put {l : List ED} {e o : ED} (h : lkE l e.f e.t=some o) (hl : e.n<o.n) : addL l e=putE e l:=by unfold addL; rw [h]; exact if_pos hl
theorem addL_old {l : List ED} {e o : ED} (h : lkE l e.f e.t=some o) (hl : ¬ e.n<o.n) : addL l e=l:=by unfold addL; rw [h]; exact if_neg hl
theorem lkE_addL (l : List ED) (e : ED) (f t : Int) : lkE (addL l e) f t=if e.f=f∧e.t=t then some (addV (lkE l f t) e) else lkE l f t:=by
  unfold addL
  by_cases he : e.f=f∧e.t=t
  · obtain ⟨rfl,rfl⟩:=he
    rw [if_pos ⟨rfl,rfl⟩]
    cases h : lkE l e.f e.t with
    | none =>
      simp only
      rw [lkE_snoc h,if_pos ⟨rfl,rfl⟩]
      rfl
    | some o =>
      simp only [addV]
      split
      · rw [lkE_put,if_pos ⟨rfl,rfl⟩,h]; rfl
      · exact h
  · rw [if_neg he]
    cases h : lkE l e.f e.t with
    | none=>simp only; rw [lkE_snoc h,if_neg he]
    | some o =>
      simp only
      split
      · rw [lkE_put,if_neg he]
      · rfl
/-- The entries, and the neighbours of each node. -/
structure NIO (n : Nat) (l : List ED) (ins outs : List (List Int)) : Prop where
  key : KeyD l
  rng : ∀ x,x ∈ l→Ir n x.f∧Ir n x.t∧x.f≠x.t
  li : ins.length=n
  lo : outs.length=n
  i1 : ∀ (v : Nat) (s : List Int),ins[v]? = some s→s.Nodup∧∀ u,u ∈ s↔lkE l u v≠none
  o1 : ∀ (v : Nat) (s : List Int),outs[v]? = some s→s.Nodup∧∀ u,u ∈ s↔lkE l v u≠none
theorem rep_get {α : Type} {n i : Nat} {a b : α} (h : (List.replicate n a)[i]? = some b) : b=a:=by
  obtain ⟨hl,he⟩:=List.getElem?_eq_some_iff.1 h
  rw [List.getElem_replicate] at he
  exact he.symm
theorem NIO.nil (n : Nat) : NIO n [] (List.replicate n []) (List.replicate n []) :=
  ⟨.nil,fun x hx=>(nomatch hx),List.length_replicate,List.length_replicate,fun v s h=>(by rw [rep_get h]; exact ⟨.nil,fun u=>⟨fun hu=>(by cases hu),fun hu=>absurd rfl hu⟩⟩),fun v s h=>(by rw [rep_get h]; exact ⟨.nil,fun u=>⟨fun hu=>(by cases hu),fun hu=>absurd rfl hu⟩⟩)⟩
section
variable {n : Nat} {l : List ED} {ins outs : List (List Int)} {e : ED}
theorem nodup_end {s : List Int} {u : Int} (h : s.Nodup) (hu : u ∉ s) : (s ++ [u]).Nodup:=nodup_snoc h hu
theorem NIO.new (h : NIO n l ins outs) (hf : Ir n e.f) (ht : Ir n e.t) (hne : e.f≠e.t) (hno : lkE l e.f e.t=none) {a b : List Int} (ha : outs[e.f.toNat]? = some a) (hb : ins[e.t.toNat]? = some b) :
    NIO n (l ++ [e]) (ins.set e.t.toNat (b ++ [e.f])) (outs.set e.f.toNat (a ++ [e.t])):=by
  have hlk:=fun f t=>lkE_snoc (f:=f) (t:=t) hno
  have hfn : ((e.f.toNat : Nat) : Int)=e.f:=by unfold Ir at hf; omega
  have htn : ((e.t.toNat : Nat) : Int)=e.t:=by unfold Ir at ht; omega
  refine ⟨h.key.snoc hno,fun x hx=>?_,by rw [List.length_set]; exact h.li,by rw [List.length_set]; exact h.lo,fun v s hs=>?_,fun v s hs=>?_⟩
  · rcases List.mem_append.1 hx with hx | hx
    · exact h.rng x hx
    · rw [List.mem_singleton.1 hx]; exact ⟨hf,ht,hne⟩
  · rw [List.getElem?_set] at hs
    by_cases hv : e.t.toNat=v
    · rw [if_pos hv] at hs
      split at hs
      · injection hs with hs
        obtain ⟨h1,h2⟩:=h.i1 _ b hb
        subst hs hv
        refine ⟨nodup_end h1 (fun hc=>?_),fun u=>?_⟩
        · rw [h2,htn] at hc
          exact hc hno
        · rw [List.mem_append,List.mem_singleton,h2,hlk,htn]
          by_cases hu : u=e.f
          · subst hu
            rw [if_pos ⟨rfl,rfl⟩]
            simp
          · rw [if_neg (fun hc=>hu hc.1.symm)]
            simp [hu]
      · cases hs
    · rw [if_neg hv] at hs
      obtain ⟨h1,h2⟩:=h.i1 v s hs
      refine ⟨h1,fun u=>?_⟩
      rw [h2,hlk,if_neg (fun hc=>hv (by omega))]
  · rw [List.getElem?_set] at hs
    by_cases hv : e.f.toNat=v
    · rw [if_pos hv] at hs
      split at hs
      · injection hs with hs
        obtain ⟨h1,h2⟩:=h.o1 _ a ha
        subst hs hv
        refine ⟨nodup_end h1 (fun hc=>?_),fun u=>?_⟩
        · rw [h2,hfn] at hc
          exact hc hno
        · rw [List.mem_append,List.mem_singleton,h2,hlk,hfn]
          by_cases hu : u=e.t
          · subst hu
            rw [if_pos ⟨rfl,rfl⟩]
            simp
          · rw [if_neg (fun hc=>hu hc.2.symm)]
            simp [hu]
      · cases hs
    · rw [if_neg hv] at hs
      obtain ⟨h1,h2⟩:=h.o1 v s hs
      refine ⟨h1,fun u=>?_⟩
      rw [h2,hlk,if_neg (fun hc=>hv (by omega))]
theorem NIO.put (h : NIO n l ins outs) (hf : Ir n e.f) (ht : Ir n e.t) (hne : e.f≠e.t) : NIO n (putE e l) ins outs:=by
  have hlk : ∀ f t,lkE (putE e l) f t≠none↔lkE l f t≠none:=fun f t=>by
    rw [lkE_put]
    split
    · cases lkE l f t <;> simp
    · exact Iff.rfl
  refine ⟨h.key.put e,fun x hx=>?_,h.li,h.lo,fun v s hs=>⟨(h.i1 v s hs).1,fun u=>((h.i1 v s hs).2 u).trans (hlk u v).symm⟩,fun v s hs=>⟨(h.o1 v s hs).1,fun u=>((h.o1 v s hs).2 u).trans (hlk v u).symm⟩⟩
  rcases putE_mem hx with rfl | hx
  · exact ⟨hf,ht,hne⟩
  · exact h.rng x hx
theorem nodup_map_inj {α β : Type} {f : α→β} : ∀ {l : List α},l.Pairwise (fun a b=>f a≠f b)→(l.map f).Nodup:=fun h=>by
  unfold List.Nodup
  rw [List.pairwise_map]
  exact h
/-- At most n * n entries. -/
theorem NIO.len (h : NIO n l ins outs) : l.length≤n * n:=by
  have h1 : (l.map fun x=>x.f * (n : Int)+x.t).Nodup:=by
    refine nodup_map_inj (List.Pairwise.imp_of_mem (fun {a b} ha hb hab hc=>hab ?_) h.key)
    obtain ⟨a1,a2,_⟩:=h.rng a ha
    obtain ⟨b1,b2,_⟩:=h.rng b hb
    unfold Ir at a1 a2 b1 b2
    have hn : (0 : Int)<n:=by omega
    have e1 : a.f=b.f:=by
      have ea : (a.f * n+a.t) / n=a.f:=by rw [Int.add_comm,Int.add_mul_ediv_right _ _ (by omega),Int.ediv_eq_zero_of_lt a2.1 a2.2,Int.zero_add]
      have eb : (b.f * n+b.t) / n=b.f:=by rw [Int.add_comm,Int.add_mul_ediv_right _ _ (by omega),Int.ediv_eq_zero_of_lt b2.1 b2.2,Int.zero_add]
      rw [← ea,← eb,hc]
    refine ⟨e1, ?_⟩
    rw [e1] at hc
    omega
  have h2:=nodup_len (n * n) _ h1 (fun x hx=>by
    obtain ⟨a,ha,rfl⟩:=List.mem_map.1 hx
    obtain ⟨a1,a2,_⟩:=h.rng a ha
    unfold Ir at *
    have h3 : 0≤a.f * n:=Int.mul_nonneg a1.1 (by omega)
    have h4 : (a.f+1) * n≤(n : Int) * n:=Int.mul_le_mul_of_nonneg_right (by omega) (by omega)
    rw [Int.add_mul,Int.one_mul] at h4
    rw [Int.natCast_mul]
    omega)
  rw [List.length_map] at h2
  exact h2
end
/-- While a node is contracted (without an order of the entries). -/
structure CvQ (l : List ED) (rk : Int→Int) (v : Int) (P : Int→Int→Prop) (m : List ED) : Prop where
  yes : ∀ f t,P f t→lkE m f t=cvF (lkE l) rk v f t
  no : ∀ f t,¬ P f t→lkE m f t=lkE l f t
section
variable {l m : List ED} {rk : Int→Int} {v : Int} {P Q : Int→Int→Prop}
theorem CvQ.nil : CvQ l rk v (fun _ _=>False) l:=⟨fun _ _ h=>h.elim,fun _ _ _=>rfl⟩
theorem CvQ.to (h : CvQ l rk v P m) (hv : lkE l v v=none) (u : Int) : lkE m u v=lkE l u v:=by
  by_cases hp : P u v
  · rw [h.yes u v hp,cvF_to hv]
  · exact h.no u v hp
theorem CvQ.from_ (h : CvQ l rk v P m) (hv : lkE l v v=none) (w : Int) : lkE m v w=lkE l v w:=by
  by_cases hp : P v w
  · rw [h.yes v w hp,cvF_from hv]
  · exact h.no v w hp
theorem CvQ.cast (h : CvQ l rk v P m) (hPQ : ∀ f t,P f t↔Q f t) : CvQ l rk v Q m :=
  ⟨fun f t hq=>h.yes f t ((hPQ f t).2 hq),fun f t hq=>h.no f t fun hp=>hq ((hPQ f t).1 hp)⟩
theorem CvQ.skip (h : CvQ l rk v P m) {u w : Int} (hs : cvF (lkE l) rk v u w=lkE l u w) : CvQ l rk v (fun f t=>P f t∨(f=u∧t=w)) m:=by
  refine ⟨fun f t hp=>?_,fun f t hp=>h.no f t fun h'=>hp (.inl h')⟩
  by_cases hq : P f t
  · exact h.yes f t hq
  · rcases hp with hp | ⟨rfl,rfl⟩
    · exact absurd hp hq
    · rw [h.no _ _ hq,hs]
theorem CvQ.self_ (h : CvQ l rk v P m) {u : Int} (hu : lkE l u u=none) : CvQ l rk v (fun f t=>P f t∨(f=u∧t=u)) m:=by
  refine h.skip ?_
  unfold cvF
  split
  · rw [if_pos (.inl rfl)]
  · rfl
theorem CvQ.add (h : CvQ l rk v P m) {u w : Int} {a b : ED} (ha : lkE l u v=some a) (hb : lkE l v w=some b) (hc : ¬ (u=w∨rk u<rk v∨rk w<rk v)) (hn : ¬ P u w) : CvQ l rk v (fun f t=>P f t∨(f=u∧t=w)) (addL m ⟨u,w,a.n+b.n,v⟩):=by
  have hcv : cvF (lkE l) rk v u w=some (addV (lkE l u w) ⟨u,w,a.n+b.n,v⟩):=by
    unfold cvF
    rw [ha,hb]
    simp only
    rw [if_neg hc]
  refine ⟨fun f t hp=>?_,fun f t hp=>?_⟩
  · rw [lkE_addL]
    by_cases he : u=f∧w=t
    · obtain ⟨rfl,rfl⟩:=he
      rw [if_pos ⟨rfl,rfl⟩,h.no u w hn,hcv]
    · rw [if_neg he]
      rcases hp with hp | ⟨rfl,rfl⟩
      · exact h.yes f t hp
      · exact absurd ⟨rfl,rfl⟩ he
  · rw [lkE_addL,if_neg (fun he=>hp (.inr ⟨he.1.symm,he.2.symm⟩))]
    exact h.no f t fun h'=>hp (.inl h')
/-- When all pairs of neighbours that are not lower were gone over. -/
theorem CvQ.done {a b : List Int} (h : CvQ l rk v (fun f t=>f ∈ a∧t ∈ b) m) (ha : ∀ u,u ∈ a↔lkE l u v≠none∧¬ rk u<rk v) (hb : ∀ w,w ∈ b↔lkE l v w≠none∧¬ rk w<rk v) (f t : Int) : lkE m f t=cvF (lkE l) rk v f t:=by
  by_cases hp : f ∈ a∧t ∈ b
  · exact h.yes f t hp
  · rw [h.no f t hp]
    by_cases h1 : lkE l f v=none
    · unfold cvF; rw [h1]
    by_cases h2 : lkE l v t=none
    · unfold cvF
      rw [h2]
      split
      · rename_i hc; cases hc
      · rfl
    by_cases h3 : rk f<rk v
    · exact (cvF_lo (.inl h3)).symm
    by_cases h4 : rk t<rk v
    · exact (cvF_lo (.inr h4)).symm
    exact absurd ⟨(ha f).2 ⟨h1,h3⟩,(hb t).2 ⟨h2,h4⟩⟩ hp
end
/-- A sorted list of the entries is the one list. -/
theorem srt_of {l m : List ED} (hk : KeyD l) (hp : m.Perm l) (hs : m.Pairwise fun a b=>¬ ltE b a) : SrtE m:=by
  have hd : KeyD m:=(hp.symm.pairwise_iff (fun {a b} h hc=>h ⟨hc.1.symm,hc.2.symm⟩)).1 hk
  exact List.Pairwise.imp_of_mem (fun {a b} _ _ h=>ltE_tri h.1 (fun hc=>h.2 ⟨hc.1.symm,hc.2.symm⟩)) (List.Pairwise.and hs hd)
theorem perm_lk {l m : List ED} (hk : KeyD l) (hp : m.Perm l) (f t : Int) : lkE m f t=lkE l f t:=by
  have hd : KeyD m:=(hp.symm.pairwise_iff (fun {a b} h hc=>h ⟨hc.1.symm,hc.2.symm⟩)).1 hk
  cases h : lkE l f t with
  | none =>
    cases h2 : lkE m f t with
    | none=>rfl
    | some x=>exact absurd (lkE_key h2) (lkE_none h x (hp.mem_iff.1 (lkE_mem h2)))
  | some x =>
    obtain ⟨rfl,rfl⟩:=lkE_key h
    exact hd.lk (hp.mem_iff.2 (lkE_mem h))
end Go.Proofs.Ytlbihfbeamlacaa
