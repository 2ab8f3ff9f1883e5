/- The plain law of climbing: the steps of each node, and what relaxing them in the order of ranks leaves. -/
import Derived.Test.YtlbihfbeamlacaaHbxah
set_option linter.unusedSimpArgs false
set_option linter.unusedVariables false
set_option maxRecDepth 100000
set_option maxHeartbeats 6400000
namespace Go.Proofs.Ytlbihfbeamlacaa
open Go.RowKit
/-- What a list of numbers holds at a node. -/
def atF (l : List Int) (v : Int) : Int:=if v<0 then -1 else (l[v.toNat]?).getD (-1)
theorem atF_set {l : List Int} {n : Nat} (hl : l.length=n) {u v x : Int} (hu : Ir n u) (hv : Ir n v) : atF (l.set u.toNat x) v=if u=v then x else atF l v:=by
  unfold atF Ir at *
  rw [List.getElem?_set,if_neg (by omega),if_neg (show ¬ v<0 by omega)]
  by_cases h : u=v
  · subst h
    rw [if_pos rfl,if_pos (by omega),if_pos rfl]; rfl
  · rw [if_neg (by omega),if_neg h]
/-- At every number, not nodes alone. -/
theorem atF_setA {l : List Int} {n : Nat} (hl : l.length=n) {u x : Int} (hu : Ir n u) : atF (l.set u.toNat x)=fun v=>if u=v then x else atF l v:=by
  funext v
  by_cases hv : Ir n v
  · exact atF_set hl hu hv
  · have hne : u≠v:=fun e=>hv (e ▸ hu)
    rw [if_neg hne]
    unfold atF Ir at *
    by_cases h0 : v<0
    · rw [if_pos h0,if_pos h0]
    · rw [if_neg h0,if_neg h0,List.getElem?_eq_none (by simp; omega),List.getElem?_eq_none (by omega)]
theorem atF_out {l : List Int} {n : Nat} (hl : l.length=n) {v : Int} (hv : ¬ Ir n v) : atF l v = -1:=by
  unfold atF Ir at *
  by_cases h0 : v<0
  · rw [if_pos h0]
  · rw [if_neg h0,List.getElem?_eq_none (by omega)]; rfl
theorem atF_rep {n : Nat} : atF (List.replicate n (-1))=fun _=>-1:=by
  funext v
  unfold atF
  rw [List.getElem?_replicate]
  split
  · rfl
  · split <;> rfl
theorem atF_get {l : List Int} {v : Int} {h : v.toNat<l.length} (h0 : 0≤v) : atF l v=l[v.toNat]:=by unfold atF; rw [if_neg (by omega),List.getElem?_eq_getElem h]; rfl
def flpE (back : Bool) (e : ED) : ED:=if back=true then ⟨e.t,e.f,e.n,e.v⟩ else e
def dirF (back : Bool) (F : Int→Int→Option ED) : Int→Int→Option ED:=if back=true then flipF F else F
/-- The edges up from a node. -/
def stpL (back : Bool) (rk : Int→Int) (l : List ED) (v : Int) : List ED:=(l.map (flpE back)).filter fun e=>decide (e.f=v) && decide (rk e.f<rk e.t)
theorem stpL_snoc (back : Bool) (rk : Int→Int) (l : List ED) (e : ED) (v : Int) : stpL back rk (l ++ [e]) v=if (flpE back e).f=v∧rk (flpE back e).f<rk (flpE back e).t then stpL back rk l v ++ [flpE back e] else stpL back rk l v:=by
  unfold stpL
  rw [List.map_append,List.filter_append,List.map_cons,List.map_nil,List.filter_cons,List.filter_nil]
  by_cases h : (flpE back e).f=v∧rk (flpE back e).f<rk (flpE back e).t
  · rw [if_pos h,if_pos (by rw [Bool.and_eq_true,decide_eq_true_eq,decide_eq_true_eq]; exact h)]
  · rw [if_neg h,if_neg (by rw [Bool.and_eq_true,decide_eq_true_eq,decide_eq_true_eq]; exact h),List.append_nil]
theorem stpL_mem {back : Bool} {rk : Int→Int} {l : List ED} {v : Int} {e : ED} (hk : KeyD l) (h : e ∈ stpL back rk l v) : e.f=v∧rk v<rk e.t∧∃ x,dirF back (lkE l) v e.t=some x∧x.n=e.n∧x ∈ l:=by
  unfold stpL at h
  obtain ⟨h1,h2⟩:=List.mem_filter.1 h
  rw [Bool.and_eq_true,decide_eq_true_eq,decide_eq_true_eq] at h2
  obtain ⟨x,hx,rfl⟩:=List.mem_map.1 h1
  obtain ⟨rfl,h4⟩:=h2
  refine ⟨rfl,h4,x, ?_, ?_,hx⟩
  · unfold dirF flpE
    cases back
    · exact hk.lk hx
    · exact hk.lk hx
  · unfold flpE; cases back <;> rfl
theorem stpL_has {back : Bool} {rk : Int→Int} {l : List ED} {v t : Int} {x : ED} (h : dirF back (lkE l) v t=some x) (hr : rk v<rk t) : ∃ e,e ∈ stpL back rk l v∧e.t=t∧e.n=x.n:=by
  refine ⟨flpE back x, ?_, ?_, ?_⟩
  · unfold stpL
    cases back
    · have h' : lkE l v t=some x:=h
      obtain ⟨h1,h2⟩:=lkE_key h'
      exact List.mem_filter.2 ⟨List.mem_map_of_mem (lkE_mem h'),by simp [flpE,h1,h2,hr]⟩
    · have h' : lkE l t v=some x:=h
      obtain ⟨h1,h2⟩:=lkE_key h'
      exact List.mem_filter.2 ⟨List.mem_map_of_mem (lkE_mem h'),by simp [flpE,h1,h2,hr]⟩
  · cases back
    · exact (lkE_key (show lkE l v t=some x from h)).2
    · exact (lkE_key (show lkE l t v=some x from h)).1
  · unfold flpE; cases back <;> rfl
/-- While one climbs: nodes of rank less than k were gone over. -/
structure UpI (n : Nat) (F : Int→Int→Option ED) (rk : Int→Int) (M s : Int) (k : Nat) (d b : Int→Int) : Prop where
  d0 : d s=0
  b0 : b s = -1
  low : ∀ v,Ir n v→-1≤d v
  no : ∀ v,Ir n v→d v<0→b v = -1
  up : ∀ v,Ir n v→0≤d v→rk s≤rk v
  top : ∀ v,Ir n v→d v≤rk v * M
  bef : ∀ v,Ir n v→0≤d v→v=s∨∃ x,Ir n (b v)∧F (b v) v=some x∧rk (b v)<rk v∧rk (b v)<k∧0≤d (b v)∧d v=d (b v)+x.n
  all : ∀ u w x,Ir n u→F u w=some x→rk u<rk w→rk u<k→0≤d u→0≤d w∧d w≤d u+x.n
/-- While a node is gone over. -/
structure UpJ (n : Nat) (F : Int→Int→Option ED) (rk : Int→Int) (M s : Int) (k : Nat) (v : Int) (out : List ED) (d b : Int→Int) : Prop where
  i : ∀ u,Ir n u→0≤d u→rk s≤rk u
  d0 : d s=0
  b0 : b s = -1
  low : ∀ u,Ir n u→-1≤d u
  no : ∀ u,Ir n u→d u<0→b u = -1
  top : ∀ u,Ir n u→d u≤rk u * M
  bef : ∀ u,Ir n u→0≤d u→u=s∨∃ x,Ir n (b u)∧F (b u) u=some x∧rk (b u)<rk u∧rk (b u)<k+1∧0≤d (b u)∧d u=d (b u)+x.n
  all : ∀ u w x,Ir n u→F u w=some x→rk u<rk w→rk u<k→0≤d u→0≤d w∧d w≤d u+x.n
  now : ∀ e,e ∈ out→0≤d e.t∧d e.t≤d v+e.n
section
variable {n : Nat} {F : Int→Int→Option ED} {rk : Int→Int} {M s : Int} {k : Nat} {d b : Int→Int}
theorem UpI.into (h : UpI n F rk M s k d b) (v : Int) : UpJ n F rk M s k v [] d b :=
  ⟨h.up,h.d0,h.b0,h.low,h.no,h.top,fun u hu h0=>by
    rcases h.bef u hu h0 with h1 | ⟨x,h1,h2,h3,h4,h5⟩
    · exact .inl h1
    · exact .inr ⟨x,h1,h2,h3,by omega,h5⟩,h.all,fun e he=>by cases he⟩
theorem UpJ.stay {v : Int} {out : List ED} {e : ED} (h : UpJ n F rk M s k v out d b) (h0 : ¬ (d e.t<0∨d v+e.n<d e.t)) : UpJ n F rk M s k v (out ++ [e]) d b :=
  ⟨h.i,h.d0,h.b0,h.low,h.no,h.top,h.bef,h.all,fun x hx=>by
    rcases List.mem_append.1 hx with hx | hx
    · exact h.now x hx
    · rw [List.mem_singleton.1 hx]; omega⟩
def updF (f : Int→Int) (u x : Int) (v : Int) : Int:=if u=v then x else f v
theorem UpJ.relax {v : Int} {out : List ED} {e x : ED} (h : UpJ n F rk M s k v out d b) (hv : Ir n v) (hrv : rk v=k) (hdv : 0≤d v) (het : Ir n e.t) (hx : F v e.t=some x) (hxn : x.n=e.n) (hr : rk v<rk e.t) (hn0 : 0≤e.n) (hnM : e.n≤M)
    (h0 : d e.t<0∨d v+e.n<d e.t) : UpJ n F rk M s k v (out ++ [e]) (updF d e.t (d v+e.n)) (updF b e.t v):=by
  have hs : e.t≠s:=fun hc=>by have:=h.i v hv hdv; rw [hc] at hr; omega
  have hvt : e.t≠v:=fun hc=>by rw [hc] at hr; omega
  have hdv' : updF d e.t (d v+e.n) v=d v:=if_neg hvt
  have hM : 0≤M:=by omega
  have hsv:=h.i v hv hdv
  refine ⟨fun u hu hd=>?_,by unfold updF; rw [if_neg hs]; exact h.d0,by unfold updF; rw [if_neg hs]; exact h.b0,fun u hu=>?_,fun u hu hd=>?_,fun u hu=>?_,fun u hu hd=>?_,fun u w y hu hF hr2 hk hd=>?_,fun y hy=>?_⟩
  · unfold updF at hd
    split at hd
    · rename_i hc; rw [← hc]; omega
    · exact h.i u hu hd
  · unfold updF
    split
    · omega
    · exact h.low u hu
  · unfold updF at hd ⊢
    split at hd
    · omega
    · rename_i hc; rw [if_neg hc]; exact h.no u hu hd
  · unfold updF
    split
    · rename_i hc
      rw [← hc]
      have h1:=h.top v hv
      have h2 : (rk v+1) * M≤rk e.t * M:=Int.mul_le_mul_of_nonneg_right (by omega) hM
      rw [Int.add_mul,Int.one_mul] at h2
      omega
    · exact h.top u hu
  · by_cases hc : e.t=u
    · right
      have h1 : updF b e.t v u=v:=if_pos hc
      have h2 : updF d e.t (d v+e.n) u=d v+e.n:=if_pos hc
      rw [h1,h2,hdv']
      exact ⟨x,hv,hc ▸ hx,hc ▸ hr,by omega,hdv,by omega⟩
    · have h1 : updF b e.t v u=b u:=if_neg hc
      have h2 : updF d e.t (d v+e.n) u=d u:=if_neg hc
      rw [h2] at hd
      rcases h.bef u hu hd with h3 | ⟨y,h3,h4,h5,h6,h7,h8⟩
      · exact .inl h3
      · right
        have h9 : updF d e.t (d v+e.n) (b u)=d (b u):=if_neg (fun hc2=>by rw [← hc2] at h6; omega)
        rw [h1,h2,h9]
        exact ⟨y,h3,h4,h5,h6,h7,h8⟩
  · have h1 : updF d e.t (d v+e.n) u=d u:=if_neg (fun hc=>by rw [← hc] at hk; omega)
    rw [h1] at hd ⊢
    obtain ⟨h2,h3⟩:=h.all u w y hu hF hr2 hk hd
    unfold updF
    split
    · rename_i hc; rw [← hc] at h2 h3; omega
    · exact ⟨h2,h3⟩
  · rw [hdv']
    rcases List.mem_append.1 hy with hy | hy
    · obtain ⟨h2,h3⟩:=h.now y hy
      unfold updF
      split
      · rename_i hc; rw [← hc] at h2 h3; omega
      · exact ⟨h2,h3⟩
    · rw [List.mem_singleton.1 hy]
      unfold updF
      rw [if_pos rfl]
      omega
theorem UpJ.out {v : Int} {out : List ED} (h : UpJ n F rk M s k v out d b) (hv : Ir n v) (hrv : rk v=k) (inj : ∀ a c,Ir n a→Ir n c→rk a=rk c→a=c) (hall : ∀ t x,F v t=some x→rk v<rk t→∃ e,e ∈ out∧e.t=t∧e.n=x.n) : UpI n F rk M s (k+1) d b :=
  ⟨h.d0,h.b0,h.low,h.no,h.i,h.top,fun u hu h0=>by
    rcases h.bef u hu h0 with h1 | ⟨x,h1,h2,h3,h4,h5⟩
    · exact .inl h1
    · exact .inr ⟨x,h1,h2,h3,by omega,h5⟩,fun u w x hu hF hr hk hd=>by
    by_cases h1 : rk u<k
    · exact h.all u w x hu hF hr h1 hd
    · have h2 : u=v:=inj u v hu hv (by omega)
      subst h2
      obtain ⟨e,he,h3,h4⟩:=hall w x hF hr
      have h5:=h.now e he
      rw [h3,h4] at h5
      exact h5⟩
theorem UpI.skip {v : Int} (h : UpI n F rk M s k d b) (hv : Ir n v) (hrv : rk v=k) (hd : d v<0) (inj : ∀ a c,Ir n a→Ir n c→rk a=rk c→a=c) : UpI n F rk M s (k+1) d b :=
  ⟨h.d0,h.b0,h.low,h.no,h.up,h.top,fun u hu h0=>by
    rcases h.bef u hu h0 with h1 | ⟨x,h1,h2,h3,h4,h5⟩
    · exact .inl h1
    · exact .inr ⟨x,h1,h2,h3,by omega,h5⟩,fun u w x hu hF hr hk h0=>by
    by_cases h1 : rk u<k
    · exact h.all u w x hu hF hr h1 h0
    · have h2 : u=v:=inj u v hu hv (by omega)
      subst h2
      omega⟩
theorem UpI.done (h : UpI n F rk M s n d b) (hrk : ∀ v,Ir n v→0≤rk v∧rk v<n) (hF : ∀ f t x,F f t=some x→Ir n f∧Ir n t) (hlow : ∀ v,¬ Ir n v→d v = -1) : Climb n F rk s d b where
  d0:=h.d0
  b0:=h.b0
  low v:=by
    by_cases hv : Ir n v
    · exact h.low v hv
    · rw [hlow v hv]; exact Int.le_refl _
  no:=h.no
  bef v hv h0:=by
    rcases h.bef v hv h0 with h1 | ⟨x,h1,h2,h3,_,h5,h6⟩
    · exact .inl h1
    · exact .inr ⟨x,h1,h2,h3,h5,h6⟩
  all u w x hu hx hr h0:=h.all u w x hu hx hr (hrk u hu).2 h0
/-- The start: only the node itself is reached. -/
theorem UpI.start (hM : 0≤M) (hs : Ir n s) (hrk : ∀ v,Ir n v→0≤rk v) (hk : (k : Int)=rk s) : UpI n F rk M s k (updF (fun _=>-1) s 0) (fun _=>-1):=by
  have hns : ∀ v,0≤updF (fun _=>-1) s 0 v→s=v:=fun v hv=>by
    unfold updF at hv
    dsimp only at hv
    split at hv
    · assumption
    · omega
  refine ⟨if_pos rfl,rfl,fun v _=>?_,fun _ _ _=>rfl,fun v _ hv=>by rw [hns v hv]; exact Int.le_refl _,fun v hv=>?_,fun v _ hv=>.inl (hns v hv).symm,fun u w x _ _ _ hu hd=>?_⟩
  · unfold updF
    dsimp only
    split <;> omega
  · have : 0≤rk v * M:=Int.mul_nonneg (hrk v hv) hM
    unfold updF
    dsimp only
    split <;> omega
  · rw [hns u hd] at hk
    omega
end
end Go.Proofs.Ytlbihfbeamlacaa
