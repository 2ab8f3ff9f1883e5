/- The plain law of a contraction hierarchy: edges, contraction, what it keeps. -/
import Derived.Test.YtlbihfbeamlacaaHbxab
set_option linter.unusedSimpArgs false
set_option linter.unusedVariables false
set_option maxRecDepth 100000
set_option maxHeartbeats 6400000
namespace Go.Proofs.Ytlbihfbeamlacaa
open Go.RowKit
def keyE (e : ED) (f t : Int) : Bool:=decide (e.f=f) && decide (e.t=t)
theorem keyE_iff {e : ED} {f t : Int} : keyE e f t=true↔e.f=f∧e.t=t:=by unfold keyE; rw [Bool.and_eq_true,decide_eq_true_eq,decide_eq_true_eq]
theorem keyE_no {e : ED} {f t : Int} (h : ¬ (e.f=f∧e.t=t)) : keyE e f t=false:=by
  cases hk : keyE e f t
  · rfl
  · exact absurd (keyE_iff.1 hk) h
theorem nk {e : ED} {f t : Int} (h : ¬ (e.f=f∧e.t=t)) : ¬ keyE e f t=true:=fun h'=>h (keyE_iff.1 h')
def lkE (l : List ED) (f t : Int) : Option ED:=l.find? (fun e=>keyE e f t)
theorem lkE_key {l : List ED} {f t : Int} {x : ED} (h : lkE l f t=some x) : x.f=f∧x.t=t:=keyE_iff.1 (List.find?_some (p:=fun e=>keyE e f t) h)
theorem lkE_mem {l : List ED} {f t : Int} {x : ED} (h : lkE l f t=some x) : x ∈ l:=List.mem_of_find?_eq_some h
theorem lkE_cons (x : ED) (l : List ED) (f t : Int) : lkE (x :: l) f t=if keyE x f t=true then some x else lkE l f t:=by
  unfold lkE
  rw [List.find?_cons]
  cases keyE x f t <;> rfl
theorem lkE_none {l : List ED} {f t : Int} (h : lkE l f t=none) : ∀ x,x ∈ l→¬ (x.f=f∧x.t=t):=fun x hx hk=>by
  have:=List.find?_eq_none.1 h x hx
  exact this (keyE_iff.2 hk)
def ltE (a b : ED) : Prop:=a.f<b.f∨(a.f=b.f∧a.t<b.t)
instance (a b : ED) : Decidable (ltE a b):=by unfold ltE; infer_instance
def insE (e : ED) : List ED→List ED
  | []=>[e]
  | x :: l=>if ltE x e then x :: insE e l else e :: x :: l
def putE (e : ED) (l : List ED) : List ED:=l.map fun x=>if keyE x e.f e.t=true then e else x
/-- What lies at a key when an edge is added. -/
def addV (o : Option ED) (e : ED) : ED:=match o with
  | some x=>if e.n<x.n then e else x
  | none=>e
/-- add: a new edge, or a shorter one in the place of the old one. -/
def addE (l : List ED) (e : ED) : List ED:=match lkE l e.f e.t with
  | some o=>if e.n<o.n then putE e l else l
  | none=>insE e l
theorem lkE_put {e : ED} {f t : Int} : ∀ {l : List ED},lkE (putE e l) f t=if e.f=f∧e.t=t then (lkE l f t).map (fun _=>e) else lkE l f t
  | []=>by simp [putE,lkE]
  | x :: l=>by
    have ih:=lkE_put (e:=e) (f:=f) (t:=t) (l:=l)
    have hc : putE e (x :: l)=(if keyE x e.f e.t=true then e else x) :: putE e l:=rfl
    rw [hc,lkE_cons,lkE_cons,ih]
    by_cases hx : x.f=e.f∧x.t=e.t
    · rw [if_pos (keyE_iff.2 hx)]
      by_cases he : e.f=f∧e.t=t
      · rw [if_pos (keyE_iff.2 he),if_pos he,if_pos (keyE_iff.2 ⟨hx.1.trans he.1,hx.2.trans he.2⟩)]
        rfl
      · rw [if_neg (nk he),if_neg he,if_neg he,if_neg (nk (fun h=>he ⟨hx.1.symm.trans h.1,hx.2.symm.trans h.2⟩))]
    · rw [if_neg (nk hx)]
      by_cases hk : x.f=f∧x.t=t
      · rw [if_pos (keyE_iff.2 hk),if_neg (fun he=>hx ⟨hk.1.trans he.1.symm,hk.2.trans he.2.symm⟩)]
        rw [if_pos (keyE_iff.2 hk)]
      · by_cases he : e.f=f∧e.t=t
        · simp only [if_neg (nk hk)]
        · simp only [if_neg he,if_neg (nk hk)]
theorem lkE_ins {e : ED} {f t : Int} : ∀ {l : List ED},lkE l e.f e.t=none→lkE (insE e l) f t=if e.f=f∧e.t=t then some e else lkE l f t
  | [],_=>by
    unfold insE
    rw [lkE_cons]
    by_cases he : e.f=f∧e.t=t
    · rw [if_pos (keyE_iff.2 he),if_pos he]
    · rw [if_neg (nk he),if_neg he]
  | x :: l,h=>by
    rw [lkE_cons] at h
    have hx : ¬ (x.f=e.f∧x.t=e.t):=fun hc=>by rw [if_pos (keyE_iff.2 hc)] at h; cases h
    rw [if_neg (nk hx)] at h
    unfold insE
    split
    · rw [lkE_cons,lkE_cons,lkE_ins h]
      by_cases he : e.f=f∧e.t=t
      · rw [if_pos he,if_neg (nk (fun hk=>hx ⟨hk.1.trans he.1.symm,hk.2.trans he.2.symm⟩)),if_pos he]
      · rw [if_neg he,if_neg he]
    · rw [lkE_cons]
      by_cases he : e.f=f∧e.t=t
      · rw [if_pos (keyE_iff.2 he),if_pos he]
      · rw [if_neg (nk he),if_neg he]
/-- What is found behind an add. -/
theorem lkE_add (l : List ED) (e : ED) (f t : Int) : lkE (addE l e) f t=if e.f=f∧e.t=t then some (addV (lkE l f t) e) else lkE l f t:=by
  unfold addE
  by_cases he : e.f=f∧e.t=t
  · obtain ⟨rfl,rfl⟩:=he
    rw [if_pos ⟨rfl,rfl⟩]
    cases h : lkE l e.f e.t with
    | none =>
      simp only
      rw [lkE_ins h,if_pos ⟨rfl,rfl⟩]
      rfl
    | some o =>
      simp only [addV]
      split
      · rw [lkE_put,if_pos ⟨rfl,rfl⟩,h]; rfl
      · exact h
  · rw [if_neg he]
    cases h : lkE l e.f e.t with
    | none=>simp only; rw [lkE_ins h,if_neg he]
    | some o =>
      simp only
      split
      · rw [lkE_put,if_neg he]
      · rfl
def SrtE (l : List ED) : Prop:=l.Pairwise ltE
theorem ltE_trans {a b c : ED} (h : ltE a b) (k : ltE b c) : ltE a c:=by unfold ltE at *; omega
theorem ltE_irr {a b : ED} (h : ltE a b) : ¬ (a.f=b.f∧a.t=b.t):=by unfold ltE at h; omega
theorem ltE_asym {a b : ED} (h : ltE a b) : ¬ ltE b a:=by unfold ltE at *; omega
theorem ltE_tri {a b : ED} (h : ¬ ltE a b) (k : ¬ (a.f=b.f∧a.t=b.t)) : ltE b a:=by unfold ltE at *; omega
theorem insE_mem {e x : ED} : ∀ {l : List ED},x ∈ insE e l→x=e∨x ∈ l
  | [],h=>.inl (List.mem_singleton.1 h)
  | y :: l,h=>by
    unfold insE at h
    split at h
    · rcases List.mem_cons.1 h with rfl | h
      · exact .inr (List.mem_cons_self ..)
      · rcases insE_mem h with h | h
        · exact .inl h
        · exact .inr (List.mem_cons_of_mem _ h)
    · rcases List.mem_cons.1 h with rfl | h
      · exact .inl rfl
      · exact .inr h
theorem insE_srt {e : ED} : ∀ {l : List ED},SrtE l→lkE l e.f e.t=none→SrtE (insE e l)
  | [],_,_=>List.pairwise_singleton _ _
  | y :: l,h,hn=>by
    have h1:=List.pairwise_cons.1 h
    have hy:=lkE_none hn y (List.mem_cons_self ..)
    have hn2 : lkE l e.f e.t=none:=by
      rw [lkE_cons,if_neg (nk hy)] at hn
      exact hn
    unfold insE
    split
    · rename_i hlt
      refine List.pairwise_cons.2 ⟨fun z hz=>?_,insE_srt h1.2 hn2⟩
      rcases insE_mem hz with rfl | hz
      · exact hlt
      · exact h1.1 z hz
    · rename_i hlt
      have hey:=ltE_tri hlt hy
      refine List.pairwise_cons.2 ⟨fun z hz=>?_,h⟩
      rcases List.mem_cons.1 hz with rfl | hz
      · exact hey
      · exact ltE_trans hey (h1.1 z hz)
theorem putE_srt {e : ED} {l : List ED} (h : SrtE l) : SrtE (putE e l):=by
  unfold putE SrtE
  rw [List.pairwise_map]
  refine h.imp fun {a b} hab=>?_
  have hk : ∀ x : ED,(if keyE x e.f e.t=true then e else x).f=x.f∧(if keyE x e.f e.t=true then e else x).t=x.t:=fun x=>by
    split
    · rename_i h; have:=keyE_iff.1 h; exact ⟨this.1.symm,this.2.symm⟩
    · exact ⟨rfl,rfl⟩
  have ha:=hk a
  have hb:=hk b
  unfold ltE at hab ⊢
  rw [ha.1,ha.2,hb.1,hb.2]
  exact hab
theorem addE_srt {l : List ED} (h : SrtE l) (e : ED) : SrtE (addE l e):=by
  unfold addE
  cases hk : lkE l e.f e.t with
  | none=>exact insE_srt h hk
  | some o =>
    simp only
    split
    · exact putE_srt h
    · exact h
theorem srt_lk {l : List ED} (h : SrtE l) {x : ED} (hx : x ∈ l) : lkE l x.f x.t=some x:=by
  induction l with
  | nil=>cases hx
  | cons y l ih =>
    have h1:=List.pairwise_cons.1 h
    rw [lkE_cons]
    rcases List.mem_cons.1 hx with rfl | hx
    · rw [if_pos (keyE_iff.2 ⟨rfl,rfl⟩)]
    · rw [if_neg (nk (ltE_irr (h1.1 x hx)))]
      exact ih h1.2 hx
/-- Sorted lists in which the same is found are equal. -/
theorem srt_ext : ∀ {l m : List ED},SrtE l→SrtE m→(∀ f t,lkE l f t=lkE m f t)→l=m
  | [],[],_,_,_=>rfl
  | [],y :: m,_,hm,h=>by
    have:=srt_lk hm (List.mem_cons_self ..)
    rw [← h] at this
    cases this
  | x :: l,[],hl,_,h=>by
    have:=srt_lk hl (List.mem_cons_self ..)
    rw [h] at this
    cases this
  | x :: l,y :: m,hl,hm,h=>by
    have l1:=List.pairwise_cons.1 hl
    have m1:=List.pairwise_cons.1 hm
    have hxm : x ∈ y :: m:=lkE_mem ((h _ _).symm.trans (srt_lk hl (List.mem_cons_self ..)))
    have hyl : y ∈ x :: l:=lkE_mem ((h _ _).trans (srt_lk hm (List.mem_cons_self ..)))
    have hxy : x=y:=by
      rcases List.mem_cons.1 hxm with h1 | h1
      · exact h1
      · rcases List.mem_cons.1 hyl with h2 | h2
        · exact h2.symm
        · exact absurd (l1.1 y h2) (ltE_asym (m1.1 x h1))
    subst hxy
    congr 1
    refine srt_ext l1.2 m1.2 fun f t=>?_
    have hft:=h f t
    rw [lkE_cons,lkE_cons] at hft
    by_cases hk : x.f=f∧x.t=t
    · have hl0 : lkE l f t=none:=by
        cases hc : lkE l f t with
        | none=>rfl
        | some z=>exact absurd ⟨hk.1.trans (lkE_key hc).1.symm,hk.2.trans (lkE_key hc).2.symm⟩ (ltE_irr (l1.1 z (lkE_mem hc)))
      have hm0 : lkE m f t=none:=by
        cases hc : lkE m f t with
        | none=>rfl
        | some z=>exact absurd ⟨hk.1.trans (lkE_key hc).1.symm,hk.2.trans (lkE_key hc).2.symm⟩ (ltE_irr (m1.1 z (lkE_mem hc)))
      rw [hl0,hm0]
    · rw [if_neg (nk hk),if_neg (nk hk)] at hft
      exact hft
/-- What is found when a node was contracted. -/
def cvF (F : Int→Int→Option ED) (rk : Int→Int) (v f t : Int) : Option ED:=match F f v,F v t with
  | some a,some b=>if f=t∨rk f<rk v∨rk t<rk v then F f t else some (addV (F f t) ⟨f,t,a.n+b.n,v⟩)
  | _,_=>F f t
/-- The length of the shortest edge between two nodes, or -1. -/
def lstS (m : Int) (e : ED) (f t : Int) : Int:=if e.f=f∧e.t=t∧(m<0∨e.n<m) then e.n else m
def leastE (es : List ED) (f t : Int) : Int:=es.foldl (fun m e=>lstS m e f t) (-1)
theorem leastE_snoc (es : List ED) (e : ED) (f t : Int) : leastE (es ++ [e]) f t=lstS (leastE es f t) e f t:=by
  unfold leastE; rw [List.foldl_append]; rfl
/-- What holds of the edges while nodes are contracted: those of rank less than r were. -/
structure HInv (n : Nat) (es : List ED) (rk : Int→Int) (D : Int→Int→Int) (r : Nat) (F : Int→Int→Option ED) : Prop where
  key : ∀ f t x,F f t=some x→x.f=f∧x.t=t∧Ir n f∧Ir n t∧f≠t
  ge : ∀ f t x,F f t=some x→0≤D f t∧D f t≤x.n
  has : ∀ e,e ∈ es→e.f≠e.t→∃ x,F e.f e.t=some x∧x.n≤e.n
  via : ∀ f t x,F f t=some x→(x.v = -1∧leastE es f t=x.n)∨(Ir n x.v∧rk x.v<rk f∧rk x.v<rk t∧∃ a b,F f x.v=some a∧F x.v t=some b∧x.n=a.n+b.n)
  done : ∀ f t x,F f t=some x→x.v = -1∨rk x.v<r
  clo : ∀ v,Ir n v→rk v<r→∀ f t a b,F f v=some a→F v t=some b→f≠t→rk v<rk f→rk v<rk t→∃ x,F f t=some x∧x.n≤a.n+b.n
  top : ∀ f t x,F f t=some x→x.n≤1000000 * 2 ^ r
theorem addV_le (o : Option ED) (e : ED) : (addV o e).n≤e.n:=by
  unfold addV
  split
  · split
    · exact Int.le_refl _
    · omega
  · exact Int.le_refl _
theorem addV_le2 {o : Option ED} {x : ED} (h : o=some x) (e : ED) : (addV o e).n≤x.n:=by
  unfold addV
  rw [h]
  simp only
  split
  · omega
  · exact Int.le_refl _
theorem addV_is (o : Option ED) (e : ED) : addV o e=e∨o=some (addV o e):=by
  unfold addV
  split
  · split
    · exact .inl rfl
    · exact .inr rfl
  · exact .inl rfl
section
variable {n : Nat} {es : List ED} {rk : Int→Int} {D : Int→Int→Int} {r : Nat} {F : Int→Int→Option ED}
theorem HInv.self (h : HInv n es rk D r F) (v : Int) : F v v=none:=by
  cases hc : F v v with
  | none=>rfl
  | some x=>exact absurd rfl (h.key v v x hc).2.2.2.2
theorem cvF_le {v f t : Int} {x : ED} (h : F f t=some x) : ∃ y,cvF F rk v f t=some y∧y.n≤x.n:=by
  unfold cvF
  split
  · split
    · exact ⟨x,h,Int.le_refl _⟩
    · exact ⟨_,rfl,addV_le2 h _⟩
  · exact ⟨x,h,Int.le_refl _⟩
theorem cvF_lo {v f t : Int} (h : rk f<rk v∨rk t<rk v) : cvF F rk v f t=F f t:=by
  unfold cvF
  split
  · rw [if_pos (.inr h)]
  · rfl
theorem cvF_to {v f : Int} (h : F v v=none) : cvF F rk v f v=F f v:=by
  unfold cvF
  rw [h]
  split
  · rename_i hc; cases hc
  · rfl
theorem cvF_from {v t : Int} (h : F v v=none) : cvF F rk v v t=F v t:=by
  unfold cvF
  rw [h]
/-- Either the old edge, or a new one over the node. -/
theorem cvF_cases {v f t : Int} {y : ED} (h : cvF F rk v f t=some y) : F f t=some y∨∃ a b,F f v=some a∧F v t=some b∧f≠t∧rk v≤rk f∧rk v≤rk t∧y=⟨f,t,a.n+b.n,v⟩:=by
  unfold cvF at h
  split at h
  · rename_i a b ha hb
    split at h
    · exact .inl h
    · rename_i hc
      injection h with h
      rcases addV_is (F f t) ⟨f,t,a.n+b.n,v⟩ with h1 | h1
      · refine .inr ⟨a,b,ha,hb,fun h=>hc (.inl h),by omega,by omega, ?_⟩
        rw [← h,h1]
      · rw [h] at h1
        exact .inl h1
  · exact .inl h
theorem HInv.step (h : HInv n es rk D r F) (hd : IsD n es D) {v : Int} (hv : Ir n v) (hr : rk v=r) (inj : ∀ a b,Ir n a→Ir n b→rk a=rk b→a=b) : HInv n es rk D (r+1) (cvF F rk v):=by
  have hvv:=h.self v
  have hpw : (1000000 : Int) * 2 ^ (r+1)=1000000 * 2 ^ r+1000000 * 2 ^ r:=by rw [Int.pow_succ]; omega
  have hp0 : (0 : Int)<2 ^ r:=Int.pow_pos (by decide)
  refine ⟨fun f t x hx=>?_,fun f t x hx=>?_,fun e he hne=>?_,fun f t x hx=>?_,fun f t x hx=>?_,fun u hu hur f t a b ha hb hft hf ht=>?_,fun f t x hx=>?_⟩
  · rcases cvF_cases hx with hx | ⟨a,b,ha,hb,hft,_,_,rfl⟩
    · exact h.key f t x hx
    · exact ⟨rfl,rfl,(h.key f v a ha).2.2.1,(h.key v t b hb).2.2.2.1,hft⟩
  · rcases cvF_cases hx with hx | ⟨a,b,ha,hb,hft,_,_,rfl⟩
    · exact h.ge f t x hx
    · have h1:=h.ge f v a ha
      have h2:=h.ge v t b hb
      have h3:=hd.tri f v t (h.key f v a ha).2.2.1 hv (h.key v t b hb).2.2.2.1 h1.1 h2.1
      exact ⟨h3.1,by simp only; omega⟩
  · obtain ⟨x,hx,hxn⟩:=h.has e he hne
    obtain ⟨y,hy,hyn⟩:=cvF_le (rk:=rk) (v:=v) hx
    exact ⟨y,hy,by omega⟩
  · rcases cvF_cases hx with hx | ⟨a,b,ha,hb,hft,hf,ht,rfl⟩
    · rcases h.via f t x hx with h1 | ⟨h1,h2,h3,a,b,ha,hb,hab⟩
      · exact .inl h1
      · have hlt : rk x.v<rk v:=by
          rcases h.done f t x hx with h4 | h4
          · have:=h1.1; omega
          · omega
        exact .inr ⟨h1,h2,h3,a,b,by rw [cvF_lo (.inr hlt)]; exact ha,by rw [cvF_lo (.inl hlt)]; exact hb,hab⟩
    · have kf:=h.key f v a ha
      have kt:=h.key v t b hb
      have hnf : rk f≠rk v:=fun e=>kf.2.2.2.2 (inj f v kf.2.2.1 hv e)
      have hnt : rk t≠rk v:=fun e=>kt.2.2.2.2 (inj t v kt.2.2.2.1 hv e).symm
      exact .inr ⟨hv,by simp only; omega,by simp only; omega,a,b,by rw [cvF_to hvv]; exact ha,by rw [cvF_from hvv]; exact hb,rfl⟩
  · rcases cvF_cases hx with hx | ⟨a,b,ha,hb,hft,hf,ht,rfl⟩
    · rcases h.done f t x hx with h4 | h4
      · exact .inl h4
      · exact .inr (by omega)
    · exact .inr (by simp only; omega)
  · by_cases huv : u=v
    · subst huv
      rw [cvF_to hvv] at ha
      rw [cvF_from hvv] at hb
      refine ⟨addV (F f t) ⟨f,t,a.n+b.n,u⟩, ?_,addV_le _ _⟩
      unfold cvF
      rw [ha,hb]
      simp only
      rw [if_neg (by omega)]
    · have hlt : rk u<rk v:=by
        have : rk u≠rk v:=fun e=>huv (inj u v hu hv e)
        omega
      rw [cvF_lo (.inr hlt)] at ha
      rw [cvF_lo (.inl hlt)] at hb
      obtain ⟨x,hx,hxn⟩:=h.clo u hu (by omega) f t a b ha hb hft hf ht
      obtain ⟨y,hy,hyn⟩:=cvF_le (rk:=rk) (v:=v) hx
      exact ⟨y,hy,by omega⟩
  · rcases cvF_cases hx with hx | ⟨a,b,ha,hb,_,_,_,rfl⟩
    · have:=h.top f t x hx
      omega
    · have h1:=h.top f v a ha
      have h2:=h.top v t b hb
      simp only
      omega
/-- What is found in the graph before it is contracted: an edge is added unless it leads to where it comes from. -/
def adF (F : Int→Int→Option ED) (e : ED) (f t : Int) : Option ED:=if e.f≠e.t∧e.f=f∧e.t=t then some (addV (F f t) e) else F f t
structure OInv (es : List ED) (F : Int→Int→Option ED) : Prop where
  key : ∀ f t x,F f t=some x→x.f=f∧x.t=t∧f≠t
  is : ∀ f t,f≠t→leastE es f t=match F f t with | some x=>x.n | none=>-1
  mem : ∀ f t x,F f t=some x→x ∈ es
theorem OInv.nil : OInv [] (fun _ _=>none):=⟨fun _ _ _ h=>(nomatch h),fun _ _ _=>rfl,fun _ _ _ h=>(nomatch h)⟩
theorem OInv.add (h : OInv es F) {e : ED} (h0 : ∀ x,x ∈ es→0≤x.n) : OInv (es ++ [e]) (adF F e):=by
  refine ⟨fun f t x hx=>?_,fun f t hft=>?_,fun f t x hx=>?_⟩
  · unfold adF at hx
    split at hx
    · rename_i hc
      obtain ⟨hne,rfl,rfl⟩:=hc
      injection hx with hx
      rcases addV_is (F e.f e.t) e with h1 | h1
      · rw [h1] at hx; subst hx; exact ⟨rfl,rfl,hne⟩
      · rw [hx] at h1; exact h.key _ _ _ h1
    · exact h.key _ _ _ hx
  · rw [leastE_snoc,h.is f t hft]
    unfold adF lstS
    by_cases hc : e.f=f∧e.t=t
    · obtain ⟨rfl,rfl⟩:=hc
      rw [if_pos (show e.f≠e.t∧e.f=e.f∧e.t=e.t from ⟨hft,rfl,rfl⟩)]
      cases hF : F e.f e.t with
      | none=>simp [addV]
      | some x =>
        have hx0:=h0 x (h.mem _ _ _ hF)
        have hnx : ¬ x.n<0:=by omega
        by_cases hl : e.n<x.n
        · simp [addV,hl]
        · simp [addV,hl,hnx]
    · rw [if_neg (fun h'=>hc ⟨h'.1,h'.2.1⟩),if_neg (fun h'=>hc ⟨h'.2.1,h'.2.2⟩)]
  · unfold adF at hx
    split at hx
    · rename_i hc
      obtain ⟨hne,rfl,rfl⟩:=hc
      injection hx with hx
      rcases addV_is (F e.f e.t) e with h1 | h1
      · rw [h1] at hx; subst hx; exact List.mem_append_right _ (List.mem_singleton.2 rfl)
      · rw [hx] at h1; exact List.mem_append_left _ (h.mem _ _ _ h1)
    · exact List.mem_append_left _ (h.mem _ _ _ hx)
theorem least_le {es : List ED} {e : ED} (he : e ∈ es) (h0 : ∀ x,x ∈ es→0≤x.n) : 0≤leastE es e.f e.t∧leastE es e.f e.t≤e.n:=by
  suffices H : ∀ (fs : List ED) (m : Int) (f t : Int),(∀ x,x ∈ fs→0≤x.n)→(0≤m→0≤fs.foldl (fun m e=>lstS m e f t) m∧fs.foldl (fun m e=>lstS m e f t) m≤m)∧∀ e,e ∈ fs→e.f=f→e.t=t→0≤fs.foldl (fun m e=>lstS m e f t) m∧fs.foldl (fun m e=>lstS m e f t) m≤e.n from
    (H es (-1) _ _ h0).2 e he rfl rfl
  intro fs
  induction fs with
  | nil=>exact fun m f t _=>⟨fun h=>⟨h,Int.le_refl _⟩,fun e he=>by cases he⟩
  | cons x fs ih =>
    intro m f t h0
    have hx0:=h0 x (List.mem_cons_self ..)
    have hi:=ih (lstS m x f t) f t (fun y hy=>h0 y (List.mem_cons_of_mem _ hy))
    rw [List.foldl_cons]
    refine ⟨fun hm=>?_,fun e he hf ht=>?_⟩
    · have : 0≤lstS m x f t∧lstS m x f t≤m:=by unfold lstS; split <;> omega
      have h1:=hi.1 this.1
      omega
    · rcases List.mem_cons.1 he with rfl | he
      · have : 0≤lstS m e f t∧lstS m e f t≤e.n:=by
          unfold lstS
          by_cases hc : m<0∨e.n<m
          · rw [if_pos ⟨hf,ht,hc⟩]; omega
          · rw [if_neg (fun h=>hc h.2.2)]; omega
        have h1:=hi.1 this.1
        omega
      · exact hi.2 e he hf ht
theorem OInv.start (h : OInv es F) (hg : GrE n es) (hd : IsD n es D) (hv : ∀ e,e ∈ es→e.v = -1) (hm : ∀ e,e ∈ es→e.n≤1000000) (rk0 : ∀ v,Ir n v→0≤rk v) : HInv n es rk D 0 F where
  key f t x hx:=by
    have h1:=h.key f t x hx
    have h2:=h.mem f t x hx
    have h3:=hg.rf x h2
    have h4:=hg.rt x h2
    rw [h1.1] at h3
    rw [h1.2.1] at h4
    exact ⟨h1.1,h1.2.1,h3,h4,h1.2.2⟩
  ge f t x hx:=by
    have h1:=h.key f t x hx
    have h2:=hd.edge x (h.mem f t x hx)
    rw [h1.1,h1.2.1] at h2
    exact h2
  has e he hne:=by
    have h1:=h.is e.f e.t hne
    have h2:=least_le he hg.n0
    cases hF : F e.f e.t with
    | none=>rw [hF] at h1; simp only at h1; omega
    | some x=>rw [hF] at h1; simp only at h1; exact ⟨x,rfl,by omega⟩
  via f t x hx:=by
    have h1:=h.key f t x hx
    have h2:=h.is f t h1.2.2
    rw [hx] at h2
    exact .inl ⟨hv x (h.mem f t x hx),h2⟩
  done f t x hx:=.inl (hv x (h.mem f t x hx))
  clo v hi hr:=by have:=rk0 v hi; omega
  top f t x hx:=by have:=hm x (h.mem f t x hx); simpa using this
end
end Go.Proofs.Ytlbihfbeamlacaa
