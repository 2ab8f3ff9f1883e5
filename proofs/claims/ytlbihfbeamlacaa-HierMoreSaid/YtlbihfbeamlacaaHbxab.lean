/- The plain law of shortest ways: what a table of distances is; that there is one at most; Floyd and Warshall's table is one. -/
import Derived.Test.YtlbihfbeamlacaaHbxaa
set_option linter.unusedSimpArgs false
set_option linter.unusedVariables false
set_option maxRecDepth 100000
set_option maxHeartbeats 6400000
namespace Go.Proofs.Ytlbihfbeamlacaa
open Go.RowKit
/-- An edge: from, to, length, via. -/
structure ED where
  f : Int
  t : Int
  n : Int
  v : Int
/-- A way in a graph, and its length. -/
inductive Wk (es : List ED) : Int→Int→Int→Prop
  | nil (u : Int) : Wk es u u 0
  | snoc {u c : Int} {e : ED} : Wk es u e.f c→e ∈ es→Wk es u e.t (c+e.n)
def Ir (n : Nat) (u : Int) : Prop:=0≤u∧u<n
/-- The edges are those of a graph. -/
structure GrE (n : Nat) (es : List ED) : Prop where
  rf : ∀ e,e ∈ es→Ir n e.f
  rt : ∀ e,e ∈ es→Ir n e.t
  n0 : ∀ e,e ∈ es→0≤e.n
/-- The lengths of shortest ways; -1: there is none. -/
structure IsD (n : Nat) (es : List ED) (D : Int→Int→Int) : Prop where
  refl : ∀ u,Ir n u→D u u=0
  low : ∀ u w, -1≤D u w
  edge : ∀ e,e ∈ es→0≤D e.f e.t∧D e.f e.t≤e.n
  tri : ∀ u v w,Ir n u→Ir n v→Ir n w→0≤D u v→0≤D v w→0≤D u w∧D u w≤D u v+D v w
  snd : ∀ u w,Ir n u→Ir n w→0≤D u w→Wk es u w (D u w)
theorem Wk.end_ {n : Nat} {es : List ED} (hg : GrE n es) {u w c : Int} (h : Wk es u w c) (hu : Ir n u) : Ir n w:=by
  cases h with
  | nil=>exact hu
  | snoc _ he=>exact hg.rt _ he
theorem Wk.ge {n : Nat} {es : List ED} (hg : GrE n es) {u w c : Int} (h : Wk es u w c) : 0≤c:=by
  induction h with
  | nil=>exact Int.le_refl _
  | snoc _ he ih=>have:=hg.n0 _ he; omega
theorem Wk.trans {es : List ED} {u v w c d : Int} (h : Wk es u v c) (k : Wk es v w d) : Wk es u w (c+d):=by
  induction k with
  | nil=>rw [Int.add_zero]; exact h
  | snoc _ he ih=>rw [← Int.add_assoc]; exact .snoc ih he
theorem Wk.one {es : List ED} {e : ED} (he : e ∈ es) : Wk es e.f e.t e.n:=by
  have:=Wk.snoc (.nil e.f) he
  rw [Int.zero_add] at this
  exact this
theorem Wk.mono {es fs : List ED} (hs : ∀ e,e ∈ es→e ∈ fs) {u w c : Int} (h : Wk es u w c) : Wk fs u w c:=by
  induction h with
  | nil=>exact .nil _
  | snoc _ he ih=>exact .snoc ih (hs _ he)
section
variable {n : Nat} {es : List ED} {D D' : Int→Int→Int}
/-- No way is shorter. -/
theorem IsD.min (h : IsD n es D) (hg : GrE n es) {u w c : Int} (hw : Wk es u w c) (hu : Ir n u) : 0≤D u w∧D u w≤c:=by
  induction hw with
  | nil=>rw [h.refl u hu]; exact ⟨Int.le_refl _,Int.le_refl _⟩
  | snoc hw he ih =>
    have h1:=ih
    have h2:=h.edge _ he
    have h3:=h.tri u _ _ hu (hg.rf _ he) (hg.rt _ he) h1.1 h2.1
    exact ⟨h3.1,by omega⟩
theorem IsD.none (h : IsD n es D) {u w : Int} (h0 : ¬ 0≤D u w) : D u w = -1:=by have:=h.low u w; omega
/-- There is one at most. -/
theorem IsD.uniq (h : IsD n es D) (h' : IsD n es D') (hg : GrE n es) {u w : Int} (hu : Ir n u) (hw : Ir n w) : D u w=D' u w:=by
  by_cases h0 : 0≤D u w
  · have h1:=h'.min hg (h.snd u w hu hw h0) hu
    have h2:=h.min hg (h'.snd u w hu hw h1.1) hu
    omega
  · by_cases h1 : 0≤D' u w
    · exact absurd (h.min hg (h'.snd u w hu hw h1) hu).1 h0
    · rw [h.none h0,h'.none h1]
/-- With one edge more each distance is the smaller one of that before and of a way over it. -/
def moreD (D : Int→Int→Int) (e : ED) (u w : Int) : Int :=
  if 0≤D u e.f∧0≤D e.t w∧(D u w<0∨D u e.f+e.n+D e.t w<D u w) then D u e.f+e.n+D e.t w else D u w
theorem moreD_le {D : Int→Int→Int} {e : ED} {u w : Int} (h : 0≤D u w) (h1 : ∀ v, -1≤D u v) (h2 : ∀ v, -1≤D v w) (hn : 0≤e.n) : 0≤moreD D e u w∧moreD D e u w≤D u w:=by
  unfold moreD
  split
  · rename_i hc
    obtain ⟨a,b,c⟩:=hc
    omega
  · omega
theorem moreD_over {D : Int→Int→Int} {e : ED} {u w : Int} (h1 : 0≤D u e.f) (h2 : 0≤D e.t w) (hn : 0≤e.n) : 0≤moreD D e u w∧moreD D e u w≤D u e.f+e.n+D e.t w:=by
  unfold moreD
  split
  · omega
  · rename_i hc
    by_cases h : D u w<0∨D u e.f+e.n+D e.t w<D u w
    · exact absurd ⟨h1,h2,h⟩ hc
    · omega
theorem moreD_cases {D : Int→Int→Int} {e : ED} {u w : Int} (h : 0≤moreD D e u w) : (0≤D u w∧moreD D e u w=D u w)∨(0≤D u e.f∧0≤D e.t w∧moreD D e u w=D u e.f+e.n+D e.t w):=by
  unfold moreD at h ⊢
  split at h
  · rename_i hc
    rw [if_pos hc]
    exact .inr ⟨hc.1,hc.2.1,rfl⟩
  · rename_i hc
    rw [if_neg hc]
    exact .inl ⟨h,rfl⟩
theorem IsD.more (h : IsD n es D) (hg : GrE n es) {e : ED} (hf : Ir n e.f) (ht : Ir n e.t) (hn : 0≤e.n) : IsD n (es ++ [e]) (moreD D e) where
  refl u hu:=by
    have h0:=h.refl u hu
    have h1:=moreD_le (D:=D) (e:=e) (u:=u) (w:=u) (by omega) (fun v=>h.low u v) (fun v=>h.low v u) hn
    omega
  low u w:=by
    unfold moreD
    split
    · rename_i hc; omega
    · exact h.low u w
  edge x hx:=by
    rcases List.mem_append.1 hx with hx | hx
    · have h0:=h.edge x hx
      have h1:=moreD_le (D:=D) (e:=e) h0.1 (fun v=>h.low _ v) (fun v=>h.low v _) hn
      omega
    · obtain rfl:=List.mem_singleton.1 hx
      have h1:=moreD_over (D:=D) (e:=x) (u:=x.f) (w:=x.t) (by rw [h.refl _ hf]; exact Int.le_refl _) (by rw [h.refl _ ht]; exact Int.le_refl _) hn
      rw [h.refl _ hf,h.refl _ ht] at h1
      omega
  tri u v w hu hv hw h1 h2:=by
    rcases moreD_cases h1 with ⟨a1,a2⟩ | ⟨a1,a2,a3⟩
    · rcases moreD_cases h2 with ⟨b1,b2⟩ | ⟨b1,b2,b3⟩
      · have h3:=h.tri u v w hu hv hw a1 b1
        have h4:=moreD_le (D:=D) (e:=e) h3.1 (fun v=>h.low _ v) (fun v=>h.low v _) hn
        omega
      · have h3:=h.tri u v e.f hu hv hf a1 b1
        have h4:=moreD_over (D:=D) (e:=e) h3.1 b2 hn
        omega
    · rcases moreD_cases h2 with ⟨b1,b2⟩ | ⟨b1,b2,b3⟩
      · have h3:=h.tri e.t v w ht hv hw a2 b1
        have h4:=moreD_over (D:=D) (e:=e) a1 h3.1 hn
        omega
      · have h4:=moreD_over (D:=D) (e:=e) a1 b2 hn
        omega
  snd u w hu hw h0:=by
    have hs : ∀ x,x ∈ es→x ∈ es ++ [e]:=fun x hx=>List.mem_append_left _ hx
    rcases moreD_cases h0 with ⟨a1,a2⟩ | ⟨a1,a2,a3⟩
    · rw [a2]
      exact (h.snd u w hu hw a1).mono hs
    · rw [a3]
      exact (((h.snd u e.f hu hf a1).mono hs).trans (.one (List.mem_append_right _ (List.mem_singleton.2 rfl)))).trans ((h.snd e.t w ht hw a2).mono hs)
end
/-- One node more may be gone over. -/
def fwS (D : Int→Int→Int) (v u w : Int) : Int:=if 0≤D u v∧0≤D v w∧(D u w<0∨D u v+D v w<D u w) then D u v+D v w else D u w
/-- A table in which the first k nodes were gone over. -/
structure IsT (n : Nat) (es : List ED) (k : Nat) (D : Int→Int→Int) : Prop where
  refl : ∀ u,Ir n u→D u u=0
  low : ∀ u w, -1≤D u w
  edge : ∀ e,e ∈ es→0≤D e.f e.t∧D e.f e.t≤e.n
  tri : ∀ u v w,Ir n u→Ir n v→Ir n w→v<k→0≤D u v→0≤D v w→0≤D u w∧D u w≤D u v+D v w
  snd : ∀ u w,Ir n u→Ir n w→0≤D u w→Wk es u w (D u w)
theorem fwS_cases {D : Int→Int→Int} {v u w : Int} (h : 0≤fwS D v u w) : (0≤D u w∧fwS D v u w=D u w)∨(0≤D u v∧0≤D v w∧fwS D v u w=D u v+D v w):=by
  unfold fwS at h ⊢
  split at h
  · rename_i hc
    rw [if_pos hc]
    exact .inr ⟨hc.1,hc.2.1,rfl⟩
  · rename_i hc
    rw [if_neg hc]
    exact .inl ⟨h,rfl⟩
theorem fwS_le {D : Int→Int→Int} {v u w : Int} (h : 0≤D u w) : 0≤fwS D v u w∧fwS D v u w≤D u w:=by
  unfold fwS
  split
  · rename_i hc; obtain ⟨a,b,c⟩:=hc; omega
  · omega
theorem fwS_over {D : Int→Int→Int} {v u w : Int} (h1 : 0≤D u v) (h2 : 0≤D v w) : 0≤fwS D v u w∧fwS D v u w≤D u v+D v w:=by
  unfold fwS
  split
  · omega
  · rename_i hc
    by_cases h : D u w<0∨D u v+D v w<D u w
    · exact absurd ⟨h1,h2,h⟩ hc
    · omega
theorem fwS_row {D : Int→Int→Int} {v w : Int} (h : D v v=0) : fwS D v v w=D v w:=by
  unfold fwS
  rw [h,if_neg (by omega)]
theorem fwS_col {D : Int→Int→Int} {v u : Int} (h : D v v=0) : fwS D v u v=D u v:=by
  unfold fwS
  rw [h,if_neg (by omega)]
theorem IsT.step {n : Nat} {es : List ED} {k : Nat} {D : Int→Int→Int} (h : IsT n es k D) (hk : k<n) : IsT n es (k+1) (fwS D k) where
  refl u hu:=by
    have h0:=h.refl u hu
    have h1:=fwS_le (D:=D) (v:=(k : Int)) (u:=u) (w:=u) (by omega)
    omega
  low u w:=by
    unfold fwS
    split
    · rename_i hc; omega
    · exact h.low u w
  edge e he:=by
    have h0:=h.edge e he
    have h1:=fwS_le (D:=D) (v:=(k : Int)) h0.1
    omega
  tri u v w hu hv hw hvk h1 h2:=by
    have hkr : Ir n (k : Int):=⟨by omega,by omega⟩
    have hkk : D k k=0:=h.refl _ hkr
    by_cases hvk' : v=(k : Int)
    · subst hvk'
      rw [fwS_col hkk] at h1 ⊢
      rw [fwS_row hkk] at h2 ⊢
      exact fwS_over h1 h2
    · have hlt : v<k:=by omega
      rcases fwS_cases h1 with ⟨a1,a2⟩ | ⟨a1,a2,a3⟩
      · rcases fwS_cases h2 with ⟨b1,b2⟩ | ⟨b1,b2,b3⟩
        · have h3:=h.tri u v w hu hv hw hlt a1 b1
          have h4:=fwS_le (D:=D) (v:=(k : Int)) h3.1
          omega
        · have h3:=h.tri u v k hu hv hkr hlt a1 b1
          have h4:=fwS_over (D:=D) h3.1 b2
          omega
      · rcases fwS_cases h2 with ⟨b1,b2⟩ | ⟨b1,b2,b3⟩
        · have h3:=h.tri k v w hkr hv hw hlt a2 b1
          have h4:=fwS_over (D:=D) a1 h3.1
          omega
        · have h4:=fwS_over (D:=D) a1 b2
          omega
  snd u w hu hw h0:=by
    have hkr : Ir n (k : Int):=⟨by omega,by omega⟩
    rcases fwS_cases h0 with ⟨a1,a2⟩ | ⟨a1,a2,a3⟩
    · rw [a2]; exact h.snd u w hu hw a1
    · rw [a3]; exact (h.snd u k hu hkr a1).trans (h.snd k w hkr hw a2)
theorem IsT.done {n : Nat} {es : List ED} {D : Int→Int→Int} (h : IsT n es n D) : IsD n es D :=
  ⟨h.refl,h.low,h.edge,fun u v w hu hv hw=>h.tri u v w hu hv hw hv.2,h.snd⟩
def idD (u w : Int) : Int:=if u=w then 0 else -1
def edD (D : Int→Int→Int) (e : ED) (u w : Int) : Int:=if u=e.f∧w=e.t∧(D u w<0∨e.n<D u w) then e.n else D u w
theorem IsT.nil (n : Nat) : IsT n [] 0 idD where
  refl u _:=by unfold idD; rw [if_pos rfl]
  low u w:=by unfold idD; split <;> omega
  edge e he:=by cases he
  tri u v w _ hv _ h:=by have:=hv.1; omega
  snd u w _ _ h:=by
    unfold idD at h ⊢
    split at h
    · rename_i hc
      subst hc
      rw [if_pos rfl]
      exact .nil u
    · omega
theorem edD_le {D : Int→Int→Int} {e : ED} {u w : Int} (hn : 0≤e.n) (h : 0≤D u w) : 0≤edD D e u w∧edD D e u w≤D u w:=by
  unfold edD
  split
  · rename_i hc; obtain ⟨a,b,c⟩:=hc; omega
  · omega
theorem IsT.add {n : Nat} {es : List ED} {D : Int→Int→Int} (h : IsT n es 0 D) {e : ED} (hn : 0≤e.n) : IsT n (es ++ [e]) 0 (edD D e) where
  refl u hu:=by
    have h0:=h.refl u hu
    have h1:=edD_le (D:=D) (e:=e) (u:=u) (w:=u) hn (by omega)
    omega
  low u w:=by
    unfold edD
    split
    · omega
    · exact h.low u w
  edge x hx:=by
    rcases List.mem_append.1 hx with hx | hx
    · have h0:=h.edge x hx
      have h1:=edD_le (D:=D) (e:=e) hn h0.1
      omega
    · obtain rfl:=List.mem_singleton.1 hx
      unfold edD
      split
      · omega
      · rename_i hc
        by_cases hd : D x.f x.t<0∨x.n<D x.f x.t
        · exact absurd ⟨rfl,rfl,hd⟩ hc
        · omega
  tri u v w _ hv _ h:=by have:=hv.1; omega
  snd u w hu hw h0:=by
    have hs : ∀ x,x ∈ es→x ∈ es ++ [e]:=fun x hx=>List.mem_append_left _ hx
    unfold edD at h0 ⊢
    split
    · rename_i hc
      obtain ⟨rfl,rfl,_⟩:=hc
      exact .one (List.mem_append_right _ (List.mem_singleton.2 rfl))
    · rename_i hc
      rw [if_neg hc] at h0
      exact (h.snd u w hu hw h0).mono hs
/-- The reference's table. -/
def tab0 (es : List ED) : Int→Int→Int:=es.foldl edD idD
def tabK (es : List ED) (k : Nat) : Int→Int→Int:=(List.range k).foldl (fun D (v : Nat)=>fwS D (v : Int)) (tab0 es)
theorem tab0_T {n : Nat} : ∀ (fs es : List ED) (D : Int→Int→Int),IsT n es 0 D→(∀ e,e ∈ fs→0≤e.n)→IsT n (es ++ fs) 0 (fs.foldl edD D)
  | [],es,D,h,_=>by rw [List.append_nil]; exact h
  | e :: fs,es,D,h,hn=>by
    have:=tab0_T fs (es ++ [e]) (edD D e) (h.add (hn e (List.mem_cons_self ..))) (fun x hx=>hn x (List.mem_cons_of_mem _ hx))
    rw [List.append_assoc] at this
    exact this
theorem tabK_succ (es : List ED) (k : Nat) : tabK es (k+1)=fwS (tabK es k) (k : Int):=by
  unfold tabK
  rw [List.range_succ,List.foldl_append]
  rfl
theorem tabK_T {n : Nat} {es : List ED} (hn : ∀ e,e ∈ es→0≤e.n) : ∀ k,k≤n→IsT n es k (tabK es k)
  | 0,_=>by
    have:=tab0_T es [] idD (IsT.nil n) hn
    rw [List.nil_append] at this
    exact this
  | k+1,h=>by
    rw [tabK_succ]
    exact (tabK_T hn k (by omega)).step (by omega)
theorem table_D {n : Nat} {es : List ED} (hg : GrE n es) : IsD n es (tabK es n):=(tabK_T hg.n0 n (Nat.le_refl _)).done
end Go.Proofs.Ytlbihfbeamlacaa
