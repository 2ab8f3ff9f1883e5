/- Walk: the reference's Table. -/
import Derived.Test.YtlbihfbeamlacaaHbxbl
import Derived.Test.YtlbihfbeamlacaaHbxbm
set_option linter.unusedSimpArgs false
set_option linter.unusedVariables false
set_option maxRecDepth 100000
set_option maxHeartbeats 6400000
namespace Go.Proofs.Ytlbihfbeamlacaa
open Go.RowKit
def genc (n : Nat) (g : Nat) : List Value:=[.slice (some ⟨g,0,none⟩) n n]
theorem genc_k (n : Nat) (g : Nat) : (genc n g).length=1:=rfl
theorem genc_one (n : Nat) (g : Nat) : ∀ u ∈ genc n g,u.oneCell'=true:=by intro u hu; simp [genc] at hu; subst hu; rfl
def rowA (n : Nat) (f : Int→Int) : Array Value:=((List.range n).map fun (k : Nat)=>Value.int .i64 (f (k : Int))).toArray
theorem rowA_at {n : Nat} {f : Int→Int} {i : Nat} (h : i<n) : (rowA n f)[i]? = some (.int .i64 (f (i : Int))):=by
  unfold rowA
  rw [List.getElem?_toArray,List.getElem?_map,List.getElem?_range h]; rfl
theorem rowA_out {n : Nat} {f : Int→Int} {i : Nat} (h : ¬ i<n) : (rowA n f)[i]? = none:=Array.getElem?_eq_none (by unfold rowA; simpa using h)
theorem rowA_congr {n : Nat} {f g : Int→Int} (h : ∀ k : Nat,k<n→f (k : Int)=g (k : Int)) : rowA n f=rowA n g:=by
  apply Array.ext_getElem?
  intro i
  by_cases hi : i<n
  · rw [rowA_at hi,rowA_at hi,h i hi]
  · rw [rowA_out hi,rowA_out hi]
theorem rowA_set {n : Nat} {f : Int→Int} {x : Nat} {v : Int} : (rowA n f).setIfInBounds x (.int .i64 v)=rowA n (fun j=>if j=(x : Int) then v else f j):=by
  apply Array.ext_getElem?
  intro i
  rw [Array.getElem?_setIfInBounds]
  by_cases hi : i<n
  · rw [rowA_at hi,rowA_at hi]
    by_cases hx : x=i
    · subst hx
      rw [if_pos rfl,if_pos (by unfold rowA; simpa using hi),if_pos rfl]
    · rw [if_neg hx,if_neg (by omega)]
  · rw [rowA_out hi,rowA_out hi]
    split
    · rw [if_neg (by unfold rowA; simp; omega)]
    · rfl
theorem rowA_zero (n : Nat) : (List.replicate n (Value.int .i64 0)).toArray=rowA n (fun _=>0):=by
  apply Array.ext_getElem?
  intro i
  by_cases hi : i<n
  · rw [rowA_at hi,List.getElem?_toArray,List.getElem?_replicate,if_pos hi]
  · rw [rowA_out hi,List.getElem?_toArray,List.getElem?_replicate,if_neg hi]
/-- A table in memory: k rows of n numbers, in blocks of their own. -/
structure TabM (n k B : Nat) (w : World) (A : Option Addr) (c : Nat) (G : List Nat) (D : Int→Int→Int) : Prop where
  own : Own B 23 1 (genc n) w ⟨A,c,G⟩
  len : G.length=k
  row : ∀ (i g : Nat),G[i]? = some g→Blk w g 3 (rowA n (D (i : Int)))∧B≤g
  nod : G.Nodup
section
variable {n k B c : Nat} {w w' : World} {A : Option Addr} {G : List Nat} {D D' : Int→Int→Int}
theorem TabM.nil (n B : Nat) (w : World) (D : Int→Int→Int) : TabM n 0 B w none 0 [] D:=⟨Own.nil _ _ _ _ _,rfl,fun i g h=>by simp at h,List.Pairwise.nil⟩
theorem TabM.later (h : TabM n k B w A c G D) (hb : Below w.heap.size w w') : TabM n k B w' A c G D:=⟨h.own.below hb,h.len,fun i g hg=>⟨(h.row i g hg).1.later hb,(h.row i g hg).2⟩,h.nod⟩
theorem TabM.outer (h : TabM n k B w A c G D) {g a : Nat} (hg : g ∈ G) (ha : A=some ⟨a,0,none⟩) : a≠g:=by
  subst ha
  obtain ⟨cur,hB,_⟩:=h.own.blk rfl
  obtain ⟨i,hi,rfl⟩:=List.mem_iff_getElem.1 hg
  exact blk_ne hB (h.row i _ (List.getElem?_eq_getElem hi)).1 (by decide)
theorem TabM.cell (h : TabM n k B w A c G D) {i g : Nat} (hi : G[i]? = some g) : ∃ a,A=some ⟨a,0,none⟩∧w.cell? ⟨a,i,none⟩=some (.slice (some ⟨g,0,none⟩) n n):=by
  rcases h.own.form with ⟨_,_,h0⟩ | ⟨a,h0,_⟩
  · simp only at h0; rw [h0] at hi; simp at hi
  · simp only at h0
    refine ⟨a,h0, ?_⟩
    subst h0
    obtain ⟨b,o,hA,_,hc⟩:=(h.own.rd (genc_k n)).2.2.2 i g hi
    injection hA with hA
    injection hA with h1 h2
    subst h1 h2
    have:=hc.c1
    simpa using this
theorem TabM.at_ (h : TabM n k B w A c G D) {i g x : Nat} (hi : G[i]? = some g) (hx : x<n) : w.cell? ⟨g,x,none⟩=some (.int .i64 (D (i : Int) (x : Int))):=by
  have:=(h.row i g hi).1.cell x
  rw [rowA_at hx] at this
  exact this
theorem TabM.congr (h : TabM n k B w A c G D) (he : ∀ a b : Nat,a<k→b<n→D (a : Int) (b : Int)=D' (a : Int) (b : Int)) : TabM n k B w A c G D' :=
  ⟨h.own,h.len,fun i g hg=>⟨by
    have hi:=(List.getElem?_eq_some_iff.1 hg).1
    rw [← rowA_congr (f:=D (i : Int)) (fun x hx=>he i x (by have:=h.len; omega) hx)]
    exact (h.row i g hg).1,(h.row i g hg).2⟩,h.nod⟩
theorem TabM.set (h : TabM n k B w A c G D) {u g : Nat} (hu : G[u]? = some g) (x : Nat) (v : Int) : TabM n k B (w.setCell ⟨g,x,none⟩ (.int .i64 v)) A c G (fun a b=>if a=(u : Int)∧b=(x : Int) then v else D a b):=by
  have hm:=List.mem_of_getElem? hu
  refine ⟨h.own.other (fun a ha=>h.outer hm ha) _,h.len,fun i g' hg=>⟨?_,(h.row i g' hg).2⟩,h.nod⟩
  by_cases hi : i=u
  · subst hi
    rw [hu] at hg
    injection hg with hg
    subst hg
    have:=(h.row i g hu).1.set_ x (.int .i64 v)
    rw [rowA_set] at this
    rw [rowA_congr (g:=fun j=>if j=(x : Int) then v else D (i : Int) j) (fun k hk=>by
      by_cases hx : (k : Int)=(x : Int)
      · rw [if_pos ⟨rfl,hx⟩,if_pos hx]
      · rw [if_neg (fun hc=>hx hc.2),if_neg hx])]
    exact this
  · have hne : g'≠g:=fun e=>by
      subst e
      obtain ⟨h1,h2⟩:=List.getElem?_eq_some_iff.1 hg
      obtain ⟨h3,h4⟩:=List.getElem?_eq_some_iff.1 hu
      rcases Nat.lt_or_gt_of_ne hi with hlt | hlt
      · exact List.pairwise_iff_getElem.1 h.nod i u h1 h3 hlt (h2.trans h4.symm)
      · exact List.pairwise_iff_getElem.1 h.nod u i h3 h1 hlt (h4.trans h2.symm)
    rw [rowA_congr (g:=D (i : Int)) (fun k hk=>by rw [if_neg (fun hc=>hi (by omega))])]
    exact (h.row i g' hg).1.far hne _
theorem TabM.push (h : TabM n k B w A c G D) {gr c2 : Nat} {A2 : Option Addr} (hb : Blk w gr 3 (rowA n (D (k : Int)))) (hB : B≤gr) (hn : gr ∉ G) (hown : Own B 23 1 (genc n) w' ⟨A2,c2,G ++ [gr]⟩) (hg : w.grownBy w' (Value.slice A G.length c).ownBlock) : TabM n (k+1) B w' A2 c2 (G ++ [gr]) D:=by
  have hne : ∀ g t cs,Blk w g t cs→t≠23→some g≠(Value.slice A G.length c).ownBlock:=fun g t cs hb ht e=>by
    rcases h.own.form with ⟨h0,_⟩ | ⟨a,h0,_⟩
    · simp only at h0; rw [h0] at e; simp [Value.ownBlock] at e
    · simp only at h0
      subst h0
      obtain ⟨cur,hB,_⟩:=h.own.blk rfl
      injection (show some g=some a from e) with e
      exact blk_ne hb hB ht e
  refine ⟨hown,by rw [List.length_append,h.len]; rfl,fun i g hi=>?_, ?_⟩
  · by_cases hik : i<G.length
    · rw [List.getElem?_append_left hik] at hi
      obtain ⟨h1,h2⟩:=h.row i g hi
      exact ⟨h1.grown hg (hne _ _ _ h1 (by decide)),h2⟩
    · rw [List.getElem?_append_right (by omega)] at hi
      have hi0 : i - G.length=0:=by
        rcases hj : i - G.length with _ | j
        · rfl
        · rw [hj] at hi; simp at hi
      rw [hi0] at hi
      have hgg : gr=g:=by simpa using hi
      subst hgg
      have hik2 : i=k:=by have:=h.len; omega
      subst hik2
      exact ⟨hb.grown hg (hne _ _ _ hb (by decide)),hB⟩
  · exact List.nodup_append.2 ⟨h.nod,by simp,fun a ha b hb e=>by
      have : b=gr:=by simpa using hb
      subst this
      subst e
      exact hn ha⟩
end
theorem tab0_top {es : List ED} : ∀ (l : List ED) (D : Int→Int→Int),(∀ e,e ∈ l→e.n≤1000000)→(∀ u w,D u w≤1000000)→∀ u w,l.foldl edD D u w≤1000000
  | [],_,_,hD,u,w=>hD u w
  | e :: l,D,h,hD,u,w=>tab0_top (es:=es) l (edD D e) (fun x hx=>h x (List.mem_cons_of_mem _ hx)) (fun u w=>by
    unfold edD
    split
    · exact h e (List.mem_cons_self ..)
    · exact hD u w) u w
theorem idD_top (u w : Int) : idD u w≤1000000:=by unfold idD; split <;> omega
theorem tabK_top {es : List ED} (h : ∀ e,e ∈ es→e.n≤1000000) : ∀ (k : Nat) (u w : Int),tabK es k u w≤1000000 * 2 ^ k
  | 0,u,w=>by
    have:=tab0_top (es:=es) es idD h idD_top u w
    simpa [tabK,tab0] using this
  | k+1,u,w=>by
    rw [tabK_succ]
    have h1:=tabK_top h k
    have h2:=h1 u w
    have h3:=h1 u k
    have h4:=h1 k w
    have h5 : (1000000 : Int) * 2 ^ (k+1)=1000000 * 2 ^ k+1000000 * 2 ^ k:=by rw [Int.pow_succ]; omega
    have h6 : (0 : Int)≤1000000 * 2 ^ k:=Int.mul_nonneg (by omega) (Int.pow_nonneg (by omega))
    unfold fwS
    split <;> omega
/-- A table while a node is gone over. -/
def midD (D : Int→Int→Int) (v : Int) (u w : Nat) (a b : Int) : Int:=if a<(u : Int)∨(a=(u : Int)∧b<(w : Int)) then fwS D v a b else D a b
theorem midD_col {D : Int→Int→Int} {v : Int} {u w : Nat} (h : D v v=0) (a : Int) : midD D v u w a v=D a v:=by
  unfold midD
  split
  · exact fwS_col h
  · rfl
theorem midD_row {D : Int→Int→Int} {v : Int} {u w : Nat} (h : D v v=0) (b : Int) : midD D v u w v b=D v b:=by
  unfold midD
  split
  · exact fwS_row h
  · rfl
theorem midD_here {D : Int→Int→Int} {v : Int} {u w : Nat} : midD D v u w (u : Int) (w : Int)=D (u : Int) (w : Int):=by
  unfold midD
  rw [if_neg (by omega)]
theorem midD_next {D : Int→Int→Int} {v : Int} {u w : Nat} (a b : Int) : midD D v u (w+1) a b=if a=(u : Int)∧b=(w : Int) then fwS D v (u : Int) (w : Int) else midD D v u w a b:=by
  unfold midD
  by_cases h : a=(u : Int)∧b=(w : Int)
  · obtain ⟨h1,h2⟩:=h
    subst h1 h2
    rw [if_pos (by omega),if_pos ⟨rfl,rfl⟩]
  · rw [if_neg h]
    by_cases h2 : a<(u : Int)∨(a=(u : Int)∧b<(w : Int))
    · rw [if_pos (by omega),if_pos h2]
    · rw [if_neg (by omega),if_neg h2]
theorem midD_start {D : Int→Int→Int} {v : Int} (a b : Nat) : D (a : Int) (b : Int)=midD D v 0 0 (a : Int) (b : Int):=by
  unfold midD
  rw [if_neg (by omega)]
theorem midD_line {D : Int→Int→Int} {v : Int} {u n : Nat} {a b : Nat} (hb : b<n) : midD D v u n (a : Int) (b : Int)=midD D v (u+1) 0 (a : Int) (b : Int):=by
  unfold midD
  by_cases h : (a : Int)<(u : Int)∨((a : Int)=(u : Int)∧(b : Int)<(n : Int))
  · rw [if_pos h,if_pos (by omega)]
  · rw [if_neg h,if_neg (by omega)]
theorem midD_end {D : Int→Int→Int} {v : Int} {n : Nat} {a b : Nat} (ha : a<n) : midD D v n 0 (a : Int) (b : Int)=fwS D v (a : Int) (b : Int):=by
  unfold midD
  rw [if_pos (by omega)]
end Go.Proofs.Ytlbihfbeamlacaa
