/- The plain law of a path: what Path returns. -/
import Derived.Test.YtlbihfbeamlacaaHbxae
set_option linter.unusedSimpArgs false
set_option linter.unusedVariables false
set_option maxRecDepth 100000
set_option maxHeartbeats 6400000
namespace Go.Proofs.Ytlbihfbeamlacaa
open Go.RowKit
theorem least_is {es : List ED} {f t : Int} (h : 0≤leastE es f t) : ∃ e,e ∈ es∧e.f=f∧e.t=t∧e.n=leastE es f t:=by
  suffices H : ∀ (fs : List ED) (m : Int),(fs.foldl (fun m e=>lstS m e f t) m=m)∨∃ e,e ∈ fs∧e.f=f∧e.t=t∧e.n=fs.foldl (fun m e=>lstS m e f t) m by
    rcases H es (-1) with h1 | h1
    · unfold leastE at h; omega
    · exact h1
  intro fs
  induction fs with
  | nil=>exact fun m=>.inl rfl
  | cons x fs ih =>
    intro m
    rw [List.foldl_cons]
    rcases ih (lstS m x f t) with h1 | ⟨e,h1,h2⟩
    · rw [h1]
      unfold lstS
      split
      · rename_i hc
        exact .inr ⟨x,List.mem_cons_self ..,hc.1,hc.2.1,rfl⟩
      · exact .inl rfl
    · exact .inr ⟨e,List.mem_cons_of_mem _ h1,h2⟩
def preS (W : Int→Int→Int) (l : List Int) (j : Nat) : Int:=sumW W (l.take (j+1))
section
variable {W : Int→Int→Int}
theorem adj_at : ∀ {l : List Int} {j : Nat} (h : adjW W l) (hj : j+1<l.length),0≤W (l[j]'(by omega)) l[j+1]
  | u :: w :: l,0,h,_=>h.1
  | u :: w :: l,j+1,h,hj=>adj_at (l:=w :: l) (j:=j) h.2 (by simpa using hj)
  | [],_,_,hj=>by simp at hj
  | [_],_,_,hj=>by simp at hj
theorem preS_zero {l : List Int} : preS W l 0=0:=by
  unfold preS
  cases l <;> rfl
theorem preS_succ {l : List Int} {j : Nat} (hj : j+1<l.length) : preS W l (j+1)=preS W l j+W (l[j]'(by omega)) l[j+1]:=by
  unfold preS
  have h1 : l.take (j+1)=l.take j ++ [l[j]'(by omega)]:=List.take_succ_eq_append_getElem (by omega)
  have h2 : l.take (j+1+1)=l.take (j+1) ++ [l[j+1]]:=List.take_succ_eq_append_getElem hj
  rw [h2,h1,List.append_assoc]
  have:=sumW_app (W:=W) (l.take j) (l[j]'(by omega)) [l[j+1]]
  simp only [List.cons_append,List.nil_append,sumW] at this ⊢
  omega
theorem preS_end {l : List Int} (h : 0<l.length) : preS W l (l.length - 1)=sumW W l:=by
  unfold preS
  rw [List.take_of_length_le (by omega)]
variable {n : Nat} {es : List ED} {D : Int→Int→Int}
theorem seg_wk (i : Nat) {l : List Int} (ha : adjW (leastE es) l) : ∀ (d : Nat) (hk : i+d<l.length),Wk es (l[i]'(by omega)) l[i+d] (preS (leastE es) l (i+d) - preS (leastE es) l i)
  | 0,hk=>by
    show Wk es (l[i]'(by omega)) (l[i]'(by omega)) (preS (leastE es) l i - preS (leastE es) l i)
    rw [Int.sub_self]
    exact .nil _
  | d+1,hk=>by
    have ih:=seg_wk i ha d (by omega)
    have h0:=adj_at (j:=i+d) ha hk
    obtain ⟨e,he,hf,ht,hn⟩:=least_is h0
    have hp:=preS_succ (W:=leastE es) (l:=l) (j:=i+d) hk
    rw [← hf] at ih
    have h2:=ih.snoc he
    rw [ht,hn] at h2
    have h3 : preS (leastE es) l (i+d) - preS (leastE es) l i+leastE es l[i+d] l[i+d+1]=preS (leastE es) l (i+(d+1)) - preS (leastE es) l i:=by
      show _=preS (leastE es) l (i+d+1) - _
      omega
    rw [h3] at h2
    exact h2
theorem nodup_len : ∀ (n : Nat) (l : List Int),l.Nodup→(∀ x,x ∈ l→Ir n x)→l.length≤n
  | 0,[],_,_=>Nat.le_refl _
  | 0,x :: l,_,h=>by have:=h x (List.mem_cons_self ..); unfold Ir at this; omega
  | n+1,l,hn,h=>by
    have h1:=nodup_len n (l.erase (n : Int)) (hn.erase _) (fun x hx=>by
      rw [hn.mem_erase_iff] at hx
      have:=h x hx.2
      have:=hx.1
      unfold Ir at *
      omega)
    by_cases hm : (n : Int) ∈ l
    · have:=List.length_erase_of_mem hm
      omega
    · rw [List.erase_of_not_mem hm] at h1
      omega
/-- What a path is. -/
structure PathP (n : Nat) (es : List ED) (D : Int→Int→Int) (s t : Int) (l : List Int) : Prop where
  pos : 0<l.length
  len : l.length≤n
  rng : ∀ x,x ∈ l→Ir n x
  fst : l[0]? = some s
  lst : l[l.length - 1]? = some t
  nod : l.Nodup
  adj : ∀ (j : Nat) (h : j+1<l.length),0≤leastE es (l[j]'(by omega)) l[j+1]
  sum : preS (leastE es) l (l.length - 1)=D s t
  seg : ∀ (i d : Nat) (h : i+d<l.length),D (l[i]'(by omega)) l[i+d]=preS (leastE es) l (i+d) - preS (leastE es) l i
theorem smp_path (hd : IsD n es D) (hg : GrE n es) {s t c : Int} {l : List Int} (hs : Ir n s) (h : SmpP (leastE es) s t c l) (hc : c≤D s t) : PathP n es D s t l:=by
  obtain ⟨m1,h1⟩:=h.fst
  obtain ⟨m2,h2⟩:=h.lst
  have hpos : 0<l.length:=by rw [h1]; simp
  have hf : l[0]? = some s:=by rw [h1]; rfl
  have hl : l[l.length - 1]? = some t:=by rw [h2]; simp
  have hf' : l[0]=s:=by rw [List.getElem?_eq_getElem hpos] at hf; exact Option.some.inj hf
  have hl' : l[l.length - 1]'(by omega)=t:=by rw [List.getElem?_eq_getElem (by omega)] at hl; exact Option.some.inj hl
  have hrg : ∀ (j : Nat) (hj : j<l.length),Ir n l[j]:=fun j hj=>by
    have h3:=seg_wk 0 h.adj j (by omega)
    have h4:=h3.end_ hg (by rw [hf']; exact hs)
    simpa using h4
  have hle : ∀ (i d : Nat) (hk : i+d<l.length),0≤D (l[i]'(by omega)) l[i+d]∧D (l[i]'(by omega)) l[i+d]≤preS (leastE es) l (i+d) - preS (leastE es) l i:=fun i d hk=>hd.min hg (seg_wk i h.adj d hk) (hrg i (by omega))
  have hend:=preS_end (W:=leastE es) hpos
  have hz:=preS_zero (W:=leastE es) (l:=l)
  have htot:=hle 0 (l.length - 1) (by omega)
  have hx : (l[0+(l.length - 1)]'(by omega))=t:=by
    have : (0+(l.length - 1))=l.length - 1:=by omega
    simp only [this]
    exact hl'
  have hy : preS (leastE es) l (0+(l.length - 1))=preS (leastE es) l (l.length - 1):=by rw [Nat.zero_add]
  rw [hf',hx,hy,hz,hend] at htot
  have hsum:=h.sum
  refine ⟨hpos,nodup_len n l h.nod (fun x hx=>?_),fun x hx=>?_,hf,hl,h.nod,fun j hj=>adj_at h.adj hj,by omega,fun i d hk=>?_⟩
  · obtain ⟨j,hj,rfl⟩:=List.mem_iff_getElem.1 hx
    exact hrg j hj
  · obtain ⟨j,hj,rfl⟩:=List.mem_iff_getElem.1 hx
    exact hrg j hj
  · have a1:=hle 0 i (by omega)
    have a2:=hle i d hk
    have a3:=hle (i+d) (l.length - 1 - (i+d)) (by omega)
    have e1 : (l[0+i]'(by omega))=l[i]'(by omega):=by simp
    have e2 : (l[i+d+(l.length - 1 - (i+d))]'(by omega))=t:=by
      have : i+d+(l.length - 1 - (i+d))=l.length - 1:=by omega
      simp only [this]
      exact hl'
    have e3 : preS (leastE es) l (i+d+(l.length - 1 - (i+d)))=preS (leastE es) l (l.length - 1):=by
      have : i+d+(l.length - 1 - (i+d))=l.length - 1:=by omega
      rw [this]
    have e4 : preS (leastE es) l (0+i)=preS (leastE es) l i:=by rw [Nat.zero_add]
    rw [e1,hf',e4,hz] at a1
    rw [e2,e3,hend] at a3
    have ht : Ir n t:=by rw [← hl']; exact hrg _ _
    have t1:=hd.tri s _ _ hs (hrg i (by omega)) (hrg (i+d) hk) a1.1 a2.1
    have t2:=hd.tri s _ t hs (hrg (i+d) hk) ht t1.1 a3.1
    omega
end
/-- Path. -/
def pathL (F : Int→Int→Option ED) (n : Nat) (bA bB : Int→Int) (s at_ : Int) : List Int:=smpL (s :: unpL F n (climbL bA bB n at_))
section
variable {n : Nat} {es : List ED} {rk : Int→Int} {D : Int→Int→Int} {F : Int→Int→Option ED} {s t : Int} {dA bA dB bB : Int→Int}
theorem path_P (h : HOK n es rk D F) (hs : Ir n s) (ht : Ir n t) (hA : Climb n F rk s dA bA) (hB : Climb n (flipF F) rk t dB bB) (h0 : 0≤D s t) : PathP n es D s t (pathL F n bA bB s (meetL dA dB n).1):=by
  obtain ⟨_,hm,_⟩:=meet_D h hs ht hA hB
  obtain ⟨hv,h1,h2,h3⟩:=hm h0
  obtain ⟨c1,c2,⟨m,c3⟩,c4⟩:=climb_whole h hA hB hv h1 h2
  unfold pathL
  rw [c3] at c1 c2 c4 ⊢
  obtain ⟨u1,u2,u3⟩:=unpackL_ok h m s c1
  have hp:=smpL_ok u1 (u3 t c4)
  refine smp_path h.d h.gr hs hp ?_
  rw [u2,c2,h3]
  exact Int.le_refl _
end
end Go.Proofs.Ytlbihfbeamlacaa
