/- The plain law of Build. -/
import Derived.Test.YtlbihfbeamlacaaHbxaf
set_option linter.unusedSimpArgs false
set_option linter.unusedVariables false
set_option maxRecDepth 100000
set_option maxHeartbeats 6400000
namespace Go.Proofs.Ytlbihfbeamlacaa
open Go.RowKit
def contP (rk : Int→Int) (v : Int) (l : List ED) (u w : Int) : List ED:=match lkE l u v,lkE l v w with
  | some a,some b=>if u=w∨rk u<rk v∨rk w<rk v then l else addE l ⟨u,w,a.n+b.n,v⟩
  | _,_=>l
/-- While a node is contracted: what was gone over is as it will be. -/
structure CvP (l : List ED) (rk : Int→Int) (v : Int) (P : Int→Int→Prop) (m : List ED) : Prop where
  srt : SrtE m
  yes : ∀ f t,P f t→lkE m f t=cvF (lkE l) rk v f t
  no : ∀ f t,¬ P f t→lkE m f t=lkE l f t
section
variable {l m : List ED} {rk : Int→Int} {v : Int} {P Q : Int→Int→Prop}
theorem CvP.to (h : CvP l rk v P m) (hv : lkE l v v=none) (u : Int) : lkE m u v=lkE l u v:=by
  by_cases hp : P u v
  · rw [h.yes u v hp,cvF_to hv]
  · exact h.no u v hp
theorem CvP.from_ (h : CvP l rk v P m) (hv : lkE l v v=none) (w : Int) : lkE m v w=lkE l v w:=by
  by_cases hp : P v w
  · rw [h.yes v w hp,cvF_from hv]
  · exact h.no v w hp
theorem CvP.cast (h : CvP l rk v P m) (hPQ : ∀ f t,P f t↔Q f t) : CvP l rk v Q m :=
  ⟨h.srt,fun f t hq=>h.yes f t ((hPQ f t).2 hq),fun f t hq=>h.no f t fun hp=>hq ((hPQ f t).1 hp)⟩
/-- A pair that changes nothing. -/
theorem CvP.skip (h : CvP l rk v P m) {u w : Int} (hs : cvF (lkE l) rk v u w=lkE l u w) : CvP l rk v (fun f t=>P f t∨(f=u∧t=w)) m:=by
  refine ⟨h.srt,fun f t hp=>?_,fun f t hp=>h.no f t fun h'=>hp (.inl h')⟩
  by_cases hq : P f t
  · exact h.yes f t hq
  · rcases hp with hp | ⟨rfl,rfl⟩
    · exact absurd hp hq
    · rw [h.no _ _ hq,hs]
/-- A pair that adds an edge. -/
theorem CvP.add (h : CvP l rk v P m) {u w : Int} {a b : ED} (ha : lkE l u v=some a) (hb : lkE l v w=some b) (hc : ¬ (u=w∨rk u<rk v∨rk w<rk v)) (hn : ¬ P u w) : CvP l rk v (fun f t=>P f t∨(f=u∧t=w)) (addE m ⟨u,w,a.n+b.n,v⟩):=by
  have hcv : cvF (lkE l) rk v u w=some (addV (lkE l u w) ⟨u,w,a.n+b.n,v⟩):=by
    unfold cvF
    rw [ha,hb]
    simp only
    rw [if_neg hc]
  refine ⟨addE_srt h.srt _,fun f t hp=>?_,fun f t hp=>?_⟩
  · rw [lkE_add]
    by_cases he : u=f∧w=t
    · obtain ⟨rfl,rfl⟩:=he
      rw [if_pos ⟨rfl,rfl⟩,h.no u w hn,hcv]
    · rw [if_neg he]
      rcases hp with hp | ⟨rfl,rfl⟩
      · exact h.yes f t hp
      · exact absurd ⟨rfl,rfl⟩ he
  · rw [lkE_add,if_neg (fun he=>hp (.inr ⟨he.1.symm,he.2.symm⟩))]
    exact h.no f t fun h'=>hp (.inl h')
theorem CvP.pair (h : CvP l rk v P m) (hv : lkE l v v=none) {u w : Int} (hn : ¬ P u w) : CvP l rk v (fun f t=>P f t∨(f=u∧t=w)) (contP rk v m u w):=by
  unfold contP
  rw [h.to hv,h.from_ hv]
  cases ha : lkE l u v with
  | none=>exact h.skip (by unfold cvF; rw [ha])
  | some a =>
    cases hb : lkE l v w with
    | none=>exact h.skip (by unfold cvF; rw [ha,hb])
    | some b =>
      simp only
      split
      · rename_i hc
        exact h.skip (by unfold cvF; rw [ha,hb]; simp only; rw [if_pos hc])
      · rename_i hc
        exact h.add ha hb hc hn
theorem CvP.nil (hs : SrtE l) : CvP l rk v (fun _ _=>False) l:=⟨hs,fun _ _ h=>h.elim,fun _ _ _=>rfl⟩
end
def rowP (rk : Int→Int) (v : Int) (u : Int) (k : Nat) (l : List ED) : List ED:=(List.range k).foldl (fun l (w : Nat)=>contP rk v l u (w : Int)) l
def contE (n : Nat) (rk : Int→Int) (v : Int) (k : Nat) (l : List ED) : List ED:=(List.range k).foldl (fun l (u : Nat)=>rowP rk v (u : Int) n l) l
theorem rowP_succ (rk : Int→Int) (v u : Int) (k : Nat) (l : List ED) : rowP rk v u (k+1) l=contP rk v (rowP rk v u k l) u (k : Int):=by
  unfold rowP; rw [List.range_succ,List.foldl_append]; rfl
theorem contE_succ (n : Nat) (rk : Int→Int) (v : Int) (k : Nat) (l : List ED) : contE n rk v (k+1) l=rowP rk v (k : Int) n (contE n rk v k l):=by
  unfold contE; rw [List.range_succ,List.foldl_append]; rfl
section
variable {l m : List ED} {rk : Int→Int} {v : Int}
theorem rowP_P {P : Int→Int→Prop} (h : CvP l rk v P m) (hv : lkE l v v=none) {u : Int} (hn : ∀ w,¬ P u w) : ∀ k : Nat,CvP l rk v (fun f t=>P f t∨(f=u∧0≤t∧t<(k : Int))) (rowP rk v u k m)
  | 0=>h.cast fun f t=>⟨.inl,fun h=>h.elim id fun h=>by omega⟩
  | k+1=>by
    rw [rowP_succ]
    refine ((rowP_P h hv hn k).pair hv (fun hp=>hp.elim (hn _) (fun h=>by omega))).cast fun f t=>⟨fun h=>?_,fun h=>?_⟩
    · rcases h with (h | h) | h
      · exact .inl h
      · exact .inr ⟨h.1,h.2.1,by omega⟩
      · exact .inr ⟨h.1,by omega,by omega⟩
    · rcases h with h | h
      · exact .inl (.inl h)
      · by_cases ht : t=(k : Int)
        · exact .inr ⟨h.1,ht⟩
        · exact .inl (.inr ⟨h.1,h.2.1,by omega⟩)
theorem contE_P (hs : SrtE l) (hv : lkE l v v=none) (n : Nat) : ∀ k : Nat,CvP l rk v (fun f t=>(0≤f∧f<(k : Int))∧0≤t∧t<(n : Int)) (contE n rk v k l)
  | 0=>(CvP.nil hs).cast fun f t=>⟨fun h=>h.elim,fun h=>by omega⟩
  | k+1=>by
    rw [contE_succ]
    refine (rowP_P (contE_P hs hv n k) hv (u:=(k : Int)) (fun w h=>by omega) n).cast fun f t=>⟨fun h=>?_,fun h=>?_⟩
    · rcases h with h | h
      · exact ⟨⟨h.1.1,by omega⟩,h.2⟩
      · exact ⟨⟨by omega,by omega⟩,h.2⟩
    · by_cases hf : f=(k : Int)
      · exact .inr ⟨hf,h.2⟩
      · exact .inl ⟨⟨h.1.1,by omega⟩,h.2⟩
/-- What is found behind a contraction. -/
theorem contE_lk {n : Nat} (hs : SrtE l) (hk : ∀ f t x,lkE l f t=some x→Ir n f∧Ir n t∧f≠t) : SrtE (contE n rk v n l)∧∀ f t,lkE (contE n rk v n l) f t=cvF (lkE l) rk v f t:=by
  have hv : lkE l v v=none:=by
    cases hc : lkE l v v with
    | none=>rfl
    | some x=>exact absurd rfl (hk v v x hc).2.2
  have h:=contE_P (rk:=rk) hs hv n n
  refine ⟨h.srt,fun f t=>?_⟩
  by_cases hp : (0≤f∧f<(n : Int))∧0≤t∧t<(n : Int)
  · exact h.yes f t hp
  · rw [h.no f t hp]
    unfold cvF
    cases ha : lkE l f v with
    | none=>rfl
    | some a =>
      cases hb : lkE l v t with
      | none=>rfl
      | some b=>exact absurd ⟨(hk f v a ha).1,(hk v t b hb).2.1⟩ hp
end
def iniS (l : List ED) (e : ED) : List ED:=if e.f=e.t then l else addE l e
def iniL (es : List ED) : List ED:=es.foldl iniS []
theorem iniL_snoc (es : List ED) (e : ED) : iniL (es ++ [e])=iniS (iniL es) e:=by unfold iniL; rw [List.foldl_append]; rfl
theorem iniS_lk (l : List ED) (e : ED) (f t : Int) : lkE (iniS l e) f t=adF (lkE l) e f t:=by
  unfold iniS adF
  by_cases he : e.f=e.t
  · rw [if_pos he,if_neg (fun h=>h.1 he)]
  · rw [if_neg he,lkE_add]
    by_cases hk : e.f=f∧e.t=t
    · rw [if_pos hk,if_pos ⟨he,hk⟩]
    · rw [if_neg hk,if_neg (fun h=>hk h.2)]
theorem iniS_srt {l : List ED} (h : SrtE l) (e : ED) : SrtE (iniS l e):=by
  unfold iniS
  split
  · exact h
  · exact addE_srt h e
theorem ini_O : ∀ (fs es : List ED) (l : List ED),SrtE l→OInv es (lkE l)→(∀ x,x ∈ es ++ fs→0≤x.n)→SrtE (fs.foldl iniS l)∧OInv (es ++ fs) (lkE (fs.foldl iniS l))
  | [],es,l,hs,h,_=>⟨hs,by rw [List.append_nil]; exact h⟩
  | e :: fs,es,l,hs,h,hn=>by
    have h1 : OInv (es ++ [e]) (lkE (iniS l e)):=by
      have:=h.add (e:=e) (fun x hx=>hn x (List.mem_append_left _ hx))
      have he : lkE (iniS l e)=adF (lkE l) e:=by funext f t; exact iniS_lk l e f t
      rw [he]; exact this
    have:=ini_O fs (es ++ [e]) (iniS l e) (iniS_srt hs e) h1 (by rw [List.append_assoc]; exact hn)
    rw [List.append_assoc] at this
    exact this
theorem iniL_O {es : List ED} (hn : ∀ x,x ∈ es→0≤x.n) : SrtE (iniL es)∧OInv es (lkE (iniL es)):=by
  have:=ini_O es [] [] List.Pairwise.nil (by
    have he : lkE []=fun _ _=>none:=by funext f t; rfl
    rw [he]; exact .nil) (by simpa using hn)
  rw [List.nil_append] at this
  exact this
/-- The ranks: each number once. -/
structure RkOK (n : Nat) (R : List Int) : Prop where
  len : R.length=n
  rng : ∀ x,x ∈ R→Ir n x
  nod : R.Nodup
def rkF (R : List Int) (v : Int) : Int:=(R[v.toNat]?).getD 0
def vAt (R : List Int) (r : Nat) : Int:=((R.findIdx fun x=>decide (x=(r : Int)) : Nat) : Int)
section
variable {n : Nat} {R : List Int}
theorem RkOK.at_ (h : RkOK n R) {v : Int} (hv : Ir n v) : ∃ hl : v.toNat<R.length,rkF R v=R[v.toNat]:=by
  have hl : v.toNat<R.length:=by have:=h.len; unfold Ir at hv; omega
  exact ⟨hl,by unfold rkF; rw [List.getElem?_eq_getElem hl]; rfl⟩
theorem RkOK.lt (h : RkOK n R) {v : Int} (hv : Ir n v) : 0≤rkF R v∧rkF R v<n:=by
  obtain ⟨hl,he⟩:=h.at_ hv
  rw [he]
  exact h.rng _ (List.getElem_mem hl)
theorem nodup_inj {α : Type} {l : List α} (h : l.Nodup) {i j : Nat} (hi : i<l.length) (hj : j<l.length) (he : l[i]=l[j]) : i=j:=by
  rcases Nat.lt_trichotomy i j with hlt | hlt | hlt
  · exact absurd he (List.pairwise_iff_getElem.1 h i j hi hj hlt)
  · exact hlt
  · exact absurd he.symm (List.pairwise_iff_getElem.1 h j i hj hi hlt)
theorem RkOK.inj (h : RkOK n R) : ∀ a b,Ir n a→Ir n b→rkF R a=rkF R b→a=b:=fun a b ha hb he=>by
  obtain ⟨la,ea⟩:=h.at_ ha
  obtain ⟨lb,eb⟩:=h.at_ hb
  rw [ea,eb] at he
  have:=nodup_inj h.nod la lb he
  unfold Ir at ha hb
  omega
theorem perm_mem : ∀ (n : Nat) (l : List Int),l.Nodup→(∀ x,x ∈ l→Ir n x)→l.length=n→∀ r : Nat,r<n→(r : Int) ∈ l:=fun n l hn hr hl r hrn=>Classical.byContradiction fun hc=>by
  have:=nodup_len n ((r : Int) :: l) (List.nodup_cons.2 ⟨hc,hn⟩) (fun x hx=>by
    rcases List.mem_cons.1 hx with rfl | hx
    · exact ⟨by omega,by omega⟩
    · exact hr x hx)
  rw [List.length_cons] at this
  omega
theorem RkOK.vat (h : RkOK n R) {r : Nat} (hr : r<n) : Ir n (vAt R r)∧rkF R (vAt R r)=r:=by
  have hm:=perm_mem n R h.nod h.rng h.len r hr
  have hlt : R.findIdx (fun x=>decide (x=(r : Int)))<R.length:=List.findIdx_lt_length_of_exists ⟨_,hm,by simp⟩
  have hp:=List.findIdx_getElem (p:=fun x=>decide (x=(r : Int))) (xs:=R) (w:=hlt)
  simp only [decide_eq_true_eq] at hp
  refine ⟨⟨by unfold vAt; omega,by unfold vAt; have:=h.len; omega⟩, ?_⟩
  unfold rkF vAt
  rw [Int.toNat_natCast,List.getElem?_eq_getElem hlt]
  exact hp
end
/-- Build's edges when k nodes were contracted. -/
def bldK (n : Nat) (es : List ED) (R : List Int) (k : Nat) : List ED:=(List.range k).foldl (fun l r=>contE n (rkF R) (vAt R r) n l) (iniL es)
def bldL (n : Nat) (es : List ED) (R : List Int) : List ED:=bldK n es R n
theorem bldK_succ (n : Nat) (es : List ED) (R : List Int) (k : Nat) : bldK n es R (k+1)=contE n (rkF R) (vAt R k) n (bldK n es R k):=by
  unfold bldK; rw [List.range_succ,List.foldl_append]; rfl
/-- The edges are those of a graph of the document. -/
structure GrD (n : Nat) (es : List ED) : Prop where
  gr : GrE n es
  top : ∀ e,e ∈ es→e.n≤1000000
  via : ∀ e,e ∈ es→e.v = -1
theorem bldK_P {n : Nat} {es : List ED} {R : List Int} (hg : GrD n es) (hR : RkOK n R) : ∀ k,k≤n→SrtE (bldK n es R k)∧HInv n es (rkF R) (tabK es n) k (lkE (bldK n es R k))
  | 0,_=>by
    have h:=iniL_O hg.gr.n0
    exact ⟨h.1,h.2.start hg.gr (table_D hg.gr) hg.via hg.top (fun v hv=>(hR.lt hv).1)⟩
  | k+1,hk=>by
    obtain ⟨h1,h2⟩:=bldK_P hg hR k (by omega)
    obtain ⟨v1,v2⟩:=hR.vat (r:=k) (by omega)
    obtain ⟨c1,c2⟩:=contE_lk (rk:=rkF R) (v:=vAt R k) (n:=n) h1 (fun f t x hx=>(h2.key f t x hx).2.2)
    rw [bldK_succ]
    refine ⟨c1, ?_⟩
    have he : lkE (contE n (rkF R) (vAt R k) n (bldK n es R k))=cvF (lkE (bldK n es R k)) (rkF R) (vAt R k):=by funext f t; exact c2 f t
    rw [he]
    exact h2.step (table_D hg.gr) v1 v2 hR.inj
/-- The hierarchy of Build. -/
theorem build_ok {n : Nat} {es : List ED} {R : List Int} (hg : GrD n es) (hR : RkOK n R) : SrtE (bldL n es R)∧HOK n es (rkF R) (tabK es n) (lkE (bldL n es R)):=by
  obtain ⟨h1,h2⟩:=bldK_P hg hR n (Nat.le_refl _)
  exact ⟨h1,h2,hg.gr,table_D hg.gr,fun v hv=>hR.lt hv,hR.inj⟩
end Go.Proofs.Ytlbihfbeamlacaa
