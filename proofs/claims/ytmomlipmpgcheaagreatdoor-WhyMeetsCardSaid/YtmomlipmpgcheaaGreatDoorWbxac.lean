/- The plain law of package why: the least change. -/
import Derived.Test.YtmomlipmpgcheaaGreatDoorWbxab
set_option linter.unusedSimpArgs false
set_option linter.unusedVariables false
set_option maxRecDepth 100000
set_option maxHeartbeats 6400000
namespace Go.Proofs.YtmomlipmpgcheaaGreatDoor
open Go.RowKit
def minF {α : Type} (lt : α→α→Bool) : α→List α→α
  | m,[]=>m
  | m,x :: r=>minF lt (if lt x m=true then x else m) r
theorem minF_mem {α : Type} {lt : α→α→Bool} : ∀ (l : List α) (m : α),minF lt m l ∈ m :: l
  | [],m=>by simp [minF]
  | x :: r,m=>by
    rw [minF]
    have h:=minF_mem (lt:=lt) r (if lt x m=true then x else m)
    rcases List.mem_cons.1 h with h | h
    · rw [h]
      split
      · simp
      · simp
    · exact List.mem_cons_of_mem _ (List.mem_cons_of_mem _ h)
theorem minF_le {α : Type} {lt : α→α→Bool} (ht : ∀ a b c,lt a b=true→lt b c=true→lt a c=true) : ∀ (l : List α) (m : α),minF lt m l=m∨lt (minF lt m l) m=true
  | [],m=>.inl rfl
  | x :: r,m=>by
    rw [minF]
    by_cases hc : lt x m=true
    · rw [if_pos hc]
      rcases minF_le ht r x with h | h
      · rw [h]; exact .inr hc
      · exact .inr (ht _ _ _ h hc)
    · rw [if_neg hc]
      exact minF_le ht r m
theorem minF_min {α : Type} {lt : α→α→Bool} (ht : ∀ a b c,lt a b=true→lt b c=true→lt a c=true) (hi : ∀ a,lt a a=false) : ∀ (l : List α) (m y : α),y ∈ m :: l→lt y (minF lt m l)=false
  | [],m,y,h=>by
    rw [List.mem_singleton.1 h]
    exact hi m
  | x :: r,m,y,h=>by
    have low : ∀ y m,lt y m=false→lt y (minF lt m r)=false:=fun y m h=>by
      rcases hb : lt y (minF lt m r)
      · rfl
      · rcases minF_le ht r m with e | e
        · rw [e,h] at hb; cases hb
        · rw [ht _ _ _ hb e] at h; cases h
    have asym : ∀ a b,lt a b=true→lt b a=false:=fun a b h1=>by
      rcases h2 : lt b a
      · rfl
      · have:=ht _ _ _ h1 h2
        rw [hi] at this
        cases this
    rw [minF]
    by_cases hc : lt x m=true
    · rw [if_pos hc]
      rcases List.mem_cons.1 h with rfl | h
      · exact low y x (asym _ _ hc)
      · exact minF_min ht hi r x y h
    · rw [if_neg hc]
      rcases List.mem_cons.1 h with rfl | h
      · exact minF_min ht hi r y y (by simp)
      · rcases List.mem_cons.1 h with rfl | h
        · exact low y m (by simpa using hc)
        · exact minF_min ht hi r m y (List.mem_cons_of_mem _ h)
section
variable (ns : List Nat) (F : List Nat→Bool × Int)
def ltW (x y : List Nat) : Bool:=betB (bitL ns.length (maskW x)) (bitL ns.length (maskW y)) || ((maskW x == maskW y) && lexB x y)
def toB (w : List Nat) : Bool:=((F w).2 == 0) && ((F w).1 != (F (zW ns)).1)
def othL : List (List Nat):=(enumW ns).filter (toB ns F)
def othW : Option (List Nat):=match othL ns F with
  | []=>none
  | m :: l=>some (minF (ltW ns) m l)
end
section
variable {ns : List Nat} {F : List Nat→Bool × Int}
theorem ltW_irr (a : List Nat) : ltW ns a a=false:=by
  unfold ltW
  rw [betB_irr,lexB_irr]
  simp
theorem lexB_len {a b c : List Nat} (h1 : lexB a b=true) (h2 : lexB b c=true) : lexB a c=true:=by
  have h : ∀ a b c : List Nat,lexB a b=true→lexB b c=true→lexB a c=true:=by
    intro a
    induction a with
    | nil=>intro b c h _; simp [lexB] at h
    | cons x a ih =>
      intro b c h3 h4
      cases b with
      | nil=>simp [lexB] at h3
      | cons y b =>
        cases c with
        | nil=>simp [lexB] at h4
        | cons z c =>
          rw [lexB] at h3 h4 ⊢
          by_cases e1 : x=y
          · rw [if_pos e1] at h3
            subst e1
            by_cases e2 : x=z
            · rw [if_pos e2] at h4 ⊢
              exact ih b c h3 h4
            · rw [if_neg e2] at h4 ⊢
              exact h4
          · rw [if_neg e1] at h3
            have l1 : x<y:=of_decide_eq_true h3
            by_cases e2 : y=z
            · subst e2
              rw [if_neg e1]
              exact h3
            · rw [if_neg e2] at h4
              have l2 : y<z:=of_decide_eq_true h4
              rw [if_neg (by omega)]
              exact decide_eq_true (by omega)
  exact h a b c h1 h2
theorem ltW_trans (a b c : List Nat) (h1 : ltW ns a b=true) (h2 : ltW ns b c=true) : ltW ns a c=true:=by
  unfold ltW at *
  rw [Bool.or_eq_true,Bool.and_eq_true,beq_iff_eq] at *
  rcases h1 with h1 | ⟨e1,h1⟩
  · rcases h2 with h2 | ⟨e2,h2⟩
    · exact .inl (betB_trans h1 h2)
    · rw [e2] at h1
      exact .inl h1
  · rcases h2 with h2 | ⟨e2,h2⟩
    · rw [← e1] at h2
      exact .inl h2
    · exact .inr ⟨e1.trans e2,lexB_len h1 h2⟩
theorem ltW_tri {a b : List Nat} (ha : ValW ns a) (hb : ValW ns b) (h : a≠b) : ltW ns a b=true∨ltW ns b a=true:=by
  unfold ltW
  by_cases e : maskW a=maskW b
  · rcases lexB_tri (ha.1.trans hb.1.symm) h with h1 | h1
    · left; rw [h1,e]; simp
    · right; rw [h1,e]; simp
  · have hne : bitL ns.length (maskW a)≠bitL ns.length (maskW b):=fun h2=>e (bitL_inj (by rw [← ha.1]; exact maskW_lt a) (by rw [← hb.1]; exact maskW_lt b) h2)
    rcases betB_tri hne with h1 | h1
    · left; rw [h1]; rfl
    · right; rw [h1]; rfl
theorem toB_iff (w : List Nat) : toB ns F w=true↔(F w).2=0∧(F w).1≠(F (zW ns)).1:=by
  unfold toB
  rw [Bool.and_eq_true,beq_iff_eq,bne_iff_ne]
theorem mem_othL (w : List Nat) : w ∈ othL ns F↔ValW ns w∧(F w).2=0∧(F w).1≠(F (zW ns)).1:=by
  unfold othL
  rw [List.mem_filter,mem_enumW,toB_iff]
theorem othW_none (h : othW ns F=none) {w : List Nat} (hv : ValW ns w) (he : (F w).2=0) : (F w).1=(F (zW ns)).1:=by
  refine Classical.byContradiction fun hn=>?_
  have hm:=(mem_othL w).2 ⟨hv,he,hn⟩
  unfold othW at h
  rcases hl : othL ns F with _ | ⟨m,l⟩
  · rw [hl] at hm; cases hm
  · rw [hl] at h; cases h
theorem othW_some {x : List Nat} (h : othW ns F=some x) : x ∈ othL ns F∧∀ y,y ∈ othL ns F→ltW ns y x=false:=by
  unfold othW at h
  rcases hl : othL ns F with _ | ⟨m,l⟩
  · rw [hl] at h; cases h
  · rw [hl] at h
    injection h with h
    rw [← h]
    exact ⟨minF_mem l m,fun y hy=>minF_min ltW_trans ltW_irr l m y hy⟩
theorem othW_only {x : List Nat} (hx : x ∈ othL ns F) (hm : ∀ y,y ∈ othL ns F→ltW ns y x=false) : othW ns F=some x:=by
  rcases ho : othW ns F with _ | z
  · have h1:=(mem_othL x).1 hx
    exact absurd (othW_none ho h1.1 h1.2.1) h1.2.2
  · obtain ⟨hz,hzm⟩:=othW_some ho
    refine congrArg some (Classical.byContradiction fun hne=>?_)
    rcases ltW_tri ((mem_othL z).1 hz).1 ((mem_othL x).1 hx).1 hne with h | h
    · rw [hm z hz] at h; cases h
    · rw [hzm x hx] at h; cases h
theorem othW_least {x y : List Nat} (h : othW ns F=some x) (hv : ValW ns y) (he : (F y).2=0) (ht : (F y).1≠(F (zW ns)).1) : (bitL ns.length (maskW x)).length≤(bitL ns.length (maskW y)).length:=by
  have h1:=(othW_some h).2 y ((mem_othL y).2 ⟨hv,he,ht⟩)
  unfold ltW at h1
  rw [Bool.or_eq_false_iff] at h1
  have h2:=h1.1
  unfold betB at h2
  by_cases e : (bitL ns.length (maskW y)).length=(bitL ns.length (maskW x)).length
  · omega
  · rw [if_neg e] at h2
    have:=of_decide_eq_false h2
    omega
theorem oth_meets (h0 : (F (zW ns)).2=0) {x : List Nat} (h : othW ns F=some x) : ∃ i,i ∈ bitL ns.length (maskW x)∧i ∈ whyL ns F:=by
  obtain ⟨hv,he,ht⟩:=(mem_othL x).1 (othW_some h).1
  refine Classical.byContradiction fun hn=>ht (congrArg Prod.fst (whyL_ok h0 hv fun i hi=>?_))
  refine Classical.byContradiction fun hx=>hn ⟨i,mem_bitL.2 ⟨(mem_bitL.1 hi).1, ?_⟩,hi⟩
  rw [maskW_bit]
  exact decide_eq_true hx
theorem why_nil (h0 : (F (zW ns)).2=0) (h : whyL ns F=[]) : othW ns F=none:=by
  rcases ho : othW ns F with _ | x
  · rfl
  · obtain ⟨i,_,hi⟩:=oth_meets h0 ho
    rw [h] at hi
    cases hi
end
def zrW (P : Nat→Bool) (w : List Nat) : List Nat:=w.mapIdx fun i x=>if P i=true then 0 else x
theorem zrW_len (P : Nat→Bool) (w : List Nat) : (zrW P w).length=w.length:=by simp [zrW]
theorem zrW_at (P : Nat→Bool) (w : List Nat) (i : Nat) : (zrW P w)[i]? = (w[i]?).map fun x=>if P i=true then 0 else x:=by simp [zrW]
theorem zrW_getD (P : Nat→Bool) (w : List Nat) (i : Nat) : (zrW P w).getD i 0=if P i=true then 0 else w.getD i 0:=by
  rw [List.getD_eq_getElem?_getD,zrW_at,List.getD_eq_getElem?_getD]
  rcases w[i]? with _ | x
  · simp
  · simp
section
variable {ns : List Nat} {F : List Nat→Bool × Int} {P : Nat→Bool}
theorem zrW_val {w : List Nat} (h : ValW ns w) : ValW (zrW P ns) (zrW P w):=by
  refine ⟨by rw [zrW_len,zrW_len,h.1],fun i x n hx hn=>?_⟩
  rw [zrW_at] at hx hn
  rcases hw : w[i]? with _ | y
  · rw [hw] at hx; cases hx
  · rcases hm : ns[i]? with _ | m
    · rw [hm] at hn; cases hn
    · rw [hw] at hx
      rw [hm] at hn
      simp only [Option.map_some,Option.some.injEq] at hx hn
      have:=h.2 i y m hw hm
      subst hx hn
      split <;> omega
theorem val_zrW {w : List Nat} (h : ValW (zrW P ns) w) : ValW ns w:=by
  refine ⟨by rw [h.1,zrW_len],fun i x n hx hn=>?_⟩
  have h2:=h.2 i x (if P i=true then 0 else n) hx (by rw [zrW_at,hn]; rfl)
  split at h2 <;> omega
theorem zrW_self {w : List Nat} (h : ValW (zrW P ns) w) : zrW P w=w:=by
  refine List.ext_getElem? fun i=>?_
  rw [zrW_at]
  rcases hw : w[i]? with _ | x
  · rfl
  · rw [Option.map_some,Option.some.injEq]
    by_cases hp : P i=true
    · rw [if_pos hp]
      have hl : i<ns.length:=by
        have h3:=(List.getElem?_eq_some_iff.1 hw).1
        have:=h.1
        rw [zrW_len] at this
        omega
      have h2:=h.2 i x 0 hw (by rw [zrW_at,List.getElem?_eq_getElem hl,Option.map_some,if_pos hp])
      omega
    · rw [if_neg hp]
theorem zW_zr : zW (zrW P ns)=zW ns:=by unfold zW; rw [zrW_len]
theorem kept_zr {m : Nat} {w : List Nat} (h : KeptW m w) : KeptW m (zrW P w):=fun i hi=>by
  rw [zrW_getD,h i hi]
  split <;> rfl
theorem okB_zr (h0 : (F (zW ns)).2=0) (hP : ∀ w,ValW ns w→F (zrW P w)=F w) (m : Nat) : okB (zrW P ns) F m=okB ns F m:=by
  have h1 : okB (zrW P ns) F m=true↔okB ns F m=true:=by
    rw [okB_iff (by rw [zW_zr]; exact h0),okB_iff h0,zW_zr]
    constructor
    · intro h w hv hk
      rw [← hP w hv]
      exact h _ (zrW_val hv) (kept_zr hk)
    · intro h w hv hk
      exact h w (val_zrW hv) hk
  rcases h2 : okB (zrW P ns) F m <;> rcases h3 : okB ns F m
  · rfl
  · rw [h2,h3] at h1; exact absurd (h1.2 rfl) (by decide)
  · rw [h2,h3] at h1; exact absurd (h1.1 rfl) (by decide)
  · rfl
theorem whyM_zr (h0 : (F (zW ns)).2=0) (hP : ∀ w,ValW ns w→F (zrW P w)=F w) : whyM (zrW P ns) F=whyM ns F:=by
  unfold whyM
  have h1 : okB (zrW P ns) F=okB ns F:=funext fun m=>okB_zr h0 hP m
  have h2 : btB (zrW P ns)=btB ns:=by funext a b; unfold btB; rw [zrW_len]
  rw [h1,h2,zrW_len]
theorem whyL_zr (h0 : (F (zW ns)).2=0) (hP : ∀ w,ValW ns w→F (zrW P w)=F w) : whyL (zrW P ns) F=whyL ns F:=by
  unfold whyL
  rw [whyM_zr h0 hP,zrW_len]
theorem whyL_not (h0 : (F (zW ns)).2=0) (hP : ∀ w,ValW ns w→F (zrW P w)=F w) {i : Nat} (hi : P i=true) : i ∉ whyL ns F:=by
  intro hm
  obtain ⟨hn,hb⟩:=mem_bitL.1 hm
  -- the set without i follows,and is better
  have hx : ∀ j,((whyM ns F) ^^^ (2 ^ i)).testBit j=((whyM ns F).testBit j && decide (j≠i)):=fun j=>by
    rw [Nat.testBit_xor,Nat.testBit_two_pow]
    by_cases e : i=j
    · subst e; rw [hb]; simp
    · have e' : ¬ j=i:=fun h=>e h.symm
      simp [e,e']
  have hlt : (whyM ns F) ^^^ (2 ^ i)<2 ^ ns.length:=Nat.xor_lt_two_pow whyM_lt (Nat.pow_lt_pow_right (by decide) hn)
  have hok : okB ns F ((whyM ns F) ^^^ (2 ^ i))=true:=by
    rw [okB_iff h0]
    intro w hv hk
    rw [← hP w hv]
    refine (okB_iff h0 _).1 (whyM_ok h0) _ (val_zrW (zrW_val hv)) fun j hj=>?_
    rw [zrW_getD]
    by_cases hp : P j=true
    · rw [if_pos hp]
    · rw [if_neg hp]
      refine hk j ?_
      rw [hx,hj]
      simp only [Bool.true_and,decide_eq_true_eq]
      exact fun e=>hp (by rw [e]; exact hi)
  have hbet : betB (bitL ns.length ((whyM ns F) ^^^ (2 ^ i))) (whyL ns F)=true:=by
    have hl : (bitL ns.length ((whyM ns F) ^^^ (2 ^ i))).length<(whyL ns F).length:=by
      have hsub : bitL ns.length ((whyM ns F) ^^^ (2 ^ i))=(whyL ns F).filter (fun j=>decide (j≠i)):=by
        unfold whyL bitL
        rw [List.filter_filter]
        congr 1
        funext j
        rw [hx,Bool.and_comm]
      rw [hsub]
      have h2:=List.length_filter_lt_length_iff_exists (l:=whyL ns F) (p:=fun j=>decide (j≠i))
      exact h2.2 ⟨i,hm,by simp⟩
    unfold betB
    rw [if_neg (by omega)]
    exact decide_eq_true hl
  have:=whyL_best hlt hbet
  rw [hok] at this
  cases this
theorem oth_zr (hP : ∀ w,ValW ns w→F (zrW P w)=F w) {x : List Nat} (h : othW ns F=some x) : zrW P x=x:=by
  obtain ⟨hx,hm⟩:=othW_some h
  obtain ⟨hv,he,ht⟩:=(mem_othL x).1 hx
  have hy : zrW P x ∈ othL ns F:=(mem_othL _).2 ⟨val_zrW (zrW_val hv),by rw [hP x hv]; exact he,by rw [hP x hv]; exact ht⟩
  have h1:=hm _ hy
  refine Classical.byContradiction fun hne=>?_
  -- some changed thing of x is left by the other one
  have hsub : bitL ns.length (maskW (zrW P x))=(bitL ns.length (maskW x)).filter (fun j=>!P j):=by
    unfold bitL
    rw [List.filter_filter]
    congr 1
    funext j
    rw [maskW_bit,maskW_bit,zrW_getD]
    by_cases hp : P j=true
    · rw [if_pos hp,hp]; simp
    · rw [if_neg hp]; simp [hp]
  have hex : ∃ j,j ∈ bitL ns.length (maskW x)∧P j=true:=by
    refine Classical.byContradiction fun hno=>hne (List.ext_getElem? fun j=>?_)
    rw [zrW_at]
    rcases hj : x[j]? with _ | y
    · rfl
    · rw [Option.map_some,Option.some.injEq]
      by_cases hp : P j=true
      · rw [if_pos hp]
        have hl : j<ns.length:=by rw [← hv.1]; exact (List.getElem?_eq_some_iff.1 hj).1
        refine Classical.byContradiction fun hy0=>hno ⟨j,mem_bitL.2 ⟨hl, ?_⟩,hp⟩
        rw [maskW_bit,List.getD_eq_getElem?_getD,hj]
        exact decide_eq_true (fun e=>hy0 (by simpa using e.symm))
      · rw [if_neg hp]
  obtain ⟨j,hj,hp⟩:=hex
  have hl : (bitL ns.length (maskW (zrW P x))).length<(bitL ns.length (maskW x)).length:=by
    rw [hsub]
    exact (List.length_filter_lt_length_iff_exists (l:=bitL ns.length (maskW x)) (p:=fun j=>!P j)).2 ⟨j,hj,by simp [hp]⟩
  unfold ltW at h1
  rw [Bool.or_eq_false_iff] at h1
  have h2:=h1.1
  unfold betB at h2
  rw [if_neg (by omega)] at h2
  exact of_decide_eq_false h2 hl
theorem othW_zr (hP : ∀ w,ValW ns w→F (zrW P w)=F w) : othW (zrW P ns) F=othW ns F:=by
  have hmem : ∀ y,y ∈ othL (zrW P ns) F→y ∈ othL ns F:=fun y hy=>by
    rw [mem_othL] at hy ⊢
    rw [zW_zr] at hy
    exact ⟨val_zrW hy.1,hy.2⟩
  have hlt : ltW (zrW P ns)=ltW ns:=by funext a b; unfold ltW; rw [zrW_len]
  rcases ho : othW ns F with _ | x
  · rcases hz : othW (zrW P ns) F with _ | z
    · rfl
    · have h1:=(mem_othL z).1 (hmem z (othW_some hz).1)
      exact absurd (othW_none ho h1.1 h1.2.1) h1.2.2
  · obtain ⟨hx,hm⟩:=othW_some ho
    obtain ⟨hv,he,ht⟩:=(mem_othL x).1 hx
    have hs:=oth_zr hP ho
    refine othW_only ((mem_othL x).2 ⟨?_,he,by rw [zW_zr]; exact ht⟩) fun y hy=>by rw [hlt]; exact hm y (hmem y hy)
    rw [← hs]
    exact zrW_val hv
theorem okB_fixed (h0 : (F (zW ns)).2=0) (hP : ∀ i,i ∈ whyL ns F→P i=true) : whyL (zrW P ns) F=[]∧othW (zrW P ns) F=none:=by
  have hall : ∀ w,ValW (zrW P ns) w→F w=F (zW ns):=fun w hv=>by
    refine whyL_ok h0 (val_zrW hv) fun i hi=>?_
    have hs:=zrW_self hv
    rw [← hs,zrW_getD,if_pos (hP i hi)]
  have h0' : (F (zW (zrW P ns))).2=0:=by rw [zW_zr]; exact h0
  have h1 : whyL (zrW P ns) F=[]:=by
    have hk : okB (zrW P ns) F 0=true:=(okB_iff h0' 0).2 fun w hv _=>by rw [hall w hv,zW_zr]
    have:=whyM_only h0' (m:=0) (Nat.pow_pos (by decide)) hk (fun k _ _=>by
      rw [bitL_zero]
      unfold betB
      split
      · rename_i e
        rw [List.eq_nil_of_length_eq_zero e]
        rfl
      · exact decide_eq_false (Nat.not_lt_zero _))
    unfold whyL
    rw [this,bitL_zero]
  exact ⟨h1,why_nil h0' h1⟩
end
section
variable (ns : List Nat) (F : List Nat→Bool × Int)
def resB (m : Nat) : Bool:=(List.range (prodW ns)).all fun n=>!((maskW (caseW ns n) &&& m) == 0) || !tnB ns F (caseW ns n)
def refO : Nat→Option (List Nat)
  | 0=>none
  | n+1=>if toB ns F (caseW ns n)=true then (match refO n with
    | none=>some (caseW ns n)
    | some b=>if ltW ns (caseW ns n) b=true then some (caseW ns n) else some b) else refO n
end
section
variable {ns : List Nat} {F : List Nat→Bool × Int}
theorem resB_ok (h0 : (F (zW ns)).2=0) (m : Nat) : resB ns F m=okB ns F m:=by
  have h1 : resB ns F m=true↔okB ns F m=true:=by
    rw [okB_iff h0]
    unfold resB
    rw [List.all_eq_true]
    constructor
    · intro h w hv hk
      obtain ⟨n,hn,rfl⟩:=caseW_onto ns w hv
      have h2:=h n (List.mem_range.2 hn)
      rw [(kept_and m _).1 hk] at h2
      simp only [beq_self_eq_true,Bool.not_true,Bool.false_or,Bool.not_eq_true'] at h2
      refine Classical.byContradiction fun hne=>?_
      rw [(tnB_iff h0 _).2 hne] at h2
      cases h2
    · intro h n hn
      by_cases hk : maskW (caseW ns n) &&& m=0
      · have h2:=h _ (caseW_val ns n) ((kept_and m _).2 hk)
        have h3 : tnB ns F (caseW ns n)=false:=by
          rcases ht : tnB ns F (caseW ns n)
          · rfl
          · exact absurd h2 ((tnB_iff h0 _).1 ht)
        rw [h3]; simp
      · have h3 : ((maskW (caseW ns n) &&& m) == 0)=false:=by simpa using hk
        rw [h3]; rfl
  rcases h2 : resB ns F m <;> rcases h3 : okB ns F m
  · rfl
  · rw [h2,h3] at h1; exact absurd (h1.2 rfl) (by decide)
  · rw [h2,h3] at h1; exact absurd (h1.1 rfl) (by decide)
  · rfl
theorem refO_inv : ∀ n,(refO ns F n=none→∀ k,k<n→toB ns F (caseW ns k)=false)∧∀ x,refO ns F n=some x→x ∈ othL ns F∧∀ k,k<n→toB ns F (caseW ns k)=true→ltW ns (caseW ns k) x=false
  | 0=>⟨fun _ k h=>absurd h (by omega),fun x h=>by cases h⟩
  | n+1=>by
    obtain ⟨i1,i2⟩:=refO_inv n
    have asym : ∀ a b,ltW ns a b=true→ltW ns b a=false:=fun a b h1=>by
      rcases h2 : ltW ns b a
      · rfl
      · have:=ltW_trans _ _ _ h1 h2
        rw [ltW_irr] at this
        cases this
    rw [refO]
    by_cases ht : toB ns F (caseW ns n)=true
    · rw [if_pos ht]
      have hmem : caseW ns n ∈ othL ns F:=by
        unfold othL
        rw [List.mem_filter,mem_enumW]
        exact ⟨caseW_val ns n,ht⟩
      rcases hr : refO ns F n with _ | b
      · refine ⟨(fun h=>by cases h),fun x h=>?_⟩
        injection h with h
        subst h
        refine ⟨hmem,fun k hk hkt=>?_⟩
        by_cases e : k=n
        · rw [e]; exact ltW_irr _
        · rw [i1 hr k (by omega)] at hkt
          cases hkt
      · obtain ⟨hb,hm⟩:=i2 b hr
        simp only
        by_cases hc : ltW ns (caseW ns n) b=true
        · rw [if_pos hc]
          refine ⟨(fun h=>by cases h),fun x h=>?_⟩
          injection h with h
          subst h
          refine ⟨hmem,fun k hk hkt=>?_⟩
          by_cases e : k=n
          · rw [e]; exact ltW_irr _
          · have h1:=hm k (by omega) hkt
            rcases h2 : ltW ns (caseW ns k) (caseW ns n)
            · rfl
            · rw [ltW_trans _ _ _ h2 hc] at h1
              cases h1
        · rw [if_neg hc]
          refine ⟨(fun h=>by cases h),fun x h=>?_⟩
          injection h with h
          subst h
          refine ⟨hb,fun k hk hkt=>?_⟩
          by_cases e : k=n
          · rw [e]; simpa using hc
          · exact hm k (by omega) hkt
    · rw [if_neg ht]
      have htf : toB ns F (caseW ns n)=false:=by simpa using ht
      refine ⟨fun h k hk=>?_,fun x h=>⟨(i2 x h).1,fun k hk hkt=>?_⟩⟩
      · by_cases e : k=n
        · rw [e]; exact htf
        · exact i1 h k (by omega)
      · by_cases e : k=n
        · rw [e,htf] at hkt; cases hkt
        · exact (i2 x h).2 k (by omega) hkt
theorem refO_is : refO ns F (prodW ns)=othW ns F:=by
  obtain ⟨i1,i2⟩:=refO_inv (ns:=ns) (F:=F) (prodW ns)
  rcases hr : refO ns F (prodW ns) with _ | x
  · rcases ho : othW ns F with _ | z
    · rfl
    · have hz:=(othW_some ho).1
      obtain ⟨n,hn,rfl⟩:=caseW_onto ns z ((mem_othL z).1 hz).1
      have h1:=i1 hr n hn
      unfold othL at hz
      rw [(List.mem_filter.1 hz).2] at h1
      cases h1
  · obtain ⟨hx,hm⟩:=i2 x hr
    refine (othW_only hx fun y hy=>?_).symm
    obtain ⟨n,hn,rfl⟩:=caseW_onto ns y ((mem_othL y).1 hy).1
    refine hm n hn ?_
    unfold othL at hy
    exact (List.mem_filter.1 hy).2
end
def pickW (w : List Nat) : List Nat:=w.filter (fun x=>decide (x≠0))
theorem pick_lex : ∀ {a b : List Nat},a.length=b.length→maskW a=maskW b→lexB (pickW a) (pickW b)=lexB a b∧(pickW a).length=(pickW b).length
  | [],[],_,_=>⟨rfl,rfl⟩
  | [],_ :: _,h,_=>by simp at h
  | _ :: _,[],h,_=>by simp at h
  | x :: a,y :: b,h,hm=>by
    simp only [List.length_cons,Nat.add_right_cancel_iff] at h
    unfold maskW at hm
    have hm2 : maskW a=maskW b:=by split at hm <;> split at hm <;> omega
    obtain ⟨i1,i2⟩:=pick_lex h hm2
    by_cases hx : x=0
    · have hy : y=0:=by rw [if_pos hx] at hm; split at hm <;> omega
      subst hx hy
      have e1 : pickW (0 :: a)=pickW a:=by unfold pickW; rw [List.filter_cons]; rfl
      have e2 : pickW (0 :: b)=pickW b:=by unfold pickW; rw [List.filter_cons]; rfl
      rw [e1,e2,lexB,if_pos rfl]
      exact ⟨i1,i2⟩
    · have hy : y≠0:=fun e=>by rw [if_neg hx,if_pos e] at hm; omega
      have e1 : pickW (x :: a)=x :: pickW a:=by unfold pickW; rw [List.filter_cons]; simp [hx]
      have e2 : pickW (y :: b)=y :: pickW b:=by unfold pickW; rw [List.filter_cons]; simp [hy]
      rw [e1,e2,lexB,lexB,i1]
      exact ⟨rfl,by simp [i2]⟩
theorem lt_ref {ns a b : List Nat} (ha : ValW ns a) (hb : ValW ns b) : (betB (bitL ns.length (maskW a)) (bitL ns.length (maskW b)) || (!betB (bitL ns.length (maskW b)) (bitL ns.length (maskW a)) && betB (pickW a) (pickW b)))=ltW ns a b:=by
  unfold ltW
  by_cases e : maskW a=maskW b
  · obtain ⟨h1,h2⟩:=pick_lex (ha.1.trans hb.1.symm) e
    rw [e,betB_irr]
    have h3 : betB (pickW a) (pickW b)=lexB a b:=by unfold betB; rw [if_pos h2,h1]
    rw [h3]
    simp
  · have hne : bitL ns.length (maskW a)≠bitL ns.length (maskW b):=fun h2=>e (bitL_inj (by rw [← ha.1]; exact maskW_lt a) (by rw [← hb.1]; exact maskW_lt b) h2)
    have he : (maskW a == maskW b)=false:=by simpa using e
    rw [he]
    rcases betB_tri hne with h | h
    · rw [h]; rfl
    · rw [h,betB_asym h]; rfl
end Go.Proofs.YtmomlipmpgcheaaGreatDoor
