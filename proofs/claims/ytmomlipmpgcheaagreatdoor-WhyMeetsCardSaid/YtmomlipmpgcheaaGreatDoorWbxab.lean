/- The plain law of package why: sets of things, choices, the best reason. -/
import Derived.Test.YtmomlipmpgcheaaGreatDoorWbxaa
set_option linter.unusedSimpArgs false
set_option linter.unusedVariables false
set_option maxRecDepth 100000
set_option maxHeartbeats 6400000
namespace Go.Proofs.YtmomlipmpgcheaaGreatDoor
open Go.RowKit
def lexB : List Nat→List Nat→Bool
  | a :: r,b :: t=>if a=b then lexB r t else decide (a<b)
  | _,_=>false
def betB (a b : List Nat) : Bool:=if a.length=b.length then lexB a b else decide (a.length<b.length)
theorem lexB_irr : ∀ a : List Nat,lexB a a=false
  | []=>rfl
  | a :: r=>by rw [lexB,if_pos rfl]; exact lexB_irr r
theorem lexB_trans : ∀ {a b c : List Nat},a.length=b.length→b.length=c.length→lexB a b=true→lexB b c=true→lexB a c=true
  | [],_,_,_,_,h,_=>by simp [lexB] at h
  | _ :: _,[],_,h,_,_,_=>by simp at h
  | _ :: _,_ :: _,[],_,h,_,_=>by simp at h
  | x :: a,y :: b,z :: c,h1,h2,h3,h4=>by
    simp only [List.length_cons,Nat.add_right_cancel_iff] at h1 h2
    rw [lexB] at h3 h4 ⊢
    by_cases e1 : x=y
    · rw [if_pos e1] at h3
      subst e1
      by_cases e2 : x=z
      · rw [if_pos e2] at h4 ⊢
        exact lexB_trans h1 h2 h3 h4
      · rw [if_neg e2] at h4 ⊢
        exact h4
    · rw [if_neg e1] at h3
      have l1 : x<y:=of_decide_eq_true h3
      by_cases e2 : y=z
      · subst e2
        rw [if_neg e1]
        exact h3
      · rw [if_neg e2] at h4
        have l2 : y<z:=of_decide_eq_true h4
        rw [if_neg (by omega)]
        exact decide_eq_true (by omega)
theorem lexB_tri : ∀ {a b : List Nat},a.length=b.length→a≠b→lexB a b=true∨lexB b a=true
  | [],[],_,h=>absurd rfl h
  | [],_ :: _,h,_=>by simp at h
  | _ :: _,[],h,_=>by simp at h
  | x :: a,y :: b,h,hne=>by
    simp only [List.length_cons,Nat.add_right_cancel_iff] at h
    rw [lexB,lexB]
    by_cases e : x=y
    · rw [if_pos e,if_pos e.symm]
      exact lexB_tri h (fun h'=>hne (by rw [e,h']))
    · rw [if_neg e,if_neg (fun h'=>e h'.symm)]
      rcases Nat.lt_or_gt_of_ne e with h1 | h1
      · exact .inl (decide_eq_true h1)
      · exact .inr (decide_eq_true h1)
theorem betB_irr (a : List Nat) : betB a a=false:=by unfold betB; rw [if_pos rfl]; exact lexB_irr a
theorem betB_len {a b : List Nat} (h : betB a b=true) : a.length≤b.length:=by
  unfold betB at h
  split at h
  · omega
  · have:=of_decide_eq_true h; omega
theorem betB_trans {a b c : List Nat} (h1 : betB a b=true) (h2 : betB b c=true) : betB a c=true:=by
  have l1:=betB_len h1
  have l2:=betB_len h2
  unfold betB at *
  by_cases e1 : a.length=b.length
  · by_cases e2 : b.length=c.length
    · rw [if_pos e1] at h1
      rw [if_pos e2] at h2
      rw [if_pos (e1.trans e2)]
      exact lexB_trans e1 e2 h1 h2
    · rw [if_neg (by omega)]
      exact decide_eq_true (by omega)
  · rw [if_neg (by omega)]
    exact decide_eq_true (by omega)
theorem betB_asym {a b : List Nat} (h1 : betB a b=true) : betB b a=false:=by
  rcases h2 : betB b a
  · rfl
  · have:=betB_trans h1 h2
    rw [betB_irr] at this
    cases this
theorem betB_tri {a b : List Nat} (h : a≠b) : betB a b=true∨betB b a=true:=by
  unfold betB
  by_cases e : a.length=b.length
  · rw [if_pos e,if_pos e.symm]
    exact lexB_tri e h
  · rw [if_neg e,if_neg (fun h'=>e h'.symm)]
    rcases Nat.lt_or_gt_of_ne e with h1 | h1
    · exact .inl (decide_eq_true h1)
    · exact .inr (decide_eq_true h1)
def bestN (ok : Nat→Bool) (bt : Nat→Nat→Bool) (all : Nat) : Nat→Nat
  | 0=>all
  | k+1=>if (bt k (bestN ok bt all k) && ok k)=true then k else bestN ok bt all k
theorem bestN_ok {ok : Nat→Bool} {bt : Nat→Nat→Bool} {all : Nat} (h : ok all=true) : ∀ k,ok (bestN ok bt all k)=true
  | 0=>h
  | k+1=>by
    rw [bestN]
    split
    · rename_i hc
      rw [Bool.and_eq_true] at hc
      exact hc.2
    · exact bestN_ok h k
theorem bestN_min {ok : Nat→Bool} {bt : Nat→Nat→Bool} {all : Nat} (ht : ∀ a b c,bt a b=true→bt b c=true→bt a c=true) (hi : ∀ a,bt a a=false) : ∀ k m,m<k→ok m=true→bt m (bestN ok bt all k)=false
  | 0,m,h,_=>absurd h (by omega)
  | k+1,m,h,hm=>by
    rw [bestN]
    by_cases hc : (bt k (bestN ok bt all k) && ok k)=true
    · rw [if_pos hc]
      rw [Bool.and_eq_true] at hc
      by_cases e : m=k
      · rw [e]; exact hi k
      · have ih:=bestN_min (ok:=ok) (bt:=bt) (all:=all) ht hi k m (by omega) hm
        rcases hb : bt m k
        · rfl
        · rw [ht _ _ _ hb hc.1] at ih
          cases ih
    · rw [if_neg hc]
      by_cases e : m=k
      · subst e
        rcases hb : bt m (bestN ok bt all m)
        · rfl
        · rw [hb,hm] at hc
          exact absurd rfl hc
      · exact bestN_min (ok:=ok) (bt:=bt) (all:=all) ht hi k m (by omega) hm
theorem bestN_mem {ok : Nat→Bool} {bt : Nat→Nat→Bool} {all : Nat} : ∀ k,bestN ok bt all k=all∨bestN ok bt all k<k
  | 0=>.inl rfl
  | k+1=>by
    rw [bestN]
    split
    · exact .inr (by omega)
    · rcases bestN_mem (ok:=ok) (bt:=bt) (all:=all) k with h | h
      · exact .inl h
      · exact .inr (by omega)
def stepW (W : List (List Nat)) (n : Nat) : List (List Nat):=W.map (fun w=>w ++ [0]) ++ W.flatMap (fun w=>(List.range n).map fun k=>w ++ [k+1])
def enumW (ns : List Nat) : List (List Nat):=ns.foldl stepW [[]]
def ValW (ns w : List Nat) : Prop:=w.length=ns.length∧∀ (i x n : Nat),w[i]? = some x→ns[i]? = some n→x≤n
theorem enumW_snoc (ns : List Nat) (n : Nat) : enumW (ns ++ [n])=stepW (enumW ns) n:=by unfold enumW; rw [List.foldl_append]; rfl
theorem ValW.snoc {ns w : List Nat} {n x : Nat} (h : ValW ns w) (hx : x≤n) : ValW (ns ++ [n]) (w ++ [x]):=by
  refine ⟨by simp [h.1],fun i y m hy hm=>?_⟩
  by_cases hi : i<w.length
  · rw [List.getElem?_append_left hi] at hy
    rw [List.getElem?_append_left (by rw [← h.1]; exact hi)] at hm
    exact h.2 i y m hy hm
  · have hi2 : i=w.length:=by
      have h3:=(List.getElem?_eq_some_iff.1 hy).1
      simp only [List.length_append,List.length_cons,List.length_nil] at h3
      omega
    subst hi2
    rw [List.getElem?_append_right (Nat.le_refl _),Nat.sub_self] at hy
    rw [List.getElem?_append_right (by rw [h.1]; exact Nat.le_refl _),h.1,Nat.sub_self] at hm
    simp only [List.getElem?_cons_zero,Option.some.injEq] at hy hm
    omega
theorem ValW.last {ns w : List Nat} {n : Nat} (h : ValW (ns ++ [n]) w) : ∃ w' x,w=w' ++ [x]∧ValW ns w'∧x≤n:=by
  have hl:=h.1
  simp only [List.length_append,List.length_cons,List.length_nil] at hl
  have hne : w≠[]:=fun e=>by rw [e] at hl; simp at hl
  refine ⟨w.dropLast,w.getLast hne,(List.dropLast_concat_getLast hne).symm,⟨by simp [hl],fun i y m hy hm=>?_⟩, ?_⟩
  · have hi : i<w.dropLast.length:=(List.getElem?_eq_some_iff.1 hy).1
    refine h.2 i y m ?_ (by rw [List.getElem?_append_left (by simp at hi; omega)]; exact hm)
    rw [← hy]
    conv=>lhs; rw [← List.dropLast_concat_getLast hne]
    rw [List.getElem?_append_left hi]
  · refine h.2 ns.length _ n ?_ (by simp)
    rw [List.getLast_eq_getElem]
    rw [List.getElem?_eq_getElem (by omega)]
    congr 2
    omega
theorem mem_stepW {W : List (List Nat)} {n : Nat} {v : List Nat} : v ∈ stepW W n↔∃ w ∈ W,∃ x,x≤n∧v=w ++ [x]:=by
  unfold stepW
  rw [List.mem_append,List.mem_map,List.mem_flatMap]
  constructor
  · rintro (⟨w,hw,rfl⟩ | ⟨w,hw,h⟩)
    · exact ⟨w,hw,0,Nat.zero_le _,rfl⟩
    · rw [List.mem_map] at h
      obtain ⟨k,hk,rfl⟩:=h
      rw [List.mem_range] at hk
      exact ⟨w,hw,k+1,hk,rfl⟩
  · rintro ⟨w,hw,x,hx,rfl⟩
    rcases x with _ | x
    · exact .inl ⟨w,hw,rfl⟩
    · exact .inr ⟨w,hw,List.mem_map.2 ⟨x,List.mem_range.2 (by omega),rfl⟩⟩
theorem snoc_ind {P : List Nat→Prop} (h0 : P []) (h1 : ∀ l a,P l→P (l ++ [a])) (l : List Nat) : P l:=by
  have h : ∀ k,∀ l : List Nat,l.length=k→P l:=by
    intro k
    induction k with
    | zero=>intro l hl; rw [List.eq_nil_of_length_eq_zero hl]; exact h0
    | succ k ih =>
      intro l hl
      have hne : l≠[]:=fun e=>by rw [e] at hl; simp at hl
      rw [← List.dropLast_concat_getLast hne]
      exact h1 _ _ (ih _ (by simp [hl]))
  exact h _ l rfl
theorem mem_enumW (ns : List Nat) : ∀ w,w ∈ enumW ns↔ValW ns w:=by
  refine snoc_ind (P:=fun ns=>∀ w,w ∈ enumW ns↔ValW ns w) ?_ ?_ ns
  · intro w
    show w ∈ [[]]↔_
    rw [List.mem_singleton]
    constructor
    · rintro rfl; exact ⟨rfl,fun i x n h=>by simp at h⟩
    · intro h; exact List.eq_nil_of_length_eq_zero h.1
  · intro l a ih w
    rw [enumW_snoc,mem_stepW]
    constructor
    · rintro ⟨w',hw,x,hx,rfl⟩
      exact ((ih w').1 hw).snoc hx
    · intro h
      obtain ⟨w',x,rfl,hv,hx⟩:=h.last
      exact ⟨w',(ih w').2 hv,x,hx,rfl⟩
theorem enumW_head (ns : List Nat) : ∃ r,enumW ns=List.replicate ns.length 0 :: r:=by
  refine snoc_ind (P:=fun ns=>∃ r,enumW ns=List.replicate ns.length 0 :: r) ⟨[],rfl⟩ ?_ ns
  rintro l a ⟨r,h⟩
  rw [enumW_snoc,h]
  unfold stepW
  rw [List.map_cons,List.cons_append,List.length_append,List.length_cons,List.length_nil,List.replicate_succ']
  exact ⟨_,rfl⟩
def caseW : List Nat→Nat→List Nat
  | [],_=>[]
  | m :: r,n=>n % (1+m) :: caseW r (n / (1+m))
def prodW : List Nat→Nat
  | []=>1
  | m :: r=>(1+m) * prodW r
theorem caseW_val : ∀ (ns : List Nat) (n : Nat),ValW ns (caseW ns n)
  | [],_=>⟨rfl,fun i x n h=>by simp [caseW] at h⟩
  | m :: r,n=>by
    have ih:=caseW_val r (n / (1+m))
    refine ⟨by simp [caseW,ih.1],fun i x k hx hk=>?_⟩
    rcases i with _ | i
    · simp only [caseW,List.getElem?_cons_zero,Option.some.injEq] at hx hk
      have:=Nat.mod_lt n (show 0<1+m by omega)
      omega
    · simp only [caseW,List.getElem?_cons_succ] at hx hk
      exact ih.2 i x k hx hk
theorem caseW_onto : ∀ (ns w : List Nat),ValW ns w→∃ n,n<prodW ns∧caseW ns n=w
  | [],w,h=>⟨0,by simp [prodW],by rw [List.eq_nil_of_length_eq_zero h.1]; rfl⟩
  | m :: r,[],h=>by have:=h.1; simp at this
  | m :: r,x :: w,h=>by
    obtain ⟨n,hn,hw⟩:=caseW_onto r w ⟨by have:=h.1; simpa using this,fun i y k hy hk=>h.2 (i+1) y k (by simpa using hy) (by simpa using hk)⟩
    have hx:=h.2 0 x m rfl rfl
    refine ⟨x+(1+m) * n, ?_, ?_⟩
    · unfold prodW
      have : (1+m) * (n+1)≤(1+m) * prodW r:=Nat.mul_le_mul_left _ hn
      rw [Nat.mul_add,Nat.mul_one] at this
      omega
    · unfold caseW
      rw [Nat.add_mul_mod_self_left,Nat.mod_eq_of_lt (by omega),Nat.add_mul_div_left _ _ (by omega),Nat.div_eq_of_lt (by omega),Nat.zero_add,hw]
def bitL (n m : Nat) : List Nat:=(List.range n).filter (fun i=>m.testBit i)
theorem mem_bitL {n m i : Nat} : i ∈ bitL n m↔i<n∧m.testBit i=true:=by
  unfold bitL
  rw [List.mem_filter,List.mem_range]
def maskW : List Nat→Nat
  | []=>0
  | x :: r=>(if x=0 then 0 else 1)+2 * maskW r
theorem maskW_bit : ∀ (w : List Nat) (i : Nat),(maskW w).testBit i=decide (w.getD i 0≠0)
  | [],i=>by simp [maskW]
  | x :: r,0=>by
    unfold maskW
    rw [Nat.testBit_zero]
    by_cases h : x=0
    · rw [if_pos h]; simp [h]
    · rw [if_neg h]; simp [h]
  | x :: r,i+1=>by
    unfold maskW
    rw [Nat.testBit_succ]
    have h : ((if x=0 then 0 else 1)+2 * maskW r) / 2=maskW r:=by split <;> omega
    rw [h,maskW_bit r i]
    simp
theorem maskW_lt : ∀ w : List Nat,maskW w<2 ^ w.length
  | []=>by simp [maskW]
  | x :: r=>by
    have:=maskW_lt r
    unfold maskW
    rw [List.length_cons,Nat.pow_succ]
    split <;> omega
theorem maskW_snoc : ∀ (w : List Nat) (x : Nat),maskW (w ++ [x])=maskW w+(if x=0 then 0 else 2 ^ w.length)
  | [],x=>by simp [maskW]
  | y :: w,x=>by
    rw [List.cons_append,maskW,maskW,maskW_snoc w x,List.length_cons,Nat.pow_succ]
    split <;> split <;> omega
theorem maskW_zeros (n : Nat) : maskW (List.replicate n 0)=0:=by
  induction n with
  | zero=>rfl
  | succ n ih=>rw [List.replicate_succ,maskW,ih]; rfl
def KeptW (m : Nat) (w : List Nat) : Prop:=∀ i,m.testBit i=true→w.getD i 0=0
theorem kept_and (m : Nat) (w : List Nat) : KeptW m w↔maskW w &&& m=0:=by
  constructor
  · intro h
    refine Nat.eq_of_testBit_eq fun i=>?_
    rw [Nat.testBit_and,Nat.zero_testBit,maskW_bit]
    rcases hb : m.testBit i
    · simp
    · rw [h i hb]; simp
  · intro h i hi
    have h2 : (maskW w &&& m).testBit i=false:=by rw [h,Nat.zero_testBit]
    rw [Nat.testBit_and,maskW_bit,hi,Bool.and_true,decide_eq_false_iff_not] at h2
    exact Classical.byContradiction h2
theorem bitL_changed (w : List Nat) : bitL w.length (maskW w)=(List.range w.length).filter (fun i=>decide (w.getD i 0≠0)):=by
  unfold bitL
  congr 1
  funext i
  exact maskW_bit w i
theorem bitL_zero (n : Nat) : bitL n 0=[]:=by
  unfold bitL
  rw [List.filter_eq_nil_iff]
  intro i _
  simp
theorem bitL_succ (n m : Nat) : bitL (n+1) m=bitL n m ++ (if m.testBit n=true then [n] else []):=by
  unfold bitL
  rw [List.range_succ,List.filter_append]
  congr 1
  by_cases h : m.testBit n=true
  · rw [if_pos h]; simp [h]
  · rw [if_neg h]; simp [h]
theorem bitL_low (n m : Nat) : bitL (n+1) m=(if m % 2=1 then [0] else []) ++ (bitL n (m / 2)).map (·+1):=by
  unfold bitL
  rw [List.range_succ_eq_map,List.filter_cons,List.filter_map]
  have h : ((fun i=>m.testBit i) ∘ Nat.succ)=fun i=>(m / 2).testBit i:=funext fun i=>by show m.testBit (i+1)=_; rw [Nat.testBit_succ]
  rw [h,Nat.testBit_zero]
  by_cases hm : m % 2=1
  · simp [hm]
  · simp [hm]
theorem bitL_sorted (n m : Nat) : (bitL n m).Pairwise (· < ·):=List.Pairwise.filter _ (List.pairwise_lt_range)
theorem bitL_inj {n a b : Nat} (ha : a<2 ^ n) (hb : b<2 ^ n) (h : bitL n a=bitL n b) : a=b:=by
  refine Nat.eq_of_testBit_eq fun i=>?_
  by_cases hi : i<n
  · have h1 : i ∈ bitL n a↔i ∈ bitL n b:=by rw [h]
    rw [mem_bitL,mem_bitL] at h1
    rcases ha' : a.testBit i <;> rcases hb' : b.testBit i
    · rfl
    · exact absurd (h1.2 ⟨hi,hb'⟩).2 (by rw [ha']; decide)
    · exact absurd (h1.1 ⟨hi,ha'⟩).2 (by rw [hb']; decide)
    · rfl
  · rw [Nat.testBit_lt_two_pow (Nat.lt_of_lt_of_le ha (Nat.pow_le_pow_right (by decide) (by omega))),Nat.testBit_lt_two_pow (Nat.lt_of_lt_of_le hb (Nat.pow_le_pow_right (by decide) (by omega)))]
section
variable (ns : List Nat) (F : List Nat→Bool × Int)
def zW : List Nat:=List.replicate ns.length 0
def tnB (w : List Nat) : Bool:=((F w).1 != (F (zW ns)).1) || ((F w).2 != 0)
def tnL : List Nat:=((enumW ns).filter (tnB ns F)).map maskW
def okB (m : Nat) : Bool:=!(tnL ns F).contains 0 && !(tnL ns F).any (fun c=>c &&& m == 0)
def btB (a b : Nat) : Bool:=betB (bitL ns.length a) (bitL ns.length b)
def whyM : Nat:=bestN (okB ns F) (btB ns) (2 ^ ns.length - 1) (2 ^ ns.length)
def whyL : List Nat:=bitL ns.length (whyM ns F)
end
section
variable {ns : List Nat} {F : List Nat→Bool × Int}
theorem val_zW : ValW ns (zW ns):=by
  refine ⟨by simp [zW],fun i x n hx _=>?_⟩
  have h2:=List.mem_of_getElem? hx
  unfold zW at h2
  rw [List.eq_of_mem_replicate h2]
  exact Nat.zero_le _
theorem tnB_iff (h0 : (F (zW ns)).2=0) (w : List Nat) : tnB ns F w=true↔F w≠F (zW ns):=by
  unfold tnB
  rw [Bool.or_eq_true,bne_iff_ne,bne_iff_ne]
  constructor
  · rintro (h | h) e
    · exact h (by rw [e])
    · exact h (by rw [e,h0])
  · intro h
    by_cases h1 : (F w).1=(F (zW ns)).1
    · refine .inr fun h2=>h (Prod.ext h1 (by rw [h2,h0]))
    · exact .inl h1
theorem zeros_of {w : List Nat} (h : ValW ns w) (hm : ∀ i,w.getD i 0=0) : w=zW ns:=by
  unfold zW
  rw [List.eq_replicate_iff]
  refine ⟨h.1,fun b hb=>?_⟩
  obtain ⟨i,hi,rfl⟩:=List.mem_iff_getElem.1 hb
  have:=hm i
  rw [List.getD_eq_getElem?_getD,List.getElem?_eq_getElem hi] at this
  exact this
theorem okB_iff (h0 : (F (zW ns)).2=0) (m : Nat) : okB ns F m=true↔∀ w,ValW ns w→KeptW m w→F w=F (zW ns):=by
  have hmem : ∀ c,c ∈ tnL ns F↔∃ w,ValW ns w∧F w≠F (zW ns)∧maskW w=c:=fun c=>by
    unfold tnL
    rw [List.mem_map]
    constructor
    · rintro ⟨w,hw,e⟩
      rw [List.mem_filter,mem_enumW,tnB_iff h0] at hw
      exact ⟨w,hw.1,hw.2,e⟩
    · rintro ⟨w,h1,h2,e⟩
      exact ⟨w,by rw [List.mem_filter,mem_enumW,tnB_iff h0]; exact ⟨h1,h2⟩,e⟩
  have hz : (tnL ns F).contains 0=false:=by
    rcases hc : (tnL ns F).contains 0
    · rfl
    · rw [List.contains_iff_mem,hmem] at hc
      obtain ⟨w,h1,h2,h3⟩:=hc
      refine absurd (congrArg F (zeros_of h1 fun i=>?_)) h2
      have:=maskW_bit w i
      rw [h3,Nat.zero_testBit] at this
      exact Classical.byContradiction fun h=>by rw [decide_eq_true h] at this; cases this
  unfold okB
  rw [hz]
  simp only [Bool.not_false,Bool.true_and,Bool.not_eq_true',List.any_eq_false,beq_iff_eq]
  constructor
  · intro h w hv hk
    exact Classical.byContradiction fun hn=>h (maskW w) ((hmem _).2 ⟨w,hv,hn,rfl⟩) ((kept_and m w).1 hk)
  · intro h c hc e
    obtain ⟨w,hv,hn,rfl⟩:=(hmem c).1 hc
    exact hn (h w hv ((kept_and m w).2 e))
theorem okB_all (h0 : (F (zW ns)).2=0) : okB ns F (2 ^ ns.length - 1)=true:=by
  rw [okB_iff h0]
  intro w hv hk
  refine congrArg F (zeros_of hv fun i=>?_)
  by_cases hi : i<ns.length
  · exact hk i (by rw [Nat.testBit_two_pow_sub_one]; exact decide_eq_true hi)
  · rw [List.getD_eq_getElem?_getD,List.getElem?_eq_none (by rw [hv.1]; omega)]
    rfl
theorem btB_trans (a b c : Nat) (h1 : btB ns a b=true) (h2 : btB ns b c=true) : btB ns a c=true:=betB_trans h1 h2
theorem btB_irr (a : Nat) : btB ns a a=false:=betB_irr _
theorem whyM_ok (h0 : (F (zW ns)).2=0) : okB ns F (whyM ns F)=true:=bestN_ok (okB_all h0) _
theorem whyM_lt : whyM ns F<2 ^ ns.length:=by
  have hp : 0<2 ^ ns.length:=Nat.pow_pos (by decide)
  rcases bestN_mem (ok:=okB ns F) (bt:=btB ns) (all:=2 ^ ns.length - 1) (2 ^ ns.length) with h | h
  · unfold whyM; rw [h]; omega
  · exact h
theorem whyL_ok (h0 : (F (zW ns)).2=0) {w : List Nat} (hv : ValW ns w) (hk : ∀ i,i ∈ whyL ns F→w.getD i 0=0) : F w=F (zW ns):=by
  refine (okB_iff h0 _).1 (whyM_ok h0) w hv fun i hi=>?_
  by_cases hn : i<ns.length
  · exact hk i (mem_bitL.2 ⟨hn,hi⟩)
  · rw [List.getD_eq_getElem?_getD,List.getElem?_eq_none (by rw [hv.1]; omega)]
    rfl
theorem whyL_best {m : Nat} (hm : m<2 ^ ns.length) (hb : betB (bitL ns.length m) (whyL ns F)=true) : okB ns F m=false:=by
  rcases ho : okB ns F m
  · rfl
  · have:=bestN_min (ok:=okB ns F) (bt:=btB ns) (all:=2 ^ ns.length - 1) btB_trans btB_irr (2 ^ ns.length) m hm ho
    rw [show btB ns m (bestN (okB ns F) (btB ns) (2 ^ ns.length - 1) (2 ^ ns.length))=true from hb] at this
    cases this
theorem whyM_only (h0 : (F (zW ns)).2=0) {m : Nat} (hm : m<2 ^ ns.length) (ho : okB ns F m=true) (hb : ∀ k,k<2 ^ ns.length→okB ns F k=true→betB (bitL ns.length k) (bitL ns.length m)=false) : whyM ns F=m:=by
  have h1:=hb _ whyM_lt (whyM_ok h0)
  refine bitL_inj whyM_lt hm (Classical.byContradiction fun hne=>?_)
  rcases betB_tri hne with h | h
  · rw [h] at h1; cases h1
  · have:=whyL_best hm h
    rw [ho] at this
    cases this
end
end Go.Proofs.YtmomlipmpgcheaaGreatDoor
