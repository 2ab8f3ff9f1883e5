/- Digits: comparing, prefixes, products row by row, single digits; in plain Lean. -/
import Derived.Test.YtmomlipmpgcheaaGreatDoorWbxad
import Derived.Test.YtmomlipmpgcheaaGreatDoorWbxaa
set_option linter.unusedSimpArgs false
set_option linter.unusedVariables false
set_option maxRecDepth 100000
set_option maxHeartbeats 6400000
namespace Go.Proofs.YtmomlipmpgcheaaGreatDoor
open Go.RowKit
theorem trimL_cons (d : Int) (l : List Int) : trimL (d :: l)=match trimL l with | []=>if d=0 then [] else [d] | y :: r=>d :: y :: r:=rfl
theorem trimL_zero : ∀ (l : List Int),trimL (l ++ [0])=trimL l
 | []=>by simp [trimL]
 | d :: l=>by rw [List.cons_append,trimL_cons,trimL_cons,trimL_zero l]
theorem trimL_top : ∀ (l : List Int) {x : Int},x≠0→trimL (l ++ [x])=l ++ [x]
 | [],x,h=>by simp [trimL,h]
 | d :: l,x,h=>by
  rw [List.cons_append,trimL_cons,trimL_top l h];rcases l with _ | ⟨y,r⟩ <;> rfl
theorem trimL_take : ∀ l : List Int,trimL l=l.take (trimL l).length
 | []=>rfl
 | d :: l=>by
  have ih:=trimL_take l;unfold trimL;split
  ·split <;> simp
  ·rename_i y r h;rw [h] at ih;simp only [List.length_cons,List.take_succ_cons,List.cons.injEq,true_and];exact ih
theorem trimL_le (l : List Int) : (trimL l).length≤l.length:=by
 have h:=congrArg List.length (trimL_take l);rw [List.length_take] at h; omega
theorem Norm.trim {l : List Int} (h : Norm l) : trimL l=l:=by rw [trimL_is h.ok]; exact h.is.symm
theorem len_lt {a b : List Int} (ha : DigOK a) (hb : Norm b) (h : a.length<b.length) : val a<val b:=by
 have h1:=val_lt ha;have h2:=hb.low (by rintro rfl; simp at h);have h3:=pw_mono (show a.length≤b.length - 1 by omega);omega
theorem dig_lt {a b : List Int} {i : Nat} (ha : DigOK a) (hb : DigOK b) (hi : i<a.length) (hj : i<b.length) (hd : a.drop (i+1)=b.drop (i+1)) (hlt : a[i]<b[i]) : val a<val b:=by
 rw [val_split a i Zo,val_split b i Zo,List.drop_eq_getElem_cons hi,List.drop_eq_getElem_cons hj,hd];simp only [val];have h1:=val_lt (ha.take i);have h2:=val_nn (hb.take i);rw [List.length_take,Nat.min_eq_left Zo] at h1;generalize val (b.drop (i+1))=z;have : pw i * (a[i]+1048576 * z+1)≤pw i * (b[i]+1048576 * z):=Int.mul_le_mul_of_nonneg_left Zo (by have:=pw_pos i; omega);rw [Int.mul_add,Int.mul_one] at this;omega
theorem mulR_past (x : Int) : ∀ (b o : List Int) (c : Int) (j : Nat),b.length<j→(mulR x c b o)[j]? = o[j]?
 | [],[],_,_,_=>rfl
 | [],o :: r,c,j,h=>by
  obtain ⟨j,rfl⟩ : ∃ i,j=i+1:=⟨j - 1,by simp at h; omega⟩;simp [mulR]
 | y :: b,[],_,_,_=>rfl
 | y :: b,o :: r,c,j,h=>by
  obtain ⟨j,rfl⟩ : ∃ i,j=i+1:=⟨j - 1,by simp at h; omega⟩;simp only [mulR,List.getElem?_cons_succ];exact mulR_past x b r _ j (by simpa using h)
structure MulS (a b : List Int) (i : Nat) (o : List Int) : Prop where
  ok : DigOK o
  len : o.length=a.length+b.length
  zero : ∀ j,i+b.length≤j→j<o.length→o[j]? = some 0
  sum : val o=val (a.take i) * val b
theorem MulS.next {a b o : List Int} {i : Nat} (h : MulS a b i o) (ha : DigOK a) (hb : DigOK b) (hi : i<a.length) : MulS a b (i+1) (o.take i ++ mulR a[i] 0 b (o.drop i)):=by
 have hl:=h.len;(have hti : (o.take i).length=i:=by rw [List.length_take]; omega);(have hz : (o.drop i)[b.length]? = some 0:=by rw [List.getElem?_drop]; exact h.zero _ Zo Zo);have hx:=ha.get hi;refine ⟨digOK_app.2 ⟨h.ok.take i,mulR_ok _ hx hb (h.ok.drop i) hz Zo Zo⟩, ?_,fun j h1 h2=>?_, ?_⟩
 ·rw [List.length_append,hti,mulR_len,List.length_drop]; omega
 ·rw [List.length_append,hti,mulR_len,List.length_drop] at h2;rw [List.getElem?_append_right Zo,hti,mulR_past _ _ _ _ _ Zo,List.getElem?_drop];exact h.zero _ Zo Zo
 ·rw [val_app,hti,mulR_val _ (by rw [List.length_drop]; omega),List.take_succ_eq_append_getElem hi,val_app,List.length_take,Nat.min_eq_left Zo];have hs:=h.sum;rw [val_split o i Zo] at hs;simp only [val];rw [Int.mul_add (pw i),Int.mul_add (pw i),Int.add_mul,← hs,show a[i]+1048576 * 0=a[i] by omega,Int.mul_assoc];omega
theorem MulS.start {a b : List Int} : MulS a b 0 (List.replicate (a.length+b.length) 0) where
 ok d hd:=by rw [List.eq_of_mem_replicate hd]; omega
 len:=by simp
 zero j _ h:=by rw [List.length_replicate] at h; rw [List.getElem?_replicate,if_pos h]
 sum:=by rw [val_zeros]; simp [val]
theorem MulS.done {a b o : List Int} (h : MulS a b a.length o) : val o=val a * val b:=by have:=h.sum; rwa [List.take_length] at this
structure ShortS (a : List Int) (d : Int) (j : Nat) (qs : List Int) (r : Int) : Prop where
  ok : DigOK qs
  len : qs.length=a.length - j
  sum : val (a.drop j)=d * val qs+r
  r0 : 0≤r
  rd : r<d
theorem ShortS.next {a qs : List Int} {d r : Int} {i : Nat} (h : ShortS a d (i+1) qs r) (ha : DigOK a) (hi : i<a.length) (hd : 0<d) : ShortS a d i ((r * 1048576+a[i]) / d :: qs) ((r * 1048576+a[i]) % d):=by
 have hx:=ha.get hi;have hl:=h.len;obtain ⟨h1,h2,h3,h4,h5⟩:=short_step hd h.r0 h.rd hx.1 hx.2 h.sum;refine ⟨digOK_cons.2 ⟨⟨h2,h3⟩,h.ok⟩,by rw [List.length_cons,hl]; omega, ?_,h4,h5⟩;rw [List.drop_eq_getElem_cons hi];exact h1
theorem ShortS.start {a : List Int} {d : Int} (hd : 0<d) : ShortS a d a.length [] 0:=⟨DigOK.nil,by simp,by simp [val],by omega,hd⟩
theorem ShortS.done {a qs : List Int} {d r : Int} (h : ShortS a d 0 qs r) (hd : 0<d) : val qs=val a / d∧r=val a % d:=by
 have h1:=h.sum;rw [List.drop_zero] at h1;have h2:=h.r0;have h3:=h.rd
 have e : val a / d=val qs:=by
  refine quo_is hd ?_ ?_
  ·rw [h1,Int.mul_comm]; omega
  ·rw [h1,Int.add_mul,Int.mul_comm d,Int.one_mul]; omega
 refine ⟨e.symm, ?_⟩;have:=Int.mul_ediv_add_emod (val a) d;rw [e] at this; omega
theorem digs_one {d : Int} (h0 : 0<d) (h1 : d<1048576) : digs d.toNat=[d]:=by
 rw [digs_pos Zo,show d.toNat / 1048576=0 by omega,digs_zero,show ((d.toNat % 1048576 : Nat) : Int)=d by omega]
theorem trim_one {d : Int} (h0 : 0≤d) (h1 : d<1048576) : trimL [d]=digs d.toNat:=by
 rw [trimL_is (digOK_cons.2 ⟨⟨h0,h1⟩,DigOK.nil⟩)];simp [val]
theorem digs_of {l : List Int} (h : Norm l) {n : Nat} (hv : val l=n) : l=digs n:=by rw [h.is,hv,Int.toNat_natCast]
theorem norm_digs_val {l : List Int} (h : Norm l) : 0≤val l:=val_nn h.ok
theorem digs_low {n k : Nat} (h : (digs n).length=k+1) : pw k≤(n : Int):=by
 have:=(digs_norm n).low (by intro h0; rw [h0] at h; simp at h);rw [h,digs_val] at this;exact this
theorem digs_lenlt {n : Nat} : (n : Int)<pw (digs n).length:=digs_len.1 Zl
theorem or_shift {u d : Nat} {k : Nat} (hu : u<2 ^ k) : u ||| (d <<< k)=u+d * 2 ^ k:=by
 rw [Nat.shiftLeft_eq,Nat.mul_comm,Nat.or_comm,← Nat.two_pow_add_eq_or_of_lt hu,Nat.add_comm]
section
variable {P : Program} {ops : Array Oper} {Q : Exit→Act→World→Prop} {md : Region.Mode} {S : World→Prop} {T : Nat→Bool}
def wpAnyT (P : Program) (md : Region.Mode) (ops : Array Oper) (Q : Exit→Act→World→Prop) (S : World→Prop) (T : Nat→Bool) : Nat→Array Bool→Act→World→Prop
  | 0,listed,a,w=>Region.ready md ops listed=[]∧Q .normal a w
  | fuel+1,listed,a,w =>
    (Region.ready md ops listed=[]→Q .normal a w) ∧
    ∀ i ∈ Region.ready md ops listed,wpOp P ops Q i (fun a' w'=>(T i=false→S w')∧wpAnyT P md ops Q S T fuel (listed.setIfInBounds i true) a' w') a w
theorem wpAny_of_T : ∀ (fuel : Nat) (listed : Array Bool) (a : Act) (w : World),wpAnyT P md ops Q S T fuel listed a w→wpAny P md ops Q fuel listed a w
 | 0,_,_,_,h=>h
 | fuel+1,_,_,_,h=>⟨h.1,fun i hi=>wpOp_mono (fun a' w' h'=>wpAny_of_T fuel _ a' w' h'.2) (h.2 i hi)⟩
theorem wpAnyT_first {i : Nat} {oi : Oper} {v : Value} (hi : ops[i]? = some oi) (hsel : ∀ (j : Nat) (o : Oper) cs b,ops[j]? = some o→o.op≠.select cs b) (hT : ∀ j oj,ops[j]? = some oj→T j=true→∃ e ∈ oj.after,Region.binds md e=true∧e.on=i) (hQ : ∀ c a w,Q (.panic c) (a.put oi.dst v) w→Q (.panic c) a w) : ∀ (fuel : Nat) (listed : Array Bool) (a : Act) (w : World),(∀ j oj,ops[j]? = some oj→j≠i→listed.getD j true=false→(∀ e ∈ oj.after,Region.binds md e=true→e.on≠i)→oi.apart ops oj=true)→i ∈ Region.ready md ops listed→YieldsIf P ops S oi v a→S w→wpAnyT P md ops Q S T fuel (listed.setIfInBounds i true) (a.put oi.dst v) w→wpAnyT P md ops Q S T (fuel+1) listed a w:=by
 intro fuel
 induction fuel with
 | zero =>
  intro listed a w _ hr hy hS H;refine ⟨fun h=>(by rw [h] at hr; cases hr),fun j hj=>?_⟩;by_cases hji : j=i
  ·subst hji; exact hy.wpOp hi hS ⟨fun _=>hS,H⟩
  ·have:=ready_mono hj hji;rw [H.1] at this;cases this
 | succ fuel ih =>
  intro listed a w hfree hr hy hS H;refine ⟨fun h=>(by rw [h] at hr; cases hr),fun j hj=>?_⟩;by_cases hji : j=i
  ·subst hji; exact hy.wpOp hi hS ⟨fun _=>hS,H⟩
  ·have h1:=H.2 j (ready_mono hj hji);obtain ⟨hjun,oj,hoj,hall⟩:=mem_ready.1 hj
   have hnot : ∀ e ∈ oj.after,Region.binds md e=true→e.on≠i:=fun e he hb heq=>by
    have h1:=hall e he hb;have h0:=(mem_ready.1 hr).1;rw [heq] at h1;rcases Nat.lt_or_ge i listed.size with h' | h'
    ·simp [h'] at h0 h1; rw [h0] at h1; cases h1
    ·simp [Array.getElem?_eq_none h'] at h1
   have hTj : T j=false:=by
    rcases h : T j
    ·rfl
    ·obtain ⟨e,he,hb,ho⟩:=hT j oj hoj h;exact absurd ho (hnot e he hb)
   have h2:=wpOp_putIf hoj (hfree j oj hoj hji hjun hnot) (fun cs b=>hsel i oi cs b hi) (fun cs b=>hsel j oj cs b hoj) hQ hy h1
   have hfree' : ∀ k ok,ops[k]? = some ok→k≠i→(listed.setIfInBounds j true).getD k true=false →
    (∀ e ∈ ok.after,Region.binds md e=true→e.on≠i)→oi.apart ops ok=true:=fun k ok hk hki hun hno=>by
    refine hfree k ok hk hki ?_ hno
    by_cases hjk : j=k
    ·subst hjk; exact hjun
    ·rw [getD_set_ne true hjk] at hun; exact hun
   refine wpOp_mono (fun a' w' h3=>⟨fun _=>h3.2.1 hTj,ih (listed.setIfInBounds j true) a' w' hfree' (ready_mono hr (Ne.symm hji)) h3.1 (h3.2.1 hTj) ?_⟩) h2;rw [Array.setIfInBounds_comm _ _ hji];exact h3.2.2
def waitT (md : Region.Mode) (ops : Array Oper) (T : Nat→Bool) (i : Nat) : Bool :=
  (List.range ops.size).all fun j=>!T j || (match ops[j]? with | some oj=>oj.after.any (fun e=>Region.binds md e && e.on == i) | none=>true)
theorem waitT_spec {i : Nat} (h : waitT md ops T i=true) : ∀ j oj,ops[j]? = some oj→T j=true→∃ e ∈ oj.after,Region.binds md e=true∧e.on=i:=by
 intro j oj hj hT;have hlt : j<ops.size:=(Array.getElem?_eq_some_iff.1 hj).1;have:=List.all_eq_true.1 h j (List.mem_range.2 hlt);rw [hT,hj] at this;simp only [Bool.not_true,Bool.false_or] at this;obtain ⟨e,he,hb⟩:=Array.any_eq_true'.1 this;simp only [Bool.and_eq_true,beq_iff_eq] at hb;exact ⟨e,he,hb.1,hb.2⟩
theorem wpAnyT_take {i : Nat} {oi : Oper} {v : Value} {fuel : Nat} {listed : Array Bool} {a : Act} {w : World} (hi : ops[i]? = some oi) (hs : Region.noSelect ops=true) (hf : Region.free md ops listed i=true) (hr : (Region.ready md ops listed).contains i=true) (hw : waitT md ops T i=true) (hQ : ∀ c a w,Q (.panic c) (a.put oi.dst v) w→Q (.panic c) a w) (hy : YieldsIf P ops S oi v a) (hS : S w) (h : wpAnyT P md ops Q S T fuel (listed.setIfInBounds i true) (a.put oi.dst v) w) : wpAnyT P md ops Q S T (fuel+1) listed a w :=
 wpAnyT_first hi (Region.noSelect_spec hs) (waitT_spec hw) hQ fuel listed a w (Region.free_spec hi hf) (by simpa using hr) hy hS h
def QT (Q : Exit→Act→World→Prop) (K : Act→World→Prop) : Exit→Act→World→Prop
  | .normal,a,w=>K a w
  | e,a,w=>Q e a w
theorem wpOp_of_list {i : Nat} {o : Oper} {K : Act→World→Prop} {a : Act} {w : World} (ho : ops[i]? = some o) (h : wpList P ops (QT Q K) [o] a w) : wpOp P ops Q i K a w:=by
 unfold wpList at h;unfold wpOp;rw [ho];show if Region.wanted o (yielded ops a.tmps)=true then _ else _;split
 ·rename_i hw;rw [if_pos hw] at h;rcases h with h | ⟨h1,h2⟩
  ·refine .inl ?_;unfold Oper.wp at *;generalize (execOp a.eval o).run P w=r at *;cases r with
   | ok n w' =>
    cases n <;> simp only [Oper.upon] at h ⊢
    case value u=>exact h
    case skip=>exact h
    case defer d=>exact h
    case enter f args =>
     refine Calls.mono h fun e w'' he=>?_;cases e <;> exact he
    case row row args=>exact h
   | halt x w' =>
    cases x <;> simp only [Oper.upon] at h ⊢
    case panic u=>exact h
  ·exact .inr ⟨h1,h2⟩
 ·rename_i hw;rw [if_neg hw] at h;exact h
theorem wpAnyT_next {i : Nat} {o : Oper} {fuel : Nat} {listed : Array Bool} {a : Act} {w : World} (hr : Region.ready md ops listed=[i]) (ho : ops[i]? = some o) (h : wpList P ops (QT Q fun a' w'=>(T i=false→S w')∧wpAnyT P md ops Q S T fuel (listed.setIfInBounds i true) a' w') [o] a w) : wpAnyT P md ops Q S T (fuel+1) listed a w :=
by
  refine ⟨fun h0=>?_,fun j hj=>?_⟩
  · rw [hr] at h0; cases h0
  · rw [hr] at hj
    rcases List.mem_singleton.1 hj with rfl
    exact wpOp_of_list ho h
theorem wpAnyT_done {listed : Array Bool} {a : Act} {w : World} (hr : Region.ready md ops listed=[]) (h : Q .normal a w) : ∀ fuel,wpAnyT P md ops Q S T fuel listed a w
 | 0=>⟨hr,h⟩
 | _+1=>⟨fun _=>h,by rw [hr]; simp⟩
theorem wp_region_T {id : Nat} {a : Act} {w : World} (S : World→Prop) (T : Nat→Bool) (hm : P.follows .mixedOrders=true) (hS : S w.drew) (h : S w.drew→wpAnyT P .any ops Q S T ops.size (Array.replicate ops.size false) a w.drew) : (Code.region id ops true).wp P Q a w :=
 wp_region_any hm (wpAny_of_T _ _ _ _ (h hS))
end
section
variable {P : Program} {ops : Array Oper} {Q : Exit→Act→World→Prop} {md : Region.Mode} {S : World→Prop} {T : Nat→Bool}
theorem wpAnyT_two {i j : Nat} {o o' : Oper} {fuel : Nat} {listed : Array Bool} {a : Act} {w : World} (hr : Region.ready md ops listed=[i,j]) (ho : ops[i]? = some o) (ho' : ops[j]? = some o') (h : wpList P ops (QT Q fun a' w'=>(T i=false→S w')∧wpAnyT P md ops Q S T fuel (listed.setIfInBounds i true) a' w') [o] a w) (h' : wpList P ops (QT Q fun a' w'=>(T j=false→S w')∧wpAnyT P md ops Q S T fuel (listed.setIfInBounds j true) a' w') [o'] a w) : wpAnyT P md ops Q S T (fuel+1) listed a w:=by
 refine ⟨fun h0=>?_,fun k hk=>?_⟩
 ·rw [hr] at h0; cases h0
 ·rw [hr] at hk;rcases List.mem_cons.1 hk with rfl | hk
  ·exact wpOp_of_list ho h
  ·rcases List.mem_singleton.1 hk with rfl;exact wpOp_of_list ho' h'
end
section
variable {P : Program} {ops : Array Oper} {Q : Exit→Act→World→Prop} {md : Region.Mode} {S : World→Prop} {T : Nat→Bool}
theorem wpAnyT_take2 {i d : Nat} {oi : Oper} {v : Value} {fuel : Nat} {listed : Array Bool} {a : Act} {w : World} (hi : ops[i]? = some oi) (hd : oi.dst=some d) (hs : Region.noSelect ops=true) (hf : Region.free md ops listed i=true) (hr : (Region.ready md ops listed).contains i=true) (hw : waitT md ops T i=true) (hQ : ∀ c a w,Q (.panic c) (a.put oi.dst v) w→Q (.panic c) a w) (hy : YieldsIf P ops S oi v a) (hS : S w) (h : wpAnyT P md ops Q S T fuel (listed.setIfInBounds i true) { a with tmps:=a.tmps.setIfInBounds d v } w) : wpAnyT P md ops Q S T (fuel+1) listed a w :=
 wpAnyT_take hi hs hf hr hw hQ hy hS (by rw [hd]; exact h)
end
section
variable {P : Program} {ops : Array Oper} {Q : Exit→Act→World→Prop} {md : Region.Mode} {S : World→Prop} {T : Nat→Bool}
theorem qtq (i : Nat) {d : Nat} {oi : Oper} {v : Value} {fuel : Nat} {listed : Array Bool} {a : Act} {w : World} (h : wpAnyT P md ops Q S T fuel (listed.setIfInBounds i true) { a with tmps:=a.tmps.setIfInBounds d v } w)
 (hi : ops[i]? = some oi:=by exact rfl) (hd : oi.dst=some d:=by exact rfl) (hs : Region.noSelect ops=true:=by kernel_rfl) (hf : Region.free md ops listed i=true:=by kernel_rfl) (hr : (Region.ready md ops listed).contains i=true:=by kernel_rfl) (hw : waitT md ops T i=true:=by kernel_rfl)
 (hQ : ∀ c a w,Q (.panic c) (a.put oi.dst v) w→Q (.panic c) a w:=by exact fun _ _ _ h=>h) (hy : YieldsIf P ops S oi v a:=by (refine Or.inl ⟨by rfl, ?_⟩; intro w hSw; (try dsimp only at hSw); go_simp) <;> (with_reducible rfl)) (hS : S w:=by first | assumption | trivial) : wpAnyT P md ops Q S T (fuel+1) listed a w :=
 wpAnyT_take2 hi hd hs hf hr hw hQ hy hS h
theorem qtn (i : Nat) {d : Nat} {oi : Oper} {fuel : Nat} {listed : Array Bool} {a : Act} {w : World} (h : wpAnyT P md ops Q S T fuel (listed.setIfInBounds i true) { a with tmps:=a.tmps.setIfInBounds d undef } w)
 (hi : ops[i]? = some oi:=by exact rfl) (hd : oi.dst=some d:=by exact rfl) (hs : Region.noSelect ops=true:=by kernel_rfl) (hf : Region.free md ops listed i=true:=by kernel_rfl) (hr : (Region.ready md ops listed).contains i=true:=by kernel_rfl) (hw : waitT md ops T i=true:=by kernel_rfl)
 (hQ : ∀ c a w,Q (.panic c) (a.put oi.dst undef) w→Q (.panic c) a w:=by exact fun _ _ _ h=>h) (hy : YieldsIf P ops S oi undef a:=by exact Or.inr ⟨by rfl,rfl⟩) (hS : S w:=by first | assumption | trivial) : wpAnyT P md ops Q S T (fuel+1) listed a w :=
 wpAnyT_take2 hi hd hs hf hr hw hQ hy hS h
end
section
variable {P : Program} {ops : Array Oper} {Q : Exit→Act→World→Prop} {md : Region.Mode} {S : World→Prop} {T : Nat→Bool}
theorem Zn (i : Nat) {o : Oper} {fuel : Nat} {listed : Array Bool} {a : Act} {w : World} (h : wpList P ops (QT Q fun a' w'=>(T i=false→S w')∧wpAnyT P md ops Q S T fuel (listed.setIfInBounds i true) a' w') [o] a w) (hr : Region.ready md ops listed=[i]:=by kernel_rfl) (ho : ops[i]? = some o:=by exact rfl) : wpAnyT P md ops Q S T (fuel+1) listed a w:=wpAnyT_next hr ho h
theorem Zr (i : Nat) {d : Nat} {oi : Oper} {v : Value} {fuel : Nat} {listed : Array Bool} {a a' : Act} {w : World} (h : wpAnyT P md ops Q S T fuel (listed.setIfInBounds i true) a' w)
    (hi : ops[i]? = some oi:=by exact rfl) (hd : oi.dst=some d:=by exact rfl) (hs : Region.noSelect ops=true:=by kernel_rfl) (hf : Region.free md ops listed i=true:=by kernel_rfl) (hr : (Region.ready md ops listed).contains i=true:=by kernel_rfl) (hw : waitT md ops T i=true:=by kernel_rfl)
    (hQ : ∀ c a w,Q (.panic c) (a.put oi.dst v) w→Q (.panic c) a w:=by exact fun _ _ _ h=>h) (hy : YieldsIf P ops S oi v a:=by (refine Or.inl ⟨by rfl, ?_⟩; intro w hSw; (try dsimp only at hSw); go_simp) <;> (with_reducible rfl)) (ha : { a with tmps:=a.tmps.setIfInBounds d v } = a':=by first | (simp only [qsa,qsb,qsc]; done) | (simp only [qsa,qsb,qsc]; exact rfl)) (hS : S w:=by first | assumption | trivial) : wpAnyT P md ops Q S T (fuel+1) listed a w :=
  wpAnyT_take2 hi hd hs hf hr hw hQ hy hS (by rw [ha]; exact h)
theorem Zm (i : Nat) {d : Nat} {oi : Oper} {fuel : Nat} {listed : Array Bool} {a a' : Act} {w : World} (h : wpAnyT P md ops Q S T fuel (listed.setIfInBounds i true) a' w)
    (hi : ops[i]? = some oi:=by exact rfl) (hd : oi.dst=some d:=by exact rfl) (hs : Region.noSelect ops=true:=by kernel_rfl) (hf : Region.free md ops listed i=true:=by kernel_rfl) (hr : (Region.ready md ops listed).contains i=true:=by kernel_rfl) (hw : waitT md ops T i=true:=by kernel_rfl)
    (hQ : ∀ c a w,Q (.panic c) (a.put oi.dst undef) w→Q (.panic c) a w:=by exact fun _ _ _ h=>h) (hy : YieldsIf P ops S oi undef a:=by exact Or.inr ⟨by rfl,rfl⟩) (ha : { a with tmps:=a.tmps.setIfInBounds d undef } = a':=by first | (simp only [qsa,qsb,qsc]; done) | (simp only [qsa,qsb,qsc]; exact rfl)) (hS : S w:=by first | assumption | trivial) : wpAnyT P md ops Q S T (fuel+1) listed a w :=
  wpAnyT_take2 hi hd hs hf hr hw hQ hy hS (by rw [ha]; exact h)
theorem Ze {listed : Array Bool} {a : Act} {w : World} {fuel : Nat} (h : Q .normal a w) (hr : Region.ready md ops listed=[]:=by kernel_rfl) : wpAnyT P md ops Q S T fuel listed a w:=wpAnyT_done hr h fuel
end
section
variable {P : Program} {ops : Array Oper} {Q : Exit→Act→World→Prop} {md : Region.Mode}
theorem wpAnyT_weaken {S' : World→Prop} {T' T : Nat→Bool} : ∀ (fuel : Nat) (listed : Array Bool) (a : Act) (w : World),wpAnyT P md ops Q S' T' fuel listed a w→wpAnyT P md ops Q (fun _=>True) T fuel listed a w
 | 0,_,_,_,h=>h
 | fuel+1,_,_,_,h=>⟨h.1,fun i hi=>wpOp_mono (fun a' w' h'=>⟨fun _=>trivial,wpAnyT_weaken fuel _ a' w' h'.2⟩) (h.2 i hi)⟩
theorem wpAnyT_switch {T : Nat→Bool} {fuel : Nat} {listed : Array Bool} {a : Act} {w : World} (S' : World→Prop) (T' : Nat→Bool) (hS : S' w) (h : S' w→wpAnyT P md ops Q S' T' fuel listed a w) : wpAnyT P md ops Q (fun _=>True) T fuel listed a w :=
 wpAnyT_weaken _ _ _ _ (h hS)
end
def ienc (n : Int) : List Value:=[.int .i64 n]
theorem ienc_k (n : Int) : (ienc n).length=1:=rfl
theorem below_via {a w w' : World} (hb : Below a.heap.size a w') (h1 : Below w.heap.size w a) : Below w.heap.size w w':=Below.trans h1 (hb.mono h1.size)
theorem own_via {α : Type} {base : Nat} {e : TypeId} {k : Nat} {enc : α→List Value} {a w' : World} {s : Sl α} (hb : Below a.heap.size a w') (h : Own base e k enc a s) : Own base e k enc w' s:=h.below hb
theorem keep_cell {a w' : World} {p : Addr} {v : Value} (hb : Below a.heap.size a w') (h : a.cell? p=some v) : w'.cell? p=some v:=(hb.cell (World.block_lt_of_cell? a p h)).trans h
theorem kal {w : World} {p : Addr} {v : Value} (o : Obj) (h : w.cell? p=some v) : (w.alloc o).cell? p=some v:=by rw [World.cell?_alloc_some w p o (by rw [h]; rfl),h]
theorem cutT {G : Prop} (T : Prop) (main : T→G) (fin : T) : G:=main fin
section
variable {α : Type} {F : Nat→Prop} {k : Nat} {enc : α→List Value} {w w' : World} {s : Sl α}
theorem Rd.far (h : Rd F k enc w s) {p : Addr} (hp : ∀ b,F b→b≠p.block) (u : Value) : Rd F k enc (w.setCell p u) s:=h.keep fun b hb=>Below.heap_setCell w p u b (hp b hb)
theorem Rd.up (h : Rd F k enc w s) (hF : ∀ b,F b→b<w.heap.size) (hb : Below w.heap.size w w') : Rd F k enc w' s:=h.keep fun b hb'=>hb.block b (hF b hb')
theorem Rd.drew (h : Rd F k enc w s) : Rd F k enc w.drew s:=h
theorem Rd.later (h : Rd (· < w.heap.size) k enc w s) (hb : Below w.heap.size w w') : Rd (· < w'.heap.size) k enc w' s:=h.below' hb Zl
theorem Rd.takeN (h : Rd F k enc w s) (n : Nat) : Rd F k enc w ⟨s.A,s.c,s.l.take n⟩ :=
 ⟨by have:=h.1; simp only [List.length_take]; omega,h.2.1,h.2.2.1,fun i x hx=>h.2.2.2 i x (by
  simp only [List.getElem?_take] at hx;split at hx
  ·exact hx
  ·cases hx)⟩
theorem Rd.nilA (h : Rd F k enc w s) (A : Option Addr) (c : Nat) (hA : A=none→c=0) (hc : c≤maxLen) : Rd F k enc w ⟨A,c,[]⟩:=⟨Nat.zero_le _,hc,hA,fun i x hx=>by simp at hx⟩
end
section
variable {F : Nat→Prop} {w w' : World} {s : Sl Int}
theorem Rd.geti {i : Nat} (h : Rd F 1 ienc w s) (hi : i<s.l.length) : ∃ b o,s.A=some ⟨b,o,none⟩∧F b∧w.cell? ⟨b,o+i,none⟩=some (.int .i64 s.l[i]):=by
 obtain ⟨b,o,h1,h2,h3⟩:=h.at1 hi;refine ⟨b,o,h1,h2, ?_⟩;have:=h3.c1
 rwa [Nat.mul_one] at this
theorem Rd.getv {i : Nat} {x : Int} (h : Rd F 1 ienc w s) (hx : s.l[i]? = some x) : ∃ b o,s.A=some ⟨b,o,none⟩∧F b∧w.cell? ⟨b,o+i,none⟩=some (.int .i64 x):=by
 obtain ⟨hi,rfl⟩:=List.getElem?_eq_some_iff.1 hx;exact h.geti hi
end
def Nw (m : Nat) (w : World) (b : Nat) : Prop:=m≤b∧b<w.heap.size
theorem Nw.lt {m : Nat} {w : World} {b : Nat} (h : Nw m w b) : b<w.heap.size:=h.2
theorem Nw.mono {m n : Nat} {w w' : World} {b : Nat} (h : Nw m w b) (hn : n≤m) (hs : w.heap.size≤w'.heap.size) : Nw n w' b:=⟨Nat.le_trans hn h.1,Nat.lt_of_lt_of_le h.2 hs⟩
theorem Rd.nw {α : Type} {k : Nat} {enc : α→List Value} {m n : Nat} {w w' : World} {s : Sl α} (h : Rd (Nw m w) k enc w s) (hn : n≤m) (hb : Below w.heap.size w w') : Rd (Nw n w') k enc w' s :=
 (h.up (fun _ hb'=>hb'.lt) hb).mono fun _ hb'=>hb'.mono hn hb.size
theorem Rd.nwlt {α : Type} {k : Nat} {enc : α→List Value} {m : Nat} {w : World} {s : Sl α} (h : Rd (Nw m w) k enc w s) : Rd (· < w.heap.size) k enc w s:=h.mono fun _ hb=>hb.lt
def ints (l : List Int) : Array Value:=(l.map (Value.int .i64)).toArray
theorem ints_flat (l : List Int) : (ints l).toList=l.flatMap ienc:=by
 unfold ints
 induction l with
 | nil=>rfl
 | cons x r ih=>simp only [List.map_cons,List.flatMap_cons,ienc] at ih ⊢; simpa using ih
def OI (B : Nat) (w : World) (g c : Nat) (l : List Int) : Prop:=Own B 3 1 ienc w ⟨some ⟨g,0,none⟩,c,l⟩
section
variable {B : Nat} {w w' : World} {g c : Nat} {l : List Int}
theorem OI.lt (h : OI B w g c l) : g<w.heap.size:=Own.bound h g rfl
theorem OI.ge (h : OI B w g c l) : B≤g:=by
 rcases Own.form h with ⟨h0,_⟩ | ⟨g',h1,h2,_⟩
 ·cases h0
 ·injection h1 with h1;injection h1 with h1;omega
theorem OI.le (h : OI B w g c l) : l.length≤c∧c≤maxLen:=by
 have:=Own.rd ienc_k h;exact ⟨this.1,this.2.1⟩
theorem OI.get (h : OI B w g c l) {i : Nat} {x : Int} (hx : l[i]? = some x) : w.cell? ⟨g,i,none⟩=some (.int .i64 x):=by
 obtain ⟨b,o,hA,_,hc⟩:=(Own.rd ienc_k h).2.2.2 i x hx;injection hA with hA;injection hA with h1 h2;subst h1 h2;have:=hc.c1;simpa using this
theorem OI.cell (h : OI B w g c l) {i : Nat} (hi : i<l.length) : w.cell? ⟨g,i,none⟩=some (.int .i64 l[i]):=h.get (List.getElem?_eq_getElem hi)
theorem OI.frozen (h : OI B w g c l) (i : Nat) : w.frozen? ⟨g,i,none⟩=false:=Own.frozen h rfl i
theorem OI.set (h : OI B w g c l) {i : Nat} (hi : i<l.length) (x : Int) : OI B (w.setCell ⟨g,i,none⟩ (.int .i64 x)) g c (l.set i x):=by
 have:=Own.set (s:=⟨some ⟨g,0,none⟩,c,l⟩) ienc_k h rfl (i:=i) (j:=0) (x:=l[i]) (y:=x) (u:=.int .i64 x) (List.getElem?_eq_getElem hi) Zo rfl;unfold OI;simpa using this
theorem OI.later (h : OI B w g c l) (hb : Below w.heap.size w w') : OI B w' g c l:=Own.below h hb
theorem OI.keep (h : OI B w g c l) (hk : w'.heap[g]? = w.heap[g]?) : OI B w' g c l:=by
 refine ⟨h.1, ?_⟩;rcases h.2 with h2 | ⟨g',cap,cur,hv,hg,hh,r⟩
 ·exact .inl h2
 ·refine .inr ⟨g',cap,cur,hv,hg, ?_,r⟩;injection hv with hv;injection hv with hv;injection hv with hv;subst hv;exact hk.trans hh
theorem OI.alloc (h : OI B w g c l) (o : Obj) : OI B (w.alloc o) g c l:=Own.alloc h o
theorem OI.drew (h : OI B w g c l) : OI B w.drew g c l:=h
theorem OI.new (w : World) (l : List Int) (hm : l.length≤maxLen) : OI w.heap.size (w.alloc (.cells (ints l) 3)) w.heap.size l.length l:=Own.lit w (ints l) l Zl hm (ints_flat l) ienc_k
theorem OI.part (h : OI B w g c l) {o n k : Nat} (hn : n≤k) (hk : k≤maxLen) : Rd (· = g) 1 ienc w ⟨some ⟨g,o,none⟩,k,(l.drop o).take n⟩ :=
 ⟨by simp only [List.length_take,List.length_drop]; omega,hk,(fun h0=>by cases h0),fun i x hx=>⟨g,o,rfl,rfl,fun j u hu=>by
  have hj : j=0:=by
   have:=(List.getElem?_eq_some_iff.1 hu).1;simp only [ienc,List.length_singleton] at this;omega
  subst hj;simp only [ienc,List.getElem?_cons_zero,Option.some.injEq] at hu;subst hu;rw [Nat.mul_one,Nat.add_zero];refine h.get ?_;simp only [List.getElem?_take,List.getElem?_drop] at hx;split at hx
  ·exact hx
  ·cases hx⟩⟩
theorem OI.rd (h : OI B w g c l) : Rd (· = g) 1 ienc w ⟨some ⟨g,0,none⟩,c,l⟩:=by
 have:=h.part (o:=0) (n:=l.length) h.le.1 h.le.2;simpa using this
theorem OI.rdlt (h : OI B w g c l) : Rd (· < w.heap.size) 1 ienc w ⟨some ⟨g,0,none⟩,c,l⟩:=h.rd.mono fun b hb=>by have:=h.lt; omega
end
theorem infoInt : Info Tryz.prog 3 (.int .i64 0) 1 8:=info_mk Zy rfl
theorem make_ints (n : Nat) (hn : n≤100000) (w : World) : (Instr.makeSlice 37 (.int .i64 (n : Int)) (.int .i64 (n : Int))).run Tryz.prog w = .ok (.slice (some ⟨w.heap.size,0,none⟩) n n) (w.alloc (.cells (ints (List.replicate n 0)) 3)):=by
 obtain ⟨i,hi,hz,hsize,hby,hzs⟩:=infoInt;have h:=run_makeSlice w 37 3 i _ Tryz.underlying37 hi hz .i64 .i64 (n : Int) (n : Int) Zo (Int.le_refl _) (by rw [hsize]; omega) (by rw [hby]; omega) Zo
 have hc : madeCells (Value.int .i64 0).cells n=ints (List.replicate n 0):=by
  unfold ints madeCells;apply Array.ext_getElem?;intro j;rcases Nat.lt_or_ge j n with hj | hj
  ·rw [Array.getElem?_map,Array.getElem?_range,if_pos hj,List.getElem?_toArray,List.getElem?_map,List.getElem?_replicate,if_pos hj];simp [Value.cells,Nat.mod_one]
  ·rw [Array.getElem?_eq_none (by simpa using hj),Array.getElem?_eq_none (by simpa using hj)]
 rw [h,hsize];simp only [Int.toNat_natCast,Nat.mul_one,hc]
theorem Own.takeN {B : Nat} {w : World} {A : Option Addr} {c : Nat} {l : List Int} (h : Own B 3 1 ienc w ⟨A,c,l⟩) (n : Nat) : Own B 3 1 ienc w ⟨A,c,l.take n⟩:=by
 (have hf : ∀ l : List Int,(l.flatMap ienc).length=l.length:=fun l=>by rw [flat_len ienc_k,Nat.mul_one]);refine ⟨by rw [hf,Nat.mul_one], ?_⟩;rcases h.2 with ⟨hv,hn⟩ | ⟨g,cap,cur,hv,hg,hh,hnc,hcm,hcs,ht⟩
 ·injection hv with h1 h2 h3;simp only at h1 h2 h3 hn;have : l=[]:=List.eq_nil_of_length_eq_zero hn;subst this;exact .inl ⟨by simp only; rw [h1,h3]; simp,by simp⟩
 ·injection hv with h1 h2 h3;simp only at h1 h2 h3 hnc ht;refine .inr ⟨g,cap,cur, ?_,hg,hh,by simp only [List.length_take]; omega,hcm,hcs, ?_⟩
  ·simp only; rw [h1,h3]
  ·have e : ∀ (l : List Int) (n : Nat),(l.take n).flatMap ienc=(l.flatMap ienc).take n:=by
    intro l
    induction l with
    | nil=>intro n; simp
    | cons x r ih=>intro n; cases n with
     | zero=>simp
     | succ n=>simp only [List.take_succ_cons,List.flatMap_cons,ienc,List.singleton_append,ih]
   simp only [List.length_take];rw [e,← ht,List.take_take];simp only [Nat.mul_one]
end Go.Proofs.YtmomlipmpgcheaaGreatDoor
