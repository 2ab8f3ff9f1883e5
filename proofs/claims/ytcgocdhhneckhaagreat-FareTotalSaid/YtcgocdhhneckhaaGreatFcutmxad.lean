/- Digits: comparing, prefixes, products row by row, single digits; in plain Lean. -/
import Derived.Test.YtcgocdhhneckhaaGreatFcutmxac
import Derived.Test.YtcgocdhhneckhaaGreatFcutmxaa
namespace Go.Proofs.YtcgocdhhneckhaaGreat
theorem trimL_cons (d : Int) (l : List Int) : trimL (d :: l) = match trimL l with | [] => if d = 0 then [] else [d] | y :: r => d :: y :: r := rfl
theorem trimL_zero : ∀ (l : List Int), trimL (l ++ [0]) = trimL l
  | [] => by simp [trimL]
  | d :: l => by rw [List.cons_append, trimL_cons, trimL_cons, trimL_zero l]
theorem trimL_top : ∀ (l : List Int) {x : Int}, x ≠ 0 → trimL (l ++ [x]) = l ++ [x]
  | [], x, h => by simp [trimL, h]
  | d :: l, x, h => by
    rw [List.cons_append, trimL_cons, trimL_top l h]
    rcases l with _ | ⟨y, r⟩ <;> rfl
theorem trimL_take : ∀ l : List Int, trimL l = l.take (trimL l).length
  | [] => rfl
  | d :: l => by
    have ih := trimL_take l
    unfold trimL
    split
    · split <;> simp
    · rename_i y r h
      rw [h] at ih
      simp only [List.length_cons, List.take_succ_cons, List.cons.injEq, true_and]
      exact ih
theorem trimL_le (l : List Int) : (trimL l).length ≤ l.length := by
  have h := congrArg List.length (trimL_take l)
  rw [List.length_take] at h; omega
theorem Norm.trim {l : List Int} (h : Norm l) : trimL l = l := by rw [trimL_is h.ok]; exact h.is.symm
/-- More digits, a greater number. -/
theorem len_lt {a b : List Int} (ha : DigOK a) (hb : Norm b) (h : a.length < b.length) : val a < val b := by
  have h1 := val_lt ha
  have h2 := hb.low (by rintro rfl; simp at h)
  have h3 := pw_mono (show a.length ≤ b.length - 1 by omega)
  omega
/-- The first digit from above that is not the same decides. -/
theorem dig_lt {a b : List Int} {i : Nat} (ha : DigOK a) (hb : DigOK b) (hi : i < a.length) (hj : i < b.length) (hd : a.drop (i + 1) = b.drop (i + 1)) (hlt : a[i] < b[i]) : val a < val b := by
  rw [val_split a i (by omega), val_split b i (by omega), List.drop_eq_getElem_cons hi, List.drop_eq_getElem_cons hj, hd]
  simp only [val]
  have h1 := val_lt (ha.take i)
  have h2 := val_nn (hb.take i)
  rw [List.length_take, Nat.min_eq_left (by omega)] at h1
  generalize val (b.drop (i + 1)) = z
  have : pw i * (a[i] + 1048576 * z + 1) ≤ pw i * (b[i] + 1048576 * z) := Int.mul_le_mul_of_nonneg_left (by omega) (by have := pw_pos i; omega)
  rw [Int.mul_add, Int.mul_one] at this
  omega
theorem mulR_past (x : Int) : ∀ (b o : List Int) (c : Int) (j : Nat), b.length < j → (mulR x c b o)[j]? = o[j]?
  | [], [], _, _, _ => rfl
  | [], o :: r, c, j, h => by
    obtain ⟨j, rfl⟩ : ∃ i, j = i + 1 := ⟨j - 1, by simp at h; omega⟩
    simp [mulR]
  | y :: b, [], _, _, _ => rfl
  | y :: b, o :: r, c, j, h => by
    obtain ⟨j, rfl⟩ : ∃ i, j = i + 1 := ⟨j - 1, by simp at h; omega⟩
    simp only [mulR, List.getElem?_cons_succ]
    exact mulR_past x b r _ j (by simpa using h)
/-- What big.mul has written before row i. -/
structure MulS (a b : List Int) (i : Nat) (o : List Int) : Prop where
  ok : DigOK o
  len : o.length = a.length + b.length
  zero : ∀ j, i + b.length ≤ j → j < o.length → o[j]? = some 0
  sum : val o = val (a.take i) * val b
theorem MulS.next {a b o : List Int} {i : Nat} (h : MulS a b i o) (ha : DigOK a) (hb : DigOK b) (hi : i < a.length) : MulS a b (i + 1) (o.take i ++ mulR a[i] 0 b (o.drop i)) := by
  have hl := h.len
  have hti : (o.take i).length = i := by rw [List.length_take]; omega
  have hz : (o.drop i)[b.length]? = some 0 := by rw [List.getElem?_drop]; exact h.zero _ (by omega) (by omega)
  have hx := ha.get hi
  refine ⟨digOK_app.2 ⟨h.ok.take i, mulR_ok _ hx hb (h.ok.drop i) hz (by omega) (by omega)⟩, ?_, fun j h1 h2 => ?_, ?_⟩
  · rw [List.length_append, hti, mulR_len, List.length_drop]; omega
  · rw [List.length_append, hti, mulR_len, List.length_drop] at h2
    rw [List.getElem?_append_right (by omega), hti, mulR_past _ _ _ _ _ (by omega), List.getElem?_drop]
    exact h.zero _ (by omega) (by omega)
  · rw [val_app, hti, mulR_val _ (by rw [List.length_drop]; omega), List.take_succ_eq_append_getElem hi, val_app, List.length_take, Nat.min_eq_left (by omega)]
    have hs := h.sum
    rw [val_split o i (by omega)] at hs
    simp only [val]
    rw [Int.mul_add (pw i), Int.mul_add (pw i), Int.add_mul, ← hs, show a[i] + 1048576 * 0 = a[i] by omega, Int.mul_assoc]
    omega
theorem MulS.start {a b : List Int} : MulS a b 0 (List.replicate (a.length + b.length) 0) where
  ok d hd := by rw [List.eq_of_mem_replicate hd]; omega
  len := by simp
  zero j _ h := by rw [List.length_replicate] at h; rw [List.getElem?_replicate, if_pos h]
  sum := by rw [val_zeros]; simp [val]
theorem MulS.done {a b o : List Int} (h : MulS a b a.length o) : val o = val a * val b := by have := h.sum; rwa [List.take_length] at this
/-- What big.short has before it. -/
structure ShortS (a : List Int) (d : Int) (j : Nat) (qs : List Int) (r : Int) : Prop where
  ok : DigOK qs
  len : qs.length = a.length - j
  sum : val (a.drop j) = d * val qs + r
  r0 : 0 ≤ r
  rd : r < d
theorem ShortS.next {a qs : List Int} {d r : Int} {i : Nat} (h : ShortS a d (i + 1) qs r) (ha : DigOK a) (hi : i < a.length) (hd : 0 < d) : ShortS a d i ((r * 1048576 + a[i]) / d :: qs) ((r * 1048576 + a[i]) % d) := by
  have hx := ha.get hi
  have hl := h.len
  obtain ⟨h1, h2, h3, h4, h5⟩ := short_step hd h.r0 h.rd hx.1 hx.2 h.sum
  refine ⟨digOK_cons.2 ⟨⟨h2, h3⟩, h.ok⟩, by rw [List.length_cons, hl]; omega, ?_, h4, h5⟩
  rw [List.drop_eq_getElem_cons hi]
  exact h1
theorem ShortS.start {a : List Int} {d : Int} (hd : 0 < d) : ShortS a d a.length [] 0 := ⟨DigOK.nil, by simp, by simp [val], by omega, hd⟩
theorem ShortS.done {a qs : List Int} {d r : Int} (h : ShortS a d 0 qs r) (hd : 0 < d) : val qs = val a / d ∧ r = val a % d := by
  have h1 := h.sum
  rw [List.drop_zero] at h1
  have h2 := h.r0
  have h3 := h.rd
  have e : val a / d = val qs := by
    refine quo_is hd ?_ ?_
    · rw [h1, Int.mul_comm]; omega
    · rw [h1, Int.add_mul, Int.mul_comm d, Int.one_mul]; omega
  refine ⟨e.symm, ?_⟩
  have := Int.mul_ediv_add_emod (val a) d
  rw [e] at this; omega
theorem digs_one {d : Int} (h0 : 0 < d) (h1 : d < 1048576) : digs d.toNat = [d] := by
  rw [digs_pos (by omega), show d.toNat / 1048576 = 0 by omega, digs_zero, show ((d.toNat % 1048576 : Nat) : Int) = d by omega]
theorem trim_one {d : Int} (h0 : 0 ≤ d) (h1 : d < 1048576) : trimL [d] = digs d.toNat := by
  rw [trimL_is (digOK_cons.2 ⟨⟨h0, h1⟩, DigOK.nil⟩)]
  simp [val]
/-- Digits whose value is known. -/
theorem digs_of {l : List Int} (h : Norm l) {n : Nat} (hv : val l = n) : l = digs n := by rw [h.is, hv, Int.toNat_natCast]
theorem norm_digs_val {l : List Int} (h : Norm l) : 0 ≤ val l := val_nn h.ok
theorem digs_low {n k : Nat} (h : (digs n).length = k + 1) : pw k ≤ (n : Int) := by
  have := (digs_norm n).low (by intro h0; rw [h0] at h; simp at h)
  rw [h, digs_val] at this
  exact this
theorem digs_lenlt {n : Nat} : (n : Int) < pw (digs n).length := digs_len.1 (Nat.le_refl _)
/-- The bits of a digit above others. -/
theorem or_shift {u d : Nat} {k : Nat} (hu : u < 2 ^ k) : u ||| (d <<< k) = u + d * 2 ^ k := by
  rw [Nat.shiftLeft_eq, Nat.mul_comm, Nat.or_comm, ← Nat.two_pow_add_eq_or_of_lt hu, Nat.add_comm]
end Go.Proofs.YtcgocdhhneckhaaGreat
/- A region that draws its order: loads first under a condition S; the operations of T (late stores) need not keep S. -/
namespace Go.Proofs.YtcgocdhhneckhaaGreat
open Go.RowKit
section
variable {P : Program} {ops : Array Oper} {Q : Exit → Act → World → Prop} {md : Region.Mode} {S : World → Prop} {T : Nat → Bool}
def wpAnyT (P : Program) (md : Region.Mode) (ops : Array Oper) (Q : Exit → Act → World → Prop) (S : World → Prop) (T : Nat → Bool) : Nat → Array Bool → Act → World → Prop
  | 0, listed, a, w => Region.ready md ops listed = [] ∧ Q .normal a w
  | fuel + 1, listed, a, w =>
    (Region.ready md ops listed = [] → Q .normal a w) ∧
    ∀ i ∈ Region.ready md ops listed, wpOp P ops Q i (fun a' w' => (T i = false → S w') ∧ wpAnyT P md ops Q S T fuel (listed.setIfInBounds i true) a' w') a w
theorem wpAny_of_T : ∀ (fuel : Nat) (listed : Array Bool) (a : Act) (w : World), wpAnyT P md ops Q S T fuel listed a w → wpAny P md ops Q fuel listed a w
  | 0, _, _, _, h => h
  | fuel + 1, _, _, _, h => ⟨h.1, fun i hi => wpOp_mono (fun a' w' h' => wpAny_of_T fuel _ a' w' h'.2) (h.2 i hi)⟩
theorem wpAnyT_first {i : Nat} {oi : Oper} {v : Value} (hi : ops[i]? = some oi) (hsel : ∀ (j : Nat) (o : Oper) cs b, ops[j]? = some o → o.op ≠ .select cs b)
    (hT : ∀ j oj, ops[j]? = some oj → T j = true → ∃ e ∈ oj.after, Region.binds md e = true ∧ e.on = i)
    (hQ : ∀ c a w, Q (.panic c) (a.put oi.dst v) w → Q (.panic c) a w) :
    ∀ (fuel : Nat) (listed : Array Bool) (a : Act) (w : World),
      (∀ j oj, ops[j]? = some oj → j ≠ i → listed.getD j true = false → (∀ e ∈ oj.after, Region.binds md e = true → e.on ≠ i) → oi.apart ops oj = true) →
      i ∈ Region.ready md ops listed → YieldsIf P ops S oi v a → S w →
      wpAnyT P md ops Q S T fuel (listed.setIfInBounds i true) (a.put oi.dst v) w → wpAnyT P md ops Q S T (fuel + 1) listed a w := by
  intro fuel
  induction fuel with
  | zero =>
    intro listed a w _ hr hy hS H
    refine ⟨fun h => (by rw [h] at hr; cases hr), fun j hj => ?_⟩
    by_cases hji : j = i
    · subst hji; exact hy.wpOp hi hS ⟨fun _ => hS, H⟩
    · have := ready_mono hj hji
      rw [H.1] at this
      cases this
  | succ fuel ih =>
    intro listed a w hfree hr hy hS H
    refine ⟨fun h => (by rw [h] at hr; cases hr), fun j hj => ?_⟩
    by_cases hji : j = i
    · subst hji; exact hy.wpOp hi hS ⟨fun _ => hS, H⟩
    · have h1 := H.2 j (ready_mono hj hji)
      obtain ⟨hjun, oj, hoj, hall⟩ := mem_ready.1 hj
      have hnot : ∀ e ∈ oj.after, Region.binds md e = true → e.on ≠ i := fun e he hb heq => by
        have h1 := hall e he hb
        have h0 := (mem_ready.1 hr).1
        rw [heq] at h1
        rcases Nat.lt_or_ge i listed.size with h' | h'
        · simp [h'] at h0 h1; rw [h0] at h1; cases h1
        · simp [Array.getElem?_eq_none h'] at h1
      have hTj : T j = false := by
        rcases h : T j
        · rfl
        · obtain ⟨e, he, hb, ho⟩ := hT j oj hoj h
          exact absurd ho (hnot e he hb)
      have h2 := wpOp_putIf hoj (hfree j oj hoj hji hjun hnot) (fun cs b => hsel i oi cs b hi) (fun cs b => hsel j oj cs b hoj) hQ hy h1
      have hfree' : ∀ k ok, ops[k]? = some ok → k ≠ i → (listed.setIfInBounds j true).getD k true = false →
          (∀ e ∈ ok.after, Region.binds md e = true → e.on ≠ i) → oi.apart ops ok = true := fun k ok hk hki hun hno => by
        refine hfree k ok hk hki ?_ hno
        by_cases hjk : j = k
        · subst hjk; exact hjun
        · rw [getD_set_ne true hjk] at hun; exact hun
      refine wpOp_mono (fun a' w' h3 => ⟨fun _ => h3.2.1 hTj, ih (listed.setIfInBounds j true) a' w' hfree' (ready_mono hr (Ne.symm hji)) h3.1 (h3.2.1 hTj) ?_⟩) h2
      rw [Array.setIfInBounds_comm _ _ hji]
      exact h3.2.2
/-- Every operation of T waits for number i. -/
def waitT (md : Region.Mode) (ops : Array Oper) (T : Nat → Bool) (i : Nat) : Bool :=
  (List.range ops.size).all fun j => !T j || (match ops[j]? with | some oj => oj.after.any (fun e => Region.binds md e && e.on == i) | none => true)
theorem waitT_spec {i : Nat} (h : waitT md ops T i = true) : ∀ j oj, ops[j]? = some oj → T j = true → ∃ e ∈ oj.after, Region.binds md e = true ∧ e.on = i := by
  intro j oj hj hT
  have hlt : j < ops.size := (Array.getElem?_eq_some_iff.1 hj).1
  have := List.all_eq_true.1 h j (List.mem_range.2 hlt)
  rw [hT, hj] at this
  simp only [Bool.not_true, Bool.false_or] at this
  obtain ⟨e, he, hb⟩ := Array.any_eq_true'.1 this
  simp only [Bool.and_eq_true, beq_iff_eq] at hb
  exact ⟨e, he, hb.1, hb.2⟩
theorem wpAnyT_take {i : Nat} {oi : Oper} {v : Value} {fuel : Nat} {listed : Array Bool} {a : Act} {w : World} (hi : ops[i]? = some oi)
    (hs : Region.noSelect ops = true) (hf : Region.free md ops listed i = true) (hr : (Region.ready md ops listed).contains i = true) (hw : waitT md ops T i = true)
    (hQ : ∀ c a w, Q (.panic c) (a.put oi.dst v) w → Q (.panic c) a w) (hy : YieldsIf P ops S oi v a) (hS : S w)
    (h : wpAnyT P md ops Q S T fuel (listed.setIfInBounds i true) (a.put oi.dst v) w) : wpAnyT P md ops Q S T (fuel + 1) listed a w :=
  wpAnyT_first hi (Region.noSelect_spec hs) (waitT_spec hw) hQ fuel listed a w (Region.free_spec hi hf) (by simpa using hr) hy hS h
def QT (Q : Exit → Act → World → Prop) (K : Act → World → Prop) : Exit → Act → World → Prop
  | .normal, a, w => K a w
  | e, a, w => Q e a w
theorem wpOp_of_list {i : Nat} {o : Oper} {K : Act → World → Prop} {a : Act} {w : World} (ho : ops[i]? = some o) (h : wpList P ops (QT Q K) [o] a w) : wpOp P ops Q i K a w := by
  unfold wpList at h
  unfold wpOp
  rw [ho]
  show if Region.wanted o (yielded ops a.tmps) = true then _ else _
  split
  · rename_i hw
    rw [if_pos hw] at h
    rcases h with h | ⟨h1, h2⟩
    · refine .inl ?_
      unfold Oper.wp at *
      generalize (execOp a.eval o).run P w = r at *
      cases r with
      | ok n w' =>
        cases n <;> simp only [Oper.upon] at h ⊢
        case value u => exact h
        case skip => exact h
        case defer d => exact h
        case enter f args =>
          refine Calls.mono h fun e w'' he => ?_
          cases e <;> exact he
        case row row args => exact h
      | halt x w' =>
        cases x <;> simp only [Oper.upon] at h ⊢
        case panic u => exact h
    · exact .inr ⟨h1, h2⟩
  · rename_i hw
    rw [if_neg hw] at h
    exact h
theorem wpAnyT_next {i : Nat} {o : Oper} {fuel : Nat} {listed : Array Bool} {a : Act} {w : World} (hr : Region.ready md ops listed = [i]) (ho : ops[i]? = some o)
    (h : wpList P ops (QT Q fun a' w' => (T i = false → S w') ∧ wpAnyT P md ops Q S T fuel (listed.setIfInBounds i true) a' w') [o] a w) : wpAnyT P md ops Q S T (fuel + 1) listed a w :=
by
  refine ⟨fun h0 => ?_, fun j hj => ?_⟩
  · rw [hr] at h0; cases h0
  · rw [hr] at hj
    rcases List.mem_singleton.1 hj with rfl
    exact wpOp_of_list ho h
theorem wpAnyT_done {listed : Array Bool} {a : Act} {w : World} (hr : Region.ready md ops listed = []) (h : Q .normal a w) : ∀ fuel, wpAnyT P md ops Q S T fuel listed a w
  | 0 => ⟨hr, h⟩
  | _ + 1 => ⟨fun _ => h, by rw [hr]; simp⟩
theorem wp_region_T {id : Nat} {a : Act} {w : World} (S : World → Prop) (T : Nat → Bool) (hm : P.follows .mixedOrders = true) (hS : S w.drew)
    (h : S w.drew → wpAnyT P .any ops Q S T ops.size (Array.replicate ops.size false) a w.drew) : (Code.region id ops true).wp P Q a w :=
  wp_region_any hm (wpAny_of_T _ _ _ _ (h hS))
end
end Go.Proofs.YtcgocdhhneckhaaGreat
/- A drawn region with two ways next. -/
namespace Go.Proofs.YtcgocdhhneckhaaGreat
open Go.RowKit
section
variable {P : Program} {ops : Array Oper} {Q : Exit → Act → World → Prop} {md : Region.Mode} {S : World → Prop} {T : Nat → Bool}
theorem wpAnyT_two {i j : Nat} {o o' : Oper} {fuel : Nat} {listed : Array Bool} {a : Act} {w : World} (hr : Region.ready md ops listed = [i, j]) (ho : ops[i]? = some o) (ho' : ops[j]? = some o')
    (h : wpList P ops (QT Q fun a' w' => (T i = false → S w') ∧ wpAnyT P md ops Q S T fuel (listed.setIfInBounds i true) a' w') [o] a w)
    (h' : wpList P ops (QT Q fun a' w' => (T j = false → S w') ∧ wpAnyT P md ops Q S T fuel (listed.setIfInBounds j true) a' w') [o'] a w) : wpAnyT P md ops Q S T (fuel + 1) listed a w := by
  refine ⟨fun h0 => ?_, fun k hk => ?_⟩
  · rw [hr] at h0; cases h0
  · rw [hr] at hk
    rcases List.mem_cons.1 hk with rfl | hk
    · exact wpOp_of_list ho h
    · rcases List.mem_singleton.1 hk with rfl
      exact wpOp_of_list ho' h'
end
end Go.Proofs.YtcgocdhhneckhaaGreat
/- A drawn region: taking an operation, with its place given as a number. -/
namespace Go.Proofs.YtcgocdhhneckhaaGreat
open Go.RowKit
section
variable {P : Program} {ops : Array Oper} {Q : Exit → Act → World → Prop} {md : Region.Mode} {S : World → Prop} {T : Nat → Bool}
theorem wpAnyT_take2 {i d : Nat} {oi : Oper} {v : Value} {fuel : Nat} {listed : Array Bool} {a : Act} {w : World} (hi : ops[i]? = some oi) (hd : oi.dst = some d)
    (hs : Region.noSelect ops = true) (hf : Region.free md ops listed i = true) (hr : (Region.ready md ops listed).contains i = true) (hw : waitT md ops T i = true)
    (hQ : ∀ c a w, Q (.panic c) (a.put oi.dst v) w → Q (.panic c) a w) (hy : YieldsIf P ops S oi v a) (hS : S w)
    (h : wpAnyT P md ops Q S T fuel (listed.setIfInBounds i true) { a with tmps := a.tmps.setIfInBounds d v } w) : wpAnyT P md ops Q S T (fuel + 1) listed a w :=
  wpAnyT_take hi hs hf hr hw hQ hy hS (by rw [hd]; exact h)
end
end Go.Proofs.YtcgocdhhneckhaaGreat
/- A drawn region: pure operations first, then the cells' facts. -/
namespace Go.Proofs.YtcgocdhhneckhaaGreat
open Go.RowKit
section
variable {P : Program} {ops : Array Oper} {Q : Exit → Act → World → Prop} {md : Region.Mode}
theorem wpAnyT_weaken {S' : World → Prop} {T' T : Nat → Bool} : ∀ (fuel : Nat) (listed : Array Bool) (a : Act) (w : World), wpAnyT P md ops Q S' T' fuel listed a w → wpAnyT P md ops Q (fun _ => True) T fuel listed a w
  | 0, _, _, _, h => h
  | fuel + 1, _, _, _, h => ⟨h.1, fun i hi => wpOp_mono (fun a' w' h' => ⟨fun _ => trivial, wpAnyT_weaken fuel _ a' w' h'.2⟩) (h.2 i hi)⟩
theorem wpAnyT_switch {T : Nat → Bool} {fuel : Nat} {listed : Array Bool} {a : Act} {w : World} (S' : World → Prop) (T' : Nat → Bool) (hS : S' w) (h : S' w → wpAnyT P md ops Q S' T' fuel listed a w) : wpAnyT P md ops Q (fun _ => True) T fuel listed a w :=
  wpAnyT_weaken _ _ _ _ (h hS)
end
end Go.Proofs.YtcgocdhhneckhaaGreat
