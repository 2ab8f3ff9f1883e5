/- Walks of package phone: find, New, copied, copies. -/
import Derived.Test.YthnblhbdfpmolaaPNotemxad
import Derived.Test.YthnblhbdfpmolaaPNotemxai
import Derived.Test.YthnblhbdfpmolaaPNotemxaa
namespace Go.Proofs.Ythnblhbdfpmolaa
open Go.RowKit
theorem holdsGo_sorted : ∀ (l : List Hold) (la : Int), holdsGo la l = true → l.Pairwise (fun a b => a.st < b.st) ∧ ∀ x ∈ l, la < x.st ∧ 1 ≤ x.u ∧ x.u ≤ 1000000000000000 ∧ 0 ≤ x.s ∧ x.s ≤ x.u
  | [], _, _ => ⟨.nil, fun _ hx => by simp at hx⟩
  | x :: l, la, h => by
    by_cases hx : x.st ≤ la ∨ rngB x.u 1 1000000000000000 = false ∨ rngB x.s 0 x.u = false
    · rw [holdsGo_no hx] at h; cases h
    · have h1 : la < x.st := by omega
      have h2 : rngB x.u 1 1000000000000000 = true := by
        rcases h2 : rngB x.u 1 1000000000000000
        · exact absurd (.inr (.inl h2)) hx
        · rfl
      have h3 : rngB x.s 0 x.u = true := by
        rcases h3 : rngB x.s 0 x.u
        · exact absurd (.inr (.inr h3)) hx
        · rfl
      rw [holdsGo_go h1 h2 h3] at h
      obtain ⟨a, b⟩ := holdsGo_sorted l _ h
      have h2 := rngB_iff.1 h2
      have h3 := rngB_iff.1 h3
      refine ⟨List.pairwise_cons.2 ⟨fun y hy => (b y hy).1, a⟩, fun y hy => ?_⟩
      rcases List.mem_cons.1 hy with rfl | hy
      · omega
      · have := b y hy; omega
theorem holdsR_iff {l : List Hold} (h : holdsR l = true) : l.length ≤ 100 ∧ l.Pairwise (fun a b => a.st < b.st) ∧ ∀ x ∈ l, -1 < x.st ∧ 1 ≤ x.u ∧ x.u ≤ 1000000000000000 ∧ 0 ≤ x.s ∧ x.s ≤ x.u := by
  simp only [holdsR, Bool.and_eq_true] at h
  exact ⟨of_decide_eq_true h.2, holdsGo_sorted _ _ h.1⟩
def hidx (l : List Hold) (p : Int) : Nat := l.countP (fun x => decide (x.st < p))
def hhas (l : List Hold) (p : Int) : Bool := l.any (fun x => decide (x.st = p))
theorem hidx_le (l : List Hold) (p : Int) : hidx l p ≤ l.length := List.countP_le_length
theorem hidx_at : ∀ {l : List Hold} {p : Int}, l.Pairwise (fun a b => a.st < b.st) → hhas l p = true → ∃ x, l[hidx l p]? = some x ∧ x.st = p
  | [], p, _, h => by simp [hhas] at h
  | x :: l, p, hs, h => by
    obtain ⟨h1, h2⟩ := List.pairwise_cons.1 hs
    by_cases hx : x.st < p
    · have : hidx (x :: l) p = hidx l p + 1 := by simp [hidx, hx]
      rw [this]
      have h' : hhas l p = true := by
        simp [hhas] at h ⊢
        rcases h with h | h
        · omega
        · exact h
      simpa using hidx_at h2 h'
    · have hz : hidx l p = 0 := by
        simp only [hidx, List.countP_eq_zero]
        intro y hy; have := h1 y hy; simp; omega
      have : hidx (x :: l) p = 0 := by simp [hidx, hx] at hz ⊢; exact hz
      rw [this]
      refine ⟨x, rfl, ?_⟩
      simp [hhas] at h
      rcases h with h | ⟨y, hy, h⟩
      · exact h
      · have := h1 y hy; omega
set_option maxHeartbeats 1000000 in
theorem phone_find (p : Phone) (n : Int) (w : World) (hr : RdPhone (· < w.heap.size) w p) (h0 : holdsR p.H.l = true) :
    Calls Try.prog 60 #[p.v, .int .i64 n] w fun e w' => e = .returned (.tuple #[.int .i64 (hidx p.H.l n : Nat), .bool (hhas p.H.l n)]) ∧ Below w.heap.size w w' := by
  obtain ⟨id, cut, H, N, S⟩ := p
  obtain ⟨hl, hs, _⟩ := holdsR_iff h0
  simp only at hl hs
  have HS := Lib.hid hs
  have HR := Lib.hid hr
  clear hr h0 hs
  simp only [Phone.v]
  go_enter Try.func60, Try.ntmps60
  go_wp2_with fail
  refine (bs_hold H n _ (HR.out.1.lt_alloc _) (by omega) HS.out).mono ?_
  rintro e w1 ⟨rfl, hb1⟩
  have hB : Below w.heap.size w w1 := Below.trans qbl (hb1.mono (by first | omega | (simp; done) | (simp; omega)))
  clear hb1
  go_wp2_with fail
  go_ret2
  exact ⟨rfl, hB⟩
def newP (n : Int) : PhoneD × Int := if rngB n 0 11 then (⟨n, false, [], [], List.replicate 12 0⟩, 0) else (⟨0, false, [], [], []⟩, 1)
set_option maxHeartbeats 1000000 in
theorem phone_new (n : Int) (w : World) :
    Calls Try.prog 16 #[.int .i64 n] w fun e w' => ∃ p : Phone, e = .returned (.tuple #[p.v, .int .i64 (newP n).2]) ∧ p.d = (newP n).1 ∧ RdPhone (· < w'.heap.size) w' p ∧ Below w.heap.size w w' := by
  have hmk : ∀ w, (Instr.makeSlice 24 (.int .i64 12) (.int .i64 12)).run Try.prog w = .ok (.slice (some ⟨w.heap.size, 0, none⟩) 12 12) (w.alloc (.cells (Array.replicate 12 (.int .i64 0)) 3)) := fun _ => by kernel_rfl
  unfold newP
  rcases hq : rngB n 0 11
  · go_enter Try.func16, Try.ntmps16
    go_wp2_with (go_at_call 53; refine (phone_device _ _).mono ?_; rintro e w' ⟨rfl, rfl⟩)
    try simp only [Exit.inBlock, Exit.then]
    refine bodyPost_ret (v := .tuple #[.agg #[.int .i64 0, .bool false, .slice none 0 0, .slice none 0 0, .slice none 0 0], .int .i64 1]) ?_ rfl ⟨⟨0, false, ⟨none, 0, []⟩, ⟨none, 0, []⟩, ⟨none, 0, []⟩⟩, rfl, rfl, ⟨Rd.nil _ _ _ _, ⟨Rd.nil _ _ _ _, by simp⟩, Rd.nil _ _ _ _⟩, qbl⟩
    simp [results, Try.results16, go_sem]
  · go_enter Try.func16, Try.ntmps16
    go_wp2_with (go_at_call 53; refine (phone_device _ _).mono ?_; rintro e w' ⟨rfl, rfl⟩)
    try simp only [Exit.inBlock, Exit.then]
    have HN := fun W : World => Lib.hid (Own.lit (base := 0) (e := 3) (k := 1) (enc := ienc) W (Array.replicate 12 (.int .i64 0)) (List.replicate 12 (0 : Int)) (Nat.zero_le _) (by simp [maxLen]) rfl ienc_k)
    refine bodyPost_ret (v := .tuple #[.agg #[.int .i64 n, .bool false, .slice none 0 0, .slice none 0 0, .slice (some ⟨w.heap.size + 1, 0, none⟩) 12 12], .int .i64 0]) ?_ rfl ⟨⟨n, false, ⟨none, 0, []⟩, ⟨none, 0, []⟩, ⟨some ⟨w.heap.size + 1, 0, none⟩, 12, List.replicate 12 (0:Int)⟩⟩, rfl, rfl, ⟨Rd.nil _ _ _ _, ⟨Rd.nil _ _ _ _, by simp⟩, ?_⟩, qbl⟩
    · simp [results, Try.results16, go_sem]
    · have := (HN (w.alloc (.cells #[.int .i64 n, .bool false, .slice none 0 0, .slice none 0 0, .slice (some ⟨w.heap.size + 1, 0, none⟩) 12 12] 33))).out
      rw [show (w.alloc (.cells #[.int .i64 n, .bool false, .slice none 0 0, .slice none 0 0, .slice (some ⟨w.heap.size + 1, 0, none⟩) 12 12] 33)).heap.size = w.heap.size + 1 from by simp] at this
      exact (this.rd ienc_k).mono fun b hb => hb.2
end Go.Proofs.Ythnblhbdfpmolaa
/- A region that draws its order: loads first under a condition S; the operations of T (late stores) need not keep S. -/
namespace Go.Proofs.Ythnblhbdfpmolaa
open Go.RowKit
section
variable {P : Program} {ops : Array Oper} {Q : Exit → Act → World → Prop} {md : Region.Mode} {S : World → Prop} {T : Nat → Bool}
def wpAnyT (P : Program) (md : Region.Mode) (ops : Array Oper) (Q : Exit → Act → World → Prop) (S : World → Prop) (T : Nat → Bool) : Nat → Array Bool → Act → World → Prop
  | 0, listed, a, w => Region.ready md ops listed = [] ∧ Q .normal a w
  | fuel + 1, listed, a, w =>
    (Region.ready md ops listed = [] → Q .normal a w) ∧
    ∀ i ∈ Region.ready md ops listed, wpOp P ops Q i (fun a' w' => (T i = false → S w') ∧ wpAnyT P md ops Q S T fuel (listed.setIfInBounds i true) a' w') a w
theorem wpAny_of_T : ∀ (fuel : Nat) (listed : Array Bool) (a : Act) (w : World), wpAnyT P md ops Q S T fuel listed a w → wpAny P md ops Q fuel listed a w
  | 0, _, _, _, h => h
  | fuel + 1, _, _, _, h => ⟨h.1, fun i hi => wpOp_mono (fun a' w' h' => wpAny_of_T fuel _ a' w' h'.2) (h.2 i hi)⟩
theorem wpAnyT_first {i : Nat} {oi : Oper} {v : Value} (hi : ops[i]? = some oi) (hsel : ∀ (j : Nat) (o : Oper) cs b, ops[j]? = some o → o.op ≠ .select cs b)
    (hT : ∀ j oj, ops[j]? = some oj → T j = true → ∃ e ∈ oj.after, Region.binds md e = true ∧ e.on = i)
    (hQ : ∀ c a w, Q (.panic c) (a.put oi.dst v) w → Q (.panic c) a w) :
    ∀ (fuel : Nat) (listed : Array Bool) (a : Act) (w : World),
      (∀ j oj, ops[j]? = some oj → j ≠ i → listed.getD j true = false → (∀ e ∈ oj.after, Region.binds md e = true → e.on ≠ i) → oi.apart ops oj = true) →
      i ∈ Region.ready md ops listed → YieldsIf P ops S oi v a → S w →
      wpAnyT P md ops Q S T fuel (listed.setIfInBounds i true) (a.put oi.dst v) w → wpAnyT P md ops Q S T (fuel + 1) listed a w := by
  intro fuel
  induction fuel with
  | zero =>
    intro listed a w _ hr hy hS H
    refine ⟨fun h => (by rw [h] at hr; cases hr), fun j hj => ?_⟩
    by_cases hji : j = i
    · subst hji; exact hy.wpOp hi hS ⟨fun _ => hS, H⟩
    · have := ready_mono hj hji
      rw [H.1] at this
      cases this
  | succ fuel ih =>
    intro listed a w hfree hr hy hS H
    refine ⟨fun h => (by rw [h] at hr; cases hr), fun j hj => ?_⟩
    by_cases hji : j = i
    · subst hji; exact hy.wpOp hi hS ⟨fun _ => hS, H⟩
    · have h1 := H.2 j (ready_mono hj hji)
      obtain ⟨hjun, oj, hoj, hall⟩ := mem_ready.1 hj
      have hnot : ∀ e ∈ oj.after, Region.binds md e = true → e.on ≠ i := fun e he hb heq => by
        have h1 := hall e he hb
        have h0 := (mem_ready.1 hr).1
        rw [heq] at h1
        rcases Nat.lt_or_ge i listed.size with h' | h'
        · simp [h'] at h0 h1; rw [h0] at h1; cases h1
        · simp [Array.getElem?_eq_none h'] at h1
      have hTj : T j = false := by
        rcases h : T j
        · rfl
        · obtain ⟨e, he, hb, ho⟩ := hT j oj hoj h
          exact absurd ho (hnot e he hb)
      have h2 := wpOp_putIf hoj (hfree j oj hoj hji hjun hnot) (fun cs b => hsel i oi cs b hi) (fun cs b => hsel j oj cs b hoj) hQ hy h1
      have hfree' : ∀ k ok, ops[k]? = some ok → k ≠ i → (listed.setIfInBounds j true).getD k true = false →
          (∀ e ∈ ok.after, Region.binds md e = true → e.on ≠ i) → oi.apart ops ok = true := fun k ok hk hki hun hno => by
        refine hfree k ok hk hki ?_ hno
        by_cases hjk : j = k
        · subst hjk; exact hjun
        · rw [getD_set_ne true hjk] at hun; exact hun
      refine wpOp_mono (fun a' w' h3 => ⟨fun _ => h3.2.1 hTj, ih (listed.setIfInBounds j true) a' w' hfree' (ready_mono hr (Ne.symm hji)) h3.1 (h3.2.1 hTj) ?_⟩) h2
      rw [Array.setIfInBounds_comm _ _ hji]
      exact h3.2.2
/-- Every operation of T waits for number i. -/
def waitT (md : Region.Mode) (ops : Array Oper) (T : Nat → Bool) (i : Nat) : Bool :=
  (List.range ops.size).all fun j => !T j || (match ops[j]? with | some oj => oj.after.any (fun e => Region.binds md e && e.on == i) | none => true)
theorem waitT_spec {i : Nat} (h : waitT md ops T i = true) : ∀ j oj, ops[j]? = some oj → T j = true → ∃ e ∈ oj.after, Region.binds md e = true ∧ e.on = i := by
  intro j oj hj hT
  have hlt : j < ops.size := (Array.getElem?_eq_some_iff.1 hj).1
  have := List.all_eq_true.1 h j (List.mem_range.2 hlt)
  rw [hT, hj] at this
  simp only [Bool.not_true, Bool.false_or] at this
  obtain ⟨e, he, hb⟩ := Array.any_eq_true'.1 this
  simp only [Bool.and_eq_true, beq_iff_eq] at hb
  exact ⟨e, he, hb.1, hb.2⟩
theorem wpAnyT_take {i : Nat} {oi : Oper} {v : Value} {fuel : Nat} {listed : Array Bool} {a : Act} {w : World} (hi : ops[i]? = some oi)
    (hs : Region.noSelect ops = true) (hf : Region.free md ops listed i = true) (hr : (Region.ready md ops listed).contains i = true) (hw : waitT md ops T i = true)
    (hQ : ∀ c a w, Q (.panic c) (a.put oi.dst v) w → Q (.panic c) a w) (hy : YieldsIf P ops S oi v a) (hS : S w)
    (h : wpAnyT P md ops Q S T fuel (listed.setIfInBounds i true) (a.put oi.dst v) w) : wpAnyT P md ops Q S T (fuel + 1) listed a w :=
  wpAnyT_first hi (Region.noSelect_spec hs) (waitT_spec hw) hQ fuel listed a w (Region.free_spec hi hf) (by simpa using hr) hy hS h
def QT (Q : Exit → Act → World → Prop) (K : Act → World → Prop) : Exit → Act → World → Prop
  | .normal, a, w => K a w
  | e, a, w => Q e a w
theorem wpOp_of_list {i : Nat} {o : Oper} {K : Act → World → Prop} {a : Act} {w : World} (ho : ops[i]? = some o) (h : wpList P ops (QT Q K) [o] a w) : wpOp P ops Q i K a w := by
  unfold wpList at h
  unfold wpOp
  rw [ho]
  show if Region.wanted o (yielded ops a.tmps) = true then _ else _
  split
  · rename_i hw
    rw [if_pos hw] at h
    rcases h with h | ⟨h1, h2⟩
    · refine .inl ?_
      unfold Oper.wp at *
      generalize (execOp a.eval o).run P w = r at *
      cases r with
      | ok n w' =>
        cases n <;> simp only [Oper.upon] at h ⊢
        case value u => exact h
        case skip => exact h
        case defer d => exact h
        case enter f args =>
          refine Calls.mono h fun e w'' he => ?_
          cases e <;> exact he
        case row row args => exact h
      | halt x w' =>
        cases x <;> simp only [Oper.upon] at h ⊢
        case panic u => exact h
    · exact .inr ⟨h1, h2⟩
  · rename_i hw
    rw [if_neg hw] at h
    exact h
theorem wpAnyT_next {i : Nat} {o : Oper} {fuel : Nat} {listed : Array Bool} {a : Act} {w : World} (hr : Region.ready md ops listed = [i]) (ho : ops[i]? = some o)
    (h : wpList P ops (QT Q fun a' w' => (T i = false → S w') ∧ wpAnyT P md ops Q S T fuel (listed.setIfInBounds i true) a' w') [o] a w) : wpAnyT P md ops Q S T (fuel + 1) listed a w :=
by
  refine ⟨fun h0 => ?_, fun j hj => ?_⟩
  · rw [hr] at h0; cases h0
  · rw [hr] at hj
    rcases List.mem_singleton.1 hj with rfl
    exact wpOp_of_list ho h
theorem wpAnyT_done {listed : Array Bool} {a : Act} {w : World} (hr : Region.ready md ops listed = []) (h : Q .normal a w) : ∀ fuel, wpAnyT P md ops Q S T fuel listed a w
  | 0 => ⟨hr, h⟩
  | _ + 1 => ⟨fun _ => h, by rw [hr]; simp⟩
theorem wp_region_T {id : Nat} {a : Act} {w : World} (S : World → Prop) (T : Nat → Bool) (hm : P.follows .mixedOrders = true) (hS : S w.drew)
    (h : S w.drew → wpAnyT P .any ops Q S T ops.size (Array.replicate ops.size false) a w.drew) : (Code.region id ops true).wp P Q a w :=
  wp_region_any hm (wpAny_of_T _ _ _ _ (h hS))
end
end Go.Proofs.Ythnblhbdfpmolaa
