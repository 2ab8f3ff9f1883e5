/- Digits of integers, in plain Lean: little end first, base 2^20. -/
import Derived.Test.YtcgocdhhneckhaaGreatFcutmxaa
namespace Go.Proofs.YtcgocdhhneckhaaGreat
def val : List Int → Int
  | [] => 0
  | d :: l => d + 1048576 * val l
def DigOK (l : List Int) : Prop := ∀ d, d ∈ l → 0 ≤ d ∧ d < 1048576
theorem DigOK.nil : DigOK [] := fun _ h => by cases h
theorem digOK_cons {d : Int} {l : List Int} : DigOK (d :: l) ↔ (0 ≤ d ∧ d < 1048576) ∧ DigOK l := by
  unfold DigOK
  constructor
  · exact fun h => ⟨h d (by simp), fun x hx => h x (List.mem_cons_of_mem _ hx)⟩
  · rintro ⟨h1, h2⟩ x hx
    rcases List.mem_cons.1 hx with rfl | hx
    · exact h1
    · exact h2 x hx
theorem digOK_app {l m : List Int} : DigOK (l ++ m) ↔ DigOK l ∧ DigOK m := by
  unfold DigOK
  constructor
  · exact fun h => ⟨fun x hx => h x (List.mem_append.2 (.inl hx)), fun x hx => h x (List.mem_append.2 (.inr hx))⟩
  · rintro ⟨h1, h2⟩ x hx
    rcases List.mem_append.1 hx with hx | hx
    · exact h1 x hx
    · exact h2 x hx
theorem val_nn : ∀ {l : List Int}, DigOK l → 0 ≤ val l
  | [], _ => by simp [val]
  | d :: l, h => by
    obtain ⟨h1, h2⟩ := digOK_cons.1 h
    have := val_nn h2
    simp only [val]; omega
/-- 2^20 to a power. -/
def pw : Nat → Int
  | 0 => 1
  | n + 1 => 1048576 * pw n
theorem pw_pos : ∀ n, 0 < pw n
  | 0 => by simp [pw]
  | n + 1 => by have := pw_pos n; simp only [pw]; omega
theorem pw_add : ∀ m n, pw (m + n) = pw m * pw n
  | 0, n => by simp [pw]
  | m + 1, n => by rw [show m + 1 + n = (m + n) + 1 by omega]; simp only [pw]; rw [pw_add m n, Int.mul_assoc]
theorem pw_mono {m n : Nat} (h : m ≤ n) : pw m ≤ pw n := by
  obtain ⟨k, rfl⟩ := Nat.exists_eq_add_of_le h
  induction k with
  | zero => exact Int.le_refl _
  | succ k ih =>
    have := ih (by omega)
    have := pw_pos (m + k)
    rw [show m + (k + 1) = (m + k) + 1 by omega]
    simp only [pw]; omega
theorem val_lt : ∀ {l : List Int}, DigOK l → val l < pw l.length
  | [], _ => by simp [val, pw]
  | d :: l, h => by
    obtain ⟨h1, h2⟩ := digOK_cons.1 h
    have := val_lt h2
    simp only [val, pw, List.length_cons]; omega
theorem val_app : ∀ (l m : List Int), val (l ++ m) = val l + pw l.length * val m
  | [], m => by simp [val, pw]
  | d :: l, m => by
    simp only [List.cons_append, val, pw, List.length_cons]
    rw [val_app l m, Int.mul_add, Int.mul_assoc]; omega
theorem val_zeros : ∀ n, val (List.replicate n 0) = 0
  | 0 => rfl
  | n + 1 => by simp only [List.replicate_succ, val]; rw [val_zeros n]; omega
/-- Two lists of digits of one length and one value are one. -/
theorem val_inj : ∀ {l m : List Int}, DigOK l → DigOK m → l.length = m.length → val l = val m → l = m
  | [], [], _, _, _, _ => rfl
  | [], _ :: _, _, _, h, _ => by cases h
  | _ :: _, [], _, _, h, _ => by cases h
  | a :: l, b :: m, hl, hm, hn, hv => by
    obtain ⟨h1, h2⟩ := digOK_cons.1 hl
    obtain ⟨h3, h4⟩ := digOK_cons.1 hm
    simp only [val] at hv
    obtain rfl : a = b := by omega
    rw [val_inj h2 h4 (by simpa using hn) (by omega)]
/-- Digits without zeros at the end. -/
structure Norm (l : List Int) : Prop where
  ok : DigOK l
  top : ∀ x, l.getLast? = some x → x ≠ 0
theorem Norm.nil : Norm [] := ⟨DigOK.nil, fun x h => by cases h⟩
theorem Norm.tail {d : Int} {l : List Int} (h : Norm (d :: l)) : Norm l where
  ok := (digOK_cons.1 h.ok).2
  top x hx := h.top x (by
    rcases l with _ | ⟨y, r⟩
    · cases hx
    · rw [List.getLast?_cons_cons]; exact hx)
theorem Norm.zero : ∀ {l : List Int}, Norm l → val l = 0 → l = []
  | [], _, _ => rfl
  | d :: l, h, hv => by
    obtain ⟨h1, h2⟩ := digOK_cons.1 h.ok
    have := val_nn h2
    simp only [val] at hv
    have hl := h.tail.zero (by omega)
    subst hl
    exact absurd (by simp [val] at hv; omega) (h.top d rfl)
theorem Norm.one : ∀ {l m : List Int}, Norm l → Norm m → val l = val m → l = m
  | [], m, _, hm, hv => (hm.zero (by rw [← hv]; rfl)).symm
  | l, [], hl, _, hv => hl.zero (by rw [hv]; rfl)
  | a :: l, b :: m, hl, hm, hv => by
    obtain ⟨h1, h2⟩ := digOK_cons.1 hl.ok
    obtain ⟨h3, h4⟩ := digOK_cons.1 hm.ok
    simp only [val] at hv
    obtain rfl : a = b := by omega
    rw [hl.tail.one hm.tail (by omega)]
theorem Norm.low {l : List Int} (h : Norm l) (hl : l ≠ []) : pw (l.length - 1) ≤ val l := by
  obtain ⟨r, x, rfl⟩ : ∃ r x, l = r ++ [x] := ⟨l.dropLast, l.getLast hl, (List.dropLast_concat_getLast hl).symm⟩
  have hx : x ≠ 0 := h.top x (by simp)
  obtain ⟨h1, h2⟩ := digOK_app.1 h.ok
  have h3 := (digOK_cons.1 h2).1
  have h4 := val_nn h1
  rw [val_app]
  simp only [val, List.length_append, List.length_singleton, Nat.add_sub_cancel, Int.mul_zero, Int.add_zero]
  have := pw_pos r.length
  have : pw r.length * 1 ≤ pw r.length * x := Int.mul_le_mul_of_nonneg_left (by omega) (by omega)
  omega
/-- The zeros at the end are cut off. -/
def trimL : List Int → List Int
  | [] => []
  | d :: l => match trimL l with
    | [] => if d = 0 then [] else [d]
    | y :: r => d :: y :: r
theorem trimL_val : ∀ l : List Int, val (trimL l) = val l
  | [] => rfl
  | d :: l => by
    have ih := trimL_val l
    unfold trimL
    split
    · rename_i he
      rw [he] at ih
      simp only [val] at ih ⊢
      split
      · simp only [val]; omega
      · simp only [val]; omega
    · rename_i y r he
      rw [he] at ih
      simp only [val] at ih ⊢
      omega
theorem trimL_norm : ∀ {l : List Int}, DigOK l → Norm (trimL l)
  | [], _ => Norm.nil
  | d :: l, h => by
    obtain ⟨h1, h2⟩ := digOK_cons.1 h
    have ih := trimL_norm h2
    unfold trimL
    split
    · split
      · exact Norm.nil
      · rename_i hd
        exact ⟨digOK_cons.2 ⟨h1, DigOK.nil⟩, fun x hx => by simp at hx; omega⟩
    · rename_i y r he
      rw [he] at ih
      exact ⟨digOK_cons.2 ⟨h1, ih.ok⟩, fun x hx => ih.top x (by rw [List.getLast?_cons_cons] at hx; exact hx)⟩
/-- The digits of a number. -/
def digs (n : Nat) : List Int := if h : n = 0 then [] else ((n % 1048576 : Nat) : Int) :: digs (n / 1048576)
termination_by n
decreasing_by omega
theorem digs_zero : digs 0 = [] := by unfold digs; rw [dif_pos rfl]
theorem digs_pos {n : Nat} (h : n ≠ 0) : digs n = ((n % 1048576 : Nat) : Int) :: digs (n / 1048576) := by
  conv => lhs; unfold digs
  rw [dif_neg h]
theorem digs_val (n : Nat) : val (digs n) = n := by
  induction n using Nat.strongRecOn with
  | _ n ih =>
    by_cases h : n = 0
    · subst h; rw [digs_zero]; rfl
    · rw [digs_pos h]
      simp only [val]
      rw [ih (n / 1048576) (by omega)]
      omega
theorem digs_norm (n : Nat) : Norm (digs n) := by
  induction n using Nat.strongRecOn with
  | _ n ih =>
    by_cases h : n = 0
    · subst h; rw [digs_zero]; exact Norm.nil
    · have h1 := ih (n / 1048576) (by omega)
      rw [digs_pos h]
      refine ⟨digOK_cons.2 ⟨by omega, h1.ok⟩, fun x hx => ?_⟩
      by_cases h0 : n / 1048576 = 0
      · rw [h0, digs_zero] at hx
        simp only [List.getLast?_singleton, Option.some.injEq] at hx
        omega
      · rw [digs_pos h0, List.getLast?_cons_cons, ← digs_pos h0] at hx
        exact h1.top x hx
theorem Norm.is {l : List Int} (h : Norm l) : l = digs (val l).toNat := h.one (digs_norm _) (by rw [digs_val]; have := val_nn h.ok; omega)
theorem trimL_is {l : List Int} (h : DigOK l) : trimL l = digs (val l).toNat := by
  have := (trimL_norm h).is
  rw [trimL_val] at this
  exact this
theorem digs_len {n : Nat} {k : Nat} : (digs n).length ≤ k ↔ (n : Int) < pw k := by
  have hN := digs_norm n
  have hv := digs_val n
  constructor
  · intro h
    have h1 := val_lt hN.ok
    have h2 := pw_mono h
    omega
  · intro h
    refine Decidable.byContradiction fun hk => ?_
    have hne : digs n ≠ [] := fun he => by rw [he] at hk; simp at hk
    have h1 := hN.low hne
    have h2 := pw_mono (show k ≤ (digs n).length - 1 by omega)
    omega
end Go.Proofs.YtcgocdhhneckhaaGreat
/- Sums, differences and products of digits, in plain Lean. -/
namespace Go.Proofs.YtcgocdhhneckhaaGreat
/-- What big.add writes: the longer one first. -/
def addC : Int → List Int → List Int → List Int
  | c, [], _ => [c]
  | c, x :: a, b => ((c + x + b.headD 0) % 1048576) :: addC ((c + x + b.headD 0) / 1048576) a b.tail
theorem addC_len : ∀ (c : Int) (a b : List Int), (addC c a b).length = a.length + 1
  | _, [], _ => rfl
  | c, x :: a, b => by simp [addC, addC_len _ a b.tail]
theorem headD_tail : ∀ b : List Int, val b = b.headD 0 + 1048576 * val b.tail
  | [] => by simp [val]
  | y :: b => by simp [val]
theorem digOK_head {b : List Int} (h : DigOK b) : 0 ≤ b.headD 0 ∧ b.headD 0 < 1048576 := by
  rcases b with _ | ⟨y, b⟩
  · simp
  · exact (digOK_cons.1 h).1
theorem digOK_tail {b : List Int} (h : DigOK b) : DigOK b.tail := by
  rcases b with _ | ⟨y, b⟩
  · exact h
  · exact (digOK_cons.1 h).2
theorem addC_ok : ∀ {a b : List Int} {c : Int}, DigOK a → DigOK b → 0 ≤ c → c ≤ 1 → DigOK (addC c a b)
  | [], _, c, _, _, h1, h2 => digOK_cons.2 ⟨⟨h1, by omega⟩, DigOK.nil⟩
  | x :: a, b, c, ha, hb, h1, h2 => by
    obtain ⟨h3, h4⟩ := digOK_cons.1 ha
    have h5 := digOK_head hb
    exact digOK_cons.2 ⟨⟨by omega, by omega⟩, addC_ok h4 (digOK_tail hb) (by omega) (by omega)⟩
theorem addC_val : ∀ {a b : List Int} {c : Int}, b.length ≤ a.length → val (addC c a b) = c + val a + val b
  | [], b, c, h => by
    obtain rfl : b = [] := List.length_eq_zero_iff.1 (by simpa using h)
    simp [addC, val]
  | x :: a, b, c, h => by
    have ih := addC_val (a := a) (b := b.tail) (c := (c + x + b.headD 0) / 1048576) (by rw [List.length_tail]; simp at h; omega)
    have hb := headD_tail b
    simp only [addC, val]
    rw [ih]
    omega
/-- What big.sub writes. -/
def subC : Int → List Int → List Int → List Int
  | _, [], _ => []
  | c, x :: a, b => ((x - c - b.headD 0) % 1048576) :: subC (if x - c - b.headD 0 < 0 then 1 else 0) a b.tail
theorem subC_len : ∀ (c : Int) (a b : List Int), (subC c a b).length = a.length
  | _, [], _ => rfl
  | c, x :: a, b => by simp [subC, subC_len _ a b.tail]
theorem subC_ok : ∀ (c : Int) (a b : List Int), DigOK (subC c a b)
  | _, [], _ => DigOK.nil
  | c, x :: a, b => digOK_cons.2 ⟨⟨by omega, by omega⟩, subC_ok _ a b.tail⟩
/-- The borrow that is left. -/
theorem subC_val : ∀ {a b : List Int} {c : Int}, DigOK a → DigOK b → b.length ≤ a.length → 0 ≤ c → c ≤ 1 → ∃ e : Int, 0 ≤ e ∧ e ≤ 1 ∧ val (subC c a b) = val a - val b - c + e * pw a.length
  | [], b, c, _, _, h, h1, h2 => by
    obtain rfl : b = [] := List.length_eq_zero_iff.1 (by simpa using h)
    exact ⟨c, h1, h2, by simp [subC, val, pw]; omega⟩
  | x :: a, b, c, ha, hb, h, h1, h2 => by
    obtain ⟨h3, h4⟩ := digOK_cons.1 ha
    have h5 := digOK_head hb
    obtain ⟨e, e1, e2, e3⟩ := subC_val (a := a) (b := b.tail) (c := if x - c - b.headD 0 < 0 then 1 else 0) h4 (digOK_tail hb) (by rw [List.length_tail]; simp at h; omega) (by split <;> omega) (by split <;> omega)
    have hv := headD_tail b
    refine ⟨e, e1, e2, ?_⟩
    simp only [subC, val, List.length_cons, pw]
    rw [e3, show e * (1048576 * pw a.length) = 1048576 * (e * pw a.length) by rw [Int.mul_left_comm]]
    generalize e * pw a.length = z
    split <;> omega
theorem subC_exact {a b : List Int} (ha : DigOK a) (hb : DigOK b) (h : b.length ≤ a.length) (hv : val b ≤ val a) : val (subC 0 a b) = val a - val b := by
  obtain ⟨e, e1, e2, e3⟩ := subC_val (c := 0) ha hb h (by omega) (by omega)
  have h1 := val_lt (subC_ok 0 a b)
  rw [subC_len] at h1
  have h2 := val_nn hb
  rcases (by omega : e = 0 ∨ e = 1) with rfl | rfl
  · omega
  · omega
/-- One row of big.mul, from where it begins. -/
def mulR (x : Int) : Int → List Int → List Int → List Int
  | c, [], o :: r => (o + c) :: r
  | _, [], [] => []
  | c, y :: b, o :: r => ((o + x * y + c) % 1048576) :: mulR x ((o + x * y + c) / 1048576) b r
  | _, _ :: _, [] => []
theorem mulR_len (x : Int) : ∀ (c : Int) (b o : List Int), (mulR x c b o).length = o.length
  | c, [], o :: r => rfl
  | _, [], [] => rfl
  | c, y :: b, o :: r => by simp [mulR, mulR_len x _ b r]
  | _, _ :: _, [] => rfl
theorem mulR_val (x : Int) : ∀ {b o : List Int} {c : Int}, b.length < o.length → val (mulR x c b o) = val o + x * val b + c
  | [], o :: r, c, _ => by simp [mulR, val]; omega
  | [], [], c, h => absurd h (by simp)
  | y :: b, o :: r, c, h => by
    have ih := mulR_val x (b := b) (o := r) (c := (o + x * y + c) / 1048576) (by simpa using h)
    simp only [mulR, val]
    rw [ih, Int.mul_add x, Int.mul_left_comm x 1048576 (val b)]
    generalize x * y = z
    generalize x * val b = t
    omega
  | _ :: _, [], c, h => absurd h (by simp)
theorem mulR_ok (x : Int) (hx : 0 ≤ x ∧ x < 1048576) : ∀ {b o : List Int} {c : Int}, DigOK b → DigOK o → o[b.length]? = some 0 → 0 ≤ c → c < 1048576 → DigOK (mulR x c b o)
  | [], o :: r, c, hb, ho, h, h1, h2 => by
    simp only [List.length_nil, List.getElem?_cons_zero, Option.some.injEq] at h
    subst h
    exact digOK_cons.2 ⟨⟨by omega, by omega⟩, (digOK_cons.1 ho).2⟩
  | [], [], c, _, _, h, _, _ => by cases h
  | y :: b, o :: r, c, hb, ho, h, h1, h2 => by
    obtain ⟨h3, h4⟩ := digOK_cons.1 hb
    obtain ⟨h5, h6⟩ := digOK_cons.1 ho
    have hxy0 : 0 ≤ x * y := Int.mul_nonneg hx.1 h3.1
    have hxy1 : x * y ≤ 1048575 * 1048575 := Int.mul_le_mul (by omega) (by omega) h3.1 (by omega)
    refine digOK_cons.2 ⟨⟨by omega, by omega⟩, mulR_ok x hx h4 h6 (by simpa using h) (by omega) (by omega)⟩
  | _ :: _, [], c, _, _, h, _, _ => by cases h
end Go.Proofs.YtcgocdhhneckhaaGreat
