/- The long division of digits, in plain Lean: what a round of big.div does. -/
import Derived.Test.YtcgocdhhneckhaaGreatFnammxab
namespace Go.Proofs.YtcgocdhhneckhaaGreat
theorem val_split (l : List Int) (k : Nat) (h : k ≤ l.length) : val l = val (l.take k) + pw k * val (l.drop k) := by
  conv => lhs; rw [← List.take_append_drop k l]
  rw [val_app, List.length_take, Nat.min_eq_left h]
theorem DigOK.take {l : List Int} (h : DigOK l) (k : Nat) : DigOK (l.take k) := fun d hd => h d (List.mem_of_mem_take hd)
theorem DigOK.drop {l : List Int} (h : DigOK l) (k : Nat) : DigOK (l.drop k) := fun d hd => h d (List.mem_of_mem_drop hd)
theorem DigOK.get {l : List Int} (h : DigOK l) {i : Nat} (hi : i < l.length) : 0 ≤ l[i] ∧ l[i] < 1048576 := h _ (List.getElem_mem hi)
theorem drop_two {l : List Int} {k : Nat} (h : l.length = k + 2) : l.drop k = [l[k], l[k + 1]] := by
  rw [List.drop_eq_getElem_cons (by omega), List.drop_eq_getElem_cons (by omega), List.drop_eq_nil_of_le (by omega)]
theorem drop_three {l : List Int} {k : Nat} (h : l.length = k + 3) : l.drop k = [l[k], l[k + 1], l[k + 2]] := by
  rw [List.drop_eq_getElem_cons (by omega), List.drop_eq_getElem_cons (by omega), List.drop_eq_getElem_cons (by omega), List.drop_eq_nil_of_le (by omega)]
/-- What the guesses go by: n + 1 digits over n digits. -/
structure Parts (U V P t u2 ul vt v2 vl : Int) : Prop where
  hU : U = (t * 1048576 + u2) * P + ul
  hV : V = (vt * 1048576 + v2) * P + vl
  ul0 : 0 ≤ ul
  ulP : ul < P
  vl0 : 0 ≤ vl
  vlP : vl < P
  P0 : 0 < P
  u20 : 0 ≤ u2
  u2B : u2 < 1048576
  v20 : 0 ≤ v2
  v2B : v2 < 1048576
  vt1 : 1 ≤ vt
  vtB : vt < 1048576
  t0 : 0 ≤ t
  tB : t < 1048576 * 1048576
theorem parts {us v : List Int} {k : Nat} (hu : DigOK us) (hv : DigOK v) (hul : us.length = k + 3) (hvl : v.length = k + 2) (ht : v[k + 1] ≠ 0) :
    Parts (val us) (val v) (pw k) (us[k + 2] * 1048576 + us[k + 1]) us[k] (val (us.take k)) v[k + 1] v[k] (val (v.take k)) := by
  have h1 := val_split us k (by omega)
  have h2 := val_split v k (by omega)
  rw [drop_three hul] at h1
  rw [drop_two hvl] at h2
  simp only [val] at h1 h2
  have a0 := hu.get (i := k) (by omega)
  have a1 := hu.get (i := k + 1) (by omega)
  have a2 := hu.get (i := k + 2) (by omega)
  have b0 := hv.get (i := k) (by omega)
  have b1 := hv.get (i := k + 1) (by omega)
  have p := pw_pos k
  have c1 := val_lt (hu.take k)
  have c2 := val_lt (hv.take k)
  rw [List.length_take, Nat.min_eq_left (by omega)] at c1 c2
  have d1 := val_nn (hu.take k)
  have d2 := val_nn (hv.take k)
  generalize us[k] = x0 at *
  generalize us[k + 1] = x1 at *
  generalize us[k + 2] = x2 at *
  generalize v[k] = y0 at *
  generalize v[k + 1] = y1 at *
  refine ⟨?_, ?_, d1, c1, d2, c2, p, a0.1, a0.2, b0.1, b0.2, by omega, by omega, by omega, by omega⟩
  · rw [h1, Int.mul_comm (pw k), show x0 + 1048576 * (x1 + 1048576 * (x2 + 1048576 * 0)) = (x2 * 1048576 + x1) * 1048576 + x0 by omega]; omega
  · rw [h2, Int.mul_comm (pw k), show y0 + 1048576 * (y1 + 1048576 * 0) = y1 * 1048576 + y0 by omega]; omega
section
variable {U V P t u2 ul vt v2 vl g r : Int}
/-- The first guess is not too small. -/
theorem Parts.first (h : Parts U V P t u2 ul vt v2 vl) : U < (t / vt + 1) * V ∧ t = t / vt * vt + t % vt ∧ 0 ≤ t / vt ∧ t / vt ≤ t ∧ 0 ≤ t % vt ∧ t % vt < vt := by
  have h1 := Int.mul_ediv_add_emod t vt
  have h2 := Int.emod_nonneg t (show vt ≠ 0 by have := h.vt1; omega)
  have h3 := Int.emod_lt_of_pos t (show 0 < vt by have := h.vt1; omega)
  have h4 : 0 ≤ t / vt := Int.ediv_nonneg h.t0 (by have := h.vt1; omega)
  have h5 : t / vt ≤ t := Int.ediv_le_self _ h.t0
  rw [Int.mul_comm] at h1
  refine ⟨?_, h1.symm, h4, h5, h2, h3⟩
  generalize t / vt = g at *
  generalize t % vt = r at *
  have e1 : U < (t + 1) * (1048576 * P) := by
    have := h.hU
    have := h.ulP
    have e2 : (t * 1048576 + u2) * P ≤ (t * 1048576 + 1048575) * P := Int.mul_le_mul_of_nonneg_right (by have := h.u2B; omega) (by have := h.P0; omega)
    have e3 : (t + 1) * (1048576 * P) = (t * 1048576 + 1048575) * P + P := by
      rw [← Int.mul_assoc, show (t + 1) * 1048576 = (t * 1048576 + 1048575) + 1 by omega, Int.add_mul, Int.one_mul]
    omega
  have e2 : (t + 1) * (1048576 * P) ≤ ((g + 1) * vt) * (1048576 * P) := Int.mul_le_mul_of_nonneg_right (by rw [Int.add_mul, Int.one_mul]; omega) (by have := h.P0; omega)
  have e3 : (g + 1) * (vt * (1048576 * P)) ≤ (g + 1) * V := Int.mul_le_mul_of_nonneg_left (by
    have := h.hV
    have := h.vl0
    have e4 : (vt * 1048576 + 0) * P ≤ (vt * 1048576 + v2) * P := Int.mul_le_mul_of_nonneg_right (by have := h.v20; omega) (by have := h.P0; omega)
    have e5 : vt * (1048576 * P) = (vt * 1048576 + 0) * P := by rw [Int.add_zero, Int.mul_assoc]
    omega) (by omega)
  rw [Int.mul_assoc] at e2
  omega
/-- A guess that is refused was too great. -/
theorem Parts.less (h : Parts U V P t u2 ul vt v2 vl) (hU : U < 1048576 * V) (hg : U < (g + 1) * V) (ht : t = g * vt + r) (hg0 : 0 ≤ g) (hc : 1048576 ≤ g ∨ (r < 1048576 ∧ r * 1048576 + u2 < g * v2)) : U < g * V ∧ 1 ≤ g := by
  have hVp : 0 ≤ V := by
    have := h.hV
    have := h.vl0
    have : 0 ≤ (vt * 1048576 + v2) * P := Int.mul_nonneg (by have := h.vt1; have := h.v20; omega) (by have := h.P0; omega)
    omega
  have hUp : 0 ≤ U := by
    have := h.hU
    have := h.ul0
    have : 0 ≤ (t * 1048576 + u2) * P := Int.mul_nonneg (by have := h.t0; have := h.u20; omega) (by have := h.P0; omega)
    omega
  have key : U < g * V := by
    rcases hc with hc | ⟨_, hc⟩
    · have : 1048576 * V ≤ g * V := Int.mul_le_mul_of_nonneg_right hc hVp
      omega
    · exact guess_high h.hU h.ulP h.hV h.vl0 h.P0 ht hg0 hc
  refine ⟨key, ?_⟩
  rcases (by omega : g = 0 ∨ 1 ≤ g) with rfl | h1
  · rw [Int.zero_mul] at key; omega
  · exact h1
/-- One that stands is at most one too great. -/
theorem Parts.stand (h : Parts U V P t u2 ul vt v2 vl) (ht : t = g * vt + r) (hg0 : 0 ≤ g) (hgB : g < 1048576) (hc : 1048576 ≤ r ∨ g * v2 ≤ r * 1048576 + u2) : (g - 1) * V ≤ U :=
  guess_low h.hU h.ul0 h.hV h.vl0 h.vlP h.P0 ht hg0 hgB h.vt1 h.v20 h.v2B h.u20 hc
end
/-- The quotient is g or one less. -/
theorem quo_is {U V g : Int} (hV : 0 < V) (h1 : g * V ≤ U) (h2 : U < (g + 1) * V) : U / V = g := by
  have := Int.mul_ediv_add_emod U V
  have a := Int.emod_nonneg U (show V ≠ 0 by omega)
  have b := Int.emod_lt_of_pos U hV
  generalize U / V = q at *
  rw [Int.mul_comm] at this
  have hq : q * V < (g + 1) * V := by omega
  have hg : g * V < (q + 1) * V := by rw [Int.add_mul q, Int.one_mul]; omega
  have := Int.lt_of_mul_lt_mul_right hq (by omega)
  have := Int.lt_of_mul_lt_mul_right hg (by omega)
  omega
/-- What a round of big.div has before it: j digits of the quotient are still to come. -/
structure DivS (A : Int) (v : List Int) (m j : Nat) (u qs : List Int) : Prop where
  uok : DigOK u
  ulen : u.length = m + v.length
  jm : j ≤ m
  low : val (u.drop j) < val v
  qok : DigOK qs
  qlen : qs.length = m - j
  sum : A = val u + val v * (pw j * val qs)
/-- The digits that a round looks at. -/
def winD (u : List Int) (i n : Nat) : List Int := (u.drop i).take (n + 1)
theorem winD_len {u : List Int} {i n : Nat} (h : i + n + 1 ≤ u.length) : (winD u i n).length = n + 1 := by unfold winD; rw [List.length_take, List.length_drop]; omega
theorem winD_get {u : List Int} {i n j : Nat} (h : i + n + 1 ≤ u.length) (hj : j < n + 1) : (winD u i n)[j]'(by rw [winD_len h]; exact hj) = u[i + j]'(by omega) := by
  unfold winD
  rw [List.getElem_take, List.getElem_drop]
theorem DivS.top {A : Int} {v u qs : List Int} {m i : Nat} (h : DivS A v m (i + 1) u qs) (hv : DigOK v) : val (u.drop (i + 1 + v.length)) = 0 := by
  have h1 := val_split (u.drop (i + 1)) v.length (by rw [List.length_drop, h.ulen]; have := h.jm; omega)
  rw [List.drop_drop] at h1
  have h2 := val_lt hv
  have h3 := h.low
  have h4 := val_nn ((h.uok.drop (i + 1)).take v.length)
  have h5 := val_nn (h.uok.drop (i + 1 + v.length))
  rcases (by omega : val (u.drop (i + 1 + v.length)) = 0 ∨ 1 ≤ val (u.drop (i + 1 + v.length))) with h6 | h6
  · exact h6
  · have : pw v.length * 1 ≤ pw v.length * val (u.drop (i + 1 + v.length)) := Int.mul_le_mul_of_nonneg_left h6 (by have := pw_pos v.length; omega)
    omega
theorem DivS.win {A : Int} {v u qs : List Int} {m i : Nat} (h : DivS A v m (i + 1) u qs) (hv : DigOK v) : val (winD u i v.length) = val (u.drop i) ∧ val (winD u i v.length) < 1048576 * val v ∧ 0 ≤ val (winD u i v.length) ∧ DigOK (winD u i v.length) := by
  have hl := h.ulen
  have hj := h.jm
  have h1 := val_split (u.drop i) (v.length + 1) (by rw [List.length_drop]; omega)
  rw [List.drop_drop, show i + (v.length + 1) = i + 1 + v.length by omega, h.top hv, Int.mul_zero, Int.add_zero] at h1
  have h2 : val (u.drop i) = u[i] + 1048576 * val (u.drop (i + 1)) := by rw [List.drop_eq_getElem_cons (by omega)]; rfl
  have h3 := h.uok.get (i := i) (by omega)
  have h4 := h.low
  have h5 := val_nn (h.uok.drop i)
  unfold winD
  exact ⟨h1.symm, by omega, by omega, (h.uok.drop i).take _⟩
/-- What a round leaves. -/
theorem DivS.next {A : Int} {v u qs us' : List Int} {m i : Nat} (h : DivS A v m (i + 1) u qs) (hv : DigOK v) (hV : 0 < val v) (hok : DigOK us') (hlen : us'.length = v.length + 1)
    (hval : val us' = val (winD u i v.length) % val v) : DivS A v m i (u.take i ++ us' ++ u.drop (i + v.length + 1)) (val (winD u i v.length) / val v :: qs) := by
  obtain ⟨w1, w2, w3, w4⟩ := h.win hv
  have hl := h.ulen
  have hj := h.jm
  have ht := h.top hv
  have e := Int.mul_ediv_add_emod (val (winD u i v.length)) (val v)
  have r0 := Int.emod_nonneg (val (winD u i v.length)) (show val v ≠ 0 by omega)
  have r1 := Int.emod_lt_of_pos (val (winD u i v.length)) hV
  have q0 : 0 ≤ val (winD u i v.length) / val v := Int.ediv_nonneg w3 (by omega)
  have q1 : val (winD u i v.length) / val v < 1048576 := Int.ediv_lt_of_lt_mul hV w2
  rw [← hval] at e r0 r1
  have hti : (u.take i).length = i := by rw [List.length_take]; omega
  have hd : (u.take i ++ us' ++ u.drop (i + v.length + 1)).drop i = us' ++ u.drop (i + v.length + 1) := by
    rw [List.append_assoc, List.drop_append_of_le_length (by omega), List.drop_eq_nil_of_le (by omega), List.nil_append]
  have hz : val (us' ++ u.drop (i + v.length + 1)) = val us' := by
    rw [val_app, show i + v.length + 1 = i + 1 + v.length by omega, ht]; simp
  refine ⟨digOK_app.2 ⟨digOK_app.2 ⟨h.uok.take i, hok⟩, h.uok.drop _⟩, ?_, by omega, ?_, digOK_cons.2 ⟨⟨q0, q1⟩, h.qok⟩, ?_, ?_⟩
  · simp only [List.length_append, List.length_drop, hti]; omega
  · rw [hd, hz]; exact r1
  · rw [List.length_cons, h.qlen]; omega
  · rw [h.sum, val_split u i (by omega), List.append_assoc, val_app, hti, hz, ← w1]
    simp only [pw, val]
    generalize val (winD u i v.length) / val v = q at *
    generalize val (winD u i v.length) = U at *
    generalize val us' = r at *
    generalize val v = V at *
    generalize pw i = p at *
    rw [← e, Int.mul_add p, Int.mul_add p q, Int.mul_add V, show p * (V * q) = V * (p * q) by rw [Int.mul_left_comm], show 1048576 * p * val qs = p * (1048576 * val qs) by rw [Int.mul_comm 1048576 p, Int.mul_assoc]]
    generalize V * (p * q) = a
    generalize V * (p * (1048576 * val qs)) = b
    omega
theorem DivS.done {A : Int} {v u qs : List Int} {m : Nat} (h : DivS A v m 0 u qs) : A = val u + val v * val qs ∧ 0 ≤ val u ∧ val u < val v ∧ 0 ≤ val qs := by
  have h1 := h.sum
  have h2 := h.low
  simp only [pw, Int.one_mul, List.drop_zero] at h1 h2
  exact ⟨h1, val_nn h.uok, h2, val_nn h.qok⟩
theorem DivS.start {u v : List Int} {m : Nat} (hu : DigOK u) (hl : u.length = m + v.length) (hlow : val (u.drop m) < val v) : DivS (val u) v m m u [] :=
  ⟨hu, hl, Nat.le_refl _, hlow, DigOK.nil, by simp, by simp [val]⟩
end Go.Proofs.YtcgocdhhneckhaaGreat
/- Digits: comparing, prefixes, products row by row, single digits; in plain Lean. -/
namespace Go.Proofs.YtcgocdhhneckhaaGreat
theorem trimL_cons (d : Int) (l : List Int) : trimL (d :: l) = match trimL l with | [] => if d = 0 then [] else [d] | y :: r => d :: y :: r := rfl
theorem trimL_zero : ∀ (l : List Int), trimL (l ++ [0]) = trimL l
  | [] => by simp [trimL]
  | d :: l => by rw [List.cons_append, trimL_cons, trimL_cons, trimL_zero l]
theorem trimL_top : ∀ (l : List Int) {x : Int}, x ≠ 0 → trimL (l ++ [x]) = l ++ [x]
  | [], x, h => by simp [trimL, h]
  | d :: l, x, h => by
    rw [List.cons_append, trimL_cons, trimL_top l h]
    rcases l with _ | ⟨y, r⟩ <;> rfl
theorem trimL_take : ∀ l : List Int, trimL l = l.take (trimL l).length
  | [] => rfl
  | d :: l => by
    have ih := trimL_take l
    unfold trimL
    split
    · split <;> simp
    · rename_i y r h
      rw [h] at ih
      simp only [List.length_cons, List.take_succ_cons, List.cons.injEq, true_and]
      exact ih
theorem trimL_le (l : List Int) : (trimL l).length ≤ l.length := by
  have h := congrArg List.length (trimL_take l)
  rw [List.length_take] at h; omega
theorem Norm.trim {l : List Int} (h : Norm l) : trimL l = l := by rw [trimL_is h.ok]; exact h.is.symm
/-- More digits, a greater number. -/
theorem len_lt {a b : List Int} (ha : DigOK a) (hb : Norm b) (h : a.length < b.length) : val a < val b := by
  have h1 := val_lt ha
  have h2 := hb.low (by rintro rfl; simp at h)
  have h3 := pw_mono (show a.length ≤ b.length - 1 by omega)
  omega
/-- The first digit from above that is not the same decides. -/
theorem dig_lt {a b : List Int} {i : Nat} (ha : DigOK a) (hb : DigOK b) (hi : i < a.length) (hj : i < b.length) (hd : a.drop (i + 1) = b.drop (i + 1)) (hlt : a[i] < b[i]) : val a < val b := by
  rw [val_split a i (by omega), val_split b i (by omega), List.drop_eq_getElem_cons hi, List.drop_eq_getElem_cons hj, hd]
  simp only [val]
  have h1 := val_lt (ha.take i)
  have h2 := val_nn (hb.take i)
  rw [List.length_take, Nat.min_eq_left (by omega)] at h1
  generalize val (b.drop (i + 1)) = z
  have : pw i * (a[i] + 1048576 * z + 1) ≤ pw i * (b[i] + 1048576 * z) := Int.mul_le_mul_of_nonneg_left (by omega) (by have := pw_pos i; omega)
  rw [Int.mul_add, Int.mul_one] at this
  omega
theorem mulR_past (x : Int) : ∀ (b o : List Int) (c : Int) (j : Nat), b.length < j → (mulR x c b o)[j]? = o[j]?
  | [], [], _, _, _ => rfl
  | [], o :: r, c, j, h => by
    obtain ⟨j, rfl⟩ : ∃ i, j = i + 1 := ⟨j - 1, by simp at h; omega⟩
    simp [mulR]
  | y :: b, [], _, _, _ => rfl
  | y :: b, o :: r, c, j, h => by
    obtain ⟨j, rfl⟩ : ∃ i, j = i + 1 := ⟨j - 1, by simp at h; omega⟩
    simp only [mulR, List.getElem?_cons_succ]
    exact mulR_past x b r _ j (by simpa using h)
/-- What big.mul has written before row i. -/
structure MulS (a b : List Int) (i : Nat) (o : List Int) : Prop where
  ok : DigOK o
  len : o.length = a.length + b.length
  zero : ∀ j, i + b.length ≤ j → j < o.length → o[j]? = some 0
  sum : val o = val (a.take i) * val b
theorem MulS.next {a b o : List Int} {i : Nat} (h : MulS a b i o) (ha : DigOK a) (hb : DigOK b) (hi : i < a.length) : MulS a b (i + 1) (o.take i ++ mulR a[i] 0 b (o.drop i)) := by
  have hl := h.len
  have hti : (o.take i).length = i := by rw [List.length_take]; omega
  have hz : (o.drop i)[b.length]? = some 0 := by rw [List.getElem?_drop]; exact h.zero _ (by omega) (by omega)
  have hx := ha.get hi
  refine ⟨digOK_app.2 ⟨h.ok.take i, mulR_ok _ hx hb (h.ok.drop i) hz (by omega) (by omega)⟩, ?_, fun j h1 h2 => ?_, ?_⟩
  · rw [List.length_append, hti, mulR_len, List.length_drop]; omega
  · rw [List.length_append, hti, mulR_len, List.length_drop] at h2
    rw [List.getElem?_append_right (by omega), hti, mulR_past _ _ _ _ _ (by omega), List.getElem?_drop]
    exact h.zero _ (by omega) (by omega)
  · rw [val_app, hti, mulR_val _ (by rw [List.length_drop]; omega), List.take_succ_eq_append_getElem hi, val_app, List.length_take, Nat.min_eq_left (by omega)]
    have hs := h.sum
    rw [val_split o i (by omega)] at hs
    simp only [val]
    rw [Int.mul_add (pw i), Int.mul_add (pw i), Int.add_mul, ← hs, show a[i] + 1048576 * 0 = a[i] by omega, Int.mul_assoc]
    omega
theorem MulS.start {a b : List Int} : MulS a b 0 (List.replicate (a.length + b.length) 0) where
  ok d hd := by rw [List.eq_of_mem_replicate hd]; omega
  len := by simp
  zero j _ h := by rw [List.length_replicate] at h; rw [List.getElem?_replicate, if_pos h]
  sum := by rw [val_zeros]; simp [val]
theorem MulS.done {a b o : List Int} (h : MulS a b a.length o) : val o = val a * val b := by have := h.sum; rwa [List.take_length] at this
/-- What big.short has before it. -/
structure ShortS (a : List Int) (d : Int) (j : Nat) (qs : List Int) (r : Int) : Prop where
  ok : DigOK qs
  len : qs.length = a.length - j
  sum : val (a.drop j) = d * val qs + r
  r0 : 0 ≤ r
  rd : r < d
theorem ShortS.next {a qs : List Int} {d r : Int} {i : Nat} (h : ShortS a d (i + 1) qs r) (ha : DigOK a) (hi : i < a.length) (hd : 0 < d) : ShortS a d i ((r * 1048576 + a[i]) / d :: qs) ((r * 1048576 + a[i]) % d) := by
  have hx := ha.get hi
  have hl := h.len
  obtain ⟨h1, h2, h3, h4, h5⟩ := short_step hd h.r0 h.rd hx.1 hx.2 h.sum
  refine ⟨digOK_cons.2 ⟨⟨h2, h3⟩, h.ok⟩, by rw [List.length_cons, hl]; omega, ?_, h4, h5⟩
  rw [List.drop_eq_getElem_cons hi]
  exact h1
theorem ShortS.start {a : List Int} {d : Int} (hd : 0 < d) : ShortS a d a.length [] 0 := ⟨DigOK.nil, by simp, by simp [val], by omega, hd⟩
theorem ShortS.done {a qs : List Int} {d r : Int} (h : ShortS a d 0 qs r) (hd : 0 < d) : val qs = val a / d ∧ r = val a % d := by
  have h1 := h.sum
  rw [List.drop_zero] at h1
  have h2 := h.r0
  have h3 := h.rd
  have e : val a / d = val qs := by
    refine quo_is hd ?_ ?_
    · rw [h1, Int.mul_comm]; omega
    · rw [h1, Int.add_mul, Int.mul_comm d, Int.one_mul]; omega
  refine ⟨e.symm, ?_⟩
  have := Int.mul_ediv_add_emod (val a) d
  rw [e] at this; omega
theorem digs_one {d : Int} (h0 : 0 < d) (h1 : d < 1048576) : digs d.toNat = [d] := by
  rw [digs_pos (by omega), show d.toNat / 1048576 = 0 by omega, digs_zero, show ((d.toNat % 1048576 : Nat) : Int) = d by omega]
theorem trim_one {d : Int} (h0 : 0 ≤ d) (h1 : d < 1048576) : trimL [d] = digs d.toNat := by
  rw [trimL_is (digOK_cons.2 ⟨⟨h0, h1⟩, DigOK.nil⟩)]
  simp [val]
/-- Digits whose value is known. -/
theorem digs_of {l : List Int} (h : Norm l) {n : Nat} (hv : val l = n) : l = digs n := by rw [h.is, hv, Int.toNat_natCast]
theorem norm_digs_val {l : List Int} (h : Norm l) : 0 ≤ val l := val_nn h.ok
theorem digs_low {n k : Nat} (h : (digs n).length = k + 1) : pw k ≤ (n : Int) := by
  have := (digs_norm n).low (by intro h0; rw [h0] at h; simp at h)
  rw [h, digs_val] at this
  exact this
theorem digs_lenlt {n : Nat} : (n : Int) < pw (digs n).length := digs_len.1 (Nat.le_refl _)
/-- The bits of a digit above others. -/
theorem or_shift {u d : Nat} {k : Nat} (hu : u < 2 ^ k) : u ||| (d <<< k) = u + d * 2 ^ k := by
  rw [Nat.shiftLeft_eq, Nat.mul_comm, Nat.or_comm, ← Nat.two_pow_add_eq_or_of_lt hu, Nat.add_comm]
end Go.Proofs.YtcgocdhhneckhaaGreat
