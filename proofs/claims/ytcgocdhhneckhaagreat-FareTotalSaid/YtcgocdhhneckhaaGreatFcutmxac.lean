/- Quotients of digits, in plain Lean. -/
import Derived.Test.YtcgocdhhneckhaaGreatFcutmxab
namespace Go.Proofs.YtcgocdhhneckhaaGreat
/-- A guess whose test fails is too great. -/
theorem guess_high {U V P t u2 ul vt v2 vl g r : Int} (hU : U = (t * 1048576 + u2) * P + ul) (hul : ul < P) (hV : V = (vt * 1048576 + v2) * P + vl) (hvl : 0 ≤ vl) (hP : 0 < P) (ht : t = g * vt + r) (hg : 0 ≤ g) (hc : r * 1048576 + u2 < g * v2) : U < g * V := by
  have h1 : g * V = (g * vt * 1048576 + g * v2) * P + g * vl := by
    rw [hV, Int.mul_add, ← Int.mul_assoc, Int.mul_add, ← Int.mul_assoc]
  have h2 : 0 ≤ g * vl := Int.mul_nonneg hg hvl
  have h3 : (t * 1048576 + u2 + 1) * P ≤ (g * vt * 1048576 + g * v2) * P := Int.mul_le_mul_of_nonneg_right (by
    generalize g * vt = a at *
    generalize g * v2 = b at *
    omega) (by omega)
  rw [Int.add_mul (t * 1048576 + u2) 1 P, Int.one_mul] at h3
  rw [h1, hU]
  generalize (t * 1048576 + u2) * P = x at *
  generalize (g * vt * 1048576 + g * v2) * P = y at *
  omega
/-- A guess that stands the test is at most one too great. -/
theorem guess_low {U V P t u2 ul vt v2 vl g r : Int} (hU : U = (t * 1048576 + u2) * P + ul) (hul : 0 ≤ ul) (hV : V = (vt * 1048576 + v2) * P + vl) (hvl : 0 ≤ vl) (hvl2 : vl < P) (hP : 0 < P) (ht : t = g * vt + r) (hg : 0 ≤ g) (hgB : g < 1048576) (hv1 : 1 ≤ vt) (hv2 : 0 ≤ v2) (hv2B : v2 < 1048576) (hu2 : 0 ≤ u2)
    (hc : 1048576 ≤ r ∨ g * v2 ≤ r * 1048576 + u2) : (g - 1) * V ≤ U := by
  have h1 : g * V = (g * vt * 1048576 + g * v2) * P + g * vl := by
    rw [hV, Int.mul_add, ← Int.mul_assoc, Int.mul_add, ← Int.mul_assoc]
  have h2 : g * vl ≤ 1048576 * P := Int.mul_le_mul (by omega) (by omega) hvl (by omega)
  have h0 : g * v2 ≤ 1048575 * 1048575 := Int.mul_le_mul (by omega) (by omega) hv2 (by omega)
  have h3 : (g * vt * 1048576 + g * v2) * P ≤ (t * 1048576 + u2) * P := Int.mul_le_mul_of_nonneg_right (by
    generalize g * vt = a at *
    generalize g * v2 = b at *
    omega) (by omega)
  have h4 : 1048576 * P ≤ (vt * 1048576 + v2) * P := Int.mul_le_mul_of_nonneg_right (by omega) (by omega)
  rw [Int.sub_mul, Int.one_mul, h1, hU, hV]
  generalize (t * 1048576 + u2) * P = x at *
  generalize (g * vt * 1048576 + g * v2) * P = y at *
  generalize (vt * 1048576 + v2) * P = z at *
  generalize g * vl = s at *
  omega
/-- What big.settle leaves at first. -/
def subM (g : Int) : Int → List Int → List Int → List Int
  | _, [], _ => []
  | c, x :: u, v => ((x - c - g * v.headD 0) % 1048576) :: subM g (-((x - c - g * v.headD 0) / 1048576)) u v.tail
theorem subM_len (g : Int) : ∀ (c : Int) (u v : List Int), (subM g c u v).length = u.length
  | _, [], _ => rfl
  | c, x :: u, v => by simp [subM, subM_len g _ u v.tail]
theorem subM_ok (g : Int) : ∀ (c : Int) (u v : List Int), DigOK (subM g c u v)
  | _, [], _ => DigOK.nil
  | c, x :: u, v => digOK_cons.2 ⟨⟨by omega, by omega⟩, subM_ok g _ u v.tail⟩
/-- The borrow that is left in the end. -/
def subE (g : Int) : Int → List Int → List Int → Int
  | c, [], _ => c
  | c, x :: u, v => subE g (-((x - c - g * v.headD 0) / 1048576)) u v.tail
theorem subM_val (g : Int) : ∀ {u v : List Int} {c : Int}, v.length ≤ u.length → val (subM g c u v) = val u - c - g * val v + subE g c u v * pw u.length
  | [], v, c, h => by
    obtain rfl : v = [] := List.length_eq_zero_iff.1 (by simpa using h)
    simp [subM, subE, val, pw]; omega
  | x :: u, v, c, h => by
    have ih := subM_val g (u := u) (v := v.tail) (c := -((x - c - g * v.headD 0) / 1048576)) (by rw [List.length_tail]; simp at h; omega)
    simp only [subM, subE, val, List.length_cons, pw]
    rw [ih, headD_tail v, Int.mul_add g, Int.mul_left_comm g 1048576 (val v.tail), Int.mul_left_comm (subE g _ u v.tail) 1048576]
    generalize subE g _ u v.tail * pw u.length = e
    generalize g * v.headD 0 = s
    generalize g * val v.tail = t
    omega
/-- What it leaves when it gives one back. -/
def addM : Int → List Int → List Int → List Int
  | _, [], _ => []
  | c, x :: u, v => ((c + x + v.headD 0) % 1048576) :: addM ((c + x + v.headD 0) / 1048576) u v.tail
theorem addM_len : ∀ (c : Int) (u v : List Int), (addM c u v).length = u.length
  | _, [], _ => rfl
  | c, x :: u, v => by simp [addM, addM_len _ u v.tail]
theorem addM_ok : ∀ (c : Int) (u v : List Int), DigOK (addM c u v)
  | _, [], _ => DigOK.nil
  | c, x :: u, v => digOK_cons.2 ⟨⟨by omega, by omega⟩, addM_ok _ u v.tail⟩
theorem addM_val : ∀ {u v : List Int} {c : Int}, v.length ≤ u.length → ∃ e : Int, val (addM c u v) = c + val u + val v - e * pw u.length
  | [], v, c, h => by
    obtain rfl : v = [] := List.length_eq_zero_iff.1 (by simpa using h)
    exact ⟨c, by simp [addM, val, pw]⟩
  | x :: u, v, c, h => by
    obtain ⟨e, ih⟩ := addM_val (u := u) (v := v.tail) (c := (c + x + v.headD 0) / 1048576) (by rw [List.length_tail]; simp at h; omega)
    refine ⟨e, ?_⟩
    simp only [addM, val, List.length_cons, pw]
    rw [ih, Int.mul_left_comm e 1048576]
    have := headD_tail v
    generalize e * pw u.length = z
    omega
/-- A multiple of a length's power between 0 and it is 0. -/
theorem pw_mult {x y e : Int} {n : Nat} (hx0 : 0 ≤ x) (hx1 : x < pw n) (hy0 : 0 ≤ y) (hy1 : y < pw n) (h : x = y + e * pw n) : x = y := by
  have hp := pw_pos n
  rcases Int.lt_trichotomy e 0 with h0 | h0 | h0
  · have : e * pw n ≤ -1 * pw n := Int.mul_le_mul_of_nonneg_right (by omega) (by omega)
    omega
  · subst h0; omega
  · have : 1 * pw n ≤ e * pw n := Int.mul_le_mul_of_nonneg_right (by omega) (by omega)
    omega
/-- Nothing was borrowed: the guess was right. -/
theorem settle_yes {g : Int} {u v : List Int} (hu : DigOK u) (h : v.length ≤ u.length) (he : subE g 0 u v = 0) : val (subM g 0 u v) = val u - g * val v ∧ g * val v ≤ val u := by
  have h1 := subM_val g (c := 0) h
  have h2 := val_nn (subM_ok g 0 u v)
  rw [he, Int.zero_mul] at h1
  omega
/-- Something was borrowed: it was one too great. -/
theorem settle_no {g : Int} {u v : List Int} (hu : DigOK u) (hv : DigOK v) (h : v.length ≤ u.length) (he : subE g 0 u v ≠ 0) (hlow : (g - 1) * val v ≤ val u) (hg : 0 ≤ (g - 1) * val v ∨ 0 ≤ g) (hs : val u - (g - 1) * val v < pw u.length) (hpos : 0 < val v → 0 ≤ g) : val (addM 0 (subM g 0 u v) v) = val u - (g - 1) * val v := by
  obtain ⟨e, h1⟩ := addM_val (u := subM g 0 u v) (v := v) (c := 0) (by rw [subM_len]; exact h)
  have h2 := subM_val g (c := 0) h
  have h3 := val_nn (addM_ok 0 (subM g 0 u v) v)
  have h4 := val_lt (addM_ok 0 (subM g 0 u v) v)
  rw [addM_len, subM_len] at h4
  rw [subM_len] at h1
  refine pw_mult (n := u.length) (e := subE g 0 u v - e) h3 h4 (by omega) hs ?_
  rw [h1, h2, Int.sub_mul (subE g 0 u v) e, Int.sub_mul g 1, Int.one_mul]
  generalize subE g 0 u v * pw u.length = a
  generalize e * pw u.length = b
  generalize g * val v = s
  omega
/-- One step of a division by one digit. -/
theorem short_step {d r x V : Int} (hd : 0 < d) (hr0 : 0 ≤ r) (hr : r < d) (hx0 : 0 ≤ x) (hx : x < 1048576) {A : Int} (hA : A = d * V + r) :
    x + 1048576 * A = d * ((r * 1048576 + x) / d + 1048576 * V) + (r * 1048576 + x) % d ∧ 0 ≤ (r * 1048576 + x) / d ∧ (r * 1048576 + x) / d < 1048576 ∧ 0 ≤ (r * 1048576 + x) % d ∧ (r * 1048576 + x) % d < d := by
  have h1 := Int.mul_ediv_add_emod (r * 1048576 + x) d
  refine ⟨?_, Int.ediv_nonneg (by omega) (by omega), Int.ediv_lt_of_lt_mul hd (by omega), Int.emod_nonneg _ (by omega), Int.emod_lt_of_pos _ hd⟩
  rw [hA, Int.mul_add d, Int.mul_left_comm d 1048576]
  generalize d * ((r * 1048576 + x) / d) = a at *
  generalize d * V = b at *
  omega
end Go.Proofs.YtcgocdhhneckhaaGreat
/- Big integers that are right are those of one integer each; in plain Lean. -/
namespace Go.Proofs.YtcgocdhhneckhaaGreat
structure BigD where
  s : Int
  l : List Int
def bigD (z : Int) : BigD := ⟨z.sign, digs z.natAbs⟩
def BigD.right (a : BigD) : Bool := a.l.all (fun d => decide (0 ≤ d) && decide (d < 1048576)) && (match a.l.getLast? with
  | none => decide (a.s = 0)
  | some x => (decide (a.s = 1) || decide (a.s = -1)) && (decide (a.l.length ≤ 60) && decide (x ≠ 0)))
def BigD.val (a : BigD) : Int := a.s * Go.Proofs.YtcgocdhhneckhaaGreat.val a.l
theorem all_digOK {l : List Int} : l.all (fun d => decide (0 ≤ d) && decide (d < 1048576)) = true ↔ DigOK l := by
  simp only [List.all_eq_true, Bool.and_eq_true, decide_eq_true_eq]; rfl
theorem bigD_val (z : Int) : (bigD z).val = z := by
  unfold BigD.val bigD
  simp only
  rw [digs_val]
  exact Int.sign_mul_natAbs z
theorem digs_nil {n : Nat} : digs n = [] ↔ n = 0 := by
  constructor
  · intro h
    have := digs_val n
    rw [h] at this
    simp only [val] at this
    omega
  · rintro rfl; exact digs_zero
/-- How great a right integer may be. -/
def Fits (z : Int) : Prop := (z.natAbs : Int) < pw 60
theorem fits_iff {z : Int} : Fits z ↔ (digs z.natAbs).length ≤ 60 := digs_len.symm
theorem bigD_right {z : Int} : (bigD z).right = true ↔ Fits z := by
  rw [fits_iff]
  unfold BigD.right bigD
  simp only
  have hN := digs_norm z.natAbs
  rw [Bool.and_eq_true, all_digOK]
  rcases hl : (digs z.natAbs).getLast? with _ | x
  · have h0 : digs z.natAbs = [] := List.getLast?_eq_none_iff.1 hl
    have hz : z = 0 := by have := digs_nil.1 h0; omega
    subst hz
    simp [digs_zero, DigOK.nil]
  · have hx := hN.top x hl
    have hz : z ≠ 0 := by
      rintro rfl
      rw [Int.natAbs_zero, digs_zero] at hl
      cases hl
    have hs : z.sign = 1 ∨ z.sign = -1 := by
      rcases Int.lt_trichotomy z 0 with h | h | h
      · exact .inr (Int.sign_eq_neg_one_of_neg h)
      · exact absurd h hz
      · exact .inl (Int.sign_eq_one_of_pos h)
    simp only [Bool.and_eq_true, Bool.or_eq_true, decide_eq_true_eq]
    exact ⟨fun h => h.2.2.1, fun h => ⟨hN.ok, hs, h, hx⟩⟩
theorem right_big {a : BigD} (h : a.right = true) : a = bigD a.val ∧ Fits a.val := by
  have key : a = bigD a.val := by
    unfold BigD.right at h
    rw [Bool.and_eq_true, all_digOK] at h
    obtain ⟨h1, h2⟩ := h
    obtain ⟨s, l⟩ := a
    simp only at h1 h2
    rcases hl : l.getLast? with _ | x
    · rw [hl] at h2
      simp only [decide_eq_true_eq] at h2
      have h0 : l = [] := List.getLast?_eq_none_iff.1 hl
      subst h0 h2
      simp [bigD, BigD.val, digs_zero]
    · rw [hl] at h2
      simp only [Bool.and_eq_true, Bool.or_eq_true, decide_eq_true_eq] at h2
      obtain ⟨hs, hlen, hx⟩ := h2
      have hN : Norm l := ⟨h1, fun y hy => by rw [hl] at hy; injection hy with hy; subst hy; exact hx⟩
      have hne : l ≠ [] := by rintro rfl; cases hl
      have hv : 0 < val l := by
        have h3 := val_nn h1
        have h4 : val l ≠ 0 := fun h => hne (hN.zero h)
        omega
      have hi := hN.is
      unfold bigD BigD.val
      simp only
      rcases hs with rfl | rfl
      · rw [Int.one_mul, Int.sign_eq_one_of_pos hv, show (val l).natAbs = (val l).toNat by omega, ← hi]
      · rw [Int.neg_mul, Int.one_mul, Int.sign_eq_neg_one_of_neg (by omega), show (-val l).natAbs = (val l).toNat by omega, ← hi]
  refine ⟨key, ?_⟩
  rw [key] at h
  exact bigD_right.1 h
theorem right_iff {a : BigD} : a.right = true ↔ ∃ z : Int, Fits z ∧ a = bigD z := by
  constructor
  · exact fun h => ⟨a.val, (right_big h).2, (right_big h).1⟩
  · rintro ⟨z, hz, rfl⟩; exact bigD_right.2 hz
theorem bigD_inj {x y : Int} (h : bigD x = bigD y) : x = y := by rw [← bigD_val x, h, bigD_val]
/-- What is signed: digits with zeros at the end, and a sign. -/
def signedD (s : Int) (l : List Int) : BigD := if trimL l = [] then ⟨0, []⟩ else ⟨s, trimL l⟩
theorem signed_is {s : Int} {l : List Int} {z : Int} (hl : DigOK l) (hv : val l = z.natAbs) (hs : z ≠ 0 → s = z.sign) : signedD s l = bigD z := by
  unfold signedD
  rw [trimL_is hl, hv, Int.toNat_natCast]
  by_cases h : z = 0
  · subst h
    rw [if_pos (by rw [Int.natAbs_zero, digs_zero])]
    simp [bigD, digs_zero]
  · rw [if_neg (fun h0 => h (by have := digs_nil.1 h0; omega)), hs h]; rfl
end Go.Proofs.YtcgocdhhneckhaaGreat
/- The long division of digits, in plain Lean: what a round of big.div does. -/
namespace Go.Proofs.YtcgocdhhneckhaaGreat
theorem val_split (l : List Int) (k : Nat) (h : k ≤ l.length) : val l = val (l.take k) + pw k * val (l.drop k) := by
  conv => lhs; rw [← List.take_append_drop k l]
  rw [val_app, List.length_take, Nat.min_eq_left h]
theorem DigOK.take {l : List Int} (h : DigOK l) (k : Nat) : DigOK (l.take k) := fun d hd => h d (List.mem_of_mem_take hd)
theorem DigOK.drop {l : List Int} (h : DigOK l) (k : Nat) : DigOK (l.drop k) := fun d hd => h d (List.mem_of_mem_drop hd)
theorem DigOK.get {l : List Int} (h : DigOK l) {i : Nat} (hi : i < l.length) : 0 ≤ l[i] ∧ l[i] < 1048576 := h _ (List.getElem_mem hi)
theorem drop_two {l : List Int} {k : Nat} (h : l.length = k + 2) : l.drop k = [l[k], l[k + 1]] := by
  rw [List.drop_eq_getElem_cons (by omega), List.drop_eq_getElem_cons (by omega), List.drop_eq_nil_of_le (by omega)]
theorem drop_three {l : List Int} {k : Nat} (h : l.length = k + 3) : l.drop k = [l[k], l[k + 1], l[k + 2]] := by
  rw [List.drop_eq_getElem_cons (by omega), List.drop_eq_getElem_cons (by omega), List.drop_eq_getElem_cons (by omega), List.drop_eq_nil_of_le (by omega)]
/-- What the guesses go by: n + 1 digits over n digits. -/
structure Parts (U V P t u2 ul vt v2 vl : Int) : Prop where
  hU : U = (t * 1048576 + u2) * P + ul
  hV : V = (vt * 1048576 + v2) * P + vl
  ul0 : 0 ≤ ul
  ulP : ul < P
  vl0 : 0 ≤ vl
  vlP : vl < P
  P0 : 0 < P
  u20 : 0 ≤ u2
  u2B : u2 < 1048576
  v20 : 0 ≤ v2
  v2B : v2 < 1048576
  vt1 : 1 ≤ vt
  vtB : vt < 1048576
  t0 : 0 ≤ t
  tB : t < 1048576 * 1048576
theorem parts {us v : List Int} {k : Nat} (hu : DigOK us) (hv : DigOK v) (hul : us.length = k + 3) (hvl : v.length = k + 2) (ht : v[k + 1] ≠ 0) :
    Parts (val us) (val v) (pw k) (us[k + 2] * 1048576 + us[k + 1]) us[k] (val (us.take k)) v[k + 1] v[k] (val (v.take k)) := by
  have h1 := val_split us k (by omega)
  have h2 := val_split v k (by omega)
  rw [drop_three hul] at h1
  rw [drop_two hvl] at h2
  simp only [val] at h1 h2
  have a0 := hu.get (i := k) (by omega)
  have a1 := hu.get (i := k + 1) (by omega)
  have a2 := hu.get (i := k + 2) (by omega)
  have b0 := hv.get (i := k) (by omega)
  have b1 := hv.get (i := k + 1) (by omega)
  have p := pw_pos k
  have c1 := val_lt (hu.take k)
  have c2 := val_lt (hv.take k)
  rw [List.length_take, Nat.min_eq_left (by omega)] at c1 c2
  have d1 := val_nn (hu.take k)
  have d2 := val_nn (hv.take k)
  generalize us[k] = x0 at *
  generalize us[k + 1] = x1 at *
  generalize us[k + 2] = x2 at *
  generalize v[k] = y0 at *
  generalize v[k + 1] = y1 at *
  refine ⟨?_, ?_, d1, c1, d2, c2, p, a0.1, a0.2, b0.1, b0.2, by omega, by omega, by omega, by omega⟩
  · rw [h1, Int.mul_comm (pw k), show x0 + 1048576 * (x1 + 1048576 * (x2 + 1048576 * 0)) = (x2 * 1048576 + x1) * 1048576 + x0 by omega]; omega
  · rw [h2, Int.mul_comm (pw k), show y0 + 1048576 * (y1 + 1048576 * 0) = y1 * 1048576 + y0 by omega]; omega
section
variable {U V P t u2 ul vt v2 vl g r : Int}
/-- The first guess is not too small. -/
theorem Parts.first (h : Parts U V P t u2 ul vt v2 vl) : U < (t / vt + 1) * V ∧ t = t / vt * vt + t % vt ∧ 0 ≤ t / vt ∧ t / vt ≤ t ∧ 0 ≤ t % vt ∧ t % vt < vt := by
  have h1 := Int.mul_ediv_add_emod t vt
  have h2 := Int.emod_nonneg t (show vt ≠ 0 by have := h.vt1; omega)
  have h3 := Int.emod_lt_of_pos t (show 0 < vt by have := h.vt1; omega)
  have h4 : 0 ≤ t / vt := Int.ediv_nonneg h.t0 (by have := h.vt1; omega)
  have h5 : t / vt ≤ t := Int.ediv_le_self _ h.t0
  rw [Int.mul_comm] at h1
  refine ⟨?_, h1.symm, h4, h5, h2, h3⟩
  generalize t / vt = g at *
  generalize t % vt = r at *
  have e1 : U < (t + 1) * (1048576 * P) := by
    have := h.hU
    have := h.ulP
    have e2 : (t * 1048576 + u2) * P ≤ (t * 1048576 + 1048575) * P := Int.mul_le_mul_of_nonneg_right (by have := h.u2B; omega) (by have := h.P0; omega)
    have e3 : (t + 1) * (1048576 * P) = (t * 1048576 + 1048575) * P + P := by
      rw [← Int.mul_assoc, show (t + 1) * 1048576 = (t * 1048576 + 1048575) + 1 by omega, Int.add_mul, Int.one_mul]
    omega
  have e2 : (t + 1) * (1048576 * P) ≤ ((g + 1) * vt) * (1048576 * P) := Int.mul_le_mul_of_nonneg_right (by rw [Int.add_mul, Int.one_mul]; omega) (by have := h.P0; omega)
  have e3 : (g + 1) * (vt * (1048576 * P)) ≤ (g + 1) * V := Int.mul_le_mul_of_nonneg_left (by
    have := h.hV
    have := h.vl0
    have e4 : (vt * 1048576 + 0) * P ≤ (vt * 1048576 + v2) * P := Int.mul_le_mul_of_nonneg_right (by have := h.v20; omega) (by have := h.P0; omega)
    have e5 : vt * (1048576 * P) = (vt * 1048576 + 0) * P := by rw [Int.add_zero, Int.mul_assoc]
    omega) (by omega)
  rw [Int.mul_assoc] at e2
  omega
/-- A guess that is refused was too great. -/
theorem Parts.less (h : Parts U V P t u2 ul vt v2 vl) (hU : U < 1048576 * V) (hg : U < (g + 1) * V) (ht : t = g * vt + r) (hg0 : 0 ≤ g) (hc : 1048576 ≤ g ∨ (r < 1048576 ∧ r * 1048576 + u2 < g * v2)) : U < g * V ∧ 1 ≤ g := by
  have hVp : 0 ≤ V := by
    have := h.hV
    have := h.vl0
    have : 0 ≤ (vt * 1048576 + v2) * P := Int.mul_nonneg (by have := h.vt1; have := h.v20; omega) (by have := h.P0; omega)
    omega
  have hUp : 0 ≤ U := by
    have := h.hU
    have := h.ul0
    have : 0 ≤ (t * 1048576 + u2) * P := Int.mul_nonneg (by have := h.t0; have := h.u20; omega) (by have := h.P0; omega)
    omega
  have key : U < g * V := by
    rcases hc with hc | ⟨_, hc⟩
    · have : 1048576 * V ≤ g * V := Int.mul_le_mul_of_nonneg_right hc hVp
      omega
    · exact guess_high h.hU h.ulP h.hV h.vl0 h.P0 ht hg0 hc
  refine ⟨key, ?_⟩
  rcases (by omega : g = 0 ∨ 1 ≤ g) with rfl | h1
  · rw [Int.zero_mul] at key; omega
  · exact h1
/-- One that stands is at most one too great. -/
theorem Parts.stand (h : Parts U V P t u2 ul vt v2 vl) (ht : t = g * vt + r) (hg0 : 0 ≤ g) (hgB : g < 1048576) (hc : 1048576 ≤ r ∨ g * v2 ≤ r * 1048576 + u2) : (g - 1) * V ≤ U :=
  guess_low h.hU h.ul0 h.hV h.vl0 h.vlP h.P0 ht hg0 hgB h.vt1 h.v20 h.v2B h.u20 hc
end
/-- The quotient is g or one less. -/
theorem quo_is {U V g : Int} (hV : 0 < V) (h1 : g * V ≤ U) (h2 : U < (g + 1) * V) : U / V = g := by
  have := Int.mul_ediv_add_emod U V
  have a := Int.emod_nonneg U (show V ≠ 0 by omega)
  have b := Int.emod_lt_of_pos U hV
  generalize U / V = q at *
  rw [Int.mul_comm] at this
  have hq : q * V < (g + 1) * V := by omega
  have hg : g * V < (q + 1) * V := by rw [Int.add_mul q, Int.one_mul]; omega
  have := Int.lt_of_mul_lt_mul_right hq (by omega)
  have := Int.lt_of_mul_lt_mul_right hg (by omega)
  omega
/-- What a round of big.div has before it: j digits of the quotient are still to come. -/
structure DivS (A : Int) (v : List Int) (m j : Nat) (u qs : List Int) : Prop where
  uok : DigOK u
  ulen : u.length = m + v.length
  jm : j ≤ m
  low : val (u.drop j) < val v
  qok : DigOK qs
  qlen : qs.length = m - j
  sum : A = val u + val v * (pw j * val qs)
/-- The digits that a round looks at. -/
def winD (u : List Int) (i n : Nat) : List Int := (u.drop i).take (n + 1)
theorem winD_len {u : List Int} {i n : Nat} (h : i + n + 1 ≤ u.length) : (winD u i n).length = n + 1 := by unfold winD; rw [List.length_take, List.length_drop]; omega
theorem winD_get {u : List Int} {i n j : Nat} (h : i + n + 1 ≤ u.length) (hj : j < n + 1) : (winD u i n)[j]'(by rw [winD_len h]; exact hj) = u[i + j]'(by omega) := by
  unfold winD
  rw [List.getElem_take, List.getElem_drop]
theorem DivS.top {A : Int} {v u qs : List Int} {m i : Nat} (h : DivS A v m (i + 1) u qs) (hv : DigOK v) : val (u.drop (i + 1 + v.length)) = 0 := by
  have h1 := val_split (u.drop (i + 1)) v.length (by rw [List.length_drop, h.ulen]; have := h.jm; omega)
  rw [List.drop_drop] at h1
  have h2 := val_lt hv
  have h3 := h.low
  have h4 := val_nn ((h.uok.drop (i + 1)).take v.length)
  have h5 := val_nn (h.uok.drop (i + 1 + v.length))
  rcases (by omega : val (u.drop (i + 1 + v.length)) = 0 ∨ 1 ≤ val (u.drop (i + 1 + v.length))) with h6 | h6
  · exact h6
  · have : pw v.length * 1 ≤ pw v.length * val (u.drop (i + 1 + v.length)) := Int.mul_le_mul_of_nonneg_left h6 (by have := pw_pos v.length; omega)
    omega
theorem DivS.win {A : Int} {v u qs : List Int} {m i : Nat} (h : DivS A v m (i + 1) u qs) (hv : DigOK v) : val (winD u i v.length) = val (u.drop i) ∧ val (winD u i v.length) < 1048576 * val v ∧ 0 ≤ val (winD u i v.length) ∧ DigOK (winD u i v.length) := by
  have hl := h.ulen
  have hj := h.jm
  have h1 := val_split (u.drop i) (v.length + 1) (by rw [List.length_drop]; omega)
  rw [List.drop_drop, show i + (v.length + 1) = i + 1 + v.length by omega, h.top hv, Int.mul_zero, Int.add_zero] at h1
  have h2 : val (u.drop i) = u[i] + 1048576 * val (u.drop (i + 1)) := by rw [List.drop_eq_getElem_cons (by omega)]; rfl
  have h3 := h.uok.get (i := i) (by omega)
  have h4 := h.low
  have h5 := val_nn (h.uok.drop i)
  unfold winD
  exact ⟨h1.symm, by omega, by omega, (h.uok.drop i).take _⟩
/-- What a round leaves. -/
theorem DivS.next {A : Int} {v u qs us' : List Int} {m i : Nat} (h : DivS A v m (i + 1) u qs) (hv : DigOK v) (hV : 0 < val v) (hok : DigOK us') (hlen : us'.length = v.length + 1)
    (hval : val us' = val (winD u i v.length) % val v) : DivS A v m i (u.take i ++ us' ++ u.drop (i + v.length + 1)) (val (winD u i v.length) / val v :: qs) := by
  obtain ⟨w1, w2, w3, w4⟩ := h.win hv
  have hl := h.ulen
  have hj := h.jm
  have ht := h.top hv
  have e := Int.mul_ediv_add_emod (val (winD u i v.length)) (val v)
  have r0 := Int.emod_nonneg (val (winD u i v.length)) (show val v ≠ 0 by omega)
  have r1 := Int.emod_lt_of_pos (val (winD u i v.length)) hV
  have q0 : 0 ≤ val (winD u i v.length) / val v := Int.ediv_nonneg w3 (by omega)
  have q1 : val (winD u i v.length) / val v < 1048576 := Int.ediv_lt_of_lt_mul hV w2
  rw [← hval] at e r0 r1
  have hti : (u.take i).length = i := by rw [List.length_take]; omega
  have hd : (u.take i ++ us' ++ u.drop (i + v.length + 1)).drop i = us' ++ u.drop (i + v.length + 1) := by
    rw [List.append_assoc, List.drop_append_of_le_length (by omega), List.drop_eq_nil_of_le (by omega), List.nil_append]
  have hz : val (us' ++ u.drop (i + v.length + 1)) = val us' := by
    rw [val_app, show i + v.length + 1 = i + 1 + v.length by omega, ht]; simp
  refine ⟨digOK_app.2 ⟨digOK_app.2 ⟨h.uok.take i, hok⟩, h.uok.drop _⟩, ?_, by omega, ?_, digOK_cons.2 ⟨⟨q0, q1⟩, h.qok⟩, ?_, ?_⟩
  · simp only [List.length_append, List.length_drop, hti]; omega
  · rw [hd, hz]; exact r1
  · rw [List.length_cons, h.qlen]; omega
  · rw [h.sum, val_split u i (by omega), List.append_assoc, val_app, hti, hz, ← w1]
    simp only [pw, val]
    generalize val (winD u i v.length) / val v = q at *
    generalize val (winD u i v.length) = U at *
    generalize val us' = r at *
    generalize val v = V at *
    generalize pw i = p at *
    rw [← e, Int.mul_add p, Int.mul_add p q, Int.mul_add V, show p * (V * q) = V * (p * q) by rw [Int.mul_left_comm], show 1048576 * p * val qs = p * (1048576 * val qs) by rw [Int.mul_comm 1048576 p, Int.mul_assoc]]
    generalize V * (p * q) = a
    generalize V * (p * (1048576 * val qs)) = b
    omega
theorem DivS.done {A : Int} {v u qs : List Int} {m : Nat} (h : DivS A v m 0 u qs) : A = val u + val v * val qs ∧ 0 ≤ val u ∧ val u < val v ∧ 0 ≤ val qs := by
  have h1 := h.sum
  have h2 := h.low
  simp only [pw, Int.one_mul, List.drop_zero] at h1 h2
  exact ⟨h1, val_nn h.uok, h2, val_nn h.qok⟩
theorem DivS.start {u v : List Int} {m : Nat} (hu : DigOK u) (hl : u.length = m + v.length) (hlow : val (u.drop m) < val v) : DivS (val u) v m m u [] :=
  ⟨hu, hl, Nat.le_refl _, hlow, DigOK.nil, by simp, by simp [val]⟩
end Go.Proofs.YtcgocdhhneckhaaGreat
