/- Walks of package big: trim, signed. -/
import Derived.Test.YtcgocdhhneckhaaGreatFnammxak
import Derived.Test.YtcgocdhhneckhaaGreatFnammxab
namespace Go.Proofs.YtcgocdhhneckhaaGreat
open Go.RowKit
theorem take_zero_step {l : List Int} {k : Nat} (hk : k < l.length) (h0 : l[k] = 0) : trimL (l.take (k + 1)) = trimL (l.take k) := by
  rw [List.take_succ_eq_append_getElem hk, h0, trimL_zero]
theorem take_top_step {l : List Int} {k : Nat} (hk : k < l.length) (h0 : l[k] ≠ 0) : trimL (l.take (k + 1)) = l.take (k + 1) := by
  rw [List.take_succ_eq_append_getElem hk, trimL_top _ h0]
set_option maxHeartbeats 400000 in
theorem big_trim (s : Sl Int) {F : Nat → Prop} (w : World) (hr : Rd F 1 ienc w s) :
    Calls Tryz.prog 183 #[.slice s.A s.l.length s.c] w fun e w' => e = .returned (.slice s.A (trimL s.l).length s.c) ∧ w = w' := by
  obtain ⟨A, c, l⟩ := s
  have hml : l.length ≤ 9223372036854775807 := hr.len
  have hcap : l.length ≤ c := hr.1
  have hcm : c ≤ 9223372036854775807 := hr.cap
  have HR := Lib.hid hr
  clear hr
  simp only
  go_enter Tryz.func183, Tryz.ntmps183
  go_wp2_with fail
  go_loopw [3] (fun v wr => ∃ (k : Nat), k ≤ l.length ∧ v = .int .i64 k ∧ Hid (trimL l = trimL (l.take k)) ∧ w = wr) (fun v _ => (intOf v).toNat)
  case atStart => exact ⟨l.length, Nat.le_refl _, rfl, Lib.hid (by rw [List.take_length]), rfl⟩
  case round =>
    obtain ⟨k, hk, rfl, HT, rfl⟩ := hrel
    rcases k with _ | k
    · have hT : trimL l = [] := by rw [HT.out]; rfl
      have HL := Lib.hid (congrArg List.length hT)
      clear hT HT
      go_wp2_with fail
      go_ret
      exact ⟨by rw [HL.out]; rfl, rfl⟩
    · obtain ⟨b, o, hA, hF, c0⟩ := HR.out.geti (show k < l.length by omega)
      simp only at hA c0
      subst hA
      have h1 := fun h : l[k]'(Nat.lt_of_succ_le hk) = 0 => take_zero_step (l := l) (k := k) (Nat.lt_of_succ_le hk) h
      have h2 := fun h : l[k]'(Nat.lt_of_succ_le hk) ≠ 0 => take_top_step (l := l) (k := k) (Nat.lt_of_succ_le hk) h
      generalize l[k] = x at *
      have H1 := Lib.hid h1
      have H2 := Lib.hid h2
      clear h1 h2
      by_cases hx : x = 0
      · have HT2 := Lib.hid (HT.out.trans (H1.out hx))
        clear HT H1 H2
        go_wp2_with fail
        go_roundw
        case rel => exact ⟨k, by omega, by go_num, HT2, trivial⟩
        case measure => simp [intOf]
      · have hT := congrArg List.length (HT.out.trans (H2.out hx))
        rw [List.length_take, Nat.min_eq_left (by omega)] at hT
        have HL := Lib.hid hT
        clear HT H1 H2 hT
        go_wp2_with fail
        go_ret
        exact ⟨by rw [HL.out]; rfl, rfl⟩
def Sl.v (s : Sl Int) : Value := .slice s.A s.l.length s.c
/-- A slice with these digits. -/
def SlP (w w' : World) (l : List Int) (e : Ending) : Prop := ∃ s : Sl Int, e = .returned s.v ∧ s.l = l ∧ Own w.heap.size 3 1 ienc w' s ∧ Below w.heap.size w w'
def BigP (w w' : World) (d : BigD) (e : Ending) : Prop := ∃ a : Big, e = .returned a.v ∧ a.d = d ∧ Rd (Nw w.heap.size w') 1 ienc w' a.l ∧ Below w.heap.size w w'
/-- The same, the digits in memory of which F holds. -/
def BigF (F : Nat → Prop) (w w' : World) (d : BigD) (e : Ending) : Prop := ∃ a : Big, e = .returned a.v ∧ a.d = d ∧ Rd F 1 ienc w' a.l ∧ Below w.heap.size w w'
theorem BigF.cast {F : Nat → Prop} {w w' : World} {d d' : BigD} {e : Ending} (h : d = d') (x : BigF F w w' d' e) : BigF F w w' d e := by rw [h]; exact x
theorem BigP.cast {w w' : World} {d d' : BigD} {e : Ending} (h : d = d') (x : BigP w w' d' e) : BigP w w' d e := by rw [h]; exact x
theorem SlP.cast {w w' : World} {d d' : List Int} {e : Ending} (h : d = d') (x : SlP w w' d' e) : SlP w w' d e := by rw [h]; exact x
set_option maxHeartbeats 400000 in
theorem big_signed (g : Int) (s : Sl Int) {F : Nat → Prop} (w : World) (hr : Rd F 1 ienc w s) (hF : ∀ b, F b → b < w.heap.size) :
    Calls Tryz.prog 163 #[.int .i64 g, s.v] w fun e w' => BigF F w w' (signedD g s.l) e := by
  obtain ⟨A, c, l⟩ := s
  have HT := big_trim ⟨A, c, l⟩ (w.alloc (.cells #[.int .i64 0, .slice none 0 0] 69)) (hr.up hF qbl)
  have hml : (trimL l).length ≤ 9223372036854775807 := Nat.le_trans (trimL_le l) hr.len
  have HR := Lib.hid hr
  have HF := Lib.hid hF
  clear hr hF
  simp only [Sl.v] at HT ⊢
  go_enter Tryz.func163, Tryz.ntmps163
  go_wp2_with fail
  refine HT.mono ?_
  rintro e w1 ⟨rfl, rfl⟩
  by_cases hz : (trimL l).length = 0
  · have hd : signedD g l = ⟨0, []⟩ := by unfold signedD; rw [if_pos (List.eq_nil_of_length_eq_zero hz)]
    have HD := Lib.hid hd
    clear hd
    go_wp2_with fail
    try simp only [Exit.inBlock, Exit.then]
    refine bodyPost_ret (v := .agg #[.int .i64 0, .slice none 0 0]) ?_ rfl (BigF.cast HD.out ⟨⟨0, ⟨none, 0, []⟩⟩, rfl, rfl, Rd.nil _ _ _ _, qbl⟩)
    simp [results, Tryz.results163, go_sem, ]
  · have hd : signedD g l = ⟨g, trimL l⟩ := by unfold signedD; rw [if_neg (fun h => hz (by rw [h]; rfl))]
    have HD := Lib.hid hd
    have HP : Hid (Rd F 1 ienc w ⟨A, c, trimL l⟩) := Lib.hid (by
      have := HR.out.takeN (trimL l).length
      rw [← trimL_take] at this
      exact this)
    clear hd HR
    go_wp2_with fail
    try simp only [Exit.inBlock, Exit.then]
    refine bodyPost_ret (v := .agg #[.int .i64 g, .slice A (trimL l).length c]) ?_ rfl (BigF.cast HD.out ⟨⟨g, ⟨A, c, trimL l⟩⟩, rfl, rfl, HP.out.up HF.out qbl, qbl⟩)
    simp [results, Tryz.results163, go_sem, ]
/-- trim, as a slice of the same memory. -/
theorem Rd.trim {F : Nat → Prop} {w : World} {s : Sl Int} (h : Rd F 1 ienc w s) : Rd F 1 ienc w ⟨s.A, s.c, trimL s.l⟩ := by
  have := h.takeN (trimL s.l).length
  rw [← trimL_take] at this
  exact this
end Go.Proofs.YtcgocdhhneckhaaGreat
/- Fractions of integers as the program compares them; in plain Lean. -/
namespace Go.Proofs.YtcgocdhhneckhaaGreat
def ucmp (x y : Int) : Int := if x < y then -1 else if y < x then 1 else 0
theorem ucmp_sign (x y : Int) : ucmp x y = (x - y).sign := by
  unfold ucmp
  split
  · rw [Int.sign_eq_neg_one_of_neg (by omega)]
  · split
    · rw [Int.sign_eq_one_of_pos (by omega)]
    · rw [show x - y = 0 by omega]; rfl
/-- Integral parts first, then what is left, upside down. -/
def cmpI (p q r s : Int) : Int :=
  if h : 0 < q ∧ 0 < s then
    if p / q ≠ r / s then ucmp (p / q) (r / s)
    else if p % q = 0 ∨ r % s = 0 then (p % q).sign - (r % s).sign
    else -(cmpI q (p % q) s (r % s))
  else 0
termination_by q.toNat
decreasing_by
  have := Int.emod_lt_of_pos p h.1
  have := Int.emod_nonneg p (show q ≠ 0 by omega)
  omega
theorem sign_mul_pos {a b : Int} (hb : 0 < b) : (a * b).sign = a.sign := by rw [Int.sign_mul, Int.sign_eq_one_of_pos hb, Int.mul_one]
theorem cmpI_is : ∀ (n : Nat) (p q r s : Int), q.toNat ≤ n → 0 < q → 0 < s → cmpI p q r s = (p * s - r * q).sign
  | 0, p, q, r, s, hn, hq, _ => by omega
  | n + 1, p, q, r, s, hn, hq, hs => by
    have e1 := Int.mul_ediv_add_emod p q
    have e2 := Int.mul_ediv_add_emod r s
    have u0 := Int.emod_nonneg p (show q ≠ 0 by omega)
    have u1 := Int.emod_lt_of_pos p hq
    have v0 := Int.emod_nonneg r (show s ≠ 0 by omega)
    have v1 := Int.emod_lt_of_pos r hs
    have ih := fun h1 h2 => cmpI_is n q (p % q) s (r % s) h1 h2
    unfold cmpI
    rw [dif_pos ⟨hq, hs⟩]
    generalize p / q = x at *
    generalize p % q = u at *
    generalize r / s = y at *
    generalize r % s = v at *
    have hk : p * s - r * q = (x - y) * (q * s) + (u * s - v * q) := by
      rw [← e1, ← e2, Int.add_mul, Int.add_mul, Int.sub_mul]
      rw [show q * x * s = x * (q * s) by rw [Int.mul_comm q x, Int.mul_assoc], show s * y * q = y * (q * s) by rw [Int.mul_comm s y, Int.mul_assoc, Int.mul_comm s q]]
      omega
    have hqs : 0 < q * s := Int.mul_pos hq hs
    have hus0 : 0 ≤ u * s := Int.mul_nonneg u0 (by omega)
    have hvq0 : 0 ≤ v * q := Int.mul_nonneg v0 (by omega)
    have hus1 : u * s < q * s := Int.mul_lt_mul_of_pos_right u1 hs
    have hvq1 : v * q < q * s := by rw [Int.mul_comm q s]; exact Int.mul_lt_mul_of_pos_right v1 hq
    rw [hk]
    split
    · rename_i hne
      rw [ucmp_sign]
      rcases Int.lt_or_gt_of_ne hne with hlt | hgt
      · have : (x - y) * (q * s) ≤ -1 * (q * s) := Int.mul_le_mul_of_nonneg_right (by omega) (by omega)
        rw [Int.sign_eq_neg_one_of_neg (by omega), Int.sign_eq_neg_one_of_neg (by omega)]
      · have : 1 * (q * s) ≤ (x - y) * (q * s) := Int.mul_le_mul_of_nonneg_right (by omega) (by omega)
        rw [Int.sign_eq_one_of_pos (by omega), Int.sign_eq_one_of_pos (by omega)]
    · rename_i heq
      have heq : x = y := Decidable.not_not.1 heq
      rw [show x - y = 0 by omega, Int.zero_mul, Int.zero_add]
      split
      · rename_i h0
        rcases h0 with rfl | rfl
        · rw [Int.zero_mul, Int.zero_sub, Int.sign_neg, sign_mul_pos hq]; simp
        · rw [Int.zero_mul, Int.sub_zero, sign_mul_pos hs]; simp
      · rename_i h0
        have hu : 0 < u := by omega
        have hv : 0 < v := by omega
        rw [ih (by omega) hu hv, ← Int.sign_neg]
        congr 1
        rw [Int.mul_comm q v, Int.mul_comm s u]; omega
theorem cmpI_sign {p q r s : Int} (hq : 0 < q) (hs : 0 < s) : cmpI p q r s = (p * s - r * q).sign := cmpI_is _ p q r s (Nat.le_refl _) hq hs
end Go.Proofs.YtcgocdhhneckhaaGreat
/- Walks: cmp.Compare, slices.Clone at int; big.compare. -/
namespace Go.Proofs.YtcgocdhhneckhaaGreat
open Go.RowKit
theorem ucmp_lt {x y : Int} (h : x < y) : ucmp x y = -1 := by simp [ucmp, h]
theorem ucmp_gt {x y : Int} (h : y < x) : ucmp x y = 1 := by simp [ucmp, h]; omega
theorem ucmp_eq {x y : Int} (h : x = y) : ucmp x y = 0 := by simp [ucmp, h]
set_option maxHeartbeats 400000 in
theorem cmp_int (x y : Int) (w : World) : Calls Tryz.prog 166 #[.int .i64 x, .int .i64 y] w fun e w' => e = .returned (.int .i64 (ucmp x y)) ∧ w = w' := by
  rcases Int.lt_trichotomy x y with h | h | h
  · rw [ucmp_lt h]
    go_enter Tryz.func166, Tryz.ntmps166
    go_wp2
    go_ret
    exact ⟨rfl, rfl⟩
  · rw [ucmp_eq h]
    subst h
    go_enter Tryz.func166, Tryz.ntmps166
    go_wp2
    go_ret
    exact ⟨rfl, rfl⟩
  · rw [ucmp_gt h]
    go_enter Tryz.func166, Tryz.ntmps166
    go_wp2
    go_ret
    exact ⟨rfl, rfl⟩
theorem ienc_one (x : Int) : ∀ u ∈ ienc x, u.oneCell' = true := by intro u hu; simp only [ienc, List.mem_singleton] at hu; subst hu; rfl
set_option maxHeartbeats 400000 in
theorem clone_int (s : Sl Int) (w : World) (hr : Rd (· < w.heap.size) 1 ienc w s) (hb : s.l.length * 8 ≤ 140737488355328) :
    Calls Tryz.prog 144 #[s.v] w fun e w' => ∃ A c, e = .returned (.slice A s.l.length c) ∧ Own w.heap.size 3 1 ienc w' ⟨A, c, s.l⟩ ∧ Below w.heap.size w w' := by
  obtain ⟨A, c, l⟩ := s
  have hcap := hr.cap
  have hlc := hr.lecap
  simp only at hcap hlc hb
  simp only [Sl.v]
  rcases A with _ | ad
  · obtain ⟨hl, hc⟩ := hr.none_ rfl
    simp only at hl hc
    subst hl; subst hc
    have hnil := fun W => Lib.run_eql_slice_nil (P := Tryz.prog) W 60 3 none 0 0 0 0 Tryz.underlying60
    go_enter Tryz.func144, Tryz.ntmps144
    go_wp2_with fail
    go_ret
    exact ⟨none, 0, rfl, Own.nil _ _ _ _ _, Below.refl _ _⟩
  · have HR := Lib.hid hr
    clear hr
    have hnil := fun W => Lib.run_eql_slice_nil (P := Tryz.prog) W 60 3 (some ad) l.length c 0 0 Tryz.underlying60
    go_enter Tryz.func144, Tryz.ntmps144
    go_wp2_with (at_builtin
                 go_must (refine wpl_append_sl _ rfl (.tmp 5) (.tmp 6) _ rfl Tryz.underlying60 infoInt (by omega) ienc_k ienc_one ⟨some ⟨w.heap.size, 0, none⟩, 0, []⟩ ⟨some ad, c, l⟩ rfl rfl (Own.lit w #[] [] (Nat.le_refl _) (Nat.zero_le _) rfl ienc_k) (HR.out.lt_alloc _) (by simp [maxLen]; omega) (by simp; omega) (by simp) ?_)
                 intro A' c' w1 hown hg _)
    go_ret
    exact ⟨A', c', rfl, hown, ((Below.refl _ _).alloc (Nat.le_refl _) _).grown hg (by simp) (by simp [Value.ownBlock])⟩
theorem rd_own {B : Nat} {w : World} {s : Sl Int} (h : Own B 3 1 ienc w s) : Rd (· < w.heap.size) 1 ienc w s := (h.rd ienc_k).mono fun _ hb => hb.2
set_option maxHeartbeats 800000 in
theorem big_compare (a b : Sl Int) (w : World) (ha : Rd (· < w.heap.size) 1 ienc w a) (hb : Rd (· < w.heap.size) 1 ienc w b) (na : Norm a.l) (nb : Norm b.l) :
    Calls Tryz.prog 167 #[a.v, b.v] w fun e w' => e = .returned (.int .i64 (ucmp (val a.l) (val b.l))) ∧ Below w.heap.size w w' := by
  obtain ⟨A, c, l⟩ := a
  obtain ⟨B, d, m⟩ := b
  have hl : l.length ≤ 9223372036854775807 := ha.len
  have hm : m.length ≤ 9223372036854775807 := hb.len
  have HA := Lib.hid ha
  have HB := Lib.hid hb
  have NA := Lib.hid na
  have NB := Lib.hid nb
  clear ha hb na nb
  simp only [Sl.v]
  go_enter Tryz.func167, Tryz.ntmps167
  by_cases hlm : l.length = m.length
  · go_wp2_with fail
    have HLM := Lib.hid hlm
    go_loopw [5] (fun v wr => ∃ (j : Nat), j ≤ l.length ∧ v = .int .i64 ((j : Int) - 1) ∧ Hid (l.drop j = m.drop j) ∧ Below w.heap.size w wr) (fun v _ => ((intOf v) + 1).toNat)
    case atStart => exact ⟨l.length, Nat.le_refl _, by rw [HLM.out], Lib.hid (by rw [List.drop_length, HLM.out, List.drop_length]), Below.refl _ _⟩
    case round =>
      obtain ⟨j, hj, rfl, HD, hbel⟩ := hrel
      clear hlm
      rcases j with _ | j
      · have HE : Hid (ucmp (val l) (val m) = 0) := Lib.hid (by rw [ucmp_eq]; have h := HD.out; rw [List.drop_zero, List.drop_zero] at h; rw [h])
        go_wp2_with fail
        go_ret
        exact ⟨ret_int HE.out.symm, hbel⟩
      · have hjl : j < l.length := by omega
        have hjm : j < m.length := by rw [← HLM.out]; exact hjl
        obtain ⟨b1, o1, hA, _, c0⟩ := (HA.out.later hbel).geti hjl
        obtain ⟨b2, o2, hB, _, c1⟩ := (HB.out.later hbel).geti hjm
        simp only at hA hB c0 c1
        subst hA hB
        have h1 := fun h => ucmp_lt (dig_lt NA.out.ok NB.out.ok hjl hjm HD.out h)
        have h2 := fun h => ucmp_gt (dig_lt NB.out.ok NA.out.ok hjm hjl HD.out.symm h)
        have h3 : l[j] = m[j] → l.drop j = m.drop j := fun h => by rw [List.drop_eq_getElem_cons hjl, List.drop_eq_getElem_cons hjm, h, HD.out]
        generalize l[j] = x at *
        generalize m[j] = y at *
        have H1 := Lib.hid h1
        have H2 := Lib.hid h2
        have H3 := Lib.hid h3
        clear h1 h2 h3
        go_wp2_with fail
        refine wp_region_T (fun W => W.cell? ⟨b1, o1 + j, none⟩ = some (.int .i64 x) ∧ W.cell? ⟨b2, o2 + j, none⟩ = some (.int .i64 y)) (fun _ => false) (by kernel_rfl) ⟨c0, c1⟩ (fun hHeld => ?_)
        refine qtq 0 ?_
        simp only [qsa, qsb, qsc]
        refine qtq 1 ?_
        simp only [qsa, qsb, qsc]
        refine qtq 2 ?_
        simp only [qsa, qsb, qsc]
        refine qtq 3 ?_
        simp only [qsa, qsb, qsc]
        refine qtq 4 ?_
        simp only [qsa, qsb, qsc]
        refine qtq 5 ?_
        simp only [qsa, qsb, qsc]
        refine qtq 6 ?_
        simp only [qsa, qsb, qsc]
        refine qtq 7 ?_
        simp only [qsa, qsb, qsc]
        refine qtq 8 ?_
        simp only [qsa, qsb, qsc]
        refine wpAnyT_done (by kernel_rfl) ?_ _
        clear hHeld
        by_cases hxy : x = y
        · have HD2 := Lib.hid (H3.out hxy)
          clear HD H1 H2 H3
          go_wp2_with fail
          go_roundw
          case rel => exact ⟨j, by omega, by go_num, HD2, Below.drew hbel⟩
          case measure => simp [intOf]
        · have HU : Hid (ucmp x y = ucmp (val l) (val m)) := Lib.hid (by
            rcases Int.lt_or_gt_of_ne hxy with h | h
            · rw [ucmp_lt h, H1.out h]
            · rw [ucmp_gt h, H2.out h])
          clear HD H1 H2 H3
          go_wp2_with fail
          refine wp_region_T (fun W => W.cell? ⟨b1, o1 + j, none⟩ = some (.int .i64 x) ∧ W.cell? ⟨b2, o2 + j, none⟩ = some (.int .i64 y)) (fun _ => false) (by kernel_rfl) ⟨c0, c1⟩ (fun hHeld => ?_)
          refine qtq 0 ?_
          simp only [qsa, qsb, qsc]
          refine qtq 1 ?_
          simp only [qsa, qsb, qsc]
          refine qtq 2 ?_
          simp only [qsa, qsb, qsc]
          refine qtq 3 ?_
          simp only [qsa, qsb, qsc]
          refine qtq 4 ?_
          simp only [qsa, qsb, qsc]
          refine qtq 5 ?_
          simp only [qsa, qsb, qsc]
          refine qtq 6 ?_
          simp only [qsa, qsb, qsc]
          refine qtq 7 ?_
          simp only [qsa, qsb, qsc]
          clear hHeld
          refine wpAnyT_next (i := 8) (by kernel_rfl) rfl ?_
          go_wp2_with fail
          refine (cmp_int x y _).mono ?_
          rintro e w' ⟨rfl, rfl⟩
          go_wp2_with fail
          refine And.intro (by first | exact fun _ => ⟨c0, c1⟩ | exact ⟨c0, c1⟩) ?_
          have hHeld := (⟨c0, c1⟩ : wr.cell? ⟨b1, o1 + j, none⟩ = some (.int .i64 x) ∧ wr.cell? ⟨b2, o2 + j, none⟩ = some (.int .i64 y))
          refine qtq 9 ?_
          simp only [qsa, qsb, qsc]
          refine wpAnyT_done (by kernel_rfl) ?_ _
          clear hHeld
          go_wp2_with fail
          go_ret
          exact ⟨ret_int HU.out, Below.drew (Below.drew hbel)⟩
  · go_wp2_with fail
    refine (cmp_int _ _ _).mono ?_
    rintro e w' ⟨rfl, rfl⟩
    have HC : Hid (ucmp (l.length : Int) (m.length : Int) = ucmp (val l) (val m)) := Lib.hid (by
      rcases Nat.lt_or_gt_of_ne hlm with h | h
      · rw [ucmp_lt (by omega), ucmp_lt (len_lt NA.out.ok NB.out h)]
      · rw [ucmp_gt (by omega), ucmp_gt (len_lt NB.out.ok NA.out h)])
    go_wp2_with fail
    go_ret
    exact ⟨ret_int HC.out, Below.refl _ _⟩
end Go.Proofs.YtcgocdhhneckhaaGreat
