/- Walks of the reference of layer 41: where a note is, what is less, what comes before, what comes first; and merge.Before. -/
import Derived.Test.YthnblhbdfpmolaaPNotemxay
namespace Go.Proofs.Ythnblhbdfpmolaa
open Go.RowKit
/-- An index, or -1. -/
def oi : Option Nat → Int
  | none => -1
  | some i => i
theorem atN_found {l : List NoteD} {d q : Int} {k : Nat} (hk : k < l.length) (h : isK d q l[k] = true) (hno : ∀ j, (hj : j < l.length) → j < k → isK d q l[j] = false) : atN l d q = some k := by
  unfold atN
  rw [List.findIdx?_eq_some_iff_getElem]
  exact ⟨hk, h, fun j hj => by rw [hno j (by omega) hj]; simp⟩
theorem atN_none {l : List NoteD} {d q : Int} (hno : ∀ j, (hj : j < l.length) → isK d q l[j] = false) : atN l d q = none := by
  unfold atN
  rw [List.findIdx?_eq_none_iff]
  intro x hx
  obtain ⟨j, hj, rfl⟩ := List.mem_iff_getElem.1 hx
  exact hno j hj
set_option maxHeartbeats 800000 in
theorem rAt (s : Sl Note) (d q : Int) (w : World) (hr : Rd (· < w.heap.size) 5 Note.enc w s) :
    Calls Try.prog 84 #[.slice s.A s.l.length s.c, .int .i64 d, .int .i64 q] w fun e w' => e = .returned (.int .i64 (oi (atN (s.l.map Note.d) d q))) ∧ w = w' := by
  obtain ⟨A, c, l⟩ := s
  have hn := hr.len
  simp only at hn
  have HR := Lib.hid hr
  clear hr
  simp only
  go_enter Try.func84, Try.ntmps84
  go_wp2_with fail
  go_loopw [7] (fun i wr => ∃ (k : Nat), k ≤ l.length ∧ i = .int .i64 k ∧ wr = w ∧ (∀ j x, j < k → l[j]? = some x → isK d q x.d = false)) (fun i _ => l.length - (intOf i).toNat)
  case atStart => exact ⟨0, by omega, rfl, rfl, fun j x hj => absurd hj (Nat.not_lt_zero _)⟩
  case round =>
    obtain ⟨k, hk, rfl, rfl, hall⟩ := hrel
    have HALL := Lib.hid hall
    clear hall
    by_cases hlt : k < l.length
    · obtain ⟨b, o, rfl, hb, hcl⟩ := HR.out.at1 hlt
      obtain ⟨g0, g1, g2, g3, g4⟩ := Cells.c5 hcl
      have hx : l[k]? = some l[k] := List.getElem?_eq_getElem hlt
      generalize l[k] = x at *
      have HX := Lib.hid hx
      clear hx hcl
      obtain ⟨xd, xq, xa, xt, xx⟩ := x
      have hno : isK d q (Note.d ⟨xd, xq, xa, xt, xx⟩) = false → ∀ j x, j < k + 1 → l[j]? = some x → isK d q x.d = false := by
        intro h j x hj hx
        rcases Nat.lt_or_ge j k with h1 | h1
        · exact HALL.out j x h1 hx
        · obtain rfl : j = k := by omega
          rw [HX.out] at hx; injection hx with hx; subst hx; exact h
      have HNO := Lib.hid hno
      clear hno
      by_cases h1 : xd = d
      · by_cases h2 : xq = q
        · have hv : atN (l.map Note.d) d q = some k := by
            refine atN_found (by simpa using hlt) ?_ (fun j hj hjk => ?_)
            · have := (List.getElem?_eq_some_iff.1 HX.out).2
              rw [List.getElem_map, this, isK_iff]; exact ⟨h1, h2⟩
            · have hj' : j < l.length := by simpa using hj
              rw [List.getElem_map]; exact HALL.out j _ hjk (List.getElem?_eq_getElem hj')
          have HV := Lib.hid hv
          clear hv
          have e1 : (xd == d) = true := by simp [h1]
          have e2 : (xq == q) = true := by simp [h2]
          clear h1 h2
          go_wp2_with fail
          go_ret
          exact ⟨ret_int (by rw [HV.out]; rfl), rfl⟩
        · have e1 : (xd == d) = true := by simp [h1]
          have e2 : (xq == q) = false := by simp [h2]
          have HS := Lib.hid (HNO.out (by simp [isK, Note.d, h2]))
          clear h1 h2
          go_wp2_with fail
          go_roundw
          case rel => exact ⟨k + 1, by omega, by go_num, by first | rfl | trivial, HS.out⟩
          case measure => simp [intOf]; omega
      · have e1 : (xd == d) = false := by simp [h1]
        have HS := Lib.hid (HNO.out (by simp [isK, Note.d, h1]))
        clear h1
        go_wp2_with fail
        go_roundw
        case rel => exact ⟨k + 1, by omega, by go_num, by first | rfl | trivial, HS.out⟩
        case measure => simp [intOf]; omega
    · have hv : atN (l.map Note.d) d q = none := by
        refine atN_none (fun j hj => ?_)
        have hj' : j < l.length := by simpa using hj
        rw [List.getElem_map]; exact HALL.out j _ (by omega) (List.getElem?_eq_getElem hj')
      have HV := Lib.hid hv
      clear hv
      go_wp2_with fail
      go_ret
      exact ⟨ret_int (by rw [HV.out]; rfl), rfl⟩
set_option maxHeartbeats 600000 in
theorem rless (a b : Note) (w : World) :
    Calls Try.prog 85 #[a.v, b.v] w fun e w' => e = .returned (.bool (lessN a.d b.d)) ∧ Below w.heap.size w w' := by
  obtain ⟨ad, aq, ⟨aA, ac, al⟩, at', ax⟩ := a
  obtain ⟨bd, bq, ⟨bA, bc, bl⟩, bt, bx⟩ := b
  simp only [Note.v]
  have hv : lessN (Note.d ⟨ad, aq, ⟨aA, ac, al⟩, at', ax⟩) (Note.d ⟨bd, bq, ⟨bA, bc, bl⟩, bt, bx⟩) = (decide (ad < bd) || (decide (ad = bd) && decide (aq < bq))) := rfl
  rw [hv]
  clear hv
  rcases Int.lt_trichotomy ad bd with h | h | h
  · go_enter Try.func85, Try.ntmps85
    go_wp2_with fail
    go_ret
    exact ⟨ret_bool (by simp [h]), qbl⟩
  · subst h
    have e0 : decide (ad < ad) = false := by simp
    rcases Int.lt_or_le aq bq with h2 | h2
    · go_enter Try.func85, Try.ntmps85
      go_wp2_with fail
      go_ret
      exact ⟨ret_bool (by simp [h2]), qbl⟩
    · go_enter Try.func85, Try.ntmps85
      go_wp2_with fail
      go_ret
      exact ⟨ret_bool (by first | (simp; done) | (simp; omega)), qbl⟩
  · have e1 : (ad == bd) = false := by simp; omega
    go_enter Try.func85, Try.ntmps85
    go_wp2_with fail
    go_ret
    exact ⟨ret_bool (by first | (simp; done) | (simp; omega)), qbl⟩
set_option maxHeartbeats 600000 in
theorem rfirst (a b : Note) (w : World) :
    Calls Try.prog 89 #[a.v, b.v] w fun e w' => e = .returned (.bool (firstN a.d b.d)) ∧ Below w.heap.size w w' := by
  obtain ⟨ad, aq, ⟨aA, ac, al⟩, at', ax⟩ := a
  obtain ⟨bd, bq, ⟨bA, bc, bl⟩, bt, bx⟩ := b
  by_cases h : at' = bt
  · have hv : firstN (Note.d ⟨ad, aq, ⟨aA, ac, al⟩, at', ax⟩) (Note.d ⟨bd, bq, ⟨bA, bc, bl⟩, bt, bx⟩) = lessN (Note.d ⟨ad, aq, ⟨aA, ac, al⟩, at', ax⟩) (Note.d ⟨bd, bq, ⟨bA, bc, bl⟩, bt, bx⟩) := by
      unfold firstN; rw [if_neg (by simpa [Note.d] using h)]
    rw [hv]
    clear hv
    have e1 : (at' != bt) = false := by simp [h]
    clear h
    simp only [Note.v]
    go_enter Try.func89, Try.ntmps89
    go_wp2_with fail
    refine (rless ⟨ad, aq, ⟨aA, ac, al⟩, at', ax⟩ ⟨bd, bq, ⟨bA, bc, bl⟩, bt, bx⟩ _).mono ?_
    rintro e w1 ⟨rfl, hb1⟩
    have hB1 : Below w.heap.size w w1 := qbv
    clear hb1
    generalize hr : lessN (Note.d ⟨ad, aq, ⟨aA, ac, al⟩, at', ax⟩) (Note.d ⟨bd, bq, ⟨bA, bc, bl⟩, bt, bx⟩) = r
    have HR := Lib.hid hr
    clear hr
    go_wp2_with fail
    go_ret
    exact ⟨ret_bool HR.out.symm, qbv⟩
  · have hv : firstN (Note.d ⟨ad, aq, ⟨aA, ac, al⟩, at', ax⟩) (Note.d ⟨bd, bq, ⟨bA, bc, bl⟩, bt, bx⟩) = decide (at' < bt) := by
      unfold firstN; rw [if_pos (by simpa [Note.d] using h)]; rfl
    rw [hv]
    clear hv
    have e1 : (at' != bt) = true := by simp [h]
    clear h
    simp only [Note.v]
    go_enter Try.func89, Try.ntmps89
    go_wp2_with fail
    go_ret
    exact ⟨rfl, qbl⟩
set_option maxHeartbeats 600000 in
theorem rbefore_no1 (a b : Note) (w : World) (ha : Rd (· < w.heap.size) 1 ienc w a.af) (h : a.d.right = false) :
    Calls Try.prog 43 #[a.v, b.v] w fun e w' => e = .returned (.bool false) ∧ Below w.heap.size w w' := by
  obtain ⟨ad, aq, ⟨aA, ac, al⟩, at', ax⟩ := a
  obtain ⟨bd, bq, ⟨bA, bc, bl⟩, bt, bx⟩ := b
  have HA := Lib.hid ha
  have HF := Lib.hid h
  clear ha h
  simp only [Note.v]
  go_enter Try.func43, Try.ntmps43
  go_wp2_with fail
  refine (rone ⟨ad, aq, ⟨aA, ac, al⟩, at', ax⟩ _ (HA.out.below' qbl (Nat.le_refl _))).mono ?_
  rintro e w1 ⟨rfl, hb1⟩
  rw [HF.out]
  have hB1 : Below w.heap.size w w1 := qbv
  clear hb1
  go_wp2_with fail
  go_ret
  exact ⟨rfl, qbv⟩
set_option maxHeartbeats 600000 in
theorem rbefore_no2 (a b : Note) (w : World) (ha : Rd (· < w.heap.size) 1 ienc w a.af) (hb : Rd (· < w.heap.size) 1 ienc w b.af) (h : a.d.right = true) (h2 : b.d.right = false) :
    Calls Try.prog 43 #[a.v, b.v] w fun e w' => e = .returned (.bool false) ∧ Below w.heap.size w w' := by
  obtain ⟨ad, aq, ⟨aA, ac, al⟩, at', ax⟩ := a
  obtain ⟨bd, bq, ⟨bA, bc, bl⟩, bt, bx⟩ := b
  have HA := Lib.hid ha
  have HB := Lib.hid hb
  have HF := Lib.hid h
  have HG := Lib.hid h2
  clear ha hb h h2
  simp only [Note.v]
  go_enter Try.func43, Try.ntmps43
  go_wp2_with fail
  refine (rone ⟨ad, aq, ⟨aA, ac, al⟩, at', ax⟩ _ (HA.out.below' qbl (Nat.le_refl _))).mono ?_
  rintro e w1 ⟨rfl, hb1⟩
  rw [HF.out]
  have K_b : Blk _ (w.heap.size + 1) 61 #[.int .i64 bd, .int .i64 bq, .slice bA bl.length bc, .int .i64 bt, .string bx] := qkb hb1
  obtain ⟨b0, b1, b2, b3, b4, bf, bz⟩ := Blk.b5 K_b
  have B_b := Lib.hid K_b
  clear K_b
  have hB1 : Below w.heap.size w w1 := qbv
  clear hb1
  go_wp2_with fail
  refine (rone ⟨bd, bq, ⟨bA, bc, bl⟩, bt, bx⟩ _ (HB.out.below' qbv (Nat.le_refl _))).mono ?_
  rintro e w2 ⟨rfl, hb2⟩
  rw [HG.out]
  have hB2 : Below w.heap.size w w2 := qbv
  clear hb2
  go_wp2_with fail
  go_ret
  exact ⟨rfl, qbv⟩
set_option maxHeartbeats 600000 in
theorem mbefore_no1 (a b : Note) (w : World) (ha : Rd (· < w.heap.size) 1 ienc w a.af) (h : a.d.right = false) :
    Calls Try.prog 42 #[a.v, b.v] w fun e w' => e = .returned (.bool false) ∧ Below w.heap.size w w' := by
  obtain ⟨ad, aq, ⟨aA, ac, al⟩, at', ax⟩ := a
  obtain ⟨bd, bq, ⟨bA, bc, bl⟩, bt, bx⟩ := b
  have HA := Lib.hid ha
  have HF := Lib.hid h
  clear ha h
  simp only [Note.v]
  go_enter Try.func42, Try.ntmps42
  go_wp2_with fail
  refine (mright ⟨ad, aq, ⟨aA, ac, al⟩, at', ax⟩ _ (HA.out.below' qbl (Nat.le_refl _))).mono ?_
  rintro e w1 ⟨rfl, hb1⟩
  rw [HF.out]
  have hB1 : Below w.heap.size w w1 := qbv
  clear hb1
  go_wp2_with fail
  go_ret
  exact ⟨rfl, qbv⟩
set_option maxHeartbeats 600000 in
theorem mbefore_no2 (a b : Note) (w : World) (ha : Rd (· < w.heap.size) 1 ienc w a.af) (hb : Rd (· < w.heap.size) 1 ienc w b.af) (h : a.d.right = true) (h2 : b.d.right = false) :
    Calls Try.prog 42 #[a.v, b.v] w fun e w' => e = .returned (.bool false) ∧ Below w.heap.size w w' := by
  obtain ⟨ad, aq, ⟨aA, ac, al⟩, at', ax⟩ := a
  obtain ⟨bd, bq, ⟨bA, bc, bl⟩, bt, bx⟩ := b
  have HA := Lib.hid ha
  have HB := Lib.hid hb
  have HF := Lib.hid h
  have HG := Lib.hid h2
  clear ha hb h h2
  simp only [Note.v]
  go_enter Try.func42, Try.ntmps42
  go_wp2_with fail
  refine (mright ⟨ad, aq, ⟨aA, ac, al⟩, at', ax⟩ _ (HA.out.below' qbl (Nat.le_refl _))).mono ?_
  rintro e w1 ⟨rfl, hb1⟩
  rw [HF.out]
  have K_b : Blk _ (w.heap.size + 1) 61 #[.int .i64 bd, .int .i64 bq, .slice bA bl.length bc, .int .i64 bt, .string bx] := qkb hb1
  obtain ⟨b0, b1, b2, b3, b4, bf, bz⟩ := Blk.b5 K_b
  have B_b := Lib.hid K_b
  clear K_b
  have hB1 : Below w.heap.size w w1 := qbv
  clear hb1
  go_wp2_with fail
  refine (mright ⟨bd, bq, ⟨bA, bc, bl⟩, bt, bx⟩ _ (HB.out.below' qbv (Nat.le_refl _))).mono ?_
  rintro e w2 ⟨rfl, hb2⟩
  rw [HG.out]
  have hB2 : Below w.heap.size w w2 := qbv
  clear hb2
  go_wp2_with fail
  go_ret
  exact ⟨rfl, qbv⟩
set_option maxHeartbeats 800000 in
theorem mbefore_yes (a b : Note) (w : World) (ha : Rd (· < w.heap.size) 1 ienc w a.af) (hb : Rd (· < w.heap.size) 1 ienc w b.af) (h : a.d.right = true) (h2 : b.d.right = true) :
    Calls Try.prog 42 #[a.v, b.v] w fun e w' => e = .returned (.bool (befN a.d b.d)) ∧ Below w.heap.size w w' := by
  have h0 := (right_rng h).1.1
  obtain ⟨ad, aq, ⟨aA, ac, al⟩, at', ax⟩ := a
  obtain ⟨bd, bq, ⟨bA, bc, bl⟩, bt, bx⟩ := b
  have HA := Lib.hid ha
  have HB := Lib.hid hb
  have HF := Lib.hid h
  have HG := Lib.hid h2
  clear ha hb h h2
  simp only [Note.d] at h0
  simp only [Note.v]
  go_enter Try.func42, Try.ntmps42
  go_wp2_with fail
  refine (mright ⟨ad, aq, ⟨aA, ac, al⟩, at', ax⟩ _ (HA.out.below' qbl (Nat.le_refl _))).mono ?_
  rintro e w1 ⟨rfl, hb1⟩
  rw [HF.out]
  have K_a : Blk _ (w.heap.size) 61 #[.int .i64 ad, .int .i64 aq, .slice aA al.length ac, .int .i64 at', .string ax] := qkb hb1
  obtain ⟨a0, a1, a2, a3, a4, af, az⟩ := Blk.b5 K_a
  have B_a := Lib.hid K_a
  clear K_a
  have K_b : Blk _ (w.heap.size + 1) 61 #[.int .i64 bd, .int .i64 bq, .slice bA bl.length bc, .int .i64 bt, .string bx] := qkb hb1
  obtain ⟨b0, b1, b2, b3, b4, bf, bz⟩ := Blk.b5 K_b
  have B_b := Lib.hid K_b
  clear K_b
  have hB1 : Below w.heap.size w w1 := qbv
  clear hb1
  go_wp2_with fail
  refine (mright ⟨bd, bq, ⟨bA, bc, bl⟩, bt, bx⟩ _ (HB.out.below' qbv (Nat.le_refl _))).mono ?_
  rintro e w2 ⟨rfl, hb2⟩
  rw [HG.out]
  clear a0 a1 a2 a3 a4 af b0 b1 b2 b3 b4 bf
  have K_a : Blk _ (w.heap.size) 61 #[.int .i64 ad, .int .i64 aq, .slice aA al.length ac, .int .i64 at', .string ax] := qkc B_a hb2
  obtain ⟨a0, a1, a2, a3, a4, af, az⟩ := Blk.b5 K_a
  have B_a := Lib.hid K_a
  clear K_a
  have K_b : Blk _ (w.heap.size + 1) 61 #[.int .i64 bd, .int .i64 bq, .slice bA bl.length bc, .int .i64 bt, .string bx] := qkc B_b hb2
  obtain ⟨b0, b1, b2, b3, b4, bf, bz⟩ := Blk.b5 K_b
  have B_b := Lib.hid K_b
  clear K_b
  have hB2 : Below w.heap.size w w2 := qbv
  clear hb2
  go_wp2_with fail
  refine (mbefore0 ⟨ad, aq, ⟨aA, ac, al⟩, at', ax⟩ ⟨bd, bq, ⟨bA, bc, bl⟩, bt, bx⟩ h0 _ (HB.out.below' qbv (Nat.le_refl _))).mono ?_
  rintro e w3 ⟨rfl, hb3⟩
  have hB3 : Below w.heap.size w w3 := qbv
  clear hb3
  generalize hr : befN (Note.d ⟨ad, aq, ⟨aA, ac, al⟩, at', ax⟩) (Note.d ⟨bd, bq, ⟨bA, bc, bl⟩, bt, bx⟩) = r
  have HR := Lib.hid hr
  clear hr
  go_wp2_with fail
  go_ret
  exact ⟨ret_bool HR.out.symm, qbv⟩
set_option maxHeartbeats 800000 in
theorem rbefore_yes (a b : Note) (w : World) (ha : Rd (· < w.heap.size) 1 ienc w a.af) (hb : Rd (· < w.heap.size) 1 ienc w b.af) (h : a.d.right = true) (h2 : b.d.right = true) :
    Calls Try.prog 43 #[a.v, b.v] w fun e w' => e = .returned (.bool (befN a.d b.d)) ∧ Below w.heap.size w w' := by
  obtain ⟨ad, aq, ⟨aA, ac, al⟩, at', ax⟩ := a
  obtain ⟨bd, bq, ⟨bA, bc, bl⟩, bt, bx⟩ := b
  have HA := Lib.hid ha
  have HB := Lib.hid hb
  have HF := Lib.hid h
  have HG := Lib.hid h2
  clear ha hb h h2
  have hv : befN (Note.d ⟨ad, aq, ⟨aA, ac, al⟩, at', ax⟩) (Note.d ⟨bd, bq, ⟨bA, bc, bl⟩, bt, bx⟩) = if ad = bd then decide (aq < bq) else decide (aq < seenN bl ad) := rfl
  have HV := Lib.hid hv
  clear hv
  simp only [Note.v]
  go_enter Try.func43, Try.ntmps43
  go_wp2_with fail
  refine (rone ⟨ad, aq, ⟨aA, ac, al⟩, at', ax⟩ _ (HA.out.below' qbl (Nat.le_refl _))).mono ?_
  rintro e w1 ⟨rfl, hb1⟩
  rw [HF.out]
  have K_a : Blk _ (w.heap.size) 61 #[.int .i64 ad, .int .i64 aq, .slice aA al.length ac, .int .i64 at', .string ax] := qkb hb1
  obtain ⟨a0, a1, a2, a3, a4, af, az⟩ := Blk.b5 K_a
  have B_a := Lib.hid K_a
  clear K_a
  have K_b : Blk _ (w.heap.size + 1) 61 #[.int .i64 bd, .int .i64 bq, .slice bA bl.length bc, .int .i64 bt, .string bx] := qkb hb1
  obtain ⟨b0, b1, b2, b3, b4, bf, bz⟩ := Blk.b5 K_b
  have B_b := Lib.hid K_b
  clear K_b
  have hB1 : Below w.heap.size w w1 := qbv
  clear hb1
  go_wp2_with fail
  refine (rone ⟨bd, bq, ⟨bA, bc, bl⟩, bt, bx⟩ _ (HB.out.below' qbv (Nat.le_refl _))).mono ?_
  rintro e w2 ⟨rfl, hb2⟩
  rw [HG.out]
  clear a0 a1 a2 a3 a4 af b0 b1 b2 b3 b4 bf
  have K_a : Blk _ (w.heap.size) 61 #[.int .i64 ad, .int .i64 aq, .slice aA al.length ac, .int .i64 at', .string ax] := qkc B_a hb2
  obtain ⟨a0, a1, a2, a3, a4, af, az⟩ := Blk.b5 K_a
  have B_a := Lib.hid K_a
  clear K_a
  have K_b : Blk _ (w.heap.size + 1) 61 #[.int .i64 bd, .int .i64 bq, .slice bA bl.length bc, .int .i64 bt, .string bx] := qkc B_b hb2
  obtain ⟨b0, b1, b2, b3, b4, bf, bz⟩ := Blk.b5 K_b
  have B_b := Lib.hid K_b
  clear K_b
  have hB2 : Below w.heap.size w w2 := qbv
  clear hb2
  by_cases hd : ad = bd
  · have e1 : (ad == bd) = true := by simp [hd]
    have HD := Lib.hid hd
    clear hd
    go_wp2_with fail
    go_ret
    exact ⟨ret_bool (by rw [HV.out, if_pos HD.out]), qbv⟩
  · have e1 : (ad == bd) = false := by simp [hd]
    have HD := Lib.hid hd
    clear hd
    go_wp2_with fail
    refine wp_region_T (fun w' => (w'.cell? ⟨w.heap.size, 0, none⟩ = some (.int .i64 ad) ∧ w'.cell? ⟨w.heap.size, 1, none⟩ = some (.int .i64 aq) ∧ w'.cell? ⟨w.heap.size, 2, none⟩ = some (.slice aA al.length ac) ∧ w'.cell? ⟨w.heap.size, 3, none⟩ = some (.int .i64 at') ∧ w'.cell? ⟨w.heap.size, 4, none⟩ = some (.string ax)) ∧ (w'.cell? ⟨w.heap.size + 1, 0, none⟩ = some (.int .i64 bd) ∧ w'.cell? ⟨w.heap.size + 1, 1, none⟩ = some (.int .i64 bq) ∧ w'.cell? ⟨w.heap.size + 1, 2, none⟩ = some (.slice bA bl.length bc) ∧ w'.cell? ⟨w.heap.size + 1, 3, none⟩ = some (.int .i64 bt) ∧ w'.cell? ⟨w.heap.size + 1, 4, none⟩ = some (.string bx))) (fun _ => false) (by kernel_rfl) ⟨⟨a0, a1, a2, a3, a4⟩, b0, b1, b2, b3, b4⟩ (fun hHeld => ?_)
    refine qtq 0 ?_
    simp only [qsa, qsb, qsc]
    refine qtq 1 ?_
    simp only [qsa, qsb, qsc]
    refine qtq 2 ?_
    simp only [qsa, qsb, qsc]
    refine qtq 3 ?_
    simp only [qsa, qsb, qsc]
    refine qtq 4 ?_
    simp only [qsa, qsb, qsc]
    clear hHeld
    refine wpAnyT_next (i := 5) (by kernel_rfl) rfl ?_
    go_wp2_with fail
    refine (rseen ⟨bd, bq, ⟨bA, bc, bl⟩, bt, bx⟩ ad _ (HB.out.below' qbv (Nat.le_refl _))).mono ?_
    rintro e w3 ⟨rfl, hb3⟩
    clear a0 a1 a2 a3 a4 af b0 b1 b2 b3 b4 bf
    have K_a : Blk _ (w.heap.size) 61 #[.int .i64 ad, .int .i64 aq, .slice aA al.length ac, .int .i64 at', .string ax] := qkc B_a hb3
    obtain ⟨a0, a1, a2, a3, a4, af, az⟩ := Blk.b5 K_a
    have B_a := Lib.hid K_a
    clear K_a
    have K_b : Blk _ (w.heap.size + 1) 61 #[.int .i64 bd, .int .i64 bq, .slice bA bl.length bc, .int .i64 bt, .string bx] := qkc B_b hb3
    obtain ⟨b0, b1, b2, b3, b4, bf, bz⟩ := Blk.b5 K_b
    have B_b := Lib.hid K_b
    clear K_b
    have hB3 : Below w.heap.size w w3 := qbv
    clear hb3
    try simp only
    generalize hva : seenN bl ad = va
    have HVA := Lib.hid hva
    clear hva
    go_wp2_with fail
    refine ⟨(by first | exact fun _ => ⟨⟨a0, a1, a2, a3, a4⟩, b0, b1, b2, b3, b4⟩ | exact ⟨⟨a0, a1, a2, a3, a4⟩, b0, b1, b2, b3, b4⟩), ?_⟩
    have hHeld := And.intro (And.intro a0 (And.intro a1 (And.intro a2 (And.intro a3 a4)))) (And.intro b0 (And.intro b1 (And.intro b2 (And.intro b3 b4))))
    refine qtq 6 ?_
    simp only [qsa, qsb, qsc]
    refine qtq 7 ?_
    simp only [qsa, qsb, qsc]
    refine wpAnyT_done (by kernel_rfl) ?_ _
    clear hHeld
    go_wp2_with fail
    go_ret
    exact ⟨by rw [HV.out, if_neg HD.out, HVA.out]; simp [Act.eval, go_sem], qbv⟩
theorem rbefore (a b : Note) (w : World) (ha : Rd (· < w.heap.size) 1 ienc w a.af) (hb : Rd (· < w.heap.size) 1 ienc w b.af) :
    Calls Try.prog 43 #[a.v, b.v] w fun e w' => e = .returned (.bool (beforeN a.d b.d)) ∧ Below w.heap.size w w' := by
  unfold beforeN
  rcases h : a.d.right
  · simpa using rbefore_no1 a b w ha h
  · rcases h2 : b.d.right
    · simpa using rbefore_no2 a b w ha hb h h2
    · simpa using rbefore_yes a b w ha hb h h2
theorem mbefore (a b : Note) (w : World) (ha : Rd (· < w.heap.size) 1 ienc w a.af) (hb : Rd (· < w.heap.size) 1 ienc w b.af) :
    Calls Try.prog 42 #[a.v, b.v] w fun e w' => e = .returned (.bool (beforeN a.d b.d)) ∧ Below w.heap.size w w' := by
  unfold beforeN
  rcases h : a.d.right
  · simpa using mbefore_no1 a b w ha h
  · rcases h2 : b.d.right
    · simpa using mbefore_no2 a b w ha hb h h2
    · simpa using mbefore_yes a b w ha hb h h2
end Go.Proofs.Ythnblhbdfpmolaa
