/- Walks of package merge: what a note has seen, the same notes, what comes before, what is ready; the comparing of the sort. -/
import Derived.Test.YthnblhbdfpmolaaPNotemxax
import Derived.Test.YthnblhbdfpmolaaPNotemxav
import Derived.Test.YthnblhbdfpmolaaPNotemxab
import Derived.DeepKeys4
import Derived.Maps.OwnOps
import Derived.Test.YthnblhbdfpmolaaPNotemxae
import Derived.LoopN
namespace Go.Proofs.Ythnblhbdfpmolaa
open Go.RowKit
set_option maxHeartbeats 800000 in
theorem mafter (n : Note) (d : Int) (h0 : 0 ≤ d) (w : World) (hr : Rd (· < w.heap.size) 1 ienc w n.af) :
    Calls Try.prog 119 #[n.v, .int .i64 d] w fun e w' => e = .returned (.int .i64 (seenN n.af.l d)) ∧ Below w.heap.size w w' := by
  obtain ⟨nd, ns, ⟨A, c, l⟩, nt, nx⟩ := n
  have HR := Lib.hid hr
  clear hr
  simp only [Note.v]
  rcases Int.lt_or_le d l.length with h | h
  · obtain ⟨j, rfl⟩ := Int.eq_ofNat_of_zero_le h0
    have hj : j < l.length := by omega
    obtain ⟨b, o, rfl, hb, hcl⟩ := HR.out.at1 hj
    have g0 := hcl.c1
    simp only [Nat.mul_one] at g0
    have hv : seenN l j = l[j] := by unfold seenN; rw [if_pos ⟨h0, h⟩]; simp [List.getD, hj]
    have HV := Lib.hid hv
    clear hv hcl
    generalize l[j] = y at *
    go_enter Try.func119, Try.ntmps119
    go_wp2_with fail
    go_ret
    exact ⟨ret_int HV.out.symm, qbl⟩
  · have hv : seenN l d = 0 := by unfold seenN; rw [if_neg (by omega)]
    have HV := Lib.hid hv
    clear hv
    go_enter Try.func119, Try.ntmps119
    go_wp2_with fail
    go_ret
    exact ⟨ret_int HV.out.symm, qbl⟩
/-- As the program compares: twelve devices. -/
def NoteD.psame (a b : NoteD) : Bool := decide (∀ i : Nat, i < 12 → seenN a.af i = seenN b.af i) && (decide (a.dev = b.dev) && (decide (a.seq = b.seq) && (decide (a.tm = b.tm) && decide (a.tx = b.tx))))
theorem seenN_past {l : List Int} {i : Nat} (h : l.length ≤ i) : seenN l i = 0 := by unfold seenN; rw [if_neg (by omega)]
theorem NoteD.psame_same {a b : NoteD} (ha : a.af.length ≤ 12) (hb : b.af.length ≤ 12) : a.psame b = a.same b := by
  unfold NoteD.psame NoteD.same
  congr 1
  rw [decide_eq_decide]
  constructor
  · intro h i hi
    exact h i (by omega)
  · intro h i hi
    rcases Nat.lt_or_ge i (max a.af.length b.af.length) with h1 | h1
    · exact h i h1
    · rw [seenN_past (by omega), seenN_past (by omega)]
theorem NoteD.psame_no {a b : NoteD} {k : Nat} (hk : k < 12) (h : seenN a.af k ≠ seenN b.af k) : a.psame b = false := by
  unfold NoteD.psame
  rw [decide_eq_false (fun hc => h (hc k hk)), Bool.false_and]
theorem NoteD.psame_yes {a b : NoteD} (h : ∀ j : Nat, j < 12 → seenN a.af j = seenN b.af j) : a.psame b = (decide (a.dev = b.dev) && (decide (a.seq = b.seq) && (decide (a.tm = b.tm) && decide (a.tx = b.tx)))) := by
  unfold NoteD.psame
  rw [decide_eq_true h, Bool.true_and]
set_option maxHeartbeats 1000000 in
theorem msame (a b : Note) (w : World) (ha : Rd (· < w.heap.size) 1 ienc w a.af) (hb : Rd (· < w.heap.size) 1 ienc w b.af) :
    Calls Try.prog 79 #[a.v, b.v] w fun e w' => e = .returned (.bool (a.d.psame b.d)) ∧ Below w.heap.size w w' := by
  obtain ⟨ad, aq, ⟨aA, ac, al⟩, at', ax⟩ := a
  obtain ⟨bd, bq, ⟨bA, bc, bl⟩, bt, bx⟩ := b
  have HA := Lib.hid ha
  have HB := Lib.hid hb
  clear ha hb
  simp only [Note.v]
  go_enter Try.func79, Try.ntmps79
  go_wp2_with fail
  go_loopw [6] (fun i wr => ∃ (k : Nat), k ≤ 12 ∧ i = .int .i64 k ∧ Blk wr w.heap.size 61 #[.int .i64 ad, .int .i64 aq, .slice aA al.length ac, .int .i64 at', .string ax] ∧ Blk wr (w.heap.size + 1) 61 #[.int .i64 bd, .int .i64 bq, .slice bA bl.length bc, .int .i64 bt, .string bx] ∧ Below w.heap.size w wr ∧ (∀ j : Nat, j < k → seenN al j = seenN bl j)) (fun i _ => 12 - (intOf i).toNat)
  case atStart => exact ⟨0, by omega, rfl, (Blk.new _ _ _).alloc _, Blk.new' (by simp), qbl, fun j hj => absurd hj (Nat.not_lt_zero _)⟩
  case round =>
    obtain ⟨k, hk, rfl, hblk, hblkb, hbel, hall⟩ := hrel
    obtain ⟨a0, a1, a2, a3, a4, af, az⟩ := hblk.b5
    obtain ⟨b0, b1, b2, b3, b4, bf, bz⟩ := hblkb.b5
    have B_a := Lib.hid hblk
    have B_b := Lib.hid hblkb
    have HALL := Lib.hid hall
    clear hblk hblkb hall
    have hhe : w.heap.size ≤ wr.heap.size := hbel.size
    have hh2 : w.heap.size + 1 < wr.heap.size := bz
    by_cases hlt : k < 12
    · have hlt' : (k : Int) < 12 := by omega
      go_wp2_with fail
      refine wp_region_T (fun w' => (w'.cell? ⟨w.heap.size, 0, none⟩ = some (.int .i64 ad) ∧ w'.cell? ⟨w.heap.size, 1, none⟩ = some (.int .i64 aq) ∧ w'.cell? ⟨w.heap.size, 2, none⟩ = some (.slice aA al.length ac) ∧ w'.cell? ⟨w.heap.size, 3, none⟩ = some (.int .i64 at') ∧ w'.cell? ⟨w.heap.size, 4, none⟩ = some (.string ax)) ∧ (w'.cell? ⟨w.heap.size + 1, 0, none⟩ = some (.int .i64 bd) ∧ w'.cell? ⟨w.heap.size + 1, 1, none⟩ = some (.int .i64 bq) ∧ w'.cell? ⟨w.heap.size + 1, 2, none⟩ = some (.slice bA bl.length bc) ∧ w'.cell? ⟨w.heap.size + 1, 3, none⟩ = some (.int .i64 bt) ∧ w'.cell? ⟨w.heap.size + 1, 4, none⟩ = some (.string bx))) (fun _ => false) (by kernel_rfl) ⟨⟨a0, a1, a2, a3, a4⟩, b0, b1, b2, b3, b4⟩ (fun hHeld => ?_)
      refine qtq 0 ?_
      simp only [qsa, qsb, qsc]
      refine qtq 1 ?_
      simp only [qsa, qsb, qsc]
      refine qtq 3 ?_
      simp only [qsa, qsb, qsc]
      refine qtq 4 ?_
      simp only [qsa, qsb, qsc]
      clear hHeld
      refine wpAnyT_next (i := 2) (by kernel_rfl) rfl ?_
      go_wp2_with fail
      refine (mafter ⟨ad, aq, ⟨aA, ac, al⟩, at', ax⟩ k (by omega) _ (HA.out.below' qbv (Nat.le_refl _))).mono ?_
      rintro e w1 ⟨rfl, hb1⟩
      clear a0 a1 a2 a3 a4 af b0 b1 b2 b3 b4 bf
      have K_a : Blk _ (w.heap.size) 61 #[.int .i64 ad, .int .i64 aq, .slice aA al.length ac, .int .i64 at', .string ax] := qkc B_a hb1
      obtain ⟨a0, a1, a2, a3, a4, af, az⟩ := Blk.b5 K_a
      have B_a := Lib.hid K_a
      clear K_a
      have K_b : Blk _ (w.heap.size + 1) 61 #[.int .i64 bd, .int .i64 bq, .slice bA bl.length bc, .int .i64 bt, .string bx] := qkc B_b hb1
      obtain ⟨b0, b1, b2, b3, b4, bf, bz⟩ := Blk.b5 K_b
      have B_b := Lib.hid K_b
      clear K_b
      have hB1 : Below w.heap.size w w1 := qbv
      clear hb1
      go_wp2_with fail
      refine ⟨(by first | exact fun _ => ⟨⟨a0, a1, a2, a3, a4⟩, b0, b1, b2, b3, b4⟩ | exact ⟨⟨a0, a1, a2, a3, a4⟩, b0, b1, b2, b3, b4⟩), ?_⟩
      refine wpAnyT_next (i := 5) (by kernel_rfl) rfl ?_
      go_wp2_with fail
      refine (mafter ⟨bd, bq, ⟨bA, bc, bl⟩, bt, bx⟩ k (by omega) _ (HB.out.below' qbv (Nat.le_refl _))).mono ?_
      rintro e w2 ⟨rfl, hb2⟩
      clear a0 a1 a2 a3 a4 af b0 b1 b2 b3 b4 bf
      have K_a : Blk _ (w.heap.size) 61 #[.int .i64 ad, .int .i64 aq, .slice aA al.length ac, .int .i64 at', .string ax] := qkc B_a hb2
      obtain ⟨a0, a1, a2, a3, a4, af, az⟩ := Blk.b5 K_a
      have B_a := Lib.hid K_a
      clear K_a
      have K_b : Blk _ (w.heap.size + 1) 61 #[.int .i64 bd, .int .i64 bq, .slice bA bl.length bc, .int .i64 bt, .string bx] := qkc B_b hb2
      obtain ⟨b0, b1, b2, b3, b4, bf, bz⟩ := Blk.b5 K_b
      have B_b := Lib.hid K_b
      clear K_b
      have hB2 : Below w.heap.size w w2 := qbv
      clear hb2
      try simp only
      generalize hva : seenN al k = va
      generalize hvb : seenN bl k = vb
      have HVA := Lib.hid hva
      have HVB := Lib.hid hvb
      clear hva hvb
      go_wp2_with fail
      refine ⟨(by first | exact fun _ => ⟨⟨a0, a1, a2, a3, a4⟩, b0, b1, b2, b3, b4⟩ | exact ⟨⟨a0, a1, a2, a3, a4⟩, b0, b1, b2, b3, b4⟩), ?_⟩
      have hHeld := And.intro (And.intro a0 (And.intro a1 (And.intro a2 (And.intro a3 a4)))) (And.intro b0 (And.intro b1 (And.intro b2 (And.intro b3 b4))))
      refine qtq 6 ?_
      simp only [qsa, qsb, qsc]
      refine wpAnyT_done (by kernel_rfl) ?_ _
      clear hHeld
      by_cases hxy : va = vb
      · have hxy' : (va != vb) = false := by simp [hxy]
        have HXY := Lib.hid hxy
        clear hxy
        go_wp2_with fail
        go_roundw
        case rel =>
          refine ⟨k + 1, by omega, by go_num, B_a.out, B_b.out, qbv, fun j hj => ?_⟩
          rcases Nat.lt_or_ge j k with h1 | h1
          · exact HALL.out j h1
          · obtain rfl : j = k := by omega
            rw [HVA.out, HVB.out, HXY.out]
        case measure => simp [intOf]; omega
      · have hxy' : (va != vb) = true := by simp [hxy]
        have hv : NoteD.psame (Note.d ⟨ad, aq, ⟨aA, ac, al⟩, at', ax⟩) (Note.d ⟨bd, bq, ⟨bA, bc, bl⟩, bt, bx⟩) = false := by
          exact NoteD.psame_no (k := k) hlt (fun h => hxy (by rw [← HVA.out, ← HVB.out]; exact h))
        have HV := Lib.hid hv
        clear hxy hv
        go_wp2_with fail
        go_ret
        exact ⟨ret_bool HV.out.symm, qbv⟩
    · have hv : NoteD.psame (Note.d ⟨ad, aq, ⟨aA, ac, al⟩, at', ax⟩) (Note.d ⟨bd, bq, ⟨bA, bc, bl⟩, bt, bx⟩) = ((ad == bd) && ((aq == bq) && ((at' == bt) && (ax.toList == bx.toList)))) := by
        rw [bytes_beq]
        exact NoteD.psame_yes (fun j hj => HALL.out j (by omega))
      have HV := Lib.hid hv
      have h1 : ¬ (k : Int) < 12 := by omega
      clear hv hlt
      rcases e1 : (ad == bd)
      rotate_left
      rcases e2 : (aq == bq)
      rotate_left
      rcases e3 : (at' == bt)
      rotate_left
      rcases e4 : (ax.toList == bx.toList)
      rotate_left
      all_goals go_wp2_with fail
      all_goals
        go_ret
        exact ⟨ret_bool (by rw [HV.out]; simp only [*, Bool.and_true, Bool.true_and, Bool.and_false, Bool.false_and]), qbv⟩
set_option maxHeartbeats 1000000 in
theorem mbefore0 (a b : Note) (h0 : 0 ≤ a.dev) (w : World) (hb : Rd (· < w.heap.size) 1 ienc w b.af) :
    Calls Try.prog 94 #[a.v, b.v] w fun e w' => e = .returned (.bool (befN a.d b.d)) ∧ Below w.heap.size w w' := by
  obtain ⟨ad, aq, ⟨aA, ac, al⟩, at', ax⟩ := a
  obtain ⟨bd, bq, ⟨bA, bc, bl⟩, bt, bx⟩ := b
  have HB := Lib.hid hb
  clear hb
  simp only [Note.v]
  simp only at h0
  by_cases hd : ad = bd
  · have hv : befN (Note.d ⟨ad, aq, ⟨aA, ac, al⟩, at', ax⟩) (Note.d ⟨bd, bq, ⟨bA, bc, bl⟩, bt, bx⟩) = decide (aq < bq) := by unfold befN; exact if_pos hd
    rw [hv]
    clear hv
    go_enter Try.func94, Try.ntmps94
    go_wp2_with fail
    go_ret
    exact ⟨rfl, qbl⟩
  · have hv : befN (Note.d ⟨ad, aq, ⟨aA, ac, al⟩, at', ax⟩) (Note.d ⟨bd, bq, ⟨bA, bc, bl⟩, bt, bx⟩) = decide (aq < seenN bl ad) := by unfold befN; exact if_neg hd
    rw [hv]
    clear hv
    go_enter Try.func94, Try.ntmps94
    go_wp2_with fail
    have K_a := (Blk.new w 61 #[.int .i64 ad, .int .i64 aq, .slice aA al.length ac, .int .i64 at', .string ax]).alloc (.cells #[.int .i64 bd, .int .i64 bq, .slice bA bl.length bc, .int .i64 bt, .string bx] 61)
    have K_b : Blk (World.alloc (World.alloc w (.cells #[.int .i64 ad, .int .i64 aq, .slice aA al.length ac, .int .i64 at', .string ax] 61)) (.cells #[.int .i64 bd, .int .i64 bq, .slice bA bl.length bc, .int .i64 bt, .string bx] 61)) (w.heap.size + 1) 61 #[.int .i64 bd, .int .i64 bq, .slice bA bl.length bc, .int .i64 bt, .string bx] := Blk.new' (by simp)
    obtain ⟨a0, a1, a2, a3, a4, af, az⟩ := K_a.b5
    obtain ⟨b0, b1, b2, b3, b4, bf, bz⟩ := K_b.b5
    have B_a := Lib.hid K_a
    have B_b := Lib.hid K_b
    clear K_a K_b
    refine wp_region_T (fun w' => (w'.cell? ⟨w.heap.size, 0, none⟩ = some (.int .i64 ad) ∧ w'.cell? ⟨w.heap.size, 1, none⟩ = some (.int .i64 aq) ∧ w'.cell? ⟨w.heap.size, 2, none⟩ = some (.slice aA al.length ac) ∧ w'.cell? ⟨w.heap.size, 3, none⟩ = some (.int .i64 at') ∧ w'.cell? ⟨w.heap.size, 4, none⟩ = some (.string ax)) ∧ (w'.cell? ⟨w.heap.size + 1, 0, none⟩ = some (.int .i64 bd) ∧ w'.cell? ⟨w.heap.size + 1, 1, none⟩ = some (.int .i64 bq) ∧ w'.cell? ⟨w.heap.size + 1, 2, none⟩ = some (.slice bA bl.length bc) ∧ w'.cell? ⟨w.heap.size + 1, 3, none⟩ = some (.int .i64 bt) ∧ w'.cell? ⟨w.heap.size + 1, 4, none⟩ = some (.string bx))) (fun _ => false) (by kernel_rfl) ⟨⟨a0, a1, a2, a3, a4⟩, b0, b1, b2, b3, b4⟩ (fun hHeld => ?_)
    refine qtq 0 ?_
    simp only [qsa, qsb, qsc]
    refine qtq 1 ?_
    simp only [qsa, qsb, qsc]
    refine qtq 2 ?_
    simp only [qsa, qsb, qsc]
    refine qtq 3 ?_
    simp only [qsa, qsb, qsc]
    refine qtq 4 ?_
    simp only [qsa, qsb, qsc]
    clear hHeld
    refine wpAnyT_next (i := 5) (by kernel_rfl) rfl ?_
    go_wp2_with fail
    refine (mafter ⟨bd, bq, ⟨bA, bc, bl⟩, bt, bx⟩ ad h0 _ (HB.out.below' qbl (Nat.le_refl _))).mono ?_
    rintro e w1 ⟨rfl, hb1⟩
    clear a0 a1 a2 a3 a4 af b0 b1 b2 b3 b4 bf
    have K_a : Blk _ (w.heap.size) 61 #[.int .i64 ad, .int .i64 aq, .slice aA al.length ac, .int .i64 at', .string ax] := qkc B_a hb1
    obtain ⟨a0, a1, a2, a3, a4, af, az⟩ := Blk.b5 K_a
    have B_a := Lib.hid K_a
    clear K_a
    have K_b : Blk _ (w.heap.size + 1) 61 #[.int .i64 bd, .int .i64 bq, .slice bA bl.length bc, .int .i64 bt, .string bx] := qkc B_b hb1
    obtain ⟨b0, b1, b2, b3, b4, bf, bz⟩ := Blk.b5 K_b
    have B_b := Lib.hid K_b
    clear K_b
    have hB1 : Below w.heap.size w w1 := qbv
    clear hb1
    try simp only
    generalize hva : seenN bl ad = va
    have HVA := Lib.hid hva
    clear hva
    go_wp2_with fail
    refine ⟨(by first | exact fun _ => ⟨⟨a0, a1, a2, a3, a4⟩, b0, b1, b2, b3, b4⟩ | exact ⟨⟨a0, a1, a2, a3, a4⟩, b0, b1, b2, b3, b4⟩), ?_⟩
    have hHeld := And.intro (And.intro a0 (And.intro a1 (And.intro a2 (And.intro a3 a4)))) (And.intro b0 (And.intro b1 (And.intro b2 (And.intro b3 b4))))
    refine qtq 6 ?_
    simp only [qsa, qsb, qsc]
    refine qtq 7 ?_
    simp only [qsa, qsb, qsc]
    refine wpAnyT_done (by kernel_rfl) ?_ _
    clear hHeld
    go_wp2_with fail
    go_ret
    exact ⟨by rw [HVA.out]; simp [Act.eval, go_sem], qbv⟩
set_option maxHeartbeats 600000 in
theorem mready (n : Note) (dn : Sl Int) (w : World) (hr : Rd (· < w.heap.size) 1 ienc w n.af) (hd : Rd (· < w.heap.size) 1 ienc w dn) :
    Calls Try.prog 87 #[n.v, .slice dn.A dn.l.length dn.c] w fun e w' => e = .returned (.bool (rdyN n.d dn.l)) ∧ Below w.heap.size w w' := by
  obtain ⟨nd, nq, ⟨nA, nc, nl⟩, nt, nx⟩ := n
  obtain ⟨A, c, l⟩ := dn
  have hn := hd.len
  simp only at hn
  have HR := Lib.hid hr
  have HD := Lib.hid hd
  clear hr hd
  simp only [Note.v]
  go_enter Try.func87, Try.ntmps87
  go_wp2_with fail
  go_loopw [9] (fun i wr => ∃ (k : Nat), k ≤ l.length ∧ i = .int .i64 k ∧ Blk wr w.heap.size 61 #[.int .i64 nd, .int .i64 nq, .slice nA nl.length nc, .int .i64 nt, .string nx] ∧ Below w.heap.size w wr ∧ (∀ d : Nat, d < k → (d : Int) = nd ∨ seenN nl d ≤ l.getD d 0)) (fun i _ => l.length - (intOf i).toNat)
  case atStart => exact ⟨0, by omega, rfl, Blk.new _ _ _, qbl, fun j hj => absurd hj (Nat.not_lt_zero _)⟩
  case round =>
    obtain ⟨k, hk, rfl, hblk, hbel, hall⟩ := hrel
    obtain ⟨a0, a1, a2, a3, a4, af, az⟩ := hblk.b5
    have B_a := Lib.hid hblk
    have HALL := Lib.hid hall
    clear hblk hall
    have hhe : w.heap.size ≤ wr.heap.size := hbel.size
    by_cases hlt : k < l.length
    · obtain ⟨b, o, rfl, hb, hcl⟩ := HD.out.at1 hlt
      have g0 := (hcl.keep (hbel.block b hb)).c1
      simp only [Nat.mul_one] at g0
      have hx : l.getD k 0 = l[k] := by simp [List.getD, hlt]
      generalize l[k] = x at *
      have HX := Lib.hid hx
      clear hx hcl
      by_cases hkd : (k : Int) = nd
      · have e1 : ((k : Int) != nd) = false := by simp [hkd]
        have HKD := Lib.hid hkd
        clear hkd
        go_wp2_with fail
        go_roundw
        case rel =>
          refine ⟨k + 1, by omega, by go_num, B_a.out, hbel, fun j hj => ?_⟩
          rcases Nat.lt_or_ge j k with h1 | h1
          · exact HALL.out j h1
          · obtain rfl : j = k := by omega
            exact .inl HKD.out
        case measure => simp [intOf]; omega
      · have e1 : ((k : Int) != nd) = true := by simp [hkd]
        have HKD := Lib.hid hkd
        clear hkd
        go_wp2_with fail
        refine (mafter ⟨nd, nq, ⟨nA, nc, nl⟩, nt, nx⟩ k (by omega) _ (HR.out.below' qbv (Nat.le_refl _))).mono ?_
        rintro e w1 ⟨rfl, hb1⟩
        clear a0 a1 a2 a3 a4 af
        have K_a : Blk _ (w.heap.size) 61 #[.int .i64 nd, .int .i64 nq, .slice nA nl.length nc, .int .i64 nt, .string nx] := qkc B_a hb1
        obtain ⟨a0, a1, a2, a3, a4, af, az⟩ := Blk.b5 K_a
        have B_a := Lib.hid K_a
        clear K_a
        have hB1 : Below w.heap.size w w1 := qbv
        clear hb1
        try simp only
        generalize hva : seenN nl k = va
        have HVA := Lib.hid hva
        clear hva
        rcases Int.lt_or_le x va with hxv | hxv
        · have HXV := Lib.hid hxv
          go_wp2_with fail
          go_ret
          refine ⟨ret_bool ?_, qbv⟩
          symm
          unfold rdyN
          rw [decide_eq_false_iff_not]
          intro h
          rcases h k hlt with h | h
          · exact HKD.out h
          · rw [HX.out] at h
            have h2 : seenN nl k ≤ x := h
            rw [HVA.out] at h2
            exact absurd HXV.out (by omega)
        · have HXV := Lib.hid hxv
          go_wp2_with fail
          go_roundw
          case rel =>
            refine ⟨k + 1, by omega, by go_num, B_a.out, qbv, fun j hj => ?_⟩
            rcases Nat.lt_or_ge j k with h1 | h1
            · exact HALL.out j h1
            · obtain rfl : j = k := by omega
              right
              rw [HX.out, HVA.out]; exact HXV.out
          case measure => simp [intOf]; omega
    · go_wp2_with fail
      go_ret
      refine ⟨ret_bool ?_, qbv⟩
      symm
      unfold rdyN
      rw [decide_eq_true_iff]
      exact fun d hd => HALL.out d (Nat.lt_of_lt_of_le hd (by omega))
end Go.Proofs.Ythnblhbdfpmolaa
/- A map from a device and a number: how it lies, how it is read and written. -/
namespace Go.Proofs.Ythnblhbdfpmolaa
open Go.RowKit
open Go.Maps (Keyed)
def kv (d s : Int) : Value := .agg #[.int .i64 d, .int .i64 s]
theorem kv_inj {d s d' s' : Int} (h : kv d s = kv d' s') : d = d' ∧ s = s' := by simpa [kv] using h
theorem keyLaid : laidOutB Try.prog = true := by kernel_rfl
theorem keyRow : (116 : Nat) < Try.prog.types.size := of_decide_eq_true (by kernel_rfl)
theorem keyDeep : Try.prog.keyTypeAt 3 116 = true := by kernel_rfl
theorem keyLaw0 : WideMaps.KeyLaw Try.prog 116 := deep_law_laid keyLaid (m := 3) (by omega) keyRow keyDeep (by rw [Try.underlying116])
theorem keyLaw : Keyed Try.prog 116 := Keyed.of_law keyLaw0
theorem key_at {d s : Int} (hd : I64 d) (hs : I64 s) : ∃ l, keyOf Try.prog 116 (kv d s) = some l := by
  have hsz : ∃ m, Try.prog.types.size = m + 1 := ⟨Try.prog.types.size - 1, by have := keyRow; omega⟩
  have hkt : Try.prog.keyType 116 = true := by kernel_rfl
  have hc : Try.prog.cellsOf 116 = 2 := by kernel_rfl
  have hi : Try.prog.cellsOf 3 = 1 := by kernel_rfl
  have wd : (Lit.int .i64 d).wf = true := by unfold I64 at hd; exact WalkArith.wf_i64 (by omega)
  have ws : (Lit.int .i64 s).wf = true := by unfold I64 at hs; exact WalkArith.wf_i64 (by omega)
  obtain ⟨m, hm⟩ := hsz
  rw [← Option.isSome_iff_exists]
  unfold keyOf kv
  simp only [Try.underlying116]
  rw [if_pos (by simp [hkt, Value.formed, Try.underlying116, hc]), hm]
  unfold Program.keyLits
  simp only [Try.underlying116, Value.cells]
  rw [if_pos (by rw [hc]; exact ⟨rfl, by kernel_rfl⟩)]
  simp [hi, Program.keyLits, Try.underlying3, wd, ws]
/-- Block b is a map with these entries, in the order in which they were laid. -/
def MapB (w : World) (b : Nat) (L : List ((Int × Int) × Value)) : Prop :=
  ∃ es clock, w.heap[b]? = some (.map es clock) ∧ es.toList.map (fun e => (e.key, e.val)) = L.map (fun p => (kv p.1.1 p.1.2, p.2)) ∧ ∀ p, p ∈ L → I64 p.1.1 ∧ I64 p.1.2
theorem MapB.made (w : World) : MapB (w.alloc (.map #[] 0)) w.heap.size [] := ⟨#[], 0, (MapKept.heap_alloc w _).1, rfl, fun p hp => by cases hp⟩
theorem MapB.keep {w w' : World} {b : Nat} {L : List ((Int × Int) × Value)} (h : MapB w b L) (hk : w'.heap[b]? = w.heap[b]?) : MapB w' b L := by
  obtain ⟨es, clock, h1, h2⟩ := h
  exact ⟨es, clock, hk.trans h1, h2⟩
theorem MapB.lt {w : World} {b : Nat} {L : List ((Int × Int) × Value)} (h : MapB w b L) : b < w.heap.size := by
  obtain ⟨es, clock, hb, _⟩ := h
  exact (Array.getElem?_eq_some_iff.1 hb).1
theorem MapB.below {w w' : World} {b B : Nat} {L : List ((Int × Int) × Value)} (h : MapB w b L) (hb : Below B w w') (hB : b < B) : MapB w' b L := h.keep (hb.block b hB)
theorem MapB.later {w w' : World} {b : Nat} {L : List ((Int × Int) × Value)} (h : MapB w b L) (hb : Below w.heap.size w w') : MapB w' b L := h.keep (hb.block b h.lt)
theorem MapB.grown {w w' : World} {b : Nat} {row : Option Nat} {L : List ((Int × Int) × Value)} (h : MapB w b L) (hb : w.grownBy w' row) (hne : some b ≠ row) : MapB w' b L := h.keep (hb.block b h.lt hne)
theorem MapB.set_ {w : World} {b : Nat} {L : List ((Int × Int) × Value)} (h : MapB w b L) {p : Addr} (hp : b ≠ p.block) (u : Value) : MapB (w.setCell p u) b L := h.keep (Below.heap_setCell w p u b hp)
theorem MapB.alloc {w : World} {b : Nat} {L : List ((Int × Int) × Value)} (h : MapB w b L) (o : Obj) : MapB (w.alloc o) b L := h.keep (Below.heap_alloc w o b h.lt)
section
variable {w : World} {b : Nat} {L : List ((Int × Int) × Value)} {d s : Int}
theorem MapB.keys (h : MapB w b L) : ∃ es clock, w.heap[b]? = some (.map es clock) ∧ (∀ e, e ∈ es.toList → ∃ p, p ∈ L ∧ e.key = kv p.1.1 p.1.2 ∧ e.val = p.2) ∧ (∀ p, p ∈ L → ∃ e, e ∈ es.toList ∧ e.key = kv p.1.1 p.1.2 ∧ e.val = p.2) ∧ (∀ e, e ∈ es.toList → ∃ l, keyOf Try.prog 116 e.key = some l) := by
  obtain ⟨es, clock, hb, he, hi⟩ := h
  have h1 : ∀ e, e ∈ es.toList → ∃ p, p ∈ L ∧ e.key = kv p.1.1 p.1.2 ∧ e.val = p.2 := by
    intro e hm
    have : (e.key, e.val) ∈ es.toList.map (fun e => (e.key, e.val)) := List.mem_map_of_mem (f := fun e : MapEntry => (e.key, e.val)) hm
    rw [he] at this
    obtain ⟨p, hp, hq⟩ := List.mem_map.1 this
    simp only [Prod.mk.injEq] at hq
    exact ⟨p, hp, hq.1.symm, hq.2.symm⟩
  refine ⟨es, clock, hb, h1, fun p hp => ?_, fun e hm => ?_⟩
  · have : (kv p.1.1 p.1.2, p.2) ∈ L.map (fun p => (kv p.1.1 p.1.2, p.2)) := List.mem_map_of_mem (f := fun p : (Int × Int) × Value => (kv p.1.1 p.1.2, p.2)) hp
    rw [← he] at this
    obtain ⟨e, hm, hq⟩ := List.mem_map.1 this
    simp only [Prod.mk.injEq] at hq
    exact ⟨e, hm, hq.1, hq.2⟩
  · obtain ⟨p, hp, hk, _⟩ := h1 e hm
    rw [hk]
    exact key_at (hi p hp).1 (hi p hp).2
theorem run_look_no {t e : TypeId} {z : Value} (ht : Try.prog.underlying t = some (.map 116 e)) (hz : (zeroValue e).run Try.prog w = .ok z w) (h : MapB w b L) (hd : I64 d) (hs : I64 s) (hno : ∀ p, p ∈ L → p.1 ≠ (d, s)) :
    (Instr.lookup t (.map (some b)) (kv d s) true).run Try.prog w = .ok (.tuple #[z, .bool false]) w := by
  obtain ⟨es, clock, hb, h1, h2, h3⟩ := h.keys
  obtain ⟨l, hl⟩ := key_at hd hs
  rcases keyLaw.find w hl es.toList h3 with ⟨hf, _⟩ | ⟨j, e0, hf, hj, hk⟩
  · simp [Instr.lookup, run_underlying ht, MapKept.run_getObj_map hb, keyLaw.check w _ hl, hf, hz, Result.andThen]
  · exfalso
    obtain ⟨p, hp, hpk, _⟩ := h1 e0 (List.mem_of_getElem? hj)
    rw [hk] at hpk
    obtain ⟨e1, e2⟩ := kv_inj hpk
    exact hno p hp (by rw [e1, e2])
theorem run_look_yes {t e : TypeId} {v : Value} (ht : Try.prog.underlying t = some (.map 116 e)) (h : MapB w b L) (hd : I64 d) (hs : I64 s) (hv : ((d, s), v) ∈ L) (hu : ∀ p, p ∈ L → p.1 = (d, s) → p.2 = v) :
    (Instr.lookup t (.map (some b)) (kv d s) true).run Try.prog w = .ok (.tuple #[v, .bool true]) w := by
  obtain ⟨es, clock, hb, h1, h2, h3⟩ := h.keys
  obtain ⟨l, hl⟩ := key_at hd hs
  rcases keyLaw.find w hl es.toList h3 with ⟨hf, hno⟩ | ⟨j, e0, hf, hj, hk⟩
  · exfalso
    obtain ⟨e1, hm, hk, _⟩ := h2 _ hv
    exact hno e1 hm hk
  · obtain ⟨p, hp, hpk, hpv⟩ := h1 e0 (List.mem_of_getElem? hj)
    rw [hk] at hpk
    obtain ⟨e1, e2⟩ := kv_inj hpk
    have : e0.val = v := hpv.trans (hu p hp (by rw [e1, e2]))
    simp [Instr.lookup, run_underlying ht, MapKept.run_getObj_map hb, keyLaw.check w _ hl, hf, this, Result.andThen]
theorem run_store_new {t e : TypeId} {v : Value} (ht : Try.prog.underlying t = some (.map 116 e)) (h : MapB w b L) (hd : I64 d) (hs : I64 s) (hno : ∀ p, p ∈ L → p.1 ≠ (d, s)) :
    ∃ w', (Instr.mapUpdate t (.map (some b)) (kv d s) v).run Try.prog w = .ok () w' ∧ MapB w' b (L ++ [((d, s), v)]) ∧ w.grownBy w' (some b) := by
  obtain ⟨es, clock, hb, h1, h2, h3⟩ := h.keys
  obtain ⟨l, hl⟩ := key_at hd hs
  have hL := h
  obtain ⟨es', clock', hb', he', hi'⟩ := hL
  rw [hb] at hb'
  injection hb' with hb'
  injection hb' with hb1 hb2
  subst hb1
  rcases keyLaw.find w hl es.toList h3 with ⟨hf, _⟩ | ⟨j, e0, hf, hj, hk⟩
  · refine ⟨ChangeMaps.setBlock w b (.map (es.push ⟨kv d s, v, clock⟩) (clock + 1)), ?_, ⟨_, _, ChangeMaps.heap_setBlock_same hb _, ?_, ?_⟩, ⟨rfl, rfl, rfl, by simp [ChangeMaps.setBlock], fun i _ hi => ChangeMaps.heap_setBlock_other hb _ (fun e => hi (by rw [e]))⟩⟩
    · simp [Instr.mapUpdate, run_underlying ht, MapKept.run_getObj_map hb, keyLaw.check w false hl, hf, MapKept.run_setObj_map _ hb, Result.andThen, ChangeMaps.setBlock]
    · rw [Array.toList_push, List.map_append, he', List.map_append]; rfl
    · intro p hp
      rcases List.mem_append.1 hp with hp | hp
      · exact hi' p hp
      · rw [List.mem_singleton.1 hp]; exact ⟨hd, hs⟩
  · exfalso
    obtain ⟨p, hp, hpk, _⟩ := h1 e0 (List.mem_of_getElem? hj)
    rw [hk] at hpk
    obtain ⟨e1, e2⟩ := kv_inj hpk
    exact hno p hp (by rw [e1, e2])
variable {ops : Array Oper} {rest : List Oper} {o : Oper} {a : Act} {Q : Exit → Act → World → Prop}
theorem wpl_look_no (hg : o.guard = none) (m x : Operand) (t : TypeId) (hop : o.op = .lookup t m x true) (e : TypeId) (z : Value) (ht : Try.prog.underlying t = some (.map 116 e)) (hz : ∀ w, (zeroValue e).run Try.prog w = .ok z w)
    (h : MapB w b L) (hm : a.eval m = .map (some b)) (hx : a.eval x = .agg #[.int .i64 d, .int .i64 s]) (hd : I64 d) (hs : I64 s) (hno : ∀ p, p ∈ L → p.1 ≠ (d, s))
    (hK : wpList Try.prog ops Q rest (a.put o.dst (.tuple #[z, .bool false])) w) : wpList Try.prog ops Q (o :: rest) a w := by
  refine wpList_plain hg fun K' hK' => ?_
  have hrun := run_look_no ht (hz w) h hd hs hno
  unfold kv at hrun
  unfold Oper.wp
  simp [execOp, hop, hm, hx, hrun, Result.andThen]
  exact hK' _ _ hK
theorem wpl_look_yes (hg : o.guard = none) (m x : Operand) (t : TypeId) (hop : o.op = .lookup t m x true) (e : TypeId) (v : Value) (ht : Try.prog.underlying t = some (.map 116 e))
    (h : MapB w b L) (hm : a.eval m = .map (some b)) (hx : a.eval x = .agg #[.int .i64 d, .int .i64 s]) (hd : I64 d) (hs : I64 s) (hv : ((d, s), v) ∈ L) (hu : ∀ p, p ∈ L → p.1 = (d, s) → p.2 = v)
    (hK : wpList Try.prog ops Q rest (a.put o.dst (.tuple #[v, .bool true])) w) : wpList Try.prog ops Q (o :: rest) a w := by
  refine wpList_plain hg fun K' hK' => ?_
  have hrun := run_look_yes ht h hd hs hv hu
  unfold kv at hrun
  unfold Oper.wp
  simp [execOp, hop, hm, hx, hrun, Result.andThen]
  exact hK' _ _ hK
theorem wpl_store_new (hg : o.guard = none) (m x y : Operand) (t : TypeId) (hop : o.op = .mapUpdate t m x y) (e : TypeId) (v : Value) (ht : Try.prog.underlying t = some (.map 116 e))
    (h : MapB w b L) (hm : a.eval m = .map (some b)) (hx : a.eval x = .agg #[.int .i64 d, .int .i64 s]) (hv : a.eval y = v) (hd : I64 d) (hs : I64 s) (hno : ∀ p, p ∈ L → p.1 ≠ (d, s))
    (hK : ∀ w', MapB w' b (L ++ [((d, s), v)]) → w.grownBy w' (some b) → wpList Try.prog ops Q rest (a.put o.dst undef) w') : wpList Try.prog ops Q (o :: rest) a w := by
  refine wpList_plain hg fun K' hK' => ?_
  obtain ⟨w', hrun, r1, r2⟩ := run_store_new (v := v) ht h hd hs hno
  unfold kv at hrun
  unfold Oper.wp
  simp [execOp, hop, hm, hx, hv, hrun, Result.andThen]
  exact hK' _ _ (hK w' r1 r2)
end
theorem mapB_setr {w : World} {b : Nat} {L : List ((Int × Int) × Value)} {p : Addr} {u : Value} (hp : b ≠ p.block) (h : MapB w b L) : MapB (w.setCell p u) b L := h.set_ hp u
theorem mapB_allocr {w : World} {b : Nat} {L : List ((Int × Int) × Value)} {o : Obj} (h : MapB w b L) : MapB (w.alloc o) b L := h.alloc o
end Go.Proofs.Ythnblhbdfpmolaa
/- slices.Grow at nil, and slices.Concat of two lists of notes. -/
namespace Go.Proofs.Ythnblhbdfpmolaa
open Go.RowKit
theorem grownBy_rfl (w : World) (row : Option Nat) : w.grownBy w row := ⟨rfl, rfl, rfl, Nat.le_refl _, fun _ _ _ => rfl⟩
set_option maxHeartbeats 600000 in
theorem grow_note (n base : Nat) (w : World) (hb : n * 64 ≤ 140737488355328) (hbase : base ≤ w.heap.size) :
    Calls Try.prog 118 #[.slice none 0 0, .int .i64 n] w fun e w' => ∃ A c, e = .returned (.slice A 0 c) ∧ Own base 61 5 Note.enc w' ⟨A, c, []⟩ ∧ w.grownBy w' none := by
  rcases Nat.eq_zero_or_pos n with rfl | h0
  · go_enter Try.func118, Try.ntmps118
    go_wp2_with fail
    go_ret
    exact ⟨none, 0, rfl, Own.nil _ _ _ _ _, grownBy_rfl _ _⟩
  · have hn : (0 : Int) < n := by omega
    have hn2 : (n : Int) ≤ 4611686018427387904 := by omega
    obtain ⟨inf, hi, hz, hsize, hby, hzs⟩ := infoNote
    have hrun := fun W => Lib.run_append_nil_zeros (P := Try.prog) W 23 3 23 61 inf _ .i64 .i64 Try.underlying23 Try.underlying3 hi hz n h0 (by omega) (by omega) (by rw [hby]; omega)
    have hge := fun W => grownCap_ge W n 0 61
    have hle := fun W => grownCap_le_maxLen W n 0 61 (by unfold maxLen; omega)
    have HR := Lib.hid hrun
    have HGE := Lib.hid hge
    have HLE := Lib.hid hle
    have HZ := Lib.hid hzs
    clear hrun hge hle hzs hi hz hsize hby
    go_enter Try.func118, Try.ntmps118
    go_wp2_with (at_builtin; refine Lib.wpList_append_run _ rfl _ _ _ _ rfl _ _ rfl rfl _ _ (HR.out _) ?_)
    go_ret
    refine ⟨_, _, rfl, Own.of_blk Note.k (Blk.new _ _ _) ?_ (by simp) (Nat.zero_le _) (HLE.out _) hbase, ⟨rfl, rfl, rfl, by simp, fun j hj _ => Below.heap_alloc w.drew _ j hj⟩⟩
    have := HGE.out w
    simp only [Array.size_append, size_zeroCells, HZ.out]
    rw [← Nat.add_mul]; congr 1; omega
set_option maxHeartbeats 1000000 in
theorem concat_note (s t : Sl Note) (g : Nat) (w : World) (hg : Blk w g 23 #[.slice s.A s.l.length s.c, .slice t.A t.l.length t.c]) (hr : Rd (· < w.heap.size) 5 Note.enc w s) (ht : Rd (· < w.heap.size) 5 Note.enc w t)
    (hb : (s.l.length + t.l.length) * 64 ≤ 140737488355328) :
    Calls Try.prog 78 #[.slice (some ⟨g, 0, none⟩) 2 2] w fun e w' => ∃ A c, e = .returned (.slice A (s.l ++ t.l).length c) ∧ Own w.heap.size 61 5 Note.enc w' ⟨A, c, s.l ++ t.l⟩ ∧ Below w.heap.size w w' := by
  obtain ⟨sA, sc, sl⟩ := s
  obtain ⟨tA, tc, tl⟩ := t
  simp only at hb hg
  obtain ⟨g0, g1, gf, gz⟩ := hg.b2
  have HG := Lib.hid hg
  have HS := Lib.hid hr
  have HT := Lib.hid ht
  have hs1 : (sl.length : Int) ≤ 4611686018427387904 := by omega
  have hs2 : (sl.length : Int) + (tl.length : Int) ≤ 4611686018427387904 := by omega
  have hw1 : IntKind.i64.wrap (0 + (sl.length : Int)) = sl.length := by rw [IntKind.wrap_i64]; omega
  have hw2 : IntKind.i64.wrap ((sl.length : Int) + (tl.length : Int)) = ((sl.length + tl.length : Nat) : Int) := by rw [IntKind.wrap_i64]; omega
  have hgr : Calls Try.prog 118 #[.slice none 0 0, .int .i64 ((sl.length : Int) + (tl.length : Int))] w fun e w' => ∃ A c, e = .returned (.slice A 0 c) ∧ Own w.heap.size 61 5 Note.enc w' ⟨A, c, []⟩ ∧ w.grownBy w' none := by
    have := grow_note (sl.length + tl.length) w.heap.size w hb (Nat.le_refl _)
    rw [Int.natCast_add] at this; exact this
  clear hg hr ht
  simp only
  go_enter Try.func78, Try.ntmps78
  go_wp2_with fail
  refine wp_loop_rounds 3 ?_
  rw [rounds_succ]
  go_wp2_with fail
  rw [rounds_succ]
  go_wp2_with fail
  rw [rounds_succ]
  go_wp2_with fail
  refine hgr.mono ?_
  rintro e w1 ⟨A1, c1, rfl, hown1, hgb1⟩
  have hB1 : Below w.heap.size w w1 := Below.grown (Below.refl _ _) hgb1 (Nat.le_refl _) (by simp)
  have HO1 := Lib.hid hown1
  clear hgr g0 g1 gf hown1 hgb1
  have K1 := HG.out.below hB1 HG.out.lt
  obtain ⟨g0, g1, gf, gz1⟩ := K1.b2
  clear K1
  go_wp2_with fail
  refine wp_loop_rounds 3 ?_
  rw [rounds_succ]
  go_wp2_with (at_builtin
               go_must (refine wpl_append_sl (base := w.heap.size) _ rfl (.tmp 31) (.tmp 32) _ rfl Try.underlying23 infoNote (by omega) Note.k Note.one ⟨A1, c1, []⟩ ⟨sA, sc, sl⟩ rfl rfl HO1.out (HS.out.below' hB1 (Nat.le_refl _)) (by simp [maxLen]; omega) (by simp; omega) hB1.size ?_)
               intro A2 c2 w2 hown2 hg2 hat2
               apply Hid.out)
  refine Lib.hid ?_
  simp only [List.nil_append] at hown2
  have hown1 := HO1.out
  have hB2 : Below w.heap.size w w2 := Below.grown hB1 hg2 hB1.size (by
    rcases hown1.form with ⟨h, _⟩ | ⟨q, h, hq, _⟩ <;> simp only at h <;> simp only [h, Value.ownBlock, reduceCtorEq, false_implies, implies_true, Option.some.injEq, forall_eq']
    exact hq)
  have HO2 := Lib.hid hown2
  clear hown1 hown2 hg2 hat2 g0 g1 gf
  have K1 := HG.out.below hB2 HG.out.lt
  obtain ⟨g0, g1, gf, gz2⟩ := K1.b2
  clear K1
  go_wp2_with fail
  rw [rounds_succ]
  go_wp2_with (at_builtin
               go_must (refine wpl_append_sl (base := w.heap.size) _ rfl (.tmp 31) (.tmp 32) _ rfl Try.underlying23 infoNote (by omega) Note.k Note.one ⟨A2, c2, sl⟩ ⟨tA, tc, tl⟩ rfl rfl HO2.out (HT.out.below' hB2 (Nat.le_refl _)) (by simp [maxLen]; omega) (by simp; omega) hB2.size ?_)
               intro A3 c3 w3 hown3 hg3 hat3
               apply Hid.out)
  refine Lib.hid ?_
  have hown2 := HO2.out
  have hB3 : Below w.heap.size w w3 := Below.grown hB2 hg3 hB2.size (by
    rcases hown2.form with ⟨h, _⟩ | ⟨q, h, hq, _⟩ <;> simp only at h <;> simp only [h, Value.ownBlock, reduceCtorEq, false_implies, implies_true, Option.some.injEq, forall_eq']
    exact hq)
  have HO3 := Lib.hid hown3
  clear hown2 hown3 hg3 hat3
  go_wp2_with fail
  rw [rounds_succ]
  go_wp2_with fail
  go_ret
  exact ⟨A3, c3, by simp [Act.eval, go_sem], HO3.out, hB3⟩
end Go.Proofs.Ythnblhbdfpmolaa
