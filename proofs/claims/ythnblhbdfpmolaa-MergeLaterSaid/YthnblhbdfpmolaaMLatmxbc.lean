/- Walks of package merge: what a note has seen, the same notes, what comes before, what is ready; the comparing of the sort. -/
import Derived.Test.YthnblhbdfpmolaaMLatmxbb
import Derived.Test.YthnblhbdfpmolaaMLatmxaw
namespace Go.Proofs.Ythnblhbdfpmolaa
open Go.RowKit
set_option maxHeartbeats 800000 in
theorem mafter (n : Note) (d : Int) (h0 : 0 ≤ d) (w : World) (hr : Rd (· < w.heap.size) 1 ienc w n.af) :
    Calls Try.prog 119 #[n.v, .int .i64 d] w fun e w' => e = .returned (.int .i64 (seenN n.af.l d)) ∧ Below w.heap.size w w' := by
  obtain ⟨nd, ns, ⟨A, c, l⟩, nt, nx⟩ := n
  have HR := Lib.hid hr
  clear hr
  simp only [Note.v]
  rcases Int.lt_or_le d l.length with h | h
  · obtain ⟨j, rfl⟩ := Int.eq_ofNat_of_zero_le h0
    have hj : j < l.length := by omega
    obtain ⟨b, o, rfl, hb, hcl⟩ := HR.out.at1 hj
    have g0 := hcl.c1
    simp only [Nat.mul_one] at g0
    have hv : seenN l j = l[j] := by unfold seenN; rw [if_pos ⟨h0, h⟩]; simp [List.getD, hj]
    have HV := Lib.hid hv
    clear hv hcl
    generalize l[j] = y at *
    go_enter Try.func119, Try.ntmps119
    go_wp2_with fail
    go_ret
    exact ⟨ret_int HV.out.symm, (by repeat (first | (with_reducible exact Below.refl _ _) | ((with_reducible refine below_setr ?_ ?_); focus (first | (simp; done) | (simp; omega) | omega)) | ((with_reducible refine below_allocr ?_ ?_); focus (first | (simp; done) | (simp; omega) | omega)) | (with_reducible refine Below.drew ?_) | (with_reducible refine below_drewN ?_ _)))⟩
  · have hv : seenN l d = 0 := by unfold seenN; rw [if_neg (by omega)]
    have HV := Lib.hid hv
    clear hv
    go_enter Try.func119, Try.ntmps119
    go_wp2_with fail
    go_ret
    exact ⟨ret_int HV.out.symm, (by repeat (first | (with_reducible exact Below.refl _ _) | ((with_reducible refine below_setr ?_ ?_); focus (first | (simp; done) | (simp; omega) | omega)) | ((with_reducible refine below_allocr ?_ ?_); focus (first | (simp; done) | (simp; omega) | omega)) | (with_reducible refine Below.drew ?_) | (with_reducible refine below_drewN ?_ _)))⟩
/-- As the program compares: twelve devices. -/
def NoteD.psame (a b : NoteD) : Bool := decide (∀ i : Nat, i < 12 → seenN a.af i = seenN b.af i) && (decide (a.dev = b.dev) && (decide (a.seq = b.seq) && (decide (a.tm = b.tm) && decide (a.tx = b.tx))))
theorem seenN_past {l : List Int} {i : Nat} (h : l.length ≤ i) : seenN l i = 0 := by unfold seenN; rw [if_neg (by omega)]
theorem NoteD.psame_same {a b : NoteD} (ha : a.af.length ≤ 12) (hb : b.af.length ≤ 12) : a.psame b = a.same b := by
  unfold NoteD.psame NoteD.same
  congr 1
  rw [decide_eq_decide]
  constructor
  · intro h i hi
    exact h i (by omega)
  · intro h i hi
    rcases Nat.lt_or_ge i (max a.af.length b.af.length) with h1 | h1
    · exact h i h1
    · rw [seenN_past (by omega), seenN_past (by omega)]
theorem NoteD.psame_no {a b : NoteD} {k : Nat} (hk : k < 12) (h : seenN a.af k ≠ seenN b.af k) : a.psame b = false := by
  unfold NoteD.psame
  rw [decide_eq_false (fun hc => h (hc k hk)), Bool.false_and]
theorem NoteD.psame_yes {a b : NoteD} (h : ∀ j : Nat, j < 12 → seenN a.af j = seenN b.af j) : a.psame b = (decide (a.dev = b.dev) && (decide (a.seq = b.seq) && (decide (a.tm = b.tm) && decide (a.tx = b.tx)))) := by
  unfold NoteD.psame
  rw [decide_eq_true h, Bool.true_and]
set_option maxHeartbeats 1000000 in
theorem msame (a b : Note) (w : World) (ha : Rd (· < w.heap.size) 1 ienc w a.af) (hb : Rd (· < w.heap.size) 1 ienc w b.af) :
    Calls Try.prog 79 #[a.v, b.v] w fun e w' => e = .returned (.bool (a.d.psame b.d)) ∧ Below w.heap.size w w' := by
  obtain ⟨ad, aq, ⟨aA, ac, al⟩, at', ax⟩ := a
  obtain ⟨bd, bq, ⟨bA, bc, bl⟩, bt, bx⟩ := b
  have HA := Lib.hid ha
  have HB := Lib.hid hb
  clear ha hb
  simp only [Note.v]
  go_enter Try.func79, Try.ntmps79
  go_wp2_with fail
  go_loopw [6] (fun i wr => ∃ (k : Nat), k ≤ 12 ∧ i = .int .i64 k ∧ Blk wr w.heap.size 61 #[.int .i64 ad, .int .i64 aq, .slice aA al.length ac, .int .i64 at', .string ax] ∧ Blk wr (w.heap.size + 1) 61 #[.int .i64 bd, .int .i64 bq, .slice bA bl.length bc, .int .i64 bt, .string bx] ∧ Below w.heap.size w wr ∧ (∀ j : Nat, j < k → seenN al j = seenN bl j)) (fun i _ => 12 - (intOf i).toNat)
  case atStart => exact ⟨0, by omega, rfl, (Blk.new _ _ _).alloc _, Blk.new' (by simp), (by repeat (first | (with_reducible exact Below.refl _ _) | ((with_reducible refine below_setr ?_ ?_); focus (first | (simp; done) | (simp; omega) | omega)) | ((with_reducible refine below_allocr ?_ ?_); focus (first | (simp; done) | (simp; omega) | omega)) | (with_reducible refine Below.drew ?_) | (with_reducible refine below_drewN ?_ _))), fun j hj => absurd hj (Nat.not_lt_zero _)⟩
  case round =>
    obtain ⟨k, hk, rfl, hblk, hblkb, hbel, hall⟩ := hrel
    obtain ⟨a0, a1, a2, a3, a4, af, az⟩ := hblk.b5
    obtain ⟨b0, b1, b2, b3, b4, bf, bz⟩ := hblkb.b5
    have B_a := Lib.hid hblk
    have B_b := Lib.hid hblkb
    have HALL := Lib.hid hall
    clear hblk hblkb hall
    have hhe : w.heap.size ≤ wr.heap.size := hbel.size
    have hh2 : w.heap.size + 1 < wr.heap.size := bz
    by_cases hlt : k < 12
    · have hlt' : (k : Int) < 12 := by omega
      go_wp2_with fail
      refine wp_region_T (fun w' => (w'.cell? ⟨w.heap.size, 0, none⟩ = some (.int .i64 ad) ∧ w'.cell? ⟨w.heap.size, 1, none⟩ = some (.int .i64 aq) ∧ w'.cell? ⟨w.heap.size, 2, none⟩ = some (.slice aA al.length ac) ∧ w'.cell? ⟨w.heap.size, 3, none⟩ = some (.int .i64 at') ∧ w'.cell? ⟨w.heap.size, 4, none⟩ = some (.string ax)) ∧ (w'.cell? ⟨w.heap.size + 1, 0, none⟩ = some (.int .i64 bd) ∧ w'.cell? ⟨w.heap.size + 1, 1, none⟩ = some (.int .i64 bq) ∧ w'.cell? ⟨w.heap.size + 1, 2, none⟩ = some (.slice bA bl.length bc) ∧ w'.cell? ⟨w.heap.size + 1, 3, none⟩ = some (.int .i64 bt) ∧ w'.cell? ⟨w.heap.size + 1, 4, none⟩ = some (.string bx))) (fun _ => false) (by kernel_rfl) ⟨⟨a0, a1, a2, a3, a4⟩, b0, b1, b2, b3, b4⟩ (fun hHeld => ?_)
      refine wpAnyT_take2 (i := 0) (v := ?_) rfl rfl (by kernel_rfl) (by kernel_rfl) (by kernel_rfl) (by kernel_rfl) (fun _ _ _ h => h) (Or.inl ⟨by rfl, ?_⟩) (by first | assumption | trivial) ?_
      rotate_left
      · (intro w hSw; (try dsimp only at hSw); go_simp) <;> (with_reducible rfl)
      simp only [List.setIfInBounds_toArray, List.set_cons_zero, List.set_cons_succ]
      refine wpAnyT_take2 (i := 1) (v := ?_) rfl rfl (by kernel_rfl) (by kernel_rfl) (by kernel_rfl) (by kernel_rfl) (fun _ _ _ h => h) (Or.inl ⟨by rfl, ?_⟩) (by first | assumption | trivial) ?_
      rotate_left
      · (intro w hSw; (try dsimp only at hSw); go_simp) <;> (with_reducible rfl)
      simp only [List.setIfInBounds_toArray, List.set_cons_zero, List.set_cons_succ]
      refine wpAnyT_take2 (i := 3) (v := ?_) rfl rfl (by kernel_rfl) (by kernel_rfl) (by kernel_rfl) (by kernel_rfl) (fun _ _ _ h => h) (Or.inl ⟨by rfl, ?_⟩) (by first | assumption | trivial) ?_
      rotate_left
      · (intro w hSw; (try dsimp only at hSw); go_simp) <;> (with_reducible rfl)
      simp only [List.setIfInBounds_toArray, List.set_cons_zero, List.set_cons_succ]
      refine wpAnyT_take2 (i := 4) (v := ?_) rfl rfl (by kernel_rfl) (by kernel_rfl) (by kernel_rfl) (by kernel_rfl) (fun _ _ _ h => h) (Or.inl ⟨by rfl, ?_⟩) (by first | assumption | trivial) ?_
      rotate_left
      · (intro w hSw; (try dsimp only at hSw); go_simp) <;> (with_reducible rfl)
      simp only [List.setIfInBounds_toArray, List.set_cons_zero, List.set_cons_succ]
      clear hHeld
      refine wpAnyT_next (i := 2) (by kernel_rfl) rfl ?_
      go_wp2_with fail
      refine (mafter ⟨ad, aq, ⟨aA, ac, al⟩, at', ax⟩ k (by omega) _ (HA.out.below' (by repeat (first | (with_reducible exact hbel) | (with_reducible exact Below.refl _ _) | ((with_reducible refine below_setr ?_ ?_); focus (first | (simp; done) | (simp; omega) | omega)) | ((with_reducible refine below_allocr ?_ ?_); focus (first | (simp; done) | (simp; omega) | omega)) | (with_reducible refine Below.drew ?_) | (with_reducible refine below_drewN ?_ _) | ((with_reducible apply below_via); focus (with_reducible assumption)))) (Nat.le_refl _))).mono ?_
      rintro e w1 ⟨rfl, hb1⟩
      clear a0 a1 a2 a3 a4 af b0 b1 b2 b3 b4 bf
      have K_a : Blk _ (w.heap.size) 61 #[.int .i64 ad, .int .i64 aq, .slice aA al.length ac, .int .i64 at', .string ax] := blk_later hb1 (by simp [hp_past, hp_at, hp_other, hp_same, hp_drew, hp_drewN, B_a.out.eq, B_a.out.lt, hp_same B_a.out.eq])
      obtain ⟨a0, a1, a2, a3, a4, af, az⟩ := Blk.b5 K_a
      have B_a := Lib.hid K_a
      clear K_a
      have K_b : Blk _ (w.heap.size + 1) 61 #[.int .i64 bd, .int .i64 bq, .slice bA bl.length bc, .int .i64 bt, .string bx] := blk_later hb1 (by simp [hp_past, hp_at, hp_other, hp_same, hp_drew, hp_drewN, B_b.out.eq, B_b.out.lt, hp_same B_b.out.eq])
      obtain ⟨b0, b1, b2, b3, b4, bf, bz⟩ := Blk.b5 K_b
      have B_b := Lib.hid K_b
      clear K_b
      have hB1 : Below w.heap.size w w1 := (by repeat (first | (with_reducible exact hbel) | (with_reducible exact Below.refl _ _) | ((with_reducible refine below_setr ?_ ?_); focus (first | (simp; done) | (simp; omega) | omega)) | ((with_reducible refine below_allocr ?_ ?_); focus (first | (simp; done) | (simp; omega) | omega)) | (with_reducible refine Below.drew ?_) | (with_reducible refine below_drewN ?_ _) | ((with_reducible apply below_via); focus (with_reducible assumption))))
      clear hb1
      go_wp2_with fail
      refine ⟨(by first | exact fun _ => ⟨⟨a0, a1, a2, a3, a4⟩, b0, b1, b2, b3, b4⟩ | exact ⟨⟨a0, a1, a2, a3, a4⟩, b0, b1, b2, b3, b4⟩), ?_⟩
      refine wpAnyT_next (i := 5) (by kernel_rfl) rfl ?_
      go_wp2_with fail
      refine (mafter ⟨bd, bq, ⟨bA, bc, bl⟩, bt, bx⟩ k (by omega) _ (HB.out.below' (by repeat (first | (with_reducible exact hB1) | (with_reducible exact Below.refl _ _) | ((with_reducible refine below_setr ?_ ?_); focus (first | (simp; done) | (simp; omega) | omega)) | ((with_reducible refine below_allocr ?_ ?_); focus (first | (simp; done) | (simp; omega) | omega)) | (with_reducible refine Below.drew ?_) | (with_reducible refine below_drewN ?_ _) | ((with_reducible apply below_via); focus (with_reducible assumption)))) (Nat.le_refl _))).mono ?_
      rintro e w2 ⟨rfl, hb2⟩
      clear a0 a1 a2 a3 a4 af b0 b1 b2 b3 b4 bf
      have K_a : Blk _ (w.heap.size) 61 #[.int .i64 ad, .int .i64 aq, .slice aA al.length ac, .int .i64 at', .string ax] := blk_later hb2 (by simp [hp_past, hp_at, hp_other, hp_same, hp_drew, hp_drewN, B_a.out.eq, B_a.out.lt, hp_same B_a.out.eq])
      obtain ⟨a0, a1, a2, a3, a4, af, az⟩ := Blk.b5 K_a
      have B_a := Lib.hid K_a
      clear K_a
      have K_b : Blk _ (w.heap.size + 1) 61 #[.int .i64 bd, .int .i64 bq, .slice bA bl.length bc, .int .i64 bt, .string bx] := blk_later hb2 (by simp [hp_past, hp_at, hp_other, hp_same, hp_drew, hp_drewN, B_b.out.eq, B_b.out.lt, hp_same B_b.out.eq])
      obtain ⟨b0, b1, b2, b3, b4, bf, bz⟩ := Blk.b5 K_b
      have B_b := Lib.hid K_b
      clear K_b
      have hB2 : Below w.heap.size w w2 := (by repeat (first | (with_reducible exact hB1) | (with_reducible exact Below.refl _ _) | ((with_reducible refine below_setr ?_ ?_); focus (first | (simp; done) | (simp; omega) | omega)) | ((with_reducible refine below_allocr ?_ ?_); focus (first | (simp; done) | (simp; omega) | omega)) | (with_reducible refine Below.drew ?_) | (with_reducible refine below_drewN ?_ _) | ((with_reducible apply below_via); focus (with_reducible assumption))))
      clear hb2
      try simp only
      generalize hva : seenN al k = va
      generalize hvb : seenN bl k = vb
      have HVA := Lib.hid hva
      have HVB := Lib.hid hvb
      clear hva hvb
      go_wp2_with fail
      refine ⟨(by first | exact fun _ => ⟨⟨a0, a1, a2, a3, a4⟩, b0, b1, b2, b3, b4⟩ | exact ⟨⟨a0, a1, a2, a3, a4⟩, b0, b1, b2, b3, b4⟩), ?_⟩
      have hHeld := And.intro (And.intro a0 (And.intro a1 (And.intro a2 (And.intro a3 a4)))) (And.intro b0 (And.intro b1 (And.intro b2 (And.intro b3 b4))))
      refine wpAnyT_take2 (i := 6) (v := ?_) rfl rfl (by kernel_rfl) (by kernel_rfl) (by kernel_rfl) (by kernel_rfl) (fun _ _ _ h => h) (Or.inl ⟨by rfl, ?_⟩) (by first | assumption | trivial) ?_
      rotate_left
      · (intro w hSw; (try dsimp only at hSw); go_simp) <;> (with_reducible rfl)
      simp only [List.setIfInBounds_toArray, List.set_cons_zero, List.set_cons_succ]
      refine wpAnyT_done (by kernel_rfl) ?_ _
      clear hHeld
      by_cases hxy : va = vb
      · have hxy' : (va != vb) = false := by simp [hxy]
        have HXY := Lib.hid hxy
        clear hxy
        go_wp2_with fail
        go_roundw
        case rel =>
          refine ⟨k + 1, by omega, by go_num, B_a.out, B_b.out, (by repeat (first | (with_reducible exact hB2) | (with_reducible exact Below.refl _ _) | ((with_reducible refine below_setr ?_ ?_); focus (first | (simp; done) | (simp; omega) | omega)) | ((with_reducible refine below_allocr ?_ ?_); focus (first | (simp; done) | (simp; omega) | omega)) | (with_reducible refine Below.drew ?_) | (with_reducible refine below_drewN ?_ _) | ((with_reducible apply below_via); focus (with_reducible assumption)))), fun j hj => ?_⟩
          rcases Nat.lt_or_ge j k with h1 | h1
          · exact HALL.out j h1
          · obtain rfl : j = k := by omega
            rw [HVA.out, HVB.out, HXY.out]
        case measure => simp [intOf]; omega
      · have hxy' : (va != vb) = true := by simp [hxy]
        have hv : NoteD.psame (Note.d ⟨ad, aq, ⟨aA, ac, al⟩, at', ax⟩) (Note.d ⟨bd, bq, ⟨bA, bc, bl⟩, bt, bx⟩) = false := by
          exact NoteD.psame_no (k := k) hlt (fun h => hxy (by rw [← HVA.out, ← HVB.out]; exact h))
        have HV := Lib.hid hv
        clear hxy hv
        go_wp2_with fail
        go_ret
        exact ⟨ret_bool HV.out.symm, (by repeat (first | (with_reducible exact hB2) | (with_reducible exact Below.refl _ _) | ((with_reducible refine below_setr ?_ ?_); focus (first | (simp; done) | (simp; omega) | omega)) | ((with_reducible refine below_allocr ?_ ?_); focus (first | (simp; done) | (simp; omega) | omega)) | (with_reducible refine Below.drew ?_) | (with_reducible refine below_drewN ?_ _) | ((with_reducible apply below_via); focus (with_reducible assumption))))⟩
    · have hv : NoteD.psame (Note.d ⟨ad, aq, ⟨aA, ac, al⟩, at', ax⟩) (Note.d ⟨bd, bq, ⟨bA, bc, bl⟩, bt, bx⟩) = ((ad == bd) && ((aq == bq) && ((at' == bt) && (ax.toList == bx.toList)))) := by
        rw [bytes_beq]
        exact NoteD.psame_yes (fun j hj => HALL.out j (by omega))
      have HV := Lib.hid hv
      have h1 : ¬ (k : Int) < 12 := by omega
      clear hv hlt
      rcases e1 : (ad == bd)
      rotate_left
      rcases e2 : (aq == bq)
      rotate_left
      rcases e3 : (at' == bt)
      rotate_left
      rcases e4 : (ax.toList == bx.toList)
      rotate_left
      all_goals go_wp2_with fail
      all_goals
        go_ret
        exact ⟨ret_bool (by rw [HV.out]; simp only [*, Bool.and_true, Bool.true_and, Bool.and_false, Bool.false_and]), (by repeat (first | (with_reducible exact hbel) | (with_reducible exact Below.refl _ _) | ((with_reducible refine below_setr ?_ ?_); focus (first | (simp; done) | (simp; omega) | omega)) | ((with_reducible refine below_allocr ?_ ?_); focus (first | (simp; done) | (simp; omega) | omega)) | (with_reducible refine Below.drew ?_) | (with_reducible refine below_drewN ?_ _) | ((with_reducible apply below_via); focus (with_reducible assumption))))⟩
set_option maxHeartbeats 1000000 in
theorem mbefore0 (a b : Note) (h0 : 0 ≤ a.dev) (w : World) (hb : Rd (· < w.heap.size) 1 ienc w b.af) :
    Calls Try.prog 94 #[a.v, b.v] w fun e w' => e = .returned (.bool (befN a.d b.d)) ∧ Below w.heap.size w w' := by
  obtain ⟨ad, aq, ⟨aA, ac, al⟩, at', ax⟩ := a
  obtain ⟨bd, bq, ⟨bA, bc, bl⟩, bt, bx⟩ := b
  have HB := Lib.hid hb
  clear hb
  simp only [Note.v]
  simp only at h0
  by_cases hd : ad = bd
  · have hv : befN (Note.d ⟨ad, aq, ⟨aA, ac, al⟩, at', ax⟩) (Note.d ⟨bd, bq, ⟨bA, bc, bl⟩, bt, bx⟩) = decide (aq < bq) := by unfold befN; exact if_pos hd
    rw [hv]
    clear hv
    go_enter Try.func94, Try.ntmps94
    go_wp2_with fail
    go_ret
    exact ⟨rfl, (by repeat (first | (with_reducible exact Below.refl _ _) | ((with_reducible refine below_setr ?_ ?_); focus (first | (simp; done) | (simp; omega) | omega)) | ((with_reducible refine below_allocr ?_ ?_); focus (first | (simp; done) | (simp; omega) | omega)) | (with_reducible refine Below.drew ?_) | (with_reducible refine below_drewN ?_ _)))⟩
  · have hv : befN (Note.d ⟨ad, aq, ⟨aA, ac, al⟩, at', ax⟩) (Note.d ⟨bd, bq, ⟨bA, bc, bl⟩, bt, bx⟩) = decide (aq < seenN bl ad) := by unfold befN; exact if_neg hd
    rw [hv]
    clear hv
    go_enter Try.func94, Try.ntmps94
    go_wp2_with fail
    have K_a := (Blk.new w 61 #[.int .i64 ad, .int .i64 aq, .slice aA al.length ac, .int .i64 at', .string ax]).alloc (.cells #[.int .i64 bd, .int .i64 bq, .slice bA bl.length bc, .int .i64 bt, .string bx] 61)
    have K_b : Blk (World.alloc (World.alloc w (.cells #[.int .i64 ad, .int .i64 aq, .slice aA al.length ac, .int .i64 at', .string ax] 61)) (.cells #[.int .i64 bd, .int .i64 bq, .slice bA bl.length bc, .int .i64 bt, .string bx] 61)) (w.heap.size + 1) 61 #[.int .i64 bd, .int .i64 bq, .slice bA bl.length bc, .int .i64 bt, .string bx] := Blk.new' (by simp)
    obtain ⟨a0, a1, a2, a3, a4, af, az⟩ := K_a.b5
    obtain ⟨b0, b1, b2, b3, b4, bf, bz⟩ := K_b.b5
    have B_a := Lib.hid K_a
    have B_b := Lib.hid K_b
    clear K_a K_b
    refine wp_region_T (fun w' => (w'.cell? ⟨w.heap.size, 0, none⟩ = some (.int .i64 ad) ∧ w'.cell? ⟨w.heap.size, 1, none⟩ = some (.int .i64 aq) ∧ w'.cell? ⟨w.heap.size, 2, none⟩ = some (.slice aA al.length ac) ∧ w'.cell? ⟨w.heap.size, 3, none⟩ = some (.int .i64 at') ∧ w'.cell? ⟨w.heap.size, 4, none⟩ = some (.string ax)) ∧ (w'.cell? ⟨w.heap.size + 1, 0, none⟩ = some (.int .i64 bd) ∧ w'.cell? ⟨w.heap.size + 1, 1, none⟩ = some (.int .i64 bq) ∧ w'.cell? ⟨w.heap.size + 1, 2, none⟩ = some (.slice bA bl.length bc) ∧ w'.cell? ⟨w.heap.size + 1, 3, none⟩ = some (.int .i64 bt) ∧ w'.cell? ⟨w.heap.size + 1, 4, none⟩ = some (.string bx))) (fun _ => false) (by kernel_rfl) ⟨⟨a0, a1, a2, a3, a4⟩, b0, b1, b2, b3, b4⟩ (fun hHeld => ?_)
    refine wpAnyT_take2 (i := 0) (v := ?_) rfl rfl (by kernel_rfl) (by kernel_rfl) (by kernel_rfl) (by kernel_rfl) (fun _ _ _ h => h) (Or.inl ⟨by rfl, ?_⟩) (by first | assumption | trivial) ?_
    rotate_left
    · (intro w hSw; (try dsimp only at hSw); go_simp) <;> (with_reducible rfl)
    simp only [List.setIfInBounds_toArray, List.set_cons_zero, List.set_cons_succ]
    refine wpAnyT_take2 (i := 1) (v := ?_) rfl rfl (by kernel_rfl) (by kernel_rfl) (by kernel_rfl) (by kernel_rfl) (fun _ _ _ h => h) (Or.inl ⟨by rfl, ?_⟩) (by first | assumption | trivial) ?_
    rotate_left
    · (intro w hSw; (try dsimp only at hSw); go_simp) <;> (with_reducible rfl)
    simp only [List.setIfInBounds_toArray, List.set_cons_zero, List.set_cons_succ]
    refine wpAnyT_take2 (i := 2) (v := ?_) rfl rfl (by kernel_rfl) (by kernel_rfl) (by kernel_rfl) (by kernel_rfl) (fun _ _ _ h => h) (Or.inl ⟨by rfl, ?_⟩) (by first | assumption | trivial) ?_
    rotate_left
    · (intro w hSw; (try dsimp only at hSw); go_simp) <;> (with_reducible rfl)
    simp only [List.setIfInBounds_toArray, List.set_cons_zero, List.set_cons_succ]
    refine wpAnyT_take2 (i := 3) (v := ?_) rfl rfl (by kernel_rfl) (by kernel_rfl) (by kernel_rfl) (by kernel_rfl) (fun _ _ _ h => h) (Or.inl ⟨by rfl, ?_⟩) (by first | assumption | trivial) ?_
    rotate_left
    · (intro w hSw; (try dsimp only at hSw); go_simp) <;> (with_reducible rfl)
    simp only [List.setIfInBounds_toArray, List.set_cons_zero, List.set_cons_succ]
    refine wpAnyT_take2 (i := 4) (v := ?_) rfl rfl (by kernel_rfl) (by kernel_rfl) (by kernel_rfl) (by kernel_rfl) (fun _ _ _ h => h) (Or.inl ⟨by rfl, ?_⟩) (by first | assumption | trivial) ?_
    rotate_left
    · (intro w hSw; (try dsimp only at hSw); go_simp) <;> (with_reducible rfl)
    simp only [List.setIfInBounds_toArray, List.set_cons_zero, List.set_cons_succ]
    clear hHeld
    refine wpAnyT_next (i := 5) (by kernel_rfl) rfl ?_
    go_wp2_with fail
    refine (mafter ⟨bd, bq, ⟨bA, bc, bl⟩, bt, bx⟩ ad h0 _ (HB.out.below' (by repeat (first | (with_reducible exact Below.refl _ _) | ((with_reducible refine below_setr ?_ ?_); focus (first | (simp; done) | (simp; omega) | omega)) | ((with_reducible refine below_allocr ?_ ?_); focus (first | (simp; done) | (simp; omega) | omega)) | (with_reducible refine Below.drew ?_) | (with_reducible refine below_drewN ?_ _))) (Nat.le_refl _))).mono ?_
    rintro e w1 ⟨rfl, hb1⟩
    clear a0 a1 a2 a3 a4 af b0 b1 b2 b3 b4 bf
    have K_a : Blk _ (w.heap.size) 61 #[.int .i64 ad, .int .i64 aq, .slice aA al.length ac, .int .i64 at', .string ax] := blk_later hb1 (by simp [hp_past, hp_at, hp_other, hp_same, hp_drew, hp_drewN, B_a.out.eq, B_a.out.lt, hp_same B_a.out.eq])
    obtain ⟨a0, a1, a2, a3, a4, af, az⟩ := Blk.b5 K_a
    have B_a := Lib.hid K_a
    clear K_a
    have K_b : Blk _ (w.heap.size + 1) 61 #[.int .i64 bd, .int .i64 bq, .slice bA bl.length bc, .int .i64 bt, .string bx] := blk_later hb1 (by simp [hp_past, hp_at, hp_other, hp_same, hp_drew, hp_drewN, B_b.out.eq, B_b.out.lt, hp_same B_b.out.eq])
    obtain ⟨b0, b1, b2, b3, b4, bf, bz⟩ := Blk.b5 K_b
    have B_b := Lib.hid K_b
    clear K_b
    have hB1 : Below w.heap.size w w1 := (by repeat (first | (with_reducible exact Below.refl _ _) | ((with_reducible refine below_setr ?_ ?_); focus (first | (simp; done) | (simp; omega) | omega)) | ((with_reducible refine below_allocr ?_ ?_); focus (first | (simp; done) | (simp; omega) | omega)) | (with_reducible refine Below.drew ?_) | (with_reducible refine below_drewN ?_ _) | ((with_reducible apply below_via); focus (with_reducible assumption))))
    clear hb1
    try simp only
    generalize hva : seenN bl ad = va
    have HVA := Lib.hid hva
    clear hva
    go_wp2_with fail
    refine ⟨(by first | exact fun _ => ⟨⟨a0, a1, a2, a3, a4⟩, b0, b1, b2, b3, b4⟩ | exact ⟨⟨a0, a1, a2, a3, a4⟩, b0, b1, b2, b3, b4⟩), ?_⟩
    have hHeld := And.intro (And.intro a0 (And.intro a1 (And.intro a2 (And.intro a3 a4)))) (And.intro b0 (And.intro b1 (And.intro b2 (And.intro b3 b4))))
    refine wpAnyT_take2 (i := 6) (v := ?_) rfl rfl (by kernel_rfl) (by kernel_rfl) (by kernel_rfl) (by kernel_rfl) (fun _ _ _ h => h) (Or.inl ⟨by rfl, ?_⟩) (by first | assumption | trivial) ?_
    rotate_left
    · (intro w hSw; (try dsimp only at hSw); go_simp) <;> (with_reducible rfl)
    simp only [List.setIfInBounds_toArray, List.set_cons_zero, List.set_cons_succ]
    refine wpAnyT_take2 (i := 7) (v := ?_) rfl rfl (by kernel_rfl) (by kernel_rfl) (by kernel_rfl) (by kernel_rfl) (fun _ _ _ h => h) (Or.inl ⟨by rfl, ?_⟩) (by first | assumption | trivial) ?_
    rotate_left
    · (intro w hSw; (try dsimp only at hSw); go_simp) <;> (with_reducible rfl)
    simp only [List.setIfInBounds_toArray, List.set_cons_zero, List.set_cons_succ]
    refine wpAnyT_done (by kernel_rfl) ?_ _
    clear hHeld
    go_wp2_with fail
    go_ret
    exact ⟨by rw [HVA.out]; simp [Act.eval, go_sem], (by repeat (first | (with_reducible exact hB1) | (with_reducible exact Below.refl _ _) | ((with_reducible refine below_setr ?_ ?_); focus (first | (simp; done) | (simp; omega) | omega)) | ((with_reducible refine below_allocr ?_ ?_); focus (first | (simp; done) | (simp; omega) | omega)) | (with_reducible refine Below.drew ?_) | (with_reducible refine below_drewN ?_ _) | ((with_reducible apply below_via); focus (with_reducible assumption))))⟩
set_option maxHeartbeats 600000 in
theorem mready (n : Note) (dn : Sl Int) (w : World) (hr : Rd (· < w.heap.size) 1 ienc w n.af) (hd : Rd (· < w.heap.size) 1 ienc w dn) :
    Calls Try.prog 87 #[n.v, .slice dn.A dn.l.length dn.c] w fun e w' => e = .returned (.bool (rdyN n.d dn.l)) ∧ Below w.heap.size w w' := by
  obtain ⟨nd, nq, ⟨nA, nc, nl⟩, nt, nx⟩ := n
  obtain ⟨A, c, l⟩ := dn
  have hn := hd.len
  simp only at hn
  have HR := Lib.hid hr
  have HD := Lib.hid hd
  clear hr hd
  simp only [Note.v]
  go_enter Try.func87, Try.ntmps87
  go_wp2_with fail
  go_loopw [9] (fun i wr => ∃ (k : Nat), k ≤ l.length ∧ i = .int .i64 k ∧ Blk wr w.heap.size 61 #[.int .i64 nd, .int .i64 nq, .slice nA nl.length nc, .int .i64 nt, .string nx] ∧ Below w.heap.size w wr ∧ (∀ d : Nat, d < k → (d : Int) = nd ∨ seenN nl d ≤ l.getD d 0)) (fun i _ => l.length - (intOf i).toNat)
  case atStart => exact ⟨0, by omega, rfl, Blk.new _ _ _, (by repeat (first | (with_reducible exact Below.refl _ _) | ((with_reducible refine below_setr ?_ ?_); focus (first | (simp; done) | (simp; omega) | omega)) | ((with_reducible refine below_allocr ?_ ?_); focus (first | (simp; done) | (simp; omega) | omega)) | (with_reducible refine Below.drew ?_) | (with_reducible refine below_drewN ?_ _))), fun j hj => absurd hj (Nat.not_lt_zero _)⟩
  case round =>
    obtain ⟨k, hk, rfl, hblk, hbel, hall⟩ := hrel
    obtain ⟨a0, a1, a2, a3, a4, af, az⟩ := hblk.b5
    have B_a := Lib.hid hblk
    have HALL := Lib.hid hall
    clear hblk hall
    have hhe : w.heap.size ≤ wr.heap.size := hbel.size
    by_cases hlt : k < l.length
    · obtain ⟨b, o, rfl, hb, hcl⟩ := HD.out.at1 hlt
      have g0 := (hcl.keep (hbel.block b hb)).c1
      simp only [Nat.mul_one] at g0
      have hx : l.getD k 0 = l[k] := by simp [List.getD, hlt]
      generalize l[k] = x at *
      have HX := Lib.hid hx
      clear hx hcl
      by_cases hkd : (k : Int) = nd
      · have e1 : ((k : Int) != nd) = false := by simp [hkd]
        have HKD := Lib.hid hkd
        clear hkd
        go_wp2_with fail
        go_roundw
        case rel =>
          refine ⟨k + 1, by omega, by go_num, B_a.out, hbel, fun j hj => ?_⟩
          rcases Nat.lt_or_ge j k with h1 | h1
          · exact HALL.out j h1
          · obtain rfl : j = k := by omega
            exact .inl HKD.out
        case measure => simp [intOf]; omega
      · have e1 : ((k : Int) != nd) = true := by simp [hkd]
        have HKD := Lib.hid hkd
        clear hkd
        go_wp2_with fail
        refine (mafter ⟨nd, nq, ⟨nA, nc, nl⟩, nt, nx⟩ k (by omega) _ (HR.out.below' (by repeat (first | (with_reducible exact hbel) | (with_reducible exact Below.refl _ _) | ((with_reducible refine below_setr ?_ ?_); focus (first | (simp; done) | (simp; omega) | omega)) | ((with_reducible refine below_allocr ?_ ?_); focus (first | (simp; done) | (simp; omega) | omega)) | (with_reducible refine Below.drew ?_) | (with_reducible refine below_drewN ?_ _) | ((with_reducible apply below_via); focus (with_reducible assumption)))) (Nat.le_refl _))).mono ?_
        rintro e w1 ⟨rfl, hb1⟩
        clear a0 a1 a2 a3 a4 af
        have K_a : Blk _ (w.heap.size) 61 #[.int .i64 nd, .int .i64 nq, .slice nA nl.length nc, .int .i64 nt, .string nx] := blk_later hb1 (by simp [hp_past, hp_at, hp_other, hp_same, hp_drew, hp_drewN, B_a.out.eq, B_a.out.lt, hp_same B_a.out.eq])
        obtain ⟨a0, a1, a2, a3, a4, af, az⟩ := Blk.b5 K_a
        have B_a := Lib.hid K_a
        clear K_a
        have hB1 : Below w.heap.size w w1 := (by repeat (first | (with_reducible exact hbel) | (with_reducible exact Below.refl _ _) | ((with_reducible refine below_setr ?_ ?_); focus (first | (simp; done) | (simp; omega) | omega)) | ((with_reducible refine below_allocr ?_ ?_); focus (first | (simp; done) | (simp; omega) | omega)) | (with_reducible refine Below.drew ?_) | (with_reducible refine below_drewN ?_ _) | ((with_reducible apply below_via); focus (with_reducible assumption))))
        clear hb1
        try simp only
        generalize hva : seenN nl k = va
        have HVA := Lib.hid hva
        clear hva
        rcases Int.lt_or_le x va with hxv | hxv
        · have HXV := Lib.hid hxv
          go_wp2_with fail
          go_ret
          refine ⟨ret_bool ?_, (by repeat (first | (with_reducible exact hB1) | (with_reducible exact Below.refl _ _) | ((with_reducible refine below_setr ?_ ?_); focus (first | (simp; done) | (simp; omega) | omega)) | ((with_reducible refine below_allocr ?_ ?_); focus (first | (simp; done) | (simp; omega) | omega)) | (with_reducible refine Below.drew ?_) | (with_reducible refine below_drewN ?_ _) | ((with_reducible apply below_via); focus (with_reducible assumption))))⟩
          symm
          unfold rdyN
          rw [decide_eq_false_iff_not]
          intro h
          rcases h k hlt with h | h
          · exact HKD.out h
          · rw [HX.out] at h
            have h2 : seenN nl k ≤ x := h
            rw [HVA.out] at h2
            exact absurd HXV.out (by omega)
        · have HXV := Lib.hid hxv
          go_wp2_with fail
          go_roundw
          case rel =>
            refine ⟨k + 1, by omega, by go_num, B_a.out, (by repeat (first | (with_reducible exact hB1) | (with_reducible exact Below.refl _ _) | ((with_reducible refine below_setr ?_ ?_); focus (first | (simp; done) | (simp; omega) | omega)) | ((with_reducible refine below_allocr ?_ ?_); focus (first | (simp; done) | (simp; omega) | omega)) | (with_reducible refine Below.drew ?_) | (with_reducible refine below_drewN ?_ _) | ((with_reducible apply below_via); focus (with_reducible assumption)))), fun j hj => ?_⟩
            rcases Nat.lt_or_ge j k with h1 | h1
            · exact HALL.out j h1
            · obtain rfl : j = k := by omega
              right
              rw [HX.out, HVA.out]; exact HXV.out
          case measure => simp [intOf]; omega
    · go_wp2_with fail
      go_ret
      refine ⟨ret_bool ?_, (by repeat (first | (with_reducible exact hbel) | (with_reducible exact Below.refl _ _) | ((with_reducible refine below_setr ?_ ?_); focus (first | (simp; done) | (simp; omega) | omega)) | ((with_reducible refine below_allocr ?_ ?_); focus (first | (simp; done) | (simp; omega) | omega)) | (with_reducible refine Below.drew ?_) | (with_reducible refine below_drewN ?_ _) | ((with_reducible apply below_via); focus (with_reducible assumption))))⟩
      symm
      unfold rdyN
      rw [decide_eq_true_iff]
      exact fun d hd => HALL.out d (Nat.lt_of_lt_of_le hd (by omega))
end Go.Proofs.Ythnblhbdfpmolaa
