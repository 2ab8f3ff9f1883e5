/- Walks of the reference of layer 41: lists of numbers, the same notes. -/
import Derived.Test.YthnblhbdfpmolaaPNotemxau
import Derived.Test.YthnblhbdfpmolaaPNotemxas
namespace Go.Proofs.Ythnblhbdfpmolaa
open Go.RowKit
set_option maxHeartbeats 600000 in
theorem rints (s t : Sl Int) (w : World) (hr : Rd (· < w.heap.size) 1 ienc w s) (ht : Rd (· < w.heap.size) 1 ienc w t) :
    Calls Try.prog 39 #[.slice s.A s.l.length s.c, .slice t.A t.l.length t.c] w fun e w' => e = .returned (.bool (decide (s.l = t.l))) ∧ Below w.heap.size w w' := by
  obtain ⟨A, c, l⟩ := s
  obtain ⟨A', c', m⟩ := t
  have hn := hr.len
  have hn' := ht.len
  simp only at hn hn'
  have HR := Lib.hid hr
  have HT := Lib.hid ht
  clear hr ht
  simp only
  by_cases he : l.length = m.length
  · have he' : ((l.length : Int) != m.length) = false := by simp; omega
    have HE := Lib.hid he
    clear he
    go_enter Try.func39, Try.ntmps39
    go_wp2_with fail
    go_loopw [5] (fun i wr => ∃ (k : Nat), k ≤ l.length ∧ i = .int .i64 k ∧ Below w.heap.size w wr ∧ (∀ j, j < k → l[j]? = m[j]?)) (fun i _ => l.length - (intOf i).toNat)
    case atStart => exact ⟨0, by omega, rfl, qbl, fun j hj => absurd hj (Nat.not_lt_zero _)⟩
    case round =>
      obtain ⟨k, hk, rfl, hbel, hall⟩ := hrel
      have HALL := Lib.hid hall
      clear hall
      have hhe : w.heap.size ≤ wr.heap.size := hbel.size
      by_cases hlt : k < l.length
      · have hlm : k < m.length := by have := HE.out; omega
        obtain ⟨b, o, rfl, hb, hcl⟩ := HR.out.at1 hlt
        obtain ⟨b', o', rfl, hb', hcl'⟩ := HT.out.at1 hlm
        have g0 := (hcl.keep (hbel.block b hb)).c1
        have g0' := (hcl'.keep (hbel.block b' hb')).c1
        simp only [Nat.mul_one] at g0 g0'
        have hx : l[k]? = some l[k] := List.getElem?_eq_getElem hlt
        have hy : m[k]? = some m[k] := List.getElem?_eq_getElem hlm
        generalize l[k] = x at *
        generalize m[k] = y at *
        have HX := Lib.hid hx
        have HY := Lib.hid hy
        clear hx hy hcl hcl'
        go_wp2_with fail
        refine wp_region_T (fun w' => w'.cell? ⟨b, o + k, none⟩ = some (.int .i64 x) ∧ w'.cell? ⟨b', o' + k, none⟩ = some (.int .i64 y)) (fun _ => false) (by kernel_rfl) ⟨g0, g0'⟩ (fun hHeld => ?_)
        refine qtq 0 ?_
        simp only [qsa, qsb, qsc]
        refine qtq 1 ?_
        simp only [qsa, qsb, qsc]
        refine qtq 2 ?_
        simp only [qsa, qsb, qsc]
        refine qtq 3 ?_
        simp only [qsa, qsb, qsc]
        refine qtq 4 ?_
        simp only [qsa, qsb, qsc]
        refine qtq 5 ?_
        simp only [qsa, qsb, qsc]
        refine qtq 6 ?_
        simp only [qsa, qsb, qsc]
        refine qtq 7 ?_
        simp only [qsa, qsb, qsc]
        refine qtq 8 ?_
        simp only [qsa, qsb, qsc]
        refine wpAnyT_done (by kernel_rfl) ?_ _
        by_cases hxy : x = y
        · have hxy' : (x != y) = false := by simp [hxy]
          have HXY := Lib.hid hxy
          clear hxy hHeld
          go_wp2_with fail
          go_roundw
          case rel =>
            refine ⟨k + 1, by omega, by go_num, qbv, fun j hj => ?_⟩
            rcases Nat.lt_or_ge j k with h1 | h1
            · exact HALL.out j h1
            · obtain rfl : j = k := by omega
              rw [HX.out, HY.out, HXY.out]
          case measure => simp [intOf]; omega
        · have hxy' : (x != y) = true := by simp [hxy]
          have HXY := Lib.hid hxy
          clear hxy hHeld
          go_wp2_with fail
          go_ret
          refine ⟨ret_bool ?_, qbv⟩
          symm
          simp only [decide_eq_false_iff_not]
          intro h
          rw [h, HY.out] at HX
          exact HXY.out (by have := HX.out; injection this with this; exact this.symm)
      · have hv : l = m := by
          apply List.ext_getElem?
          intro j
          rcases Nat.lt_or_ge j l.length with h1 | h1
          · exact HALL.out j (by omega)
          · rw [List.getElem?_eq_none h1, List.getElem?_eq_none (by have := HE.out; omega)]
        have HV := Lib.hid hv
        clear hv
        go_wp2_with fail
        go_ret
        exact ⟨ret_bool (by simp [HV.out]), qbv⟩
  · have he' : ((l.length : Int) != m.length) = true := by simp; omega
    have hv : decide (l = m) = false := by simp; intro h; exact he (by rw [h])
    have HV := Lib.hid hv
    clear hv he
    go_enter Try.func39, Try.ntmps39
    go_wp2_with fail
    go_ret
    exact ⟨ret_bool HV.out.symm, qbl⟩
theorem bytes_beq (x y : ByteArray) : (x.toList == y.toList) = decide (x = y) := by
  by_cases h : x = y
  · subst h; simp
  · have h2 : x.toList ≠ y.toList := fun hc => h (by rw [ByteArray.toList_eq, ByteArray.toList_eq] at hc; exact ByteArray.ext (Array.toList_inj.1 hc))
    simp [h, h2]
theorem NoteD.same_no {a b : NoteD} {k : Nat} (hk : k < max a.af.length b.af.length) (h : seenN a.af k ≠ seenN b.af k) : a.same b = false := by
  unfold NoteD.same
  rw [decide_eq_false (fun hc => h (hc k hk)), Bool.false_and]
theorem NoteD.same_yes {a b : NoteD} (h : ∀ j : Nat, j < max a.af.length b.af.length → seenN a.af j = seenN b.af j) : a.same b = (decide (a.dev = b.dev) && (decide (a.seq = b.seq) && (decide (a.tm = b.tm) && decide (a.tx = b.tx)))) := by
  unfold NoteD.same
  rw [decide_eq_true h, Bool.true_and]
set_option maxHeartbeats 1000000 in
theorem rsame (a b : Note) (w : World) (ha : Rd (· < w.heap.size) 1 ienc w a.af) (hb : Rd (· < w.heap.size) 1 ienc w b.af) :
    Calls Try.prog 45 #[a.v, b.v] w fun e w' => e = .returned (.bool (a.d.same b.d)) ∧ Below w.heap.size w w' := by
  obtain ⟨ad, aq, ⟨aA, ac, al⟩, at', ax⟩ := a
  obtain ⟨bd, bq, ⟨bA, bc, bl⟩, bt, bx⟩ := b
  have hn := ha.len
  have hn' := hb.len
  simp only at hn hn'
  have HA := Lib.hid ha
  have HB := Lib.hid hb
  clear ha hb
  simp only [Note.v]
  go_enter Try.func45, Try.ntmps45
  go_wp2_with fail
  go_loopw [5] (fun i wr => ∃ (k : Nat), k ≤ max al.length bl.length ∧ i = .int .i64 k ∧ Blk wr w.heap.size 61 #[.int .i64 ad, .int .i64 aq, .slice aA al.length ac, .int .i64 at', .string ax] ∧ Blk wr (w.heap.size + 1) 61 #[.int .i64 bd, .int .i64 bq, .slice bA bl.length bc, .int .i64 bt, .string bx] ∧ Below w.heap.size w wr ∧ (∀ j : Nat, j < k → seenN al j = seenN bl j)) (fun i _ => max al.length bl.length - (intOf i).toNat)
  case atStart => exact ⟨0, by omega, rfl, (Blk.new _ _ _).alloc _, Blk.new' (by simp), qbl, fun j hj => absurd hj (Nat.not_lt_zero _)⟩
  case round =>
    obtain ⟨k, hk, rfl, hblk, hblkb, hbel, hall⟩ := hrel
    obtain ⟨a0, a1, a2, a3, a4, af, az⟩ := hblk.b5
    obtain ⟨b0, b1, b2, b3, b4, bf, bz⟩ := hblkb.b5
    have B_a := Lib.hid hblk
    have B_b := Lib.hid hblkb
    have HALL := Lib.hid hall
    clear hblk hblkb hall
    have hhe : w.heap.size ≤ wr.heap.size := hbel.size
    have hh2 : w.heap.size + 1 < wr.heap.size := bz
    by_cases hlt : k < al.length ∨ k < bl.length
    · have hlm : k < max al.length bl.length := by omega
      rcases (show k < al.length ∨ (¬ k < al.length ∧ k < bl.length) by omega) with h1 | ⟨h1, h2⟩
      all_goals
        clear hlt
        go_wp2_with fail
        refine wp_region_T (fun w' => (w'.cell? ⟨w.heap.size, 0, none⟩ = some (.int .i64 ad) ∧ w'.cell? ⟨w.heap.size, 1, none⟩ = some (.int .i64 aq) ∧ w'.cell? ⟨w.heap.size, 2, none⟩ = some (.slice aA al.length ac) ∧ w'.cell? ⟨w.heap.size, 3, none⟩ = some (.int .i64 at') ∧ w'.cell? ⟨w.heap.size, 4, none⟩ = some (.string ax)) ∧ (w'.cell? ⟨w.heap.size + 1, 0, none⟩ = some (.int .i64 bd) ∧ w'.cell? ⟨w.heap.size + 1, 1, none⟩ = some (.int .i64 bq) ∧ w'.cell? ⟨w.heap.size + 1, 2, none⟩ = some (.slice bA bl.length bc) ∧ w'.cell? ⟨w.heap.size + 1, 3, none⟩ = some (.int .i64 bt) ∧ w'.cell? ⟨w.heap.size + 1, 4, none⟩ = some (.string bx))) (fun _ => false) (by kernel_rfl) ⟨⟨a0, a1, a2, a3, a4⟩, b0, b1, b2, b3, b4⟩ (fun hHeld => ?_)
        refine qtq 0 ?_
        simp only [qsa, qsb, qsc]
        refine qtq 1 ?_
        simp only [qsa, qsb, qsc]
        refine qtq 3 ?_
        simp only [qsa, qsb, qsc]
        refine qtq 4 ?_
        simp only [qsa, qsb, qsc]
        clear hHeld
        refine wpAnyT_next (i := 2) (by kernel_rfl) rfl ?_
        go_wp2_with fail
        refine (rseen ⟨ad, aq, ⟨aA, ac, al⟩, at', ax⟩ k _ (HA.out.below' qbv (Nat.le_refl _))).mono ?_
        rintro e w1 ⟨rfl, hb1⟩
        clear a0 a1 a2 a3 a4 af b0 b1 b2 b3 b4 bf
        have K_a : Blk _ (w.heap.size) 61 #[.int .i64 ad, .int .i64 aq, .slice aA al.length ac, .int .i64 at', .string ax] := qkc B_a hb1
        obtain ⟨a0, a1, a2, a3, a4, af, az⟩ := Blk.b5 K_a
        have B_a := Lib.hid K_a
        clear K_a
        have K_b : Blk _ (w.heap.size + 1) 61 #[.int .i64 bd, .int .i64 bq, .slice bA bl.length bc, .int .i64 bt, .string bx] := qkc B_b hb1
        obtain ⟨b0, b1, b2, b3, b4, bf, bz⟩ := Blk.b5 K_b
        have B_b := Lib.hid K_b
        clear K_b
        have hB1 : Below w.heap.size w w1 := qbv
        clear hb1
        go_wp2_with fail
        refine ⟨(by first | exact fun _ => ⟨⟨a0, a1, a2, a3, a4⟩, b0, b1, b2, b3, b4⟩ | exact ⟨⟨a0, a1, a2, a3, a4⟩, b0, b1, b2, b3, b4⟩), ?_⟩
        refine wpAnyT_next (i := 5) (by kernel_rfl) rfl ?_
        go_wp2_with fail
        refine (rseen ⟨bd, bq, ⟨bA, bc, bl⟩, bt, bx⟩ k _ (HB.out.below' qbv (Nat.le_refl _))).mono ?_
        rintro e w2 ⟨rfl, hb2⟩
        clear a0 a1 a2 a3 a4 af b0 b1 b2 b3 b4 bf
        have K_a : Blk _ (w.heap.size) 61 #[.int .i64 ad, .int .i64 aq, .slice aA al.length ac, .int .i64 at', .string ax] := qkc B_a hb2
        obtain ⟨a0, a1, a2, a3, a4, af, az⟩ := Blk.b5 K_a
        have B_a := Lib.hid K_a
        clear K_a
        have K_b : Blk _ (w.heap.size + 1) 61 #[.int .i64 bd, .int .i64 bq, .slice bA bl.length bc, .int .i64 bt, .string bx] := qkc B_b hb2
        obtain ⟨b0, b1, b2, b3, b4, bf, bz⟩ := Blk.b5 K_b
        have B_b := Lib.hid K_b
        clear K_b
        have hB2 : Below w.heap.size w w2 := qbv
        clear hb2
        try simp only
        generalize hva : seenN al k = va
        generalize hvb : seenN bl k = vb
        have HVA := Lib.hid hva
        have HVB := Lib.hid hvb
        clear hva hvb
        go_wp2_with fail
        refine ⟨(by first | exact fun _ => ⟨⟨a0, a1, a2, a3, a4⟩, b0, b1, b2, b3, b4⟩ | exact ⟨⟨a0, a1, a2, a3, a4⟩, b0, b1, b2, b3, b4⟩), ?_⟩
        have hHeld := And.intro (And.intro a0 (And.intro a1 (And.intro a2 (And.intro a3 a4)))) (And.intro b0 (And.intro b1 (And.intro b2 (And.intro b3 b4))))
        refine qtq 6 ?_
        simp only [qsa, qsb, qsc]
        refine wpAnyT_done (by kernel_rfl) ?_ _
        clear hHeld
        by_cases hxy : va = vb
        · have hxy' : (va != vb) = false := by simp [hxy]
          have HXY := Lib.hid hxy
          clear hxy
          go_wp2_with fail
          go_roundw
          case rel =>
            refine ⟨k + 1, by omega, by go_num, B_a.out, B_b.out, qbv, fun j hj => ?_⟩
            rcases Nat.lt_or_ge j k with h1 | h1
            · exact HALL.out j h1
            · obtain rfl : j = k := by omega
              rw [HVA.out, HVB.out, HXY.out]
          case measure => simp [intOf]; omega
        · have hxy' : (va != vb) = true := by simp [hxy]
          have hv : NoteD.same (Note.d ⟨ad, aq, ⟨aA, ac, al⟩, at', ax⟩) (Note.d ⟨bd, bq, ⟨bA, bc, bl⟩, bt, bx⟩) = false := by
            exact NoteD.same_no (k := k) hlm (fun h => hxy (by rw [← HVA.out, ← HVB.out]; exact h))
          have HV := Lib.hid hv
          clear hxy hv
          go_wp2_with fail
          go_ret
          exact ⟨ret_bool HV.out.symm, qbv⟩
    · have hv : NoteD.same (Note.d ⟨ad, aq, ⟨aA, ac, al⟩, at', ax⟩) (Note.d ⟨bd, bq, ⟨bA, bc, bl⟩, bt, bx⟩) = (decide (ad = bd) && (decide (aq = bq) && (decide (at' = bt) && decide (ax = bx)))) := by
        exact NoteD.same_yes (fun j hj => HALL.out j (by simp only [Note.d] at hj; omega))
      have HV := Lib.hid hv
      have h1 : ¬ k < al.length := by omega
      have h2 : ¬ k < bl.length := by omega
      clear hv hlt
      by_cases e1 : ad = bd
      rotate_left
      by_cases e2 : aq = bq
      rotate_left
      by_cases e3 : at' = bt
      rotate_left
      by_cases e4 : ax = bx
      rotate_left
      all_goals go_wp2_with fail
      all_goals
        go_ret
        exact ⟨ret_bool (by rw [HV.out]; simp only [bytes_beq, *]; try simp [*]), qbv⟩
end Go.Proofs.Ythnblhbdfpmolaa
/- Walks of the reference of layer 41: lists of the same notes. -/
namespace Go.Proofs.Ythnblhbdfpmolaa
open Go.RowKit
theorem listsN_cons {a b : NoteD} {l m : List NoteD} : listsN (a :: l) (b :: m) = (a.same b && listsN l m) := rfl
set_option maxHeartbeats 1000000 in
theorem rlists (s t : Sl Note) (w : World) (hr : RdNotes (· < w.heap.size) w s) (ht : RdNotes (· < w.heap.size) w t) :
    Calls Try.prog 30 #[.slice s.A s.l.length s.c, .slice t.A t.l.length t.c] w fun e w' => e = .returned (.bool (listsN (s.l.map Note.d) (t.l.map Note.d))) ∧ Below w.heap.size w w' := by
  obtain ⟨A, c, l⟩ := s
  obtain ⟨A', c', m⟩ := t
  have hn := hr.1.len
  have hn' := ht.1.len
  simp only at hn hn'
  have HR := Lib.hid hr
  have HT := Lib.hid ht
  clear hr ht
  simp only
  by_cases he : l.length = m.length
  · have he' : ((l.length : Int) != m.length) = false := by simp; omega
    have HE := Lib.hid he
    clear he
    go_enter Try.func30, Try.ntmps30
    go_wp2_with fail
    go_loopw [5] (fun i wr => ∃ (k : Nat), k ≤ l.length ∧ i = .int .i64 k ∧ Below w.heap.size w wr ∧ listsN (l.map Note.d) (m.map Note.d) = listsN ((l.map Note.d).drop k) ((m.map Note.d).drop k)) (fun i _ => l.length - (intOf i).toNat)
    case atStart => exact ⟨0, by omega, rfl, qbl, by simp⟩
    case round =>
      obtain ⟨k, hk, rfl, hbel, heq⟩ := hrel
      have hhe : w.heap.size ≤ wr.heap.size := hbel.size
      by_cases hlt : k < l.length
      · have hlm : k < m.length := by have := HE.out; omega
        obtain ⟨b, o, rfl, hb, hcl⟩ := HR.out.1.at1 hlt
        obtain ⟨b', o', rfl, hb', hcl'⟩ := HT.out.1.at1 hlm
        obtain ⟨g0, g1, g2, g3, g4⟩ := Cells.c5 (hcl.keep (hbel.block b hb))
        obtain ⟨j0, j1, j2, j3, j4⟩ := Cells.c5 (hcl'.keep (hbel.block b' hb'))
        have hd : (l.map Note.d).drop k = l[k].d :: (l.map Note.d).drop (k + 1) := by rw [List.drop_eq_getElem_cons (by simpa using hlt)]; simp
        have hd' : (m.map Note.d).drop k = m[k].d :: (m.map Note.d).drop (k + 1) := by rw [List.drop_eq_getElem_cons (by simpa using hlm)]; simp
        rw [hd, hd', listsN_cons] at heq
        have hx : l[k] ∈ l := List.getElem_mem hlt
        have hy : m[k] ∈ m := List.getElem_mem hlm
        clear hd hd' hcl hcl'
        generalize l[k] = x at *
        generalize m[k] = y at *
        have HX := Lib.hid (HR.out.2 _ hx)
        have HY := Lib.hid (HT.out.2 _ hy)
        have HQ := Lib.hid heq
        clear hx hy heq
        obtain ⟨xd, xq, ⟨xA, xc, xl⟩, xt, xx⟩ := x
        obtain ⟨yd, yq, ⟨yA, yc, yl⟩, yt, yx⟩ := y
        go_wp2_with fail
        refine wp_region_T (fun w' => (w'.cell? ⟨b, o + k * 5, none⟩ = some (.int .i64 xd) ∧ w'.cell? ⟨b, o + k * 5 + 1, none⟩ = some (.int .i64 xq) ∧ w'.cell? ⟨b, o + k * 5 + 2, none⟩ = some (.slice xA xl.length xc) ∧ w'.cell? ⟨b, o + k * 5 + 3, none⟩ = some (.int .i64 xt) ∧ w'.cell? ⟨b, o + k * 5 + 4, none⟩ = some (.string xx)) ∧ (w'.cell? ⟨b', o' + k * 5, none⟩ = some (.int .i64 yd) ∧ w'.cell? ⟨b', o' + k * 5 + 1, none⟩ = some (.int .i64 yq) ∧ w'.cell? ⟨b', o' + k * 5 + 2, none⟩ = some (.slice yA yl.length yc) ∧ w'.cell? ⟨b', o' + k * 5 + 3, none⟩ = some (.int .i64 yt) ∧ w'.cell? ⟨b', o' + k * 5 + 4, none⟩ = some (.string yx))) (fun _ => false) (by kernel_rfl) ⟨⟨g0, g1, g2, g3, g4⟩, j0, j1, j2, j3, j4⟩ (fun hHeld => ?_)
        refine qtq 0 ?_
        simp only [qsa, qsb, qsc]
        refine qtq 1 ?_
        simp only [qsa, qsb, qsc]
        refine qtq 2 ?_
        simp only [qsa, qsb, qsc]
        refine qtq 3 ?_
        simp only [qsa, qsb, qsc]
        refine qtq 4 ?_
        simp only [qsa, qsb, qsc]
        refine qtq 5 ?_
        simp only [qsa, qsb, qsc]
        refine qtq 6 ?_
        simp only [qsa, qsb, qsc]
        refine qtq 7 ?_
        simp only [qsa, qsb, qsc]
        clear hHeld
        refine wpAnyT_next (i := 8) (by kernel_rfl) rfl ?_
        go_wp2_with fail
        refine (rsame ⟨xd, xq, ⟨xA, xc, xl⟩, xt, xx⟩ ⟨yd, yq, ⟨yA, yc, yl⟩, yt, yx⟩ _ (HX.out.below' qbv (Nat.le_refl _)) (HY.out.below' qbv (Nat.le_refl _))).mono ?_
        rintro e w1 ⟨rfl, hb1⟩
        have hB1 : Below w.heap.size w w1 := qbv
        generalize hva : NoteD.same (Note.d ⟨xd, xq, ⟨xA, xc, xl⟩, xt, xx⟩) (Note.d ⟨yd, yq, ⟨yA, yc, yl⟩, yt, yx⟩) = va at *
        have G0 := keep_cell hb1 (show (World.drew _).cell? ⟨b, o + k * 5, none⟩ = _ from g0)
        have G1 := keep_cell hb1 (show (World.drew _).cell? ⟨b, o + k * 5 + 1, none⟩ = _ from g1)
        have G2 := keep_cell hb1 (show (World.drew _).cell? ⟨b, o + k * 5 + 2, none⟩ = _ from g2)
        have G3 := keep_cell hb1 (show (World.drew _).cell? ⟨b, o + k * 5 + 3, none⟩ = _ from g3)
        have G4 := keep_cell hb1 (show (World.drew _).cell? ⟨b, o + k * 5 + 4, none⟩ = _ from g4)
        have J0 := keep_cell hb1 (show (World.drew _).cell? ⟨b', o' + k * 5, none⟩ = _ from j0)
        have J1 := keep_cell hb1 (show (World.drew _).cell? ⟨b', o' + k * 5 + 1, none⟩ = _ from j1)
        have J2 := keep_cell hb1 (show (World.drew _).cell? ⟨b', o' + k * 5 + 2, none⟩ = _ from j2)
        have J3 := keep_cell hb1 (show (World.drew _).cell? ⟨b', o' + k * 5 + 3, none⟩ = _ from j3)
        have J4 := keep_cell hb1 (show (World.drew _).cell? ⟨b', o' + k * 5 + 4, none⟩ = _ from j4)
        clear hb1 g0 g1 g2 g3 g4 j0 j1 j2 j3 j4
        have HVA := Lib.hid hva
        clear hva
        go_wp2_with fail
        have hHeld := And.intro (And.intro G0 (And.intro G1 (And.intro G2 (And.intro G3 G4)))) (And.intro J0 (And.intro J1 (And.intro J2 (And.intro J3 J4))))
        refine ⟨(by first | exact hHeld | exact fun _ => hHeld), ?_⟩
        refine qtq 9 ?_
        simp only [qsa, qsb, qsc]
        refine wpAnyT_done (by kernel_rfl) ?_ _
        clear hHeld G0 G1 G2 G3 G4 J0 J1 J2 J3 J4
        rcases va with _ | _
        · go_wp2_with fail
          go_ret
          exact ⟨ret_bool (by rw [HQ.out]; rfl), qbv⟩
        · go_wp2_with fail
          go_roundw
          case rel => exact ⟨k + 1, by omega, by go_num, qbv, by rw [HQ.out, Bool.true_and]⟩
          case measure => simp [intOf]; omega
      · have hv : listsN (l.map Note.d) (m.map Note.d) = true := by
          rw [heq, List.drop_eq_nil_of_le (by simp; omega), List.drop_eq_nil_of_le (by simp; have := HE.out; omega)]; rfl
        have HV := Lib.hid hv
        clear hv heq
        go_wp2_with fail
        go_ret
        exact ⟨ret_bool HV.out.symm, qbv⟩
  · have he' : ((l.length : Int) != m.length) = true := by simp; omega
    have hv : listsN (l.map Note.d) (m.map Note.d) = false := listsN_len (by simpa using he)
    have HV := Lib.hid hv
    clear hv he
    go_enter Try.func30, Try.ntmps30
    go_wp2_with fail
    go_ret
    exact ⟨ret_bool HV.out.symm, qbl⟩
end Go.Proofs.Ythnblhbdfpmolaa
