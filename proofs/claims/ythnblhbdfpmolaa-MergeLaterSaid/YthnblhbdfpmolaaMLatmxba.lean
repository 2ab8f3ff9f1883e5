/- Walks of the reference of layer 41: lists of numbers, the same notes. -/
import Derived.Test.YthnblhbdfpmolaaMLatmxav
import Derived.Test.YthnblhbdfpmolaaMLatmxax
namespace Go.Proofs.Ythnblhbdfpmolaa
open Go.RowKit
set_option maxHeartbeats 600000 in
theorem rints (s t : Sl Int) (w : World) (hr : Rd (· < w.heap.size) 1 ienc w s) (ht : Rd (· < w.heap.size) 1 ienc w t) :
    Calls Try.prog 39 #[.slice s.A s.l.length s.c, .slice t.A t.l.length t.c] w fun e w' => e = .returned (.bool (decide (s.l = t.l))) ∧ Below w.heap.size w w' := by
  obtain ⟨A, c, l⟩ := s
  obtain ⟨A', c', m⟩ := t
  have hn := hr.len
  have hn' := ht.len
  simp only at hn hn'
  have HR := Lib.hid hr
  have HT := Lib.hid ht
  clear hr ht
  simp only
  by_cases he : l.length = m.length
  · have he' : ((l.length : Int) != m.length) = false := by simp; omega
    have HE := Lib.hid he
    clear he
    go_enter Try.func39, Try.ntmps39
    go_wp2_with fail
    go_loopw [5] (fun i wr => ∃ (k : Nat), k ≤ l.length ∧ i = .int .i64 k ∧ Below w.heap.size w wr ∧ (∀ j, j < k → l[j]? = m[j]?)) (fun i _ => l.length - (intOf i).toNat)
    case atStart => exact ⟨0, by omega, rfl, (by repeat (first | (with_reducible exact Below.refl _ _) | ((with_reducible refine below_setr ?_ ?_); focus (first | (simp; done) | (simp; omega) | omega)) | ((with_reducible refine below_allocr ?_ ?_); focus (first | (simp; done) | (simp; omega) | omega)) | (with_reducible refine Below.drew ?_) | (with_reducible refine below_drewN ?_ _))), fun j hj => absurd hj (Nat.not_lt_zero _)⟩
    case round =>
      obtain ⟨k, hk, rfl, hbel, hall⟩ := hrel
      have HALL := Lib.hid hall
      clear hall
      have hhe : w.heap.size ≤ wr.heap.size := hbel.size
      by_cases hlt : k < l.length
      · have hlm : k < m.length := by have := HE.out; omega
        obtain ⟨b, o, rfl, hb, hcl⟩ := HR.out.at1 hlt
        obtain ⟨b', o', rfl, hb', hcl'⟩ := HT.out.at1 hlm
        have g0 := (hcl.keep (hbel.block b hb)).c1
        have g0' := (hcl'.keep (hbel.block b' hb')).c1
        simp only [Nat.mul_one] at g0 g0'
        have hx : l[k]? = some l[k] := List.getElem?_eq_getElem hlt
        have hy : m[k]? = some m[k] := List.getElem?_eq_getElem hlm
        generalize l[k] = x at *
        generalize m[k] = y at *
        have HX := Lib.hid hx
        have HY := Lib.hid hy
        clear hx hy hcl hcl'
        go_wp2_with fail
        refine wp_region_T (fun w' => w'.cell? ⟨b, o + k, none⟩ = some (.int .i64 x) ∧ w'.cell? ⟨b', o' + k, none⟩ = some (.int .i64 y)) (fun _ => false) (by kernel_rfl) ⟨g0, g0'⟩ (fun hHeld => ?_)
        refine wpAnyT_take2 (i := 0) (v := ?_) rfl rfl (by kernel_rfl) (by kernel_rfl) (by kernel_rfl) (by kernel_rfl) (fun _ _ _ h => h) (Or.inl ⟨by rfl, ?_⟩) (by first | assumption | trivial) ?_
        rotate_left
        · (intro w hSw; (try dsimp only at hSw); go_simp) <;> (with_reducible rfl)
        simp only [List.setIfInBounds_toArray, List.set_cons_zero, List.set_cons_succ]
        refine wpAnyT_take2 (i := 1) (v := ?_) rfl rfl (by kernel_rfl) (by kernel_rfl) (by kernel_rfl) (by kernel_rfl) (fun _ _ _ h => h) (Or.inl ⟨by rfl, ?_⟩) (by first | assumption | trivial) ?_
        rotate_left
        · (intro w hSw; (try dsimp only at hSw); go_simp) <;> (with_reducible rfl)
        simp only [List.setIfInBounds_toArray, List.set_cons_zero, List.set_cons_succ]
        refine wpAnyT_take2 (i := 2) (v := ?_) rfl rfl (by kernel_rfl) (by kernel_rfl) (by kernel_rfl) (by kernel_rfl) (fun _ _ _ h => h) (Or.inl ⟨by rfl, ?_⟩) (by first | assumption | trivial) ?_
        rotate_left
        · (intro w hSw; (try dsimp only at hSw); go_simp) <;> (with_reducible rfl)
        simp only [List.setIfInBounds_toArray, List.set_cons_zero, List.set_cons_succ]
        refine wpAnyT_take2 (i := 3) (v := ?_) rfl rfl (by kernel_rfl) (by kernel_rfl) (by kernel_rfl) (by kernel_rfl) (fun _ _ _ h => h) (Or.inl ⟨by rfl, ?_⟩) (by first | assumption | trivial) ?_
        rotate_left
        · (intro w hSw; (try dsimp only at hSw); go_simp) <;> (with_reducible rfl)
        simp only [List.setIfInBounds_toArray, List.set_cons_zero, List.set_cons_succ]
        refine wpAnyT_take2 (i := 4) (v := ?_) rfl rfl (by kernel_rfl) (by kernel_rfl) (by kernel_rfl) (by kernel_rfl) (fun _ _ _ h => h) (Or.inl ⟨by rfl, ?_⟩) (by first | assumption | trivial) ?_
        rotate_left
        · (intro w hSw; (try dsimp only at hSw); go_simp) <;> (with_reducible rfl)
        simp only [List.setIfInBounds_toArray, List.set_cons_zero, List.set_cons_succ]
        refine wpAnyT_take2 (i := 5) (v := ?_) rfl rfl (by kernel_rfl) (by kernel_rfl) (by kernel_rfl) (by kernel_rfl) (fun _ _ _ h => h) (Or.inl ⟨by rfl, ?_⟩) (by first | assumption | trivial) ?_
        rotate_left
        · (intro w hSw; (try dsimp only at hSw); go_simp) <;> (with_reducible rfl)
        simp only [List.setIfInBounds_toArray, List.set_cons_zero, List.set_cons_succ]
        refine wpAnyT_take2 (i := 6) (v := ?_) rfl rfl (by kernel_rfl) (by kernel_rfl) (by kernel_rfl) (by kernel_rfl) (fun _ _ _ h => h) (Or.inl ⟨by rfl, ?_⟩) (by first | assumption | trivial) ?_
        rotate_left
        · (intro w hSw; (try dsimp only at hSw); go_simp) <;> (with_reducible rfl)
        simp only [List.setIfInBounds_toArray, List.set_cons_zero, List.set_cons_succ]
        refine wpAnyT_take2 (i := 7) (v := ?_) rfl rfl (by kernel_rfl) (by kernel_rfl) (by kernel_rfl) (by kernel_rfl) (fun _ _ _ h => h) (Or.inl ⟨by rfl, ?_⟩) (by first | assumption | trivial) ?_
        rotate_left
        · (intro w hSw; (try dsimp only at hSw); go_simp) <;> (with_reducible rfl)
        simp only [List.setIfInBounds_toArray, List.set_cons_zero, List.set_cons_succ]
        refine wpAnyT_take2 (i := 8) (v := ?_) rfl rfl (by kernel_rfl) (by kernel_rfl) (by kernel_rfl) (by kernel_rfl) (fun _ _ _ h => h) (Or.inl ⟨by rfl, ?_⟩) (by first | assumption | trivial) ?_
        rotate_left
        · (intro w hSw; (try dsimp only at hSw); go_simp) <;> (with_reducible rfl)
        simp only [List.setIfInBounds_toArray, List.set_cons_zero, List.set_cons_succ]
        refine wpAnyT_done (by kernel_rfl) ?_ _
        by_cases hxy : x = y
        · have hxy' : (x != y) = false := by simp [hxy]
          have HXY := Lib.hid hxy
          clear hxy hHeld
          go_wp2_with fail
          go_roundw
          case rel =>
            refine ⟨k + 1, by omega, by go_num, (by repeat (first | (with_reducible exact hbel) | (with_reducible exact Below.refl _ _) | ((with_reducible refine below_setr ?_ ?_); focus (first | (simp; done) | (simp; omega) | omega)) | ((with_reducible refine below_allocr ?_ ?_); focus (first | (simp; done) | (simp; omega) | omega)) | (with_reducible refine Below.drew ?_) | (with_reducible refine below_drewN ?_ _) | ((with_reducible apply below_via); focus (with_reducible assumption)))), fun j hj => ?_⟩
            rcases Nat.lt_or_ge j k with h1 | h1
            · exact HALL.out j h1
            · obtain rfl : j = k := by omega
              rw [HX.out, HY.out, HXY.out]
          case measure => simp [intOf]; omega
        · have hxy' : (x != y) = true := by simp [hxy]
          have HXY := Lib.hid hxy
          clear hxy hHeld
          go_wp2_with fail
          go_ret
          refine ⟨ret_bool ?_, (by repeat (first | (with_reducible exact hbel) | (with_reducible exact Below.refl _ _) | ((with_reducible refine below_setr ?_ ?_); focus (first | (simp; done) | (simp; omega) | omega)) | ((with_reducible refine below_allocr ?_ ?_); focus (first | (simp; done) | (simp; omega) | omega)) | (with_reducible refine Below.drew ?_) | (with_reducible refine below_drewN ?_ _) | ((with_reducible apply below_via); focus (with_reducible assumption))))⟩
          symm
          simp only [decide_eq_false_iff_not]
          intro h
          rw [h, HY.out] at HX
          exact HXY.out (by have := HX.out; injection this with this; exact this.symm)
      · have hv : l = m := by
          apply List.ext_getElem?
          intro j
          rcases Nat.lt_or_ge j l.length with h1 | h1
          · exact HALL.out j (by omega)
          · rw [List.getElem?_eq_none h1, List.getElem?_eq_none (by have := HE.out; omega)]
        have HV := Lib.hid hv
        clear hv
        go_wp2_with fail
        go_ret
        exact ⟨ret_bool (by simp [HV.out]), (by repeat (first | (with_reducible exact hbel) | (with_reducible exact Below.refl _ _) | ((with_reducible refine below_setr ?_ ?_); focus (first | (simp; done) | (simp; omega) | omega)) | ((with_reducible refine below_allocr ?_ ?_); focus (first | (simp; done) | (simp; omega) | omega)) | (with_reducible refine Below.drew ?_) | (with_reducible refine below_drewN ?_ _) | ((with_reducible apply below_via); focus (with_reducible assumption))))⟩
  · have he' : ((l.length : Int) != m.length) = true := by simp; omega
    have hv : decide (l = m) = false := by simp; intro h; exact he (by rw [h])
    have HV := Lib.hid hv
    clear hv he
    go_enter Try.func39, Try.ntmps39
    go_wp2_with fail
    go_ret
    exact ⟨ret_bool HV.out.symm, (by repeat (first | (with_reducible exact Below.refl _ _) | ((with_reducible refine below_setr ?_ ?_); focus (first | (simp; done) | (simp; omega) | omega)) | ((with_reducible refine below_allocr ?_ ?_); focus (first | (simp; done) | (simp; omega) | omega)) | (with_reducible refine Below.drew ?_) | (with_reducible refine below_drewN ?_ _)))⟩
theorem bytes_beq (x y : ByteArray) : (x.toList == y.toList) = decide (x = y) := by
  by_cases h : x = y
  · subst h; simp
  · have h2 : x.toList ≠ y.toList := fun hc => h (by rw [ByteArray.toList_eq, ByteArray.toList_eq] at hc; exact ByteArray.ext (Array.toList_inj.1 hc))
    simp [h, h2]
theorem NoteD.same_no {a b : NoteD} {k : Nat} (hk : k < max a.af.length b.af.length) (h : seenN a.af k ≠ seenN b.af k) : a.same b = false := by
  unfold NoteD.same
  rw [decide_eq_false (fun hc => h (hc k hk)), Bool.false_and]
theorem NoteD.same_yes {a b : NoteD} (h : ∀ j : Nat, j < max a.af.length b.af.length → seenN a.af j = seenN b.af j) : a.same b = (decide (a.dev = b.dev) && (decide (a.seq = b.seq) && (decide (a.tm = b.tm) && decide (a.tx = b.tx)))) := by
  unfold NoteD.same
  rw [decide_eq_true h, Bool.true_and]
set_option maxHeartbeats 1000000 in
theorem rsame (a b : Note) (w : World) (ha : Rd (· < w.heap.size) 1 ienc w a.af) (hb : Rd (· < w.heap.size) 1 ienc w b.af) :
    Calls Try.prog 45 #[a.v, b.v] w fun e w' => e = .returned (.bool (a.d.same b.d)) ∧ Below w.heap.size w w' := by
  obtain ⟨ad, aq, ⟨aA, ac, al⟩, at', ax⟩ := a
  obtain ⟨bd, bq, ⟨bA, bc, bl⟩, bt, bx⟩ := b
  have hn := ha.len
  have hn' := hb.len
  simp only at hn hn'
  have HA := Lib.hid ha
  have HB := Lib.hid hb
  clear ha hb
  simp only [Note.v]
  go_enter Try.func45, Try.ntmps45
  go_wp2_with fail
  go_loopw [5] (fun i wr => ∃ (k : Nat), k ≤ max al.length bl.length ∧ i = .int .i64 k ∧ Blk wr w.heap.size 61 #[.int .i64 ad, .int .i64 aq, .slice aA al.length ac, .int .i64 at', .string ax] ∧ Blk wr (w.heap.size + 1) 61 #[.int .i64 bd, .int .i64 bq, .slice bA bl.length bc, .int .i64 bt, .string bx] ∧ Below w.heap.size w wr ∧ (∀ j : Nat, j < k → seenN al j = seenN bl j)) (fun i _ => max al.length bl.length - (intOf i).toNat)
  case atStart => exact ⟨0, by omega, rfl, (Blk.new _ _ _).alloc _, Blk.new' (by simp), (by repeat (first | (with_reducible exact Below.refl _ _) | ((with_reducible refine below_setr ?_ ?_); focus (first | (simp; done) | (simp; omega) | omega)) | ((with_reducible refine below_allocr ?_ ?_); focus (first | (simp; done) | (simp; omega) | omega)) | (with_reducible refine Below.drew ?_) | (with_reducible refine below_drewN ?_ _))), fun j hj => absurd hj (Nat.not_lt_zero _)⟩
  case round =>
    obtain ⟨k, hk, rfl, hblk, hblkb, hbel, hall⟩ := hrel
    obtain ⟨a0, a1, a2, a3, a4, af, az⟩ := hblk.b5
    obtain ⟨b0, b1, b2, b3, b4, bf, bz⟩ := hblkb.b5
    have B_a := Lib.hid hblk
    have B_b := Lib.hid hblkb
    have HALL := Lib.hid hall
    clear hblk hblkb hall
    have hhe : w.heap.size ≤ wr.heap.size := hbel.size
    have hh2 : w.heap.size + 1 < wr.heap.size := bz
    by_cases hlt : k < al.length ∨ k < bl.length
    · have hlm : k < max al.length bl.length := by omega
      rcases (show k < al.length ∨ (¬ k < al.length ∧ k < bl.length) by omega) with h1 | ⟨h1, h2⟩
      all_goals
        clear hlt
        go_wp2_with fail
        refine wp_region_T (fun w' => (w'.cell? ⟨w.heap.size, 0, none⟩ = some (.int .i64 ad) ∧ w'.cell? ⟨w.heap.size, 1, none⟩ = some (.int .i64 aq) ∧ w'.cell? ⟨w.heap.size, 2, none⟩ = some (.slice aA al.length ac) ∧ w'.cell? ⟨w.heap.size, 3, none⟩ = some (.int .i64 at') ∧ w'.cell? ⟨w.heap.size, 4, none⟩ = some (.string ax)) ∧ (w'.cell? ⟨w.heap.size + 1, 0, none⟩ = some (.int .i64 bd) ∧ w'.cell? ⟨w.heap.size + 1, 1, none⟩ = some (.int .i64 bq) ∧ w'.cell? ⟨w.heap.size + 1, 2, none⟩ = some (.slice bA bl.length bc) ∧ w'.cell? ⟨w.heap.size + 1, 3, none⟩ = some (.int .i64 bt) ∧ w'.cell? ⟨w.heap.size + 1, 4, none⟩ = some (.string bx))) (fun _ => false) (by kernel_rfl) ⟨⟨a0, a1, a2, a3, a4⟩, b0, b1, b2, b3, b4⟩ (fun hHeld => ?_)
        refine wpAnyT_take2 (i := 0) (v := ?_) rfl rfl (by kernel_rfl) (by kernel_rfl) (by kernel_rfl) (by kernel_rfl) (fun _ _ _ h => h) (Or.inl ⟨by rfl, ?_⟩) (by first | assumption | trivial) ?_
        rotate_left
        · (intro w hSw; (try dsimp only at hSw); go_simp) <;> (with_reducible rfl)
        simp only [List.setIfInBounds_toArray, List.set_cons_zero, List.set_cons_succ]
        refine wpAnyT_take2 (i := 1) (v := ?_) rfl rfl (by kernel_rfl) (by kernel_rfl) (by kernel_rfl) (by kernel_rfl) (fun _ _ _ h => h) (Or.inl ⟨by rfl, ?_⟩) (by first | assumption | trivial) ?_
        rotate_left
        · (intro w hSw; (try dsimp only at hSw); go_simp) <;> (with_reducible rfl)
        simp only [List.setIfInBounds_toArray, List.set_cons_zero, List.set_cons_succ]
        refine wpAnyT_take2 (i := 3) (v := ?_) rfl rfl (by kernel_rfl) (by kernel_rfl) (by kernel_rfl) (by kernel_rfl) (fun _ _ _ h => h) (Or.inl ⟨by rfl, ?_⟩) (by first | assumption | trivial) ?_
        rotate_left
        · (intro w hSw; (try dsimp only at hSw); go_simp) <;> (with_reducible rfl)
        simp only [List.setIfInBounds_toArray, List.set_cons_zero, List.set_cons_succ]
        refine wpAnyT_take2 (i := 4) (v := ?_) rfl rfl (by kernel_rfl) (by kernel_rfl) (by kernel_rfl) (by kernel_rfl) (fun _ _ _ h => h) (Or.inl ⟨by rfl, ?_⟩) (by first | assumption | trivial) ?_
        rotate_left
        · (intro w hSw; (try dsimp only at hSw); go_simp) <;> (with_reducible rfl)
        simp only [List.setIfInBounds_toArray, List.set_cons_zero, List.set_cons_succ]
        clear hHeld
        refine wpAnyT_next (i := 2) (by kernel_rfl) rfl ?_
        go_wp2_with fail
        refine (rseen ⟨ad, aq, ⟨aA, ac, al⟩, at', ax⟩ k _ (HA.out.below' (by repeat (first | (with_reducible exact hbel) | (with_reducible exact Below.refl _ _) | ((with_reducible refine below_setr ?_ ?_); focus (first | (simp; done) | (simp; omega) | omega)) | ((with_reducible refine below_allocr ?_ ?_); focus (first | (simp; done) | (simp; omega) | omega)) | (with_reducible refine Below.drew ?_) | (with_reducible refine below_drewN ?_ _) | ((with_reducible apply below_via); focus (with_reducible assumption)))) (Nat.le_refl _))).mono ?_
        rintro e w1 ⟨rfl, hb1⟩
        clear a0 a1 a2 a3 a4 af b0 b1 b2 b3 b4 bf
        have K_a : Blk _ (w.heap.size) 61 #[.int .i64 ad, .int .i64 aq, .slice aA al.length ac, .int .i64 at', .string ax] := blk_later hb1 (by simp [hp_past, hp_at, hp_other, hp_same, hp_drew, hp_drewN, B_a.out.eq, B_a.out.lt, hp_same B_a.out.eq])
        obtain ⟨a0, a1, a2, a3, a4, af, az⟩ := Blk.b5 K_a
        have B_a := Lib.hid K_a
        clear K_a
        have K_b : Blk _ (w.heap.size + 1) 61 #[.int .i64 bd, .int .i64 bq, .slice bA bl.length bc, .int .i64 bt, .string bx] := blk_later hb1 (by simp [hp_past, hp_at, hp_other, hp_same, hp_drew, hp_drewN, B_b.out.eq, B_b.out.lt, hp_same B_b.out.eq])
        obtain ⟨b0, b1, b2, b3, b4, bf, bz⟩ := Blk.b5 K_b
        have B_b := Lib.hid K_b
        clear K_b
        have hB1 : Below w.heap.size w w1 := (by repeat (first | (with_reducible exact hbel) | (with_reducible exact Below.refl _ _) | ((with_reducible refine below_setr ?_ ?_); focus (first | (simp; done) | (simp; omega) | omega)) | ((with_reducible refine below_allocr ?_ ?_); focus (first | (simp; done) | (simp; omega) | omega)) | (with_reducible refine Below.drew ?_) | (with_reducible refine below_drewN ?_ _) | ((with_reducible apply below_via); focus (with_reducible assumption))))
        clear hb1
        go_wp2_with fail
        refine ⟨(by first | exact fun _ => ⟨⟨a0, a1, a2, a3, a4⟩, b0, b1, b2, b3, b4⟩ | exact ⟨⟨a0, a1, a2, a3, a4⟩, b0, b1, b2, b3, b4⟩), ?_⟩
        refine wpAnyT_next (i := 5) (by kernel_rfl) rfl ?_
        go_wp2_with fail
        refine (rseen ⟨bd, bq, ⟨bA, bc, bl⟩, bt, bx⟩ k _ (HB.out.below' (by repeat (first | (with_reducible exact hB1) | (with_reducible exact Below.refl _ _) | ((with_reducible refine below_setr ?_ ?_); focus (first | (simp; done) | (simp; omega) | omega)) | ((with_reducible refine below_allocr ?_ ?_); focus (first | (simp; done) | (simp; omega) | omega)) | (with_reducible refine Below.drew ?_) | (with_reducible refine below_drewN ?_ _) | ((with_reducible apply below_via); focus (with_reducible assumption)))) (Nat.le_refl _))).mono ?_
        rintro e w2 ⟨rfl, hb2⟩
        clear a0 a1 a2 a3 a4 af b0 b1 b2 b3 b4 bf
        have K_a : Blk _ (w.heap.size) 61 #[.int .i64 ad, .int .i64 aq, .slice aA al.length ac, .int .i64 at', .string ax] := blk_later hb2 (by simp [hp_past, hp_at, hp_other, hp_same, hp_drew, hp_drewN, B_a.out.eq, B_a.out.lt, hp_same B_a.out.eq])
        obtain ⟨a0, a1, a2, a3, a4, af, az⟩ := Blk.b5 K_a
        have B_a := Lib.hid K_a
        clear K_a
        have K_b : Blk _ (w.heap.size + 1) 61 #[.int .i64 bd, .int .i64 bq, .slice bA bl.length bc, .int .i64 bt, .string bx] := blk_later hb2 (by simp [hp_past, hp_at, hp_other, hp_same, hp_drew, hp_drewN, B_b.out.eq, B_b.out.lt, hp_same B_b.out.eq])
        obtain ⟨b0, b1, b2, b3, b4, bf, bz⟩ := Blk.b5 K_b
        have B_b := Lib.hid K_b
        clear K_b
        have hB2 : Below w.heap.size w w2 := (by repeat (first | (with_reducible exact hB1) | (with_reducible exact Below.refl _ _) | ((with_reducible refine below_setr ?_ ?_); focus (first | (simp; done) | (simp; omega) | omega)) | ((with_reducible refine below_allocr ?_ ?_); focus (first | (simp; done) | (simp; omega) | omega)) | (with_reducible refine Below.drew ?_) | (with_reducible refine below_drewN ?_ _) | ((with_reducible apply below_via); focus (with_reducible assumption))))
        clear hb2
        try simp only
        generalize hva : seenN al k = va
        generalize hvb : seenN bl k = vb
        have HVA := Lib.hid hva
        have HVB := Lib.hid hvb
        clear hva hvb
        go_wp2_with fail
        refine ⟨(by first | exact fun _ => ⟨⟨a0, a1, a2, a3, a4⟩, b0, b1, b2, b3, b4⟩ | exact ⟨⟨a0, a1, a2, a3, a4⟩, b0, b1, b2, b3, b4⟩), ?_⟩
        have hHeld := And.intro (And.intro a0 (And.intro a1 (And.intro a2 (And.intro a3 a4)))) (And.intro b0 (And.intro b1 (And.intro b2 (And.intro b3 b4))))
        refine wpAnyT_take2 (i := 6) (v := ?_) rfl rfl (by kernel_rfl) (by kernel_rfl) (by kernel_rfl) (by kernel_rfl) (fun _ _ _ h => h) (Or.inl ⟨by rfl, ?_⟩) (by first | assumption | trivial) ?_
        rotate_left
        · (intro w hSw; (try dsimp only at hSw); go_simp) <;> (with_reducible rfl)
        simp only [List.setIfInBounds_toArray, List.set_cons_zero, List.set_cons_succ]
        refine wpAnyT_done (by kernel_rfl) ?_ _
        clear hHeld
        by_cases hxy : va = vb
        · have hxy' : (va != vb) = false := by simp [hxy]
          have HXY := Lib.hid hxy
          clear hxy
          go_wp2_with fail
          go_roundw
          case rel =>
            refine ⟨k + 1, by omega, by go_num, B_a.out, B_b.out, (by repeat (first | (with_reducible exact hB2) | (with_reducible exact Below.refl _ _) | ((with_reducible refine below_setr ?_ ?_); focus (first | (simp; done) | (simp; omega) | omega)) | ((with_reducible refine below_allocr ?_ ?_); focus (first | (simp; done) | (simp; omega) | omega)) | (with_reducible refine Below.drew ?_) | (with_reducible refine below_drewN ?_ _) | ((with_reducible apply below_via); focus (with_reducible assumption)))), fun j hj => ?_⟩
            rcases Nat.lt_or_ge j k with h1 | h1
            · exact HALL.out j h1
            · obtain rfl : j = k := by omega
              rw [HVA.out, HVB.out, HXY.out]
          case measure => simp [intOf]; omega
        · have hxy' : (va != vb) = true := by simp [hxy]
          have hv : NoteD.same (Note.d ⟨ad, aq, ⟨aA, ac, al⟩, at', ax⟩) (Note.d ⟨bd, bq, ⟨bA, bc, bl⟩, bt, bx⟩) = false := by
            exact NoteD.same_no (k := k) hlm (fun h => hxy (by rw [← HVA.out, ← HVB.out]; exact h))
          have HV := Lib.hid hv
          clear hxy hv
          go_wp2_with fail
          go_ret
          exact ⟨ret_bool HV.out.symm, (by repeat (first | (with_reducible exact hB2) | (with_reducible exact Below.refl _ _) | ((with_reducible refine below_setr ?_ ?_); focus (first | (simp; done) | (simp; omega) | omega)) | ((with_reducible refine below_allocr ?_ ?_); focus (first | (simp; done) | (simp; omega) | omega)) | (with_reducible refine Below.drew ?_) | (with_reducible refine below_drewN ?_ _) | ((with_reducible apply below_via); focus (with_reducible assumption))))⟩
    · have hv : NoteD.same (Note.d ⟨ad, aq, ⟨aA, ac, al⟩, at', ax⟩) (Note.d ⟨bd, bq, ⟨bA, bc, bl⟩, bt, bx⟩) = (decide (ad = bd) && (decide (aq = bq) && (decide (at' = bt) && decide (ax = bx)))) := by
        exact NoteD.same_yes (fun j hj => HALL.out j (by simp only [Note.d] at hj; omega))
      have HV := Lib.hid hv
      have h1 : ¬ k < al.length := by omega
      have h2 : ¬ k < bl.length := by omega
      clear hv hlt
      by_cases e1 : ad = bd
      rotate_left
      by_cases e2 : aq = bq
      rotate_left
      by_cases e3 : at' = bt
      rotate_left
      by_cases e4 : ax = bx
      rotate_left
      all_goals go_wp2_with fail
      all_goals
        go_ret
        exact ⟨ret_bool (by rw [HV.out]; simp only [bytes_beq, *]; try simp [*]), (by repeat (first | (with_reducible exact hbel) | (with_reducible exact Below.refl _ _) | ((with_reducible refine below_setr ?_ ?_); focus (first | (simp; done) | (simp; omega) | omega)) | ((with_reducible refine below_allocr ?_ ?_); focus (first | (simp; done) | (simp; omega) | omega)) | (with_reducible refine Below.drew ?_) | (with_reducible refine below_drewN ?_ _) | ((with_reducible apply below_via); focus (with_reducible assumption))))⟩
end Go.Proofs.Ythnblhbdfpmolaa
