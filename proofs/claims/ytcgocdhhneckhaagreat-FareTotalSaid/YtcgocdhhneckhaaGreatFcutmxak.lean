/- Walk: units.joined at if; the whole. -/
import Derived.Test.YtcgocdhhneckhaaGreatFcutmxaj
namespace Go.Proofs.YtcgocdhhneckhaaGreat
open Go.RowKit
set_option maxHeartbeats 1600000 in
theorem un_join_if1 (a b d : Int) (A : Option Addr) (c : Nat) (w : World) (hr : Rd (· < w.heap.size) 1 ienc w ⟨A, c, [a, b, d]⟩) (ha : ¬ a = 3) :
    Calls Tryz.prog 145 #[.int .i64 15, .slice A 3 c] w fun r w' => r = .returned (.int .i64 (joinU 15 [a, b, d])) ∧ Below w.heap.size w w' := by
  rw [join_if, if_neg (fun h => ha h.1)]
  have ha3 : (a == 3) = false := by simpa using ha
  have HL := Lib.hid (fun w2 => un_logic 15 w2)
  rw [show logB 15 = false by decide] at HL
  have HR := Lib.hid hr
  clear hr
  go_enter Tryz.func145, Tryz.ntmps145
  go_wp2_with fail
  refine (HL.out _).mono ?_
  rintro e w' ⟨rfl, hb⟩
  have hB := hb
  clear hb
  obtain ⟨g, o, hA, _, c0⟩ := (HR.out.later hB).geti (i := 0) (by simp)
  obtain ⟨g', o', hA', _, c1⟩ := (HR.out.later hB).geti (i := 1) (by simp)
  obtain ⟨g2, o2, hA2, _, c2⟩ := (HR.out.later hB).geti (i := 2) (by simp)
  simp only at hA hA' hA2
  rw [hA] at hA' hA2
  injection hA' with hA'
  injection hA' with hg ho _
  injection hA2 with hA2
  injection hA2 with hg2 ho2 _
  subst hg ho hg2 ho2 hA
  simp only [List.getElem_cons_zero, List.getElem_cons_succ, Nat.add_zero] at c0 c1 c2
  go_wp2_with fail
  refine wp_region_T (fun W => W.cell? ⟨g, o, none⟩ = some (.int .i64 a) ∧ W.cell? ⟨g, o + 1, none⟩ = some (.int .i64 b) ∧ W.cell? ⟨g, o + 2, none⟩ = some (.int .i64 d)) (fun _ => false) (by kernel_rfl) ⟨c0, c1, c2⟩ (fun hHeld => ?_)
  refine wpAnyT_take2 (i := 0) (v := ?_) rfl rfl (by kernel_rfl) (by kernel_rfl) (by kernel_rfl) (by kernel_rfl) (fun _ _ _ h => h) (Or.inl ⟨by rfl, ?_⟩) (by first | assumption | trivial) ?_
  rotate_left
  · (intro w hSw; (try dsimp only at hSw); go_simp) <;> (with_reducible rfl)
  simp only [List.setIfInBounds_toArray, List.set_cons_zero, List.set_cons_succ]
  refine wpAnyT_take2 (i := 1) (v := ?_) rfl rfl (by kernel_rfl) (by kernel_rfl) (by kernel_rfl) (by kernel_rfl) (fun _ _ _ h => h) (Or.inl ⟨by rfl, ?_⟩) (by first | assumption | trivial) ?_
  rotate_left
  · (intro w hSw; (try dsimp only at hSw); go_simp) <;> (with_reducible rfl)
  simp only [List.setIfInBounds_toArray, List.set_cons_zero, List.set_cons_succ]
  refine wpAnyT_take2 (i := 2) (v := ?_) rfl rfl (by kernel_rfl) (by kernel_rfl) (by kernel_rfl) (by kernel_rfl) (fun _ _ _ h => h) (Or.inl ⟨by rfl, ?_⟩) (by first | assumption | trivial) ?_
  rotate_left
  · (intro w hSw; (try dsimp only at hSw); go_simp) <;> (with_reducible rfl)
  simp only [List.setIfInBounds_toArray, List.set_cons_zero, List.set_cons_succ]
  clear hHeld
  have hHeld : w'.cell? ⟨g, o, none⟩ = some (.int .i64 a) ∧ w'.cell? ⟨g, o + 1, none⟩ = some (.int .i64 b) ∧ w'.cell? ⟨g, o + 2, none⟩ = some (.int .i64 d) := ⟨c0, c1, c2⟩
  refine wpAnyT_take2 (i := 3) (v := .bool false) rfl rfl (by kernel_rfl) (by kernel_rfl) (by kernel_rfl) (by kernel_rfl) (fun _ _ _ h => h) (Or.inl ⟨by rfl, ?_⟩) (by first | assumption | trivial) ?_
  · (intro w hSw; (try dsimp only at hSw); go_simp) <;> (first | (with_reducible rfl) | assumption | (simp; done) | (simp [*]; done) | (simp; omega))
  simp only [List.setIfInBounds_toArray, List.set_cons_zero, List.set_cons_succ]
  refine wpAnyT_take2 (i := 4) (v := ?_) rfl rfl (by kernel_rfl) (by kernel_rfl) (by kernel_rfl) (by kernel_rfl) (fun _ _ _ h => h) (Or.inl ⟨by rfl, ?_⟩) (by first | assumption | trivial) ?_
  rotate_left
  · (intro w hSw; (try dsimp only at hSw); go_simp) <;> (with_reducible rfl)
  simp only [List.setIfInBounds_toArray, List.set_cons_zero, List.set_cons_succ]
  refine wpAnyT_take2 (i := 5) (v := undef) rfl rfl (by kernel_rfl) (by kernel_rfl) (by kernel_rfl) (by kernel_rfl) (fun _ _ _ h => h) (Or.inr ⟨by rfl, rfl⟩) (by first | assumption | trivial) ?_
  simp only [List.setIfInBounds_toArray, List.set_cons_zero, List.set_cons_succ]
  refine wpAnyT_take2 (i := 6) (v := undef) rfl rfl (by kernel_rfl) (by kernel_rfl) (by kernel_rfl) (by kernel_rfl) (fun _ _ _ h => h) (Or.inr ⟨by rfl, rfl⟩) (by first | assumption | trivial) ?_
  simp only [List.setIfInBounds_toArray, List.set_cons_zero, List.set_cons_succ]
  refine wpAnyT_take2 (i := 7) (v := undef) rfl rfl (by kernel_rfl) (by kernel_rfl) (by kernel_rfl) (by kernel_rfl) (fun _ _ _ h => h) (Or.inr ⟨by rfl, rfl⟩) (by first | assumption | trivial) ?_
  simp only [List.setIfInBounds_toArray, List.set_cons_zero, List.set_cons_succ]
  refine wpAnyT_take2 (i := 8) (v := undef) rfl rfl (by kernel_rfl) (by kernel_rfl) (by kernel_rfl) (by kernel_rfl) (fun _ _ _ h => h) (Or.inr ⟨by rfl, rfl⟩) (by first | assumption | trivial) ?_
  simp only [List.setIfInBounds_toArray, List.set_cons_zero, List.set_cons_succ]
  refine wpAnyT_take2 (i := 9) (v := undef) rfl rfl (by kernel_rfl) (by kernel_rfl) (by kernel_rfl) (by kernel_rfl) (fun _ _ _ h => h) (Or.inr ⟨by rfl, rfl⟩) (by first | assumption | trivial) ?_
  simp only [List.setIfInBounds_toArray, List.set_cons_zero, List.set_cons_succ]
  refine wpAnyT_take2 (i := 10) (v := undef) rfl rfl (by kernel_rfl) (by kernel_rfl) (by kernel_rfl) (by kernel_rfl) (fun _ _ _ h => h) (Or.inr ⟨by rfl, rfl⟩) (by first | assumption | trivial) ?_
  simp only [List.setIfInBounds_toArray, List.set_cons_zero, List.set_cons_succ]
  refine wpAnyT_take2 (i := 11) (v := undef) rfl rfl (by kernel_rfl) (by kernel_rfl) (by kernel_rfl) (by kernel_rfl) (fun _ _ _ h => h) (Or.inr ⟨by rfl, rfl⟩) (by first | assumption | trivial) ?_
  simp only [List.setIfInBounds_toArray, List.set_cons_zero, List.set_cons_succ]
  refine wpAnyT_take2 (i := 12) (v := ?_) rfl rfl (by kernel_rfl) (by kernel_rfl) (by kernel_rfl) (by kernel_rfl) (fun _ _ _ h => h) (Or.inl ⟨by rfl, ?_⟩) (by first | assumption | trivial) ?_
  rotate_left
  · (intro w hSw; (try dsimp only at hSw); go_simp) <;> (with_reducible rfl)
  simp only [List.setIfInBounds_toArray, List.set_cons_zero, List.set_cons_succ]
  refine wpAnyT_done (by kernel_rfl) ?_ _
  clear hHeld
  go_wp2_with fail
  go_ret
  exact ⟨rfl, hB.drew⟩
set_option maxHeartbeats 1600000 in
theorem un_join_if2 (b d : Int) (A : Option Addr) (c : Nat) (w : World) (hr : Rd (· < w.heap.size) 1 ienc w ⟨A, c, [3, b, d]⟩) :
    Calls Tryz.prog 145 #[.int .i64 15, .slice A 3 c] w fun r w' => r = .returned (.int .i64 (joinU 15 [3, b, d])) ∧ Below w.heap.size w w' := by
  rw [join_if]
  obtain ⟨a, ha⟩ : ∃ a : Int, a = 3 := ⟨_, rfl⟩
  by_cases hbd : b = d
  · rw [if_pos ⟨rfl, hbd⟩]
    rw [← ha] at hr
    have ha3 : (a == 3) = true := by simpa using ha
    have hbd3 : (b == d) = true := by simpa using hbd
    have HA3 := Lib.hid ha
    clear ha hbd
    have HL := Lib.hid (fun w2 => un_logic 15 w2)
    rw [show logB 15 = false by decide] at HL
    have HR := Lib.hid hr
    clear hr
    go_enter Tryz.func145, Tryz.ntmps145
    go_wp2_with fail
    refine (HL.out _).mono ?_
    rintro e w' ⟨rfl, hb⟩
    have hB := hb
    clear hb
    obtain ⟨g, o, hA, _, c0⟩ := (HR.out.later hB).geti (i := 0) (by simp)
    obtain ⟨g', o', hA', _, c1⟩ := (HR.out.later hB).geti (i := 1) (by simp)
    obtain ⟨g2, o2, hA2, _, c2⟩ := (HR.out.later hB).geti (i := 2) (by simp)
    simp only at hA hA' hA2
    rw [hA] at hA' hA2
    injection hA' with hA'
    injection hA' with hg ho _
    injection hA2 with hA2
    injection hA2 with hg2 ho2 _
    subst hg ho hg2 ho2 hA
    simp only [List.getElem_cons_zero, List.getElem_cons_succ, Nat.add_zero] at c0 c1 c2
    go_wp2_with fail
    refine wp_region_T (fun W => W.cell? ⟨g, o, none⟩ = some (.int .i64 a) ∧ W.cell? ⟨g, o + 1, none⟩ = some (.int .i64 b) ∧ W.cell? ⟨g, o + 2, none⟩ = some (.int .i64 d)) (fun _ => false) (by kernel_rfl) ⟨c0, c1, c2⟩ (fun hHeld => ?_)
    refine wpAnyT_take2 (i := 0) (v := ?_) rfl rfl (by kernel_rfl) (by kernel_rfl) (by kernel_rfl) (by kernel_rfl) (fun _ _ _ h => h) (Or.inl ⟨by rfl, ?_⟩) (by first | assumption | trivial) ?_
    rotate_left
    · (intro w hSw; (try dsimp only at hSw); go_simp) <;> (with_reducible rfl)
    simp only [List.setIfInBounds_toArray, List.set_cons_zero, List.set_cons_succ]
    refine wpAnyT_take2 (i := 1) (v := ?_) rfl rfl (by kernel_rfl) (by kernel_rfl) (by kernel_rfl) (by kernel_rfl) (fun _ _ _ h => h) (Or.inl ⟨by rfl, ?_⟩) (by first | assumption | trivial) ?_
    rotate_left
    · (intro w hSw; (try dsimp only at hSw); go_simp) <;> (with_reducible rfl)
    simp only [List.setIfInBounds_toArray, List.set_cons_zero, List.set_cons_succ]
    refine wpAnyT_take2 (i := 2) (v := ?_) rfl rfl (by kernel_rfl) (by kernel_rfl) (by kernel_rfl) (by kernel_rfl) (fun _ _ _ h => h) (Or.inl ⟨by rfl, ?_⟩) (by first | assumption | trivial) ?_
    rotate_left
    · (intro w hSw; (try dsimp only at hSw); go_simp) <;> (with_reducible rfl)
    simp only [List.setIfInBounds_toArray, List.set_cons_zero, List.set_cons_succ]
    clear hHeld
    have hHeld : w'.cell? ⟨g, o, none⟩ = some (.int .i64 a) ∧ w'.cell? ⟨g, o + 1, none⟩ = some (.int .i64 b) ∧ w'.cell? ⟨g, o + 2, none⟩ = some (.int .i64 d) := ⟨c0, c1, c2⟩
    refine wpAnyT_take2 (i := 3) (v := .bool true) rfl rfl (by kernel_rfl) (by kernel_rfl) (by kernel_rfl) (by kernel_rfl) (fun _ _ _ h => h) (Or.inl ⟨by rfl, ?_⟩) (by first | assumption | trivial) ?_
    · (intro w hSw; (try dsimp only at hSw); go_simp) <;> (first | (with_reducible rfl) | assumption | (simp; done) | (simp [*]; done) | (simp; omega))
    simp only [List.setIfInBounds_toArray, List.set_cons_zero, List.set_cons_succ]
    refine wpAnyT_take2 (i := 4) (v := ?_) rfl rfl (by kernel_rfl) (by kernel_rfl) (by kernel_rfl) (by kernel_rfl) (fun _ _ _ h => h) (Or.inl ⟨by rfl, ?_⟩) (by first | assumption | trivial) ?_
    rotate_left
    · (intro w hSw; (try dsimp only at hSw); go_simp) <;> (with_reducible rfl)
    simp only [List.setIfInBounds_toArray, List.set_cons_zero, List.set_cons_succ]
    refine wpAnyT_take2 (i := 5) (v := ?_) rfl rfl (by kernel_rfl) (by kernel_rfl) (by kernel_rfl) (by kernel_rfl) (fun _ _ _ h => h) (Or.inl ⟨by rfl, ?_⟩) (by first | assumption | trivial) ?_
    rotate_left
    · (intro w hSw; (try dsimp only at hSw); go_simp) <;> (with_reducible rfl)
    simp only [List.setIfInBounds_toArray, List.set_cons_zero, List.set_cons_succ]
    refine wpAnyT_take2 (i := 6) (v := ?_) rfl rfl (by kernel_rfl) (by kernel_rfl) (by kernel_rfl) (by kernel_rfl) (fun _ _ _ h => h) (Or.inl ⟨by rfl, ?_⟩) (by first | assumption | trivial) ?_
    rotate_left
    · (intro w hSw; (try dsimp only at hSw); go_simp) <;> (with_reducible rfl)
    simp only [List.setIfInBounds_toArray, List.set_cons_zero, List.set_cons_succ]
    refine wpAnyT_take2 (i := 7) (v := ?_) rfl rfl (by kernel_rfl) (by kernel_rfl) (by kernel_rfl) (by kernel_rfl) (fun _ _ _ h => h) (Or.inl ⟨by rfl, ?_⟩) (by first | assumption | trivial) ?_
    rotate_left
    · (intro w hSw; (try dsimp only at hSw); go_simp) <;> (with_reducible rfl)
    simp only [List.setIfInBounds_toArray, List.set_cons_zero, List.set_cons_succ]
    refine wpAnyT_take2 (i := 8) (v := ?_) rfl rfl (by kernel_rfl) (by kernel_rfl) (by kernel_rfl) (by kernel_rfl) (fun _ _ _ h => h) (Or.inl ⟨by rfl, ?_⟩) (by first | assumption | trivial) ?_
    rotate_left
    · (intro w hSw; (try dsimp only at hSw); go_simp) <;> (with_reducible rfl)
    simp only [List.setIfInBounds_toArray, List.set_cons_zero, List.set_cons_succ]
    refine wpAnyT_take2 (i := 9) (v := ?_) rfl rfl (by kernel_rfl) (by kernel_rfl) (by kernel_rfl) (by kernel_rfl) (fun _ _ _ h => h) (Or.inl ⟨by rfl, ?_⟩) (by first | assumption | trivial) ?_
    rotate_left
    · (intro w hSw; (try dsimp only at hSw); go_simp) <;> (with_reducible rfl)
    simp only [List.setIfInBounds_toArray, List.set_cons_zero, List.set_cons_succ]
    refine wpAnyT_take2 (i := 10) (v := ?_) rfl rfl (by kernel_rfl) (by kernel_rfl) (by kernel_rfl) (by kernel_rfl) (fun _ _ _ h => h) (Or.inl ⟨by rfl, ?_⟩) (by first | assumption | trivial) ?_
    rotate_left
    · (intro w hSw; (try dsimp only at hSw); go_simp) <;> (with_reducible rfl)
    simp only [List.setIfInBounds_toArray, List.set_cons_zero, List.set_cons_succ]
    refine wpAnyT_take2 (i := 11) (v := .bool true) rfl rfl (by kernel_rfl) (by kernel_rfl) (by kernel_rfl) (by kernel_rfl) (fun _ _ _ h => h) (Or.inl ⟨by rfl, ?_⟩) (by first | assumption | trivial) ?_
    · (intro w hSw; (try dsimp only at hSw); go_simp) <;> (first | (with_reducible rfl) | assumption | (simp; done) | (simp [*]; done) | (simp; omega))
    simp only [List.setIfInBounds_toArray, List.set_cons_zero, List.set_cons_succ]
    refine wpAnyT_take2 (i := 12) (v := ?_) rfl rfl (by kernel_rfl) (by kernel_rfl) (by kernel_rfl) (by kernel_rfl) (fun _ _ _ h => h) (Or.inl ⟨by rfl, ?_⟩) (by first | assumption | trivial) ?_
    rotate_left
    · (intro w hSw; (try dsimp only at hSw); go_simp) <;> (with_reducible rfl)
    simp only [List.setIfInBounds_toArray, List.set_cons_zero, List.set_cons_succ]
    refine wpAnyT_done (by kernel_rfl) ?_ _
    clear hHeld
    go_wp2_with fail
    go_ret
    exact ⟨rfl, hB.drew⟩
  · rw [if_neg (fun h => hbd h.2)]
    rw [← ha] at hr
    have ha3 : (a == 3) = true := by simpa using ha
    have hbd3 : (b == d) = false := by simpa using hbd
    have HA3 := Lib.hid ha
    clear ha hbd
    have HL := Lib.hid (fun w2 => un_logic 15 w2)
    rw [show logB 15 = false by decide] at HL
    have HR := Lib.hid hr
    clear hr
    go_enter Tryz.func145, Tryz.ntmps145
    go_wp2_with fail
    refine (HL.out _).mono ?_
    rintro e w' ⟨rfl, hb⟩
    have hB := hb
    clear hb
    obtain ⟨g, o, hA, _, c0⟩ := (HR.out.later hB).geti (i := 0) (by simp)
    obtain ⟨g', o', hA', _, c1⟩ := (HR.out.later hB).geti (i := 1) (by simp)
    obtain ⟨g2, o2, hA2, _, c2⟩ := (HR.out.later hB).geti (i := 2) (by simp)
    simp only at hA hA' hA2
    rw [hA] at hA' hA2
    injection hA' with hA'
    injection hA' with hg ho _
    injection hA2 with hA2
    injection hA2 with hg2 ho2 _
    subst hg ho hg2 ho2 hA
    simp only [List.getElem_cons_zero, List.getElem_cons_succ, Nat.add_zero] at c0 c1 c2
    go_wp2_with fail
    refine wp_region_T (fun W => W.cell? ⟨g, o, none⟩ = some (.int .i64 a) ∧ W.cell? ⟨g, o + 1, none⟩ = some (.int .i64 b) ∧ W.cell? ⟨g, o + 2, none⟩ = some (.int .i64 d)) (fun _ => false) (by kernel_rfl) ⟨c0, c1, c2⟩ (fun hHeld => ?_)
    refine wpAnyT_take2 (i := 0) (v := ?_) rfl rfl (by kernel_rfl) (by kernel_rfl) (by kernel_rfl) (by kernel_rfl) (fun _ _ _ h => h) (Or.inl ⟨by rfl, ?_⟩) (by first | assumption | trivial) ?_
    rotate_left
    · (intro w hSw; (try dsimp only at hSw); go_simp) <;> (with_reducible rfl)
    simp only [List.setIfInBounds_toArray, List.set_cons_zero, List.set_cons_succ]
    refine wpAnyT_take2 (i := 1) (v := ?_) rfl rfl (by kernel_rfl) (by kernel_rfl) (by kernel_rfl) (by kernel_rfl) (fun _ _ _ h => h) (Or.inl ⟨by rfl, ?_⟩) (by first | assumption | trivial) ?_
    rotate_left
    · (intro w hSw; (try dsimp only at hSw); go_simp) <;> (with_reducible rfl)
    simp only [List.setIfInBounds_toArray, List.set_cons_zero, List.set_cons_succ]
    refine wpAnyT_take2 (i := 2) (v := ?_) rfl rfl (by kernel_rfl) (by kernel_rfl) (by kernel_rfl) (by kernel_rfl) (fun _ _ _ h => h) (Or.inl ⟨by rfl, ?_⟩) (by first | assumption | trivial) ?_
    rotate_left
    · (intro w hSw; (try dsimp only at hSw); go_simp) <;> (with_reducible rfl)
    simp only [List.setIfInBounds_toArray, List.set_cons_zero, List.set_cons_succ]
    clear hHeld
    have hHeld : w'.cell? ⟨g, o, none⟩ = some (.int .i64 a) ∧ w'.cell? ⟨g, o + 1, none⟩ = some (.int .i64 b) ∧ w'.cell? ⟨g, o + 2, none⟩ = some (.int .i64 d) := ⟨c0, c1, c2⟩
    refine wpAnyT_take2 (i := 3) (v := .bool true) rfl rfl (by kernel_rfl) (by kernel_rfl) (by kernel_rfl) (by kernel_rfl) (fun _ _ _ h => h) (Or.inl ⟨by rfl, ?_⟩) (by first | assumption | trivial) ?_
    · (intro w hSw; (try dsimp only at hSw); go_simp) <;> (first | (with_reducible rfl) | assumption | (simp; done) | (simp [*]; done) | (simp; omega))
    simp only [List.setIfInBounds_toArray, List.set_cons_zero, List.set_cons_succ]
    refine wpAnyT_take2 (i := 4) (v := ?_) rfl rfl (by kernel_rfl) (by kernel_rfl) (by kernel_rfl) (by kernel_rfl) (fun _ _ _ h => h) (Or.inl ⟨by rfl, ?_⟩) (by first | assumption | trivial) ?_
    rotate_left
    · (intro w hSw; (try dsimp only at hSw); go_simp) <;> (with_reducible rfl)
    simp only [List.setIfInBounds_toArray, List.set_cons_zero, List.set_cons_succ]
    refine wpAnyT_take2 (i := 5) (v := ?_) rfl rfl (by kernel_rfl) (by kernel_rfl) (by kernel_rfl) (by kernel_rfl) (fun _ _ _ h => h) (Or.inl ⟨by rfl, ?_⟩) (by first | assumption | trivial) ?_
    rotate_left
    · (intro w hSw; (try dsimp only at hSw); go_simp) <;> (with_reducible rfl)
    simp only [List.setIfInBounds_toArray, List.set_cons_zero, List.set_cons_succ]
    refine wpAnyT_take2 (i := 6) (v := ?_) rfl rfl (by kernel_rfl) (by kernel_rfl) (by kernel_rfl) (by kernel_rfl) (fun _ _ _ h => h) (Or.inl ⟨by rfl, ?_⟩) (by first | assumption | trivial) ?_
    rotate_left
    · (intro w hSw; (try dsimp only at hSw); go_simp) <;> (with_reducible rfl)
    simp only [List.setIfInBounds_toArray, List.set_cons_zero, List.set_cons_succ]
    refine wpAnyT_take2 (i := 7) (v := ?_) rfl rfl (by kernel_rfl) (by kernel_rfl) (by kernel_rfl) (by kernel_rfl) (fun _ _ _ h => h) (Or.inl ⟨by rfl, ?_⟩) (by first | assumption | trivial) ?_
    rotate_left
    · (intro w hSw; (try dsimp only at hSw); go_simp) <;> (with_reducible rfl)
    simp only [List.setIfInBounds_toArray, List.set_cons_zero, List.set_cons_succ]
    refine wpAnyT_take2 (i := 8) (v := ?_) rfl rfl (by kernel_rfl) (by kernel_rfl) (by kernel_rfl) (by kernel_rfl) (fun _ _ _ h => h) (Or.inl ⟨by rfl, ?_⟩) (by first | assumption | trivial) ?_
    rotate_left
    · (intro w hSw; (try dsimp only at hSw); go_simp) <;> (with_reducible rfl)
    simp only [List.setIfInBounds_toArray, List.set_cons_zero, List.set_cons_succ]
    refine wpAnyT_take2 (i := 9) (v := ?_) rfl rfl (by kernel_rfl) (by kernel_rfl) (by kernel_rfl) (by kernel_rfl) (fun _ _ _ h => h) (Or.inl ⟨by rfl, ?_⟩) (by first | assumption | trivial) ?_
    rotate_left
    · (intro w hSw; (try dsimp only at hSw); go_simp) <;> (with_reducible rfl)
    simp only [List.setIfInBounds_toArray, List.set_cons_zero, List.set_cons_succ]
    refine wpAnyT_take2 (i := 10) (v := ?_) rfl rfl (by kernel_rfl) (by kernel_rfl) (by kernel_rfl) (by kernel_rfl) (fun _ _ _ h => h) (Or.inl ⟨by rfl, ?_⟩) (by first | assumption | trivial) ?_
    rotate_left
    · (intro w hSw; (try dsimp only at hSw); go_simp) <;> (with_reducible rfl)
    simp only [List.setIfInBounds_toArray, List.set_cons_zero, List.set_cons_succ]
    refine wpAnyT_take2 (i := 11) (v := .bool false) rfl rfl (by kernel_rfl) (by kernel_rfl) (by kernel_rfl) (by kernel_rfl) (fun _ _ _ h => h) (Or.inl ⟨by rfl, ?_⟩) (by first | assumption | trivial) ?_
    · (intro w hSw; (try dsimp only at hSw); go_simp) <;> (first | (with_reducible rfl) | assumption | (simp; done) | (simp [*]; done) | (simp; omega))
    simp only [List.setIfInBounds_toArray, List.set_cons_zero, List.set_cons_succ]
    refine wpAnyT_take2 (i := 12) (v := ?_) rfl rfl (by kernel_rfl) (by kernel_rfl) (by kernel_rfl) (by kernel_rfl) (fun _ _ _ h => h) (Or.inl ⟨by rfl, ?_⟩) (by first | assumption | trivial) ?_
    rotate_left
    · (intro w hSw; (try dsimp only at hSw); go_simp) <;> (with_reducible rfl)
    simp only [List.setIfInBounds_toArray, List.set_cons_zero, List.set_cons_succ]
    refine wpAnyT_done (by kernel_rfl) ?_ _
    clear hHeld
    go_wp2_with fail
    go_ret
    exact ⟨rfl, hB.drew⟩
theorem un_joined (op : Int) (s : Sl Int) (w : World) (hr : Rd (· < w.heap.size) 1 ienc w s) (h15 : op = 15 → s.l.length = 3) :
    Calls Tryz.prog 145 #[.int .i64 op, .slice s.A s.l.length s.c] w fun r w' => r = .returned (.int .i64 (joinU op s.l)) ∧ Below w.heap.size w w' := by
  rcases hl : logB op
  · by_cases h : op = 15
    · subst h
      obtain ⟨A, c, l⟩ := s
      match l, h15 rfl with
      | [a, b, d], _ =>
        by_cases ha : a = 3
        · subst ha; exact un_join_if2 b d A c w hr
        · exact un_join_if1 a b d A c w hr ha
    · by_cases h2 : s.l.length = 2
      · obtain ⟨A, c, l⟩ := s
        match l, h2 with
        | [a, b], _ => exact un_join_two op a b A c w hr hl h
      · exact un_join_no op s w hr hl h h2
  · exact un_join_log op s w hr hl
end Go.Proofs.YtcgocdhhneckhaaGreat
