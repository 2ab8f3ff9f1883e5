/- slices.Grow at nil, and slices.Concat of two lists of notes. -/
import Derived.Test.YthnblhbdfpmolaaMLatmxak
import Derived.Test.YthnblhbdfpmolaaMLatmxac
import Derived.LoopN
namespace Go.Proofs.Ythnblhbdfpmolaa
open Go.RowKit
theorem grownBy_rfl (w : World) (row : Option Nat) : w.grownBy w row := ⟨rfl, rfl, rfl, Nat.le_refl _, fun _ _ _ => rfl⟩
set_option maxHeartbeats 600000 in
theorem grow_note (n base : Nat) (w : World) (hb : n * 64 ≤ 140737488355328) (hbase : base ≤ w.heap.size) :
    Calls Try.prog 118 #[.slice none 0 0, .int .i64 n] w fun e w' => ∃ A c, e = .returned (.slice A 0 c) ∧ Own base 61 5 Note.enc w' ⟨A, c, []⟩ ∧ w.grownBy w' none := by
  rcases Nat.eq_zero_or_pos n with rfl | h0
  · go_enter Try.func118, Try.ntmps118
    go_wp2_with fail
    go_ret
    exact ⟨none, 0, rfl, Own.nil _ _ _ _ _, grownBy_rfl _ _⟩
  · have hn : (0 : Int) < n := by omega
    have hn2 : (n : Int) ≤ 4611686018427387904 := by omega
    obtain ⟨inf, hi, hz, hsize, hby, hzs⟩ := infoNote
    have hrun := fun W => Lib.run_append_nil_zeros (P := Try.prog) W 23 3 23 61 inf _ .i64 .i64 Try.underlying23 Try.underlying3 hi hz n h0 (by omega) (by omega) (by rw [hby]; omega)
    have hge := fun W => grownCap_ge W n 0 61
    have hle := fun W => grownCap_le_maxLen W n 0 61 (by unfold maxLen; omega)
    have HR := Lib.hid hrun
    have HGE := Lib.hid hge
    have HLE := Lib.hid hle
    have HZ := Lib.hid hzs
    clear hrun hge hle hzs hi hz hsize hby
    go_enter Try.func118, Try.ntmps118
    go_wp2_with (at_builtin; refine Lib.wpList_append_run _ rfl _ _ _ _ rfl _ _ rfl rfl _ _ (HR.out _) ?_)
    go_ret
    refine ⟨_, _, rfl, Own.of_blk Note.k (Blk.new _ _ _) ?_ (by simp) (Nat.zero_le _) (HLE.out _) hbase, ⟨rfl, rfl, rfl, by simp, fun j hj _ => Below.heap_alloc w.drew _ j hj⟩⟩
    have := HGE.out w
    simp only [Array.size_append, size_zeroCells, HZ.out]
    rw [← Nat.add_mul]; congr 1; omega
set_option maxHeartbeats 1000000 in
theorem concat_note (s t : Sl Note) (g : Nat) (w : World) (hg : Blk w g 23 #[.slice s.A s.l.length s.c, .slice t.A t.l.length t.c]) (hr : Rd (· < w.heap.size) 5 Note.enc w s) (ht : Rd (· < w.heap.size) 5 Note.enc w t)
    (hb : (s.l.length + t.l.length) * 64 ≤ 140737488355328) :
    Calls Try.prog 78 #[.slice (some ⟨g, 0, none⟩) 2 2] w fun e w' => ∃ A c, e = .returned (.slice A (s.l ++ t.l).length c) ∧ Own w.heap.size 61 5 Note.enc w' ⟨A, c, s.l ++ t.l⟩ ∧ Below w.heap.size w w' := by
  obtain ⟨sA, sc, sl⟩ := s
  obtain ⟨tA, tc, tl⟩ := t
  simp only at hb hg
  obtain ⟨g0, g1, gf, gz⟩ := hg.b2
  have HG := Lib.hid hg
  have HS := Lib.hid hr
  have HT := Lib.hid ht
  have hs1 : (sl.length : Int) ≤ 4611686018427387904 := by omega
  have hs2 : (sl.length : Int) + (tl.length : Int) ≤ 4611686018427387904 := by omega
  have hw1 : IntKind.i64.wrap (0 + (sl.length : Int)) = sl.length := by rw [IntKind.wrap_i64]; omega
  have hw2 : IntKind.i64.wrap ((sl.length : Int) + (tl.length : Int)) = ((sl.length + tl.length : Nat) : Int) := by rw [IntKind.wrap_i64]; omega
  have hgr : Calls Try.prog 118 #[.slice none 0 0, .int .i64 ((sl.length : Int) + (tl.length : Int))] w fun e w' => ∃ A c, e = .returned (.slice A 0 c) ∧ Own w.heap.size 61 5 Note.enc w' ⟨A, c, []⟩ ∧ w.grownBy w' none := by
    have := grow_note (sl.length + tl.length) w.heap.size w hb (Nat.le_refl _)
    rw [Int.natCast_add] at this; exact this
  clear hg hr ht
  simp only
  go_enter Try.func78, Try.ntmps78
  go_wp2_with fail
  refine wp_loop_rounds 3 ?_
  rw [rounds_succ]
  go_wp2_with fail
  rw [rounds_succ]
  go_wp2_with fail
  rw [rounds_succ]
  go_wp2_with fail
  refine hgr.mono ?_
  rintro e w1 ⟨A1, c1, rfl, hown1, hgb1⟩
  have hB1 : Below w.heap.size w w1 := Below.grown (Below.refl _ _) hgb1 (Nat.le_refl _) (by simp)
  have HO1 := Lib.hid hown1
  clear hgr g0 g1 gf hown1 hgb1
  have K1 := HG.out.below hB1 HG.out.lt
  obtain ⟨g0, g1, gf, gz1⟩ := K1.b2
  clear K1
  go_wp2_with fail
  refine wp_loop_rounds 3 ?_
  rw [rounds_succ]
  go_wp2_with (at_builtin
               go_must (refine wpl_append_sl (base := w.heap.size) _ rfl (.tmp 31) (.tmp 32) _ rfl Try.underlying23 infoNote (by omega) Note.k Note.one ⟨A1, c1, []⟩ ⟨sA, sc, sl⟩ rfl rfl HO1.out (HS.out.below' hB1 (Nat.le_refl _)) (by simp [maxLen]; omega) (by simp; omega) hB1.size ?_)
               intro A2 c2 w2 hown2 hg2 hat2
               apply Hid.out)
  refine Lib.hid ?_
  simp only [List.nil_append] at hown2
  have hown1 := HO1.out
  have hB2 : Below w.heap.size w w2 := Below.grown hB1 hg2 hB1.size (by
    rcases hown1.form with ⟨h, _⟩ | ⟨q, h, hq, _⟩ <;> simp only at h <;> simp only [h, Value.ownBlock, reduceCtorEq, false_implies, implies_true, Option.some.injEq, forall_eq']
    exact hq)
  have HO2 := Lib.hid hown2
  clear hown1 hown2 hg2 hat2 g0 g1 gf
  have K1 := HG.out.below hB2 HG.out.lt
  obtain ⟨g0, g1, gf, gz2⟩ := K1.b2
  clear K1
  go_wp2_with fail
  rw [rounds_succ]
  go_wp2_with (at_builtin
               go_must (refine wpl_append_sl (base := w.heap.size) _ rfl (.tmp 31) (.tmp 32) _ rfl Try.underlying23 infoNote (by omega) Note.k Note.one ⟨A2, c2, sl⟩ ⟨tA, tc, tl⟩ rfl rfl HO2.out (HT.out.below' hB2 (Nat.le_refl _)) (by simp [maxLen]; omega) (by simp; omega) hB2.size ?_)
               intro A3 c3 w3 hown3 hg3 hat3
               apply Hid.out)
  refine Lib.hid ?_
  have hown2 := HO2.out
  have hB3 : Below w.heap.size w w3 := Below.grown hB2 hg3 hB2.size (by
    rcases hown2.form with ⟨h, _⟩ | ⟨q, h, hq, _⟩ <;> simp only at h <;> simp only [h, Value.ownBlock, reduceCtorEq, false_implies, implies_true, Option.some.injEq, forall_eq']
    exact hq)
  have HO3 := Lib.hid hown3
  clear hown2 hown3 hg3 hat3
  go_wp2_with fail
  rw [rounds_succ]
  go_wp2_with fail
  go_ret
  exact ⟨A3, c3, by simp [Act.eval, go_sem], HO3.out, hB3⟩
end Go.Proofs.Ythnblhbdfpmolaa
