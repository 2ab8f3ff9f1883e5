/- Walks of what merge.Merge sorts by, and the sort. -/
import Derived.Test.YthnblhbdfpmolaaMLatmxaa
import Derived.Test.YthnblhbdfpmolaaMLatmxad
import Derived.Test.YthnblhbdfpmolaaMLatmxaw
import Derived.Test.YthnblhbdfpmolaaMLatmxax
import Derived.LoopN
namespace Go.Proofs.Ythnblhbdfpmolaa
open Go.RowKit Go.Sort
instance : Inhabited Note := ⟨⟨0, 0, ⟨none, 0, []⟩, 0, ByteArray.empty⟩⟩
theorem kal {w : World} {p : Addr} {v : Value} (o : Obj) (h : w.cell? p = some v) : (w.alloc o).cell? p = some v := by rw [World.cell?_alloc_some w p o (by rw [h]; rfl), h]
def orI (x y : Int) : Int := if x ≠ 0 then x else y
set_option maxHeartbeats 600000 in
theorem or_int (x y : Int) (g : Nat) (w : World) (h0 : w.cell? ⟨g, 0, none⟩ = some (.int .i64 x)) (h1 : w.cell? ⟨g, 1, none⟩ = some (.int .i64 y)) :
    Calls Try.prog 82 #[.slice (some ⟨g, 0, none⟩) 2 2] w fun e w' => e = .returned (.int .i64 (orI x y)) ∧ w = w' := by
  unfold orI
  by_cases hx : x = 0
  · have e1 : (x != 0) = false := by simp [hx]
    have hv : (if x ≠ 0 then x else y) = y := if_neg (fun h => h hx)
    rw [hv]
    clear hv
    have HX := Lib.hid hx
    clear hx
    by_cases hy : y = 0
    · have e2 : (y != 0) = false := by simp [hy]
      have HY := Lib.hid hy
      clear hy
      go_enter Try.func82, Try.ntmps82
      go_wp2_with fail
      refine wp_loop_rounds 3 ?_
      rw [rounds_succ]
      go_wp2_with fail
      rw [rounds_succ]
      go_wp2_with fail
      rw [rounds_succ]
      go_wp2_with fail
      go_ret
      exact ⟨ret_int HY.out.symm, rfl⟩
    · have e2 : (y != 0) = true := by simp [hy]
      clear hy
      go_enter Try.func82, Try.ntmps82
      go_wp2_with fail
      refine wp_loop_rounds 3 ?_
      rw [rounds_succ]
      go_wp2_with fail
      rw [rounds_succ]
      go_wp2_with fail
      go_ret
      exact ⟨rfl, rfl⟩
  · have e1 : (x != 0) = true := by simp [hx]
    have hv : (if x ≠ 0 then x else y) = x := if_pos hx
    rw [hv]
    clear hv hx
    go_enter Try.func82, Try.ntmps82
    go_wp2_with fail
    refine wp_loop_rounds 3 ?_
    rw [rounds_succ]
    go_wp2_with fail
    go_ret
    exact ⟨rfl, rfl⟩
def cmpNote (x y : Note) : Int := orI (cmpI x.dev y.dev) (cmpI x.seq y.seq)
set_option maxHeartbeats 1000000 in
theorem cmp_note (a b : Note) (w : World) :
    Calls Try.prog 81 #[a.v, b.v] w fun e w' => e = .returned (.int .i64 (cmpNote a b)) ∧ ∃ q os', w' = grow (w.drewN q) os' := by
  unfold cmpNote
  obtain ⟨ad, aq, ⟨aA, ac, al⟩, at', ax⟩ := a
  obtain ⟨bd, bq, ⟨bA, bc, bl⟩, bt, bx⟩ := b
  simp only [Note.v]
  have K_a := (Blk.new w 61 #[.int .i64 ad, .int .i64 aq, .slice aA al.length ac, .int .i64 at', .string ax]).alloc (.cells #[.int .i64 bd, .int .i64 bq, .slice bA bl.length bc, .int .i64 bt, .string bx] 61)
  have K_b : Blk (World.alloc (World.alloc w (.cells #[.int .i64 ad, .int .i64 aq, .slice aA al.length ac, .int .i64 at', .string ax] 61)) (.cells #[.int .i64 bd, .int .i64 bq, .slice bA bl.length bc, .int .i64 bt, .string bx] 61)) (w.heap.size + 1) 61 #[.int .i64 bd, .int .i64 bq, .slice bA bl.length bc, .int .i64 bt, .string bx] := Blk.new' (by simp)
  obtain ⟨a0, a1, a2, a3, a4, af, az⟩ := K_a.b5
  obtain ⟨b0, b1, b2, b3, b4, bf, bz⟩ := K_b.b5
  have B_a := Lib.hid K_a
  have B_b := Lib.hid K_b
  clear K_a K_b
  go_enter Try.func81, Try.ntmps81
  go_wp2_with fail
  refine wp_region_T (fun w' => (w'.cell? ⟨w.heap.size, 0, none⟩ = some (.int .i64 ad) ∧ w'.cell? ⟨w.heap.size, 1, none⟩ = some (.int .i64 aq) ∧ w'.cell? ⟨w.heap.size, 2, none⟩ = some (.slice aA al.length ac) ∧ w'.cell? ⟨w.heap.size, 3, none⟩ = some (.int .i64 at') ∧ w'.cell? ⟨w.heap.size, 4, none⟩ = some (.string ax)) ∧ (w'.cell? ⟨w.heap.size + 1, 0, none⟩ = some (.int .i64 bd) ∧ w'.cell? ⟨w.heap.size + 1, 1, none⟩ = some (.int .i64 bq) ∧ w'.cell? ⟨w.heap.size + 1, 2, none⟩ = some (.slice bA bl.length bc) ∧ w'.cell? ⟨w.heap.size + 1, 3, none⟩ = some (.int .i64 bt) ∧ w'.cell? ⟨w.heap.size + 1, 4, none⟩ = some (.string bx))) (fun _ => false) (by kernel_rfl) ⟨⟨a0, a1, a2, a3, a4⟩, b0, b1, b2, b3, b4⟩ (fun hHeld => ?_)
  refine wpAnyT_take2 (i := 0) (v := ?_) rfl rfl (by kernel_rfl) (by kernel_rfl) (by kernel_rfl) (by kernel_rfl) (fun _ _ _ h => h) (Or.inl ⟨by rfl, ?_⟩) (by first | assumption | trivial) ?_
  rotate_left
  · (intro w hSw; (try dsimp only at hSw); go_simp) <;> (with_reducible rfl)
  simp only [List.setIfInBounds_toArray, List.set_cons_zero, List.set_cons_succ]
  refine wpAnyT_take2 (i := 1) (v := ?_) rfl rfl (by kernel_rfl) (by kernel_rfl) (by kernel_rfl) (by kernel_rfl) (fun _ _ _ h => h) (Or.inl ⟨by rfl, ?_⟩) (by first | assumption | trivial) ?_
  rotate_left
  · (intro w hSw; (try dsimp only at hSw); go_simp) <;> (with_reducible rfl)
  simp only [List.setIfInBounds_toArray, List.set_cons_zero, List.set_cons_succ]
  refine wpAnyT_take2 (i := 2) (v := ?_) rfl rfl (by kernel_rfl) (by kernel_rfl) (by kernel_rfl) (by kernel_rfl) (fun _ _ _ h => h) (Or.inl ⟨by rfl, ?_⟩) (by first | assumption | trivial) ?_
  rotate_left
  · (intro w hSw; (try dsimp only at hSw); go_simp) <;> (with_reducible rfl)
  simp only [List.setIfInBounds_toArray, List.set_cons_zero, List.set_cons_succ]
  refine wpAnyT_take2 (i := 3) (v := ?_) rfl rfl (by kernel_rfl) (by kernel_rfl) (by kernel_rfl) (by kernel_rfl) (fun _ _ _ h => h) (Or.inl ⟨by rfl, ?_⟩) (by first | assumption | trivial) ?_
  rotate_left
  · (intro w hSw; (try dsimp only at hSw); go_simp) <;> (with_reducible rfl)
  simp only [List.setIfInBounds_toArray, List.set_cons_zero, List.set_cons_succ]
  refine wpAnyT_take2 (i := 5) (v := ?_) rfl rfl (by kernel_rfl) (by kernel_rfl) (by kernel_rfl) (by kernel_rfl) (fun _ _ _ h => h) (Or.inl ⟨by rfl, ?_⟩) (by first | assumption | trivial) ?_
  rotate_left
  · (intro w hSw; (try dsimp only at hSw); go_simp) <;> (with_reducible rfl)
  simp only [List.setIfInBounds_toArray, List.set_cons_zero, List.set_cons_succ]
  refine wpAnyT_take2 (i := 6) (v := ?_) rfl rfl (by kernel_rfl) (by kernel_rfl) (by kernel_rfl) (by kernel_rfl) (fun _ _ _ h => h) (Or.inl ⟨by rfl, ?_⟩) (by first | assumption | trivial) ?_
  rotate_left
  · (intro w hSw; (try dsimp only at hSw); go_simp) <;> (with_reducible rfl)
  simp only [List.setIfInBounds_toArray, List.set_cons_zero, List.set_cons_succ]
  refine wpAnyT_take2 (i := 7) (v := ?_) rfl rfl (by kernel_rfl) (by kernel_rfl) (by kernel_rfl) (by kernel_rfl) (fun _ _ _ h => h) (Or.inl ⟨by rfl, ?_⟩) (by first | assumption | trivial) ?_
  rotate_left
  · (intro w hSw; (try dsimp only at hSw); go_simp) <;> (with_reducible rfl)
  simp only [List.setIfInBounds_toArray, List.set_cons_zero, List.set_cons_succ]
  refine wpAnyT_take2 (i := 8) (v := ?_) rfl rfl (by kernel_rfl) (by kernel_rfl) (by kernel_rfl) (by kernel_rfl) (fun _ _ _ h => h) (Or.inl ⟨by rfl, ?_⟩) (by first | assumption | trivial) ?_
  rotate_left
  · (intro w hSw; (try dsimp only at hSw); go_simp) <;> (with_reducible rfl)
  simp only [List.setIfInBounds_toArray, List.set_cons_zero, List.set_cons_succ]
  clear hHeld
  refine wpAnyT_next (i := 4) (by kernel_rfl) rfl ?_
  go_wp2_with fail
  refine (cmp_int ad bd _).mono ?_
  rintro e w1 ⟨rfl, rfl⟩
  generalize hva : cmpI ad bd = va
  have HVA := Lib.hid hva
  clear hva
  go_wp2_with fail
  refine ⟨(by first | exact fun _ => ⟨⟨a0, a1, a2, a3, a4⟩, b0, b1, b2, b3, b4⟩ | exact ⟨⟨a0, a1, a2, a3, a4⟩, b0, b1, b2, b3, b4⟩), ?_⟩
  refine wpAnyT_next (i := 9) (by kernel_rfl) rfl ?_
  go_wp2_with fail
  refine (cmp_int aq bq _).mono ?_
  rintro e w1 ⟨rfl, rfl⟩
  generalize hvb : cmpI aq bq = vb
  have HVB := Lib.hid hvb
  clear hvb
  go_wp2_with fail
  refine ⟨(by first | exact fun _ => ⟨⟨a0, a1, a2, a3, a4⟩, b0, b1, b2, b3, b4⟩ | exact ⟨⟨a0, a1, a2, a3, a4⟩, b0, b1, b2, b3, b4⟩), ?_⟩
  refine wpAnyT_next (i := 10) (by kernel_rfl) rfl ?_
  go_wp2_with fail
  refine ⟨(by first | exact fun _ => ⟨⟨kal _ a0, kal _ a1, kal _ a2, kal _ a3, kal _ a4⟩, kal _ b0, kal _ b1, kal _ b2, kal _ b3, kal _ b4⟩ | exact ⟨⟨kal _ a0, kal _ a1, kal _ a2, kal _ a3, kal _ a4⟩, kal _ b0, kal _ b1, kal _ b2, kal _ b3, kal _ b4⟩), ?_⟩
  refine wpAnyT_next (i := 11) (by kernel_rfl) rfl ?_
  go_wp2_with fail
  refine (or_int va vb (w.heap.size + 2) _ ?_ ?_).mono ?_
  · exact (Blk.new' (by simp)).b2.1
  · exact (Blk.new' (by simp)).b2.2.1
  rintro e w1 ⟨rfl, rfl⟩
  generalize hvc : orI va vb = vc
  have HVC := Lib.hid hvc
  clear hvc
  go_wp2_with fail
  refine ⟨(by first | exact fun _ => ⟨⟨kal _ a0, kal _ a1, kal _ a2, kal _ a3, kal _ a4⟩, kal _ b0, kal _ b1, kal _ b2, kal _ b3, kal _ b4⟩ | exact ⟨⟨kal _ a0, kal _ a1, kal _ a2, kal _ a3, kal _ a4⟩, kal _ b0, kal _ b1, kal _ b2, kal _ b3, kal _ b4⟩), ?_⟩
  have hHeld := And.intro (And.intro (kal (.cells #[.int .i64 va, .int .i64 vb] 3) a0) (And.intro (kal (.cells #[.int .i64 va, .int .i64 vb] 3) a1) (And.intro (kal (.cells #[.int .i64 va, .int .i64 vb] 3) a2) (And.intro (kal (.cells #[.int .i64 va, .int .i64 vb] 3) a3) (kal (.cells #[.int .i64 va, .int .i64 vb] 3) a4))))) (And.intro (kal (.cells #[.int .i64 va, .int .i64 vb] 3) b0) (And.intro (kal (.cells #[.int .i64 va, .int .i64 vb] 3) b1) (And.intro (kal (.cells #[.int .i64 va, .int .i64 vb] 3) b2) (And.intro (kal (.cells #[.int .i64 va, .int .i64 vb] 3) b3) (kal (.cells #[.int .i64 va, .int .i64 vb] 3) b4)))))
  refine wpAnyT_take2 (i := 12) (v := ?_) rfl rfl (by kernel_rfl) (by kernel_rfl) (by kernel_rfl) (by kernel_rfl) (fun _ _ _ h => h) (Or.inl ⟨by rfl, ?_⟩) (by first | assumption | trivial) ?_
  rotate_left
  · (intro w hSw; (try dsimp only at hSw); go_simp) <;> (with_reducible rfl)
  simp only [List.setIfInBounds_toArray, List.set_cons_zero, List.set_cons_succ]
  refine wpAnyT_done (by kernel_rfl) ?_ _
  clear hHeld
  go_wp2_with fail
  go_ret
  refine ⟨by rw [HVA.out, HVB.out, HVC.out]; simp [Act.eval, go_sem], 1, #[.cells #[.int .i64 ad, .int .i64 aq, .slice aA al.length ac, .int .i64 at', .string ax] 61, .cells #[.int .i64 bd, .int .i64 bq, .slice bA bl.length bc, .int .i64 bt, .string bx] 61, .cells #[.int .i64 va, .int .i64 vb] 3], ?_⟩
  rw [alloc_eq_grow, alloc_eq_grow, alloc_eq_grow, grow_grow, grow_grow]
  rfl
end Go.Proofs.Ythnblhbdfpmolaa
