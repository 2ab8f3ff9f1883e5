/- Walks of what merge.Merge sorts by, and the sort. -/
import Derived.Test.YthnblhbdfpmolaaPNotemxau
import Derived.Test.YthnblhbdfpmolaaPNotemxac
import Derived.Test.YthnblhbdfpmolaaPNotemxav
import Derived.Test.YthnblhbdfpmolaaPNotemxas
import Derived.LoopN
import Derived.Test.YthnblhbdfpmolaaPNotemxae
namespace Go.Proofs.Ythnblhbdfpmolaa
open Go.RowKit Go.Sort
instance : Inhabited Note := ⟨⟨0, 0, ⟨none, 0, []⟩, 0, ByteArray.empty⟩⟩
theorem kal {w : World} {p : Addr} {v : Value} (o : Obj) (h : w.cell? p = some v) : (w.alloc o).cell? p = some v := by rw [World.cell?_alloc_some w p o (by rw [h]; rfl), h]
def orI (x y : Int) : Int := if x ≠ 0 then x else y
set_option maxHeartbeats 600000 in
theorem or_int (x y : Int) (g : Nat) (w : World) (h0 : w.cell? ⟨g, 0, none⟩ = some (.int .i64 x)) (h1 : w.cell? ⟨g, 1, none⟩ = some (.int .i64 y)) :
    Calls Try.prog 82 #[.slice (some ⟨g, 0, none⟩) 2 2] w fun e w' => e = .returned (.int .i64 (orI x y)) ∧ w = w' := by
  unfold orI
  by_cases hx : x = 0
  · have e1 : (x != 0) = false := by simp [hx]
    have hv : (if x ≠ 0 then x else y) = y := if_neg (fun h => h hx)
    rw [hv]
    clear hv
    have HX := Lib.hid hx
    clear hx
    by_cases hy : y = 0
    · have e2 : (y != 0) = false := by simp [hy]
      have HY := Lib.hid hy
      clear hy
      go_enter Try.func82, Try.ntmps82
      go_wp2_with fail
      refine wp_loop_rounds 3 ?_
      rw [rounds_succ]
      go_wp2_with fail
      rw [rounds_succ]
      go_wp2_with fail
      rw [rounds_succ]
      go_wp2_with fail
      go_ret
      exact ⟨ret_int HY.out.symm, rfl⟩
    · have e2 : (y != 0) = true := by simp [hy]
      clear hy
      go_enter Try.func82, Try.ntmps82
      go_wp2_with fail
      refine wp_loop_rounds 3 ?_
      rw [rounds_succ]
      go_wp2_with fail
      rw [rounds_succ]
      go_wp2_with fail
      go_ret
      exact ⟨rfl, rfl⟩
  · have e1 : (x != 0) = true := by simp [hx]
    have hv : (if x ≠ 0 then x else y) = x := if_pos hx
    rw [hv]
    clear hv hx
    go_enter Try.func82, Try.ntmps82
    go_wp2_with fail
    refine wp_loop_rounds 3 ?_
    rw [rounds_succ]
    go_wp2_with fail
    go_ret
    exact ⟨rfl, rfl⟩
def cmpNote (x y : Note) : Int := orI (cmpI x.dev y.dev) (cmpI x.seq y.seq)
set_option maxHeartbeats 1000000 in
theorem cmp_note (a b : Note) (w : World) :
    Calls Try.prog 81 #[a.v, b.v] w fun e w' => e = .returned (.int .i64 (cmpNote a b)) ∧ ∃ q os', w' = grow (w.drewN q) os' := by
  unfold cmpNote
  obtain ⟨ad, aq, ⟨aA, ac, al⟩, at', ax⟩ := a
  obtain ⟨bd, bq, ⟨bA, bc, bl⟩, bt, bx⟩ := b
  simp only [Note.v]
  have K_a := (Blk.new w 61 #[.int .i64 ad, .int .i64 aq, .slice aA al.length ac, .int .i64 at', .string ax]).alloc (.cells #[.int .i64 bd, .int .i64 bq, .slice bA bl.length bc, .int .i64 bt, .string bx] 61)
  have K_b : Blk (World.alloc (World.alloc w (.cells #[.int .i64 ad, .int .i64 aq, .slice aA al.length ac, .int .i64 at', .string ax] 61)) (.cells #[.int .i64 bd, .int .i64 bq, .slice bA bl.length bc, .int .i64 bt, .string bx] 61)) (w.heap.size + 1) 61 #[.int .i64 bd, .int .i64 bq, .slice bA bl.length bc, .int .i64 bt, .string bx] := Blk.new' (by simp)
  obtain ⟨a0, a1, a2, a3, a4, af, az⟩ := K_a.b5
  obtain ⟨b0, b1, b2, b3, b4, bf, bz⟩ := K_b.b5
  have B_a := Lib.hid K_a
  have B_b := Lib.hid K_b
  clear K_a K_b
  go_enter Try.func81, Try.ntmps81
  go_wp2_with fail
  refine wp_region_T (fun w' => (w'.cell? ⟨w.heap.size, 0, none⟩ = some (.int .i64 ad) ∧ w'.cell? ⟨w.heap.size, 1, none⟩ = some (.int .i64 aq) ∧ w'.cell? ⟨w.heap.size, 2, none⟩ = some (.slice aA al.length ac) ∧ w'.cell? ⟨w.heap.size, 3, none⟩ = some (.int .i64 at') ∧ w'.cell? ⟨w.heap.size, 4, none⟩ = some (.string ax)) ∧ (w'.cell? ⟨w.heap.size + 1, 0, none⟩ = some (.int .i64 bd) ∧ w'.cell? ⟨w.heap.size + 1, 1, none⟩ = some (.int .i64 bq) ∧ w'.cell? ⟨w.heap.size + 1, 2, none⟩ = some (.slice bA bl.length bc) ∧ w'.cell? ⟨w.heap.size + 1, 3, none⟩ = some (.int .i64 bt) ∧ w'.cell? ⟨w.heap.size + 1, 4, none⟩ = some (.string bx))) (fun _ => false) (by kernel_rfl) ⟨⟨a0, a1, a2, a3, a4⟩, b0, b1, b2, b3, b4⟩ (fun hHeld => ?_)
  refine qtq 0 ?_
  simp only [qsa, qsb, qsc]
  refine qtq 1 ?_
  simp only [qsa, qsb, qsc]
  refine qtq 2 ?_
  simp only [qsa, qsb, qsc]
  refine qtq 3 ?_
  simp only [qsa, qsb, qsc]
  refine qtq 5 ?_
  simp only [qsa, qsb, qsc]
  refine qtq 6 ?_
  simp only [qsa, qsb, qsc]
  refine qtq 7 ?_
  simp only [qsa, qsb, qsc]
  refine qtq 8 ?_
  simp only [qsa, qsb, qsc]
  clear hHeld
  refine wpAnyT_next (i := 4) (by kernel_rfl) rfl ?_
  go_wp2_with fail
  refine (cmp_int ad bd _).mono ?_
  rintro e w1 ⟨rfl, rfl⟩
  generalize hva : cmpI ad bd = va
  have HVA := Lib.hid hva
  clear hva
  go_wp2_with fail
  refine ⟨(by first | exact fun _ => ⟨⟨a0, a1, a2, a3, a4⟩, b0, b1, b2, b3, b4⟩ | exact ⟨⟨a0, a1, a2, a3, a4⟩, b0, b1, b2, b3, b4⟩), ?_⟩
  refine wpAnyT_next (i := 9) (by kernel_rfl) rfl ?_
  go_wp2_with fail
  refine (cmp_int aq bq _).mono ?_
  rintro e w1 ⟨rfl, rfl⟩
  generalize hvb : cmpI aq bq = vb
  have HVB := Lib.hid hvb
  clear hvb
  go_wp2_with fail
  refine ⟨(by first | exact fun _ => ⟨⟨a0, a1, a2, a3, a4⟩, b0, b1, b2, b3, b4⟩ | exact ⟨⟨a0, a1, a2, a3, a4⟩, b0, b1, b2, b3, b4⟩), ?_⟩
  refine wpAnyT_next (i := 10) (by kernel_rfl) rfl ?_
  go_wp2_with fail
  refine ⟨(by first | exact fun _ => ⟨⟨kal _ a0, kal _ a1, kal _ a2, kal _ a3, kal _ a4⟩, kal _ b0, kal _ b1, kal _ b2, kal _ b3, kal _ b4⟩ | exact ⟨⟨kal _ a0, kal _ a1, kal _ a2, kal _ a3, kal _ a4⟩, kal _ b0, kal _ b1, kal _ b2, kal _ b3, kal _ b4⟩), ?_⟩
  refine wpAnyT_next (i := 11) (by kernel_rfl) rfl ?_
  go_wp2_with fail
  refine (or_int va vb (w.heap.size + 2) _ ?_ ?_).mono ?_
  · exact (Blk.new' (by simp)).b2.1
  · exact (Blk.new' (by simp)).b2.2.1
  rintro e w1 ⟨rfl, rfl⟩
  generalize hvc : orI va vb = vc
  have HVC := Lib.hid hvc
  clear hvc
  go_wp2_with fail
  refine ⟨(by first | exact fun _ => ⟨⟨kal _ a0, kal _ a1, kal _ a2, kal _ a3, kal _ a4⟩, kal _ b0, kal _ b1, kal _ b2, kal _ b3, kal _ b4⟩ | exact ⟨⟨kal _ a0, kal _ a1, kal _ a2, kal _ a3, kal _ a4⟩, kal _ b0, kal _ b1, kal _ b2, kal _ b3, kal _ b4⟩), ?_⟩
  have hHeld := And.intro (And.intro (kal (.cells #[.int .i64 va, .int .i64 vb] 3) a0) (And.intro (kal (.cells #[.int .i64 va, .int .i64 vb] 3) a1) (And.intro (kal (.cells #[.int .i64 va, .int .i64 vb] 3) a2) (And.intro (kal (.cells #[.int .i64 va, .int .i64 vb] 3) a3) (kal (.cells #[.int .i64 va, .int .i64 vb] 3) a4))))) (And.intro (kal (.cells #[.int .i64 va, .int .i64 vb] 3) b0) (And.intro (kal (.cells #[.int .i64 va, .int .i64 vb] 3) b1) (And.intro (kal (.cells #[.int .i64 va, .int .i64 vb] 3) b2) (And.intro (kal (.cells #[.int .i64 va, .int .i64 vb] 3) b3) (kal (.cells #[.int .i64 va, .int .i64 vb] 3) b4)))))
  refine qtq 12 ?_
  simp only [qsa, qsb, qsc]
  refine wpAnyT_done (by kernel_rfl) ?_ _
  clear hHeld
  go_wp2_with fail
  go_ret
  refine ⟨by rw [HVA.out, HVB.out, HVC.out]; simp [Act.eval, go_sem], 1, #[.cells #[.int .i64 ad, .int .i64 aq, .slice aA al.length ac, .int .i64 at', .string ax] 61, .cells #[.int .i64 bd, .int .i64 bq, .slice bA bl.length bc, .int .i64 bt, .string bx] 61, .cells #[.int .i64 va, .int .i64 vb] 3], ?_⟩
  rw [alloc_eq_grow, alloc_eq_grow, alloc_eq_grow, grow_grow, grow_grow]
  rfl
end Go.Proofs.Ythnblhbdfpmolaa
/- slices.SortFunc over notes: the row holds what it held, ascending by device and number. -/
namespace Go.Proofs.Ythnblhbdfpmolaa
open Go.RowKit
theorem flat5_get (d : Array Note) {j : Nat} (hj : j < d.size * 5) : (d.toList.flatMap Note.enc)[j]? = some ((Note.enc d[j / 5]!)[j % 5]!) := by
  have h1 : j / 5 < d.size := by omega
  have hx : d.toList[j / 5]? = some d[j / 5]! := by rw [Array.getElem?_toList, Array.getElem?_eq_getElem h1, getElem!_pos d _ h1]
  have := flat_get (enc := Note.enc) Note.k d.toList (j / 5) (j % 5) _ hx (Nat.mod_lt _ (by omega))
  rw [show j / 5 * 5 + j % 5 = j by omega] at this
  rw [this]
  have h2 : j % 5 < (Note.enc d[j / 5]!).length := by rw [Note.k]; exact Nat.mod_lt _ (by omega)
  rw [List.getElem?_eq_getElem h2, getElem!_pos (Note.enc d[j / 5]!) (j % 5) h2]
theorem sort_heap {w : World} {g : Nat} {cur : Array Value} {e : TypeId} (n : Nat) (d : Array Note) (os : Array Obj) (hg : Blk w g e cur) :
    Blk (sortWorldK Note.enc 5 w g 0 n d os) g e (Go.Sort.putCells id 0 (Go.Sort.flatK Note.enc 5 d) cur) := by
  unfold Blk at *
  unfold sortWorldK Go.Sort.putRowK Go.Sort.putRow
  rw [Go.Sort.heap_grow_old _ _ (by simp [Go.Sort.mapBlock, Go.Sort.ahead]; exact (Array.getElem?_eq_some_iff.1 hg).1)]
  simp only [Go.Sort.mapBlock, Go.Sort.ahead, Array.getElem?_modify, hg, if_true, Option.map_some, Go.Sort.onCells]
theorem sort_grown {w : World} {g : Nat} (n : Nat) (d : Array Note) (os : Array Obj) : w.grownBy (sortWorldK Note.enc 5 w g 0 n d os) (some g) := by
  refine ⟨rfl, rfl, rfl, ?_, fun j hj hne => ?_⟩
  · unfold sortWorldK; rw [Go.Sort.size_grow, Go.Sort.size_putRowK]; exact Nat.le_add_right _ _
  · unfold sortWorldK Go.Sort.putRowK Go.Sort.putRow
    rw [Go.Sort.heap_grow_old _ _ (by simp [Go.Sort.mapBlock, Go.Sort.ahead]; exact hj)]
    simp only [Go.Sort.mapBlock, Go.Sort.ahead, Array.getElem?_modify]
    rw [if_neg (fun h => hne (by rw [h]))]
theorem cmpI_sgn (x y : Int) : (cmpI x y < 0 ↔ x < y) ∧ (cmpI x y = 0 ↔ x = y) := by
  rcases Int.lt_trichotomy x y with h | h | h
  · rw [cmpI_lt h]; omega
  · rw [cmpI_eq h]; omega
  · rw [cmpI_gt h]; omega
theorem lt_cmpNote (x y : Note) : ltOf cmpNote x y = true ↔ LtN x.d y.d := by
  unfold ltOf cmpNote orI LtN
  rw [lessN_iff, decide_eq_true_iff]
  have h1 := cmpI_sgn x.dev y.dev
  have h2 := cmpI_sgn x.seq y.seq
  show _ ↔ x.dev < y.dev ∨ (x.dev = y.dev ∧ x.seq < y.seq)
  split <;> omega
theorem swoNote : Go.Sort.SWO (ltOf cmpNote) where
  irrefl x := by
    rcases h : ltOf cmpNote x x
    · rfl
    · exact absurd ((lt_cmpNote x x).1 h) (fun h => h.asymm h)
  trans x y z h1 h2 := (lt_cmpNote x z).2 (((lt_cmpNote x y).1 h1).trans ((lt_cmpNote y z).1 h2))
  ntrans x y z h1 h2 := by
    rcases h : ltOf cmpNote x z
    · rfl
    · have h3 := (lt_cmpNote x z).1 h
      have n1 : ¬ LtN x.d y.d := fun hc => by rw [(lt_cmpNote x y).2 hc] at h1; cases h1
      have n2 : ¬ LtN y.d z.d := fun hc => by rw [(lt_cmpNote y z).2 hc] at h2; cases h2
      unfold LtN at *
      rw [lessN_iff] at *
      omega
theorem sort_note_laid (s : Sl Note) (base g : Nat) (w : World) (hown : Own base 61 5 Note.enc w s) (hA : s.A = some ⟨g, 0, none⟩) (hlen : s.l.length ≤ 100000) :
    Calls Try.prog 80 #[.slice s.A s.l.length s.c, .func (.func 81) #[] #[]] w fun e w' => e = .returned (.tuple #[]) ∧
      ∃ l', l'.Perm s.l ∧ l'.Pairwise (fun a b => ¬ LtN b.d a.d) ∧ Own base 61 5 Note.enc w' ⟨s.A, s.c, l'⟩ ∧ w.grownBy w' (some g) := by
  obtain ⟨A, c, l⟩ := s
  simp only at hA hlen
  subst hA
  obtain ⟨cur, hB, hcs, htk, hlc, hcm, hbg⟩ := hown.blk rfl
  simp only at hcs htk hlc hcm
  have eg : ∀ args w, (callFunc 81 args).run Try.prog w = .ok (.enter 81 args) w := enters_of Try.func81 (by kernel_rfl) rfl
  have hH : Go.Sort.HoldsK Note.enc 5 w g 0 l.toArray := by
    intro j hj
    rw [Go.Sort.size_flatK] at hj
    refine ⟨?_, hB.frozen _⟩
    rw [hB.cell, Nat.zero_add, Go.Sort.get_flatK _ _ _ _ hj]
    have h1 := flat5_get l.toArray hj
    rw [List.toList_toArray, ← htk, List.getElem?_take, if_pos (by simpa using hj), Array.getElem?_toList] at h1
    exact h1
  have hcmp : CmpLays Try.prog 81 #[] Note.enc 5 cmpNote g 0 l.toArray.size w := fun _ _ _ _ x y => cmp_note x y _
  have hcon := AnyQ.slices_SortFunc Try.sortNote 5 Try.isAgg61 Try.sizeOf61 Note.enc Note.k Note.one cmpNote swoNote 81 #[] g 0 c l.toArray w eg hcmp hH hB.lt (by simp; omega)
  refine Calls.mono (show Calls Try.prog 80 #[.slice (some ⟨g, 0, none⟩) l.length c, .func (.func 81) #[] #[]] w _ from hcon) ?_
  rintro e w' ⟨he, d', n, os, hp, hs, rfl⟩
  have hsz : d'.size = l.length := by have := hp.1; simpa using this
  have hperm : d'.toList.Perm l := by
    have := hp.2.2
    simp only [List.size_toArray] at this
    rw [← hsz, Array.extract_size, hsz] at this
    simpa using this
  refine ⟨he, d'.toList, hperm, ?_, ?_, sort_grown _ _ _⟩
  · rw [List.pairwise_iff_getElem]
    intro i j hi hj hij
    have h := hs i j (Nat.zero_le _) hij (by simp at hj ⊢; omega)
    have hi' : i < d'.size := by simpa using hi
    have hj' : j < d'.size := by simpa using hj
    rw [getElem!_pos d' i hi', getElem!_pos d' j hj'] at h
    intro hc
    rw [Array.getElem_toList, Array.getElem_toList] at hc
    rw [(lt_cmpNote _ _).2 hc] at h; cases h
  · refine Own.of_blk Note.k (sort_heap n d' os hB) ?_ ?_ ?_ hcm hbg
    · simp [Go.Sort.putCells, hcs]
    · have hl : d'.toList.length = l.length := by simpa using hsz
      simp only [hl]
      apply List.ext_getElem?
      intro j
      rw [List.getElem?_take]
      split
      · rename_i hj
        have hj' : j < d'.size * 5 := by omega
        rw [flat5_get d' hj', Array.getElem?_toList]
        have hjc : j < cur.size := by rw [hcs]; have := Nat.mul_le_mul_right 5 hlc; omega
        simp only [Go.Sort.putCells, Array.getElem?_mapIdx, Array.getElem?_eq_getElem hjc, Option.map_some, Go.Sort.size_flatK]
        rw [if_pos ⟨Nat.zero_le _, by omega⟩, Nat.sub_zero, Go.Sort.get_flatK _ _ _ _ hj']; rfl
      · rename_i hj
        rw [List.getElem?_eq_none]
        rw [flat_len Note.k, hl]; omega
    · simp [hsz]; exact hlc
set_option maxHeartbeats 1000000 in
theorem isort_nil (fv : Value) (w : World) : Calls Try.prog 132 #[.slice none 0 0, .int .i64 0, .int .i64 0, fv] w fun e w' => e = .returned (.tuple #[]) ∧ w = w' := by
  go_enter Try.func132, Try.ntmps132
  go_wp2_with fail
  refine wp_loop_rounds 1 ?_
  rw [rounds_succ]
  go_wp2_with fail
  go_end0
  exact ⟨rfl, rfl⟩
set_option maxHeartbeats 1000000 in
theorem pdq_nil (fv : Value) (lim : Int) (w : World) : Calls Try.prog 120 #[.slice none 0 0, .int .i64 0, .int .i64 0, .int .i64 lim, fv] w fun e w' => e = .returned (.tuple #[]) ∧ w = w' := by
  go_enter Try.func120, Try.ntmps120
  go_wp2_with fail
  refine wp_loop_rounds 1 ?_
  rw [rounds_succ]
  go_wp2_with (go_at_call 132; refine (isort_nil _ _).mono ?_; rintro e w' ⟨rfl, rfl⟩)
  (try simp only [Exit.inBlock, Exit.then])
  refine bodyPost_ret (results_none rfl _ _ _) rfl ?_
  exact ⟨rfl, rfl⟩
set_option maxHeartbeats 1000000 in
theorem sort_nil (fv : Value) (w : World) : Calls Try.prog 80 #[.slice none 0 0, fv] w fun e w' => e = .returned (.tuple #[]) ∧ w = w' := by
  have hl : ∀ W, Calls Try.prog 121 #[.int .u64 0] W fun e w' => e = .returned (.int .i64 (Lib.bitLen 0 : Nat)) ∧ w' = W := fun W => by
    have h := Any.bits_Len (SlLaysF0.n15.bits (P := Try.prog) (ρ := Try.sortNote_ren) { Try.sortNote with }) 0 W (by omega) (by omega)
    exact h
  go_enter Try.func80, Try.ntmps80
  go_wp2_with (first | (go_at_call 121; refine (hl _).mono ?_; rintro e w' ⟨rfl, rfl⟩) | (go_at_call 120; refine (pdq_nil _ _ _).mono ?_; rintro e w' ⟨rfl, rfl⟩))
  go_end0
  exact ⟨rfl, rfl⟩
/-- The sort, at nil too. -/
theorem sort_note (s : Sl Note) (base : Nat) (w : World) (hown : Own base 61 5 Note.enc w s) (hlen : s.l.length ≤ 100000) :
    Calls Try.prog 80 #[.slice s.A s.l.length s.c, .func (.func 81) #[] #[]] w fun e w' => e = .returned (.tuple #[]) ∧
      ∃ l', l'.Perm s.l ∧ l'.Pairwise (fun a b => ¬ LtN b.d a.d) ∧ Own base 61 5 Note.enc w' ⟨s.A, s.c, l'⟩ ∧ w.grownBy w' (Value.slice s.A s.l.length s.c).ownBlock := by
  rcases hown.form with ⟨hA, hc, hl⟩ | ⟨g, hA, _⟩
  · obtain ⟨A, c, l⟩ := s
    simp only at hA hc hl
    subst hA hc hl
    refine (sort_nil _ w).mono ?_
    rintro e w' ⟨rfl, rfl⟩
    exact ⟨rfl, [], List.Perm.refl _, List.Pairwise.nil, Own.nil _ _ _ _ _, ⟨rfl, rfl, rfl, Nat.le_refl _, fun _ _ _ => rfl⟩⟩
  · refine (sort_note_laid s base g w hown hA hlen).mono ?_
    rintro e w' ⟨he, l', h1, h2, h3, h4⟩
    exact ⟨he, l', h1, h2, h3, by rw [hA]; exact h4⟩
end Go.Proofs.Ythnblhbdfpmolaa
