/- Walk: add. -/
import Derived.Test.YtjbdjlgddjmkbaaFvBs
import Derived.Test.YtjbdjlgddjmkbaaFvIns
namespace Go.Proofs.Ytjbdjlgddjmkbaa
open Go.RowKit
theorem addL_has {m d : Int} : ∀ {l : List Bal}, SortL l → l.any (fun x => decide (x.m = m)) = true → ∃ x, l[l.countP (fun x => decide (x.m < m))]? = some x ∧ x.m = m ∧ ofL m l = x.n ∧ addL m d l = l.set (l.countP (fun x => decide (x.m < m))) ⟨m, x.n + d⟩
  | [], _, h => by simp at h
  | y :: r, hs, h => by
    obtain ⟨h1, h2⟩ := List.pairwise_cons.1 hs
    by_cases hy : y.m < m
    · have hr : r.any (fun x => decide (x.m = m)) = true := by
        simp only [List.any_cons, Bool.or_eq_true, decide_eq_true_eq] at h
        rcases h with h | h
        · omega
        · exact h
      obtain ⟨x, a1, a2, a3, a4⟩ := addL_has (d := d) h2 hr
      refine ⟨x, ?_, a2, ?_, ?_⟩
      · rw [List.countP_cons_of_pos (by simpa using hy)]; simpa using a1
      · unfold ofL; rw [if_neg (by omega)]; exact a3
      · rw [List.countP_cons_of_pos (by simpa using hy)]
        unfold addL
        rw [if_pos hy, List.set_cons_succ, a4]
    · have hc : (y :: r).countP (fun x => decide (x.m < m)) = 0 := by
        rw [List.countP_eq_zero]
        intro z hz
        rcases List.mem_cons.1 hz with rfl | hz
        · simpa using hy
        · have := h1 z hz; simp; omega
      have hym : y.m = m := by
        simp only [List.any_cons, Bool.or_eq_true, decide_eq_true_eq, List.any_eq_true] at h
        rcases h with h | ⟨z, hz, h⟩
        · exact h
        · have := h1 z hz; omega
      rw [hc]
      refine ⟨y, rfl, hym, ?_, ?_⟩
      · unfold ofL; rw [if_pos hym]
      · unfold addL; rw [if_neg hy, if_pos hym, List.set_cons_zero]
theorem addL_not {m d : Int} : ∀ {l : List Bal}, SortL l → l.any (fun x => decide (x.m = m)) = false → addL m d l = l.take (l.countP (fun x => decide (x.m < m))) ++ ⟨m, d⟩ :: l.drop (l.countP (fun x => decide (x.m < m)))
  | [], _, _ => rfl
  | y :: r, hs, h => by
    obtain ⟨h1, h2⟩ := List.pairwise_cons.1 hs
    simp only [List.any_cons, Bool.or_eq_false_iff, decide_eq_false_iff_not] at h
    by_cases hy : y.m < m
    · rw [List.countP_cons_of_pos (by simpa using hy)]
      unfold addL
      rw [if_pos hy, addL_not (d := d) h2 h.2]; rfl
    · have hc : (y :: r).countP (fun x => decide (x.m < m)) = 0 := by
        rw [List.countP_eq_zero]
        intro z hz
        rcases List.mem_cons.1 hz with rfl | hz
        · simpa using hy
        · have := h1 z hz; simp; omega
      rw [hc]
      unfold addL
      rw [if_neg hy, if_neg h.1]; rfl
theorem addL_len {m d : Int} {l : List Bal} (hs : SortL l) : (addL m d l).length = if l.any (fun x => decide (x.m = m)) then l.length else l.length + 1 := by
  rcases h : l.any (fun x => decide (x.m = m))
  · rw [addL_not hs h]; simp; omega
  · obtain ⟨x, _, _, _, h4⟩ := addL_has (d := d) hs h
    rw [h4]; simp
/-- The store into the minutes of element i. -/
theorem own_minutes {base g : Nat} {w : World} {c : Nat} {l : List Bal} {i : Nat} {x : Bal} {n : Int} (h : Own base 39 2 Bal.enc w ⟨some ⟨g, 0, none⟩, c, l⟩) (hx : l[i]? = some x) :
    Own base 39 2 Bal.enc (w.setCell ⟨g, i * 2 + 1, none⟩ (.int .i64 n)) ⟨some ⟨g, 0, none⟩, c, l.set i ⟨x.m, n⟩⟩ :=
  h.set Bal.k rfl (i := i) (j := 1) (x := x) (y := ⟨x.m, n⟩) hx (by omega) rfl
set_option maxHeartbeats 1000000 in
theorem add_any (base : Nat) (s : Sl Bal) (m d : Int) (w : World) (hown : Own base 39 2 Bal.enc w s) (hs : SortL s.l) (hb : s.l.length ≤ 100000) (hbase : base ≤ w.heap.size)
    (ho1 : -9223372036854775808 ≤ ofL m s.l + d) (ho2 : ofL m s.l + d ≤ 9223372036854775807) :
    Calls Try.prog 32 #[.slice s.A s.l.length s.c, .int .i64 m, .int .i64 d] w fun e w' => ∃ A c, e = .returned (.slice A (addL m d s.l).length c) ∧ Own base 39 2 Bal.enc w' ⟨A, c, addL m d s.l⟩ ∧ Below base w w' := by
  have hbs := bs_bal s m w ((hown.rd Bal.k).mono fun b hb => hb.2) (by omega) hs
  have HO := Lib.hid hown
  have hlen := addL_len (m := m) (d := d) hs
  obtain ⟨A, c, l⟩ := s
  simp only at hb hs ho1 ho2 hbs hlen ⊢
  have HS := Lib.hid hs
  clear hown
  rcases hh : l.any (fun x => decide (x.m = m))
  · have hadd := addL_not (d := d) hs hh
    rw [hh] at hbs hlen
    generalize hcnt : l.countP (fun x => decide (x.m < m)) = i at *
    have hil : i ≤ l.length := by rw [← hcnt]; exact List.countP_le_length
    have HADD := Lib.hid hadd
    have HLEN := Lib.hid hlen
    have HOF : Hid (ofL m l = 0) := Lib.hid (ofL_none (by
      intro hk
      obtain ⟨z, hz, he⟩ := List.mem_map.1 hk
      have := List.any_eq_false.1 hh z hz
      exact this (by simpa using he)))
    rw [HOF.out] at ho1 ho2
    clear hadd hlen hs hh hcnt
    go_enter Try.func32, Try.ntmps32
    go_wp2_with fail
    refine hbs.mono ?_
    clear hbs
    rintro e w1 ⟨rfl, hb1⟩
    have HO1 := Lib.hid (HO.out.below hb1)
    have hB1 : Below base w w1 := hb1.mono hbase
    have hz1 := hb1.size
    clear hb1
    go_wp2_with fail
    refine (insert_bal base ⟨A, c, l⟩ i ⟨m, 0⟩ w1.heap.size _ (HO1.out.alloc _) hil (Blk.new _ _ _) (fun g hg => by have := HO1.out.bound g hg; omega) (by simp only; omega) (by simp; omega)).mono ?_
    rintro e w2 ⟨A2, c2, rfl, hown2, hg2, hat2⟩
    obtain ⟨g, rfl⟩ : ∃ g, A2 = some ⟨g, 0, none⟩ := by
      rcases hown2.form with ⟨_, _, hl⟩ | ⟨g, hA, _⟩
      · simp at hl
      · exact ⟨g, hA⟩
    have hlen2 : l.length + 1 = (l.take i ++ (⟨m, 0⟩ : Bal) :: l.drop i).length := by simp; omega
    have hx : (l.take i ++ (⟨m, 0⟩ : Bal) :: l.drop i)[i]? = some ⟨m, 0⟩ := by rw [List.getElem?_append_right (by simp; omega)]; simp [Nat.min_eq_left hil]
    have hset : (l.take i ++ (⟨m, 0⟩ : Bal) :: l.drop i).set i ⟨m, 0 + d⟩ = addL m d l := by
      rw [HADD.out, List.set_append_right _ _ (by simp; omega)]
      simp [Nat.min_eq_left hil]
    have hcl := ((hown2.rd Bal.k).2.2.2 i _ hx)
    obtain ⟨g', o', hg', _, hcl⟩ := hcl
    injection hg' with hg'
    injection hg' with hg1 hg3
    subst hg1 hg3
    obtain ⟨g0, g1⟩ := Cells.c2 hcl
    simp only [Nat.zero_add] at g0 g1
    have hfr := hown2.frozen rfl
    have HO2 := Lib.hid hown2
    have hB2 : Below base w w2 := (Below.alloc hB1 (by omega) _).grown hg2 (by simp; omega) (fun j hj => by
      rcases HO1.out.form with ⟨h0, _⟩ | ⟨g', h0, h1, _⟩
      · simp only at h0; rw [h0] at hj; simp [Value.ownBlock] at hj
      · simp only at h0; rw [h0] at hj; simp [Value.ownBlock] at hj; omega)
    have HX := Lib.hid hx
    have HSET := Lib.hid hset
    have HL2 := Lib.hid hlen2
    have hil2 : (i : Int) < (l.length : Int) + 1 := by omega
    have hgb : base ≤ g := by
      rcases HO2.out.form with ⟨h0, _⟩ | ⟨g', h0, h1, _⟩
      · cases h0
      · injection h0 with h0; injection h0 with h0; omega
    clear hown2 hg2 hat2 hx hset hcl hlen2
    simp only
    go_wp2_with fail
    go_ret
    have hfin := own_minutes (n := 0 + d) HO2.out HX.out
    simp only [Int.zero_add] at hfin HSET
    rw [HSET.out] at hfin
    refine ⟨some ⟨g, 0, none⟩, c2, ?_, hfin, hB2.setCell (by simpa using hgb) _⟩
    rw [HLEN.out]; rfl
  · have hadd := addL_has (d := d) hs hh
    obtain ⟨x, hx, hxm, hox, hset⟩ := hadd
    rw [hh] at hbs hlen
    generalize hcnt : l.countP (fun x => decide (x.m < m)) = i at *
    obtain ⟨xm, xn⟩ := x
    simp only at hxm hox hset
    subst hxm
    rw [hox] at ho1 ho2
    have hil : i < l.length := (List.getElem?_eq_some_iff.1 hx).1
    obtain ⟨g, rfl⟩ : ∃ g, A = some ⟨g, 0, none⟩ := by
      rcases HO.out.form with ⟨_, _, hl⟩ | ⟨g, hA, _⟩
      · simp only at hl; rw [hl] at hil; simp at hil
      · exact ⟨g, hA⟩
    have hgb : base ≤ g := by
      rcases HO.out.form with ⟨h0, _⟩ | ⟨g', h0, h1, _⟩
      · cases h0
      · injection h0 with h0; injection h0 with h0; omega
    have HSET := Lib.hid hset
    have HX := Lib.hid hx
    have HLEN := Lib.hid hlen
    clear hset hlen hs hh hcnt hox hx
    go_enter Try.func32, Try.ntmps32
    go_wp2_with fail
    refine hbs.mono ?_
    clear hbs
    rintro e w1 ⟨rfl, hb1⟩
    have HO1 := Lib.hid (HO.out.below hb1)
    have hB1 : Below base w w1 := hb1.mono hbase
    have hcl := ((HO1.out.rd Bal.k).2.2.2 i _ HX.out)
    obtain ⟨g', o', hg', _, hcl⟩ := hcl
    injection hg' with hg'
    injection hg' with hg1 hg3
    subst hg1 hg3
    obtain ⟨g0, g1⟩ := Cells.c2 hcl
    simp only [Nat.zero_add] at g0 g1
    have hfr := HO1.out.frozen rfl
    have hil2 : (i : Int) < (l.length : Int) := by omega
    clear hb1 hcl
    go_wp2_with fail
    go_ret
    have hfin := own_minutes (n := xn + d) HO1.out HX.out
    simp only at hfin HSET
    rw [← HSET.out] at hfin
    refine ⟨some ⟨g, 0, none⟩, c, ?_, hfin, hB1.setCell (by simpa using hgb) _⟩
    rw [HLEN.out]; rfl
end Go.Proofs.Ytjbdjlgddjmkbaa
