/- Walks: cmp.Compare, slices.Clone at int; big.compare. -/
import Derived.Test.YtcgocdhhneckhaaGreatFcutmxam
namespace Go.Proofs.YtcgocdhhneckhaaGreat
open Go.RowKit
theorem ucmp_lt {x y : Int} (h : x < y) : ucmp x y = -1 := by simp [ucmp, h]
theorem ucmp_gt {x y : Int} (h : y < x) : ucmp x y = 1 := by simp [ucmp, h]; omega
theorem ucmp_eq {x y : Int} (h : x = y) : ucmp x y = 0 := by simp [ucmp, h]
set_option maxHeartbeats 400000 in
theorem cmp_int (x y : Int) (w : World) : Calls Tryz.prog 166 #[.int .i64 x, .int .i64 y] w fun e w' => e = .returned (.int .i64 (ucmp x y)) ∧ w = w' := by
  rcases Int.lt_trichotomy x y with h | h | h
  · rw [ucmp_lt h]
    go_enter Tryz.func166, Tryz.ntmps166
    go_wp2
    go_ret
    exact ⟨rfl, rfl⟩
  · rw [ucmp_eq h]
    subst h
    go_enter Tryz.func166, Tryz.ntmps166
    go_wp2
    go_ret
    exact ⟨rfl, rfl⟩
  · rw [ucmp_gt h]
    go_enter Tryz.func166, Tryz.ntmps166
    go_wp2
    go_ret
    exact ⟨rfl, rfl⟩
theorem ienc_one (x : Int) : ∀ u ∈ ienc x, u.oneCell' = true := by intro u hu; simp only [ienc, List.mem_singleton] at hu; subst hu; rfl
set_option maxHeartbeats 400000 in
theorem clone_int (s : Sl Int) (w : World) (hr : Rd (· < w.heap.size) 1 ienc w s) (hb : s.l.length * 8 ≤ 140737488355328) :
    Calls Tryz.prog 144 #[s.v] w fun e w' => ∃ A c, e = .returned (.slice A s.l.length c) ∧ Own w.heap.size 3 1 ienc w' ⟨A, c, s.l⟩ ∧ Below w.heap.size w w' := by
  obtain ⟨A, c, l⟩ := s
  have hcap := hr.cap
  have hlc := hr.lecap
  simp only at hcap hlc hb
  simp only [Sl.v]
  rcases A with _ | ad
  · obtain ⟨hl, hc⟩ := hr.none_ rfl
    simp only at hl hc
    subst hl; subst hc
    have hnil := fun W => Lib.run_eql_slice_nil (P := Tryz.prog) W 60 3 none 0 0 0 0 Tryz.underlying60
    go_enter Tryz.func144, Tryz.ntmps144
    go_wp2_with fail
    go_ret
    exact ⟨none, 0, rfl, Own.nil _ _ _ _ _, Below.refl _ _⟩
  · have HR := Lib.hid hr
    clear hr
    have hnil := fun W => Lib.run_eql_slice_nil (P := Tryz.prog) W 60 3 (some ad) l.length c 0 0 Tryz.underlying60
    go_enter Tryz.func144, Tryz.ntmps144
    go_wp2_with (at_builtin
                 go_must (refine wpl_append_sl _ rfl (.tmp 5) (.tmp 6) _ rfl Tryz.underlying60 infoInt (by omega) ienc_k ienc_one ⟨some ⟨w.heap.size, 0, none⟩, 0, []⟩ ⟨some ad, c, l⟩ rfl rfl (Own.lit w #[] [] (Nat.le_refl _) (Nat.zero_le _) rfl ienc_k) (HR.out.lt_alloc _) (by simp [maxLen]; omega) (by simp; omega) (by simp) ?_)
                 intro A' c' w1 hown hg _)
    go_ret
    exact ⟨A', c', rfl, hown, ((Below.refl _ _).alloc (Nat.le_refl _) _).grown hg (by simp) (by simp [Value.ownBlock])⟩
theorem rd_own {B : Nat} {w : World} {s : Sl Int} (h : Own B 3 1 ienc w s) : Rd (· < w.heap.size) 1 ienc w s := (h.rd ienc_k).mono fun _ hb => hb.2
set_option maxHeartbeats 800000 in
theorem big_compare (a b : Sl Int) (w : World) (ha : Rd (· < w.heap.size) 1 ienc w a) (hb : Rd (· < w.heap.size) 1 ienc w b) (na : Norm a.l) (nb : Norm b.l) :
    Calls Tryz.prog 167 #[a.v, b.v] w fun e w' => e = .returned (.int .i64 (ucmp (val a.l) (val b.l))) ∧ Below w.heap.size w w' := by
  obtain ⟨A, c, l⟩ := a
  obtain ⟨B, d, m⟩ := b
  have hl : l.length ≤ 9223372036854775807 := ha.len
  have hm : m.length ≤ 9223372036854775807 := hb.len
  have HA := Lib.hid ha
  have HB := Lib.hid hb
  have NA := Lib.hid na
  have NB := Lib.hid nb
  clear ha hb na nb
  simp only [Sl.v]
  go_enter Tryz.func167, Tryz.ntmps167
  by_cases hlm : l.length = m.length
  · go_wp2_with fail
    have HLM := Lib.hid hlm
    go_loopw [5] (fun v wr => ∃ (j : Nat), j ≤ l.length ∧ v = .int .i64 ((j : Int) - 1) ∧ Hid (l.drop j = m.drop j) ∧ Below w.heap.size w wr) (fun v _ => ((intOf v) + 1).toNat)
    case atStart => exact ⟨l.length, Nat.le_refl _, by rw [HLM.out], Lib.hid (by rw [List.drop_length, HLM.out, List.drop_length]), Below.refl _ _⟩
    case round =>
      obtain ⟨j, hj, rfl, HD, hbel⟩ := hrel
      clear hlm
      rcases j with _ | j
      · have HE : Hid (ucmp (val l) (val m) = 0) := Lib.hid (by rw [ucmp_eq]; have h := HD.out; rw [List.drop_zero, List.drop_zero] at h; rw [h])
        go_wp2_with fail
        go_ret
        exact ⟨ret_int HE.out.symm, hbel⟩
      · have hjl : j < l.length := by omega
        have hjm : j < m.length := by rw [← HLM.out]; exact hjl
        obtain ⟨b1, o1, hA, _, c0⟩ := (HA.out.later hbel).geti hjl
        obtain ⟨b2, o2, hB, _, c1⟩ := (HB.out.later hbel).geti hjm
        simp only at hA hB c0 c1
        subst hA hB
        have h1 := fun h => ucmp_lt (dig_lt NA.out.ok NB.out.ok hjl hjm HD.out h)
        have h2 := fun h => ucmp_gt (dig_lt NB.out.ok NA.out.ok hjm hjl HD.out.symm h)
        have h3 : l[j] = m[j] → l.drop j = m.drop j := fun h => by rw [List.drop_eq_getElem_cons hjl, List.drop_eq_getElem_cons hjm, h, HD.out]
        generalize l[j] = x at *
        generalize m[j] = y at *
        have H1 := Lib.hid h1
        have H2 := Lib.hid h2
        have H3 := Lib.hid h3
        clear h1 h2 h3
        go_wp2_with fail
        refine wp_region_T (fun W => W.cell? ⟨b1, o1 + j, none⟩ = some (.int .i64 x) ∧ W.cell? ⟨b2, o2 + j, none⟩ = some (.int .i64 y)) (fun _ => false) (by kernel_rfl) ⟨c0, c1⟩ (fun hHeld => ?_)
        refine wpAnyT_take2 (i := 0) (v := ?_) rfl rfl (by kernel_rfl) (by kernel_rfl) (by kernel_rfl) (by kernel_rfl) (fun _ _ _ h => h) (Or.inl ⟨by rfl, ?_⟩) (by first | assumption | trivial) ?_
        rotate_left
        · (intro w hSw; (try dsimp only at hSw); go_simp) <;> (with_reducible rfl)
        simp only [List.setIfInBounds_toArray, List.set_cons_zero, List.set_cons_succ]
        refine wpAnyT_take2 (i := 1) (v := ?_) rfl rfl (by kernel_rfl) (by kernel_rfl) (by kernel_rfl) (by kernel_rfl) (fun _ _ _ h => h) (Or.inl ⟨by rfl, ?_⟩) (by first | assumption | trivial) ?_
        rotate_left
        · (intro w hSw; (try dsimp only at hSw); go_simp) <;> (with_reducible rfl)
        simp only [List.setIfInBounds_toArray, List.set_cons_zero, List.set_cons_succ]
        refine wpAnyT_take2 (i := 2) (v := ?_) rfl rfl (by kernel_rfl) (by kernel_rfl) (by kernel_rfl) (by kernel_rfl) (fun _ _ _ h => h) (Or.inl ⟨by rfl, ?_⟩) (by first | assumption | trivial) ?_
        rotate_left
        · (intro w hSw; (try dsimp only at hSw); go_simp) <;> (with_reducible rfl)
        simp only [List.setIfInBounds_toArray, List.set_cons_zero, List.set_cons_succ]
        refine wpAnyT_take2 (i := 3) (v := ?_) rfl rfl (by kernel_rfl) (by kernel_rfl) (by kernel_rfl) (by kernel_rfl) (fun _ _ _ h => h) (Or.inl ⟨by rfl, ?_⟩) (by first | assumption | trivial) ?_
        rotate_left
        · (intro w hSw; (try dsimp only at hSw); go_simp) <;> (with_reducible rfl)
        simp only [List.setIfInBounds_toArray, List.set_cons_zero, List.set_cons_succ]
        refine wpAnyT_take2 (i := 4) (v := ?_) rfl rfl (by kernel_rfl) (by kernel_rfl) (by kernel_rfl) (by kernel_rfl) (fun _ _ _ h => h) (Or.inl ⟨by rfl, ?_⟩) (by first | assumption | trivial) ?_
        rotate_left
        · (intro w hSw; (try dsimp only at hSw); go_simp) <;> (with_reducible rfl)
        simp only [List.setIfInBounds_toArray, List.set_cons_zero, List.set_cons_succ]
        refine wpAnyT_take2 (i := 5) (v := ?_) rfl rfl (by kernel_rfl) (by kernel_rfl) (by kernel_rfl) (by kernel_rfl) (fun _ _ _ h => h) (Or.inl ⟨by rfl, ?_⟩) (by first | assumption | trivial) ?_
        rotate_left
        · (intro w hSw; (try dsimp only at hSw); go_simp) <;> (with_reducible rfl)
        simp only [List.setIfInBounds_toArray, List.set_cons_zero, List.set_cons_succ]
        refine wpAnyT_take2 (i := 6) (v := ?_) rfl rfl (by kernel_rfl) (by kernel_rfl) (by kernel_rfl) (by kernel_rfl) (fun _ _ _ h => h) (Or.inl ⟨by rfl, ?_⟩) (by first | assumption | trivial) ?_
        rotate_left
        · (intro w hSw; (try dsimp only at hSw); go_simp) <;> (with_reducible rfl)
        simp only [List.setIfInBounds_toArray, List.set_cons_zero, List.set_cons_succ]
        refine wpAnyT_take2 (i := 7) (v := ?_) rfl rfl (by kernel_rfl) (by kernel_rfl) (by kernel_rfl) (by kernel_rfl) (fun _ _ _ h => h) (Or.inl ⟨by rfl, ?_⟩) (by first | assumption | trivial) ?_
        rotate_left
        · (intro w hSw; (try dsimp only at hSw); go_simp) <;> (with_reducible rfl)
        simp only [List.setIfInBounds_toArray, List.set_cons_zero, List.set_cons_succ]
        refine wpAnyT_take2 (i := 8) (v := ?_) rfl rfl (by kernel_rfl) (by kernel_rfl) (by kernel_rfl) (by kernel_rfl) (fun _ _ _ h => h) (Or.inl ⟨by rfl, ?_⟩) (by first | assumption | trivial) ?_
        rotate_left
        · (intro w hSw; (try dsimp only at hSw); go_simp) <;> (with_reducible rfl)
        simp only [List.setIfInBounds_toArray, List.set_cons_zero, List.set_cons_succ]
        refine wpAnyT_done (by kernel_rfl) ?_ _
        clear hHeld
        by_cases hxy : x = y
        · have HD2 := Lib.hid (H3.out hxy)
          clear HD H1 H2 H3
          go_wp2_with fail
          go_roundw
          case rel => exact ⟨j, by omega, by go_num, HD2, Below.drew hbel⟩
          case measure => simp [intOf]
        · have HU : Hid (ucmp x y = ucmp (val l) (val m)) := Lib.hid (by
            rcases Int.lt_or_gt_of_ne hxy with h | h
            · rw [ucmp_lt h, H1.out h]
            · rw [ucmp_gt h, H2.out h])
          clear HD H1 H2 H3
          go_wp2_with fail
          refine wp_region_T (fun W => W.cell? ⟨b1, o1 + j, none⟩ = some (.int .i64 x) ∧ W.cell? ⟨b2, o2 + j, none⟩ = some (.int .i64 y)) (fun _ => false) (by kernel_rfl) ⟨c0, c1⟩ (fun hHeld => ?_)
          refine wpAnyT_take2 (i := 0) (v := ?_) rfl rfl (by kernel_rfl) (by kernel_rfl) (by kernel_rfl) (by kernel_rfl) (fun _ _ _ h => h) (Or.inl ⟨by rfl, ?_⟩) (by first | assumption | trivial) ?_
          rotate_left
          · (intro w hSw; (try dsimp only at hSw); go_simp) <;> (with_reducible rfl)
          simp only [List.setIfInBounds_toArray, List.set_cons_zero, List.set_cons_succ]
          refine wpAnyT_take2 (i := 1) (v := ?_) rfl rfl (by kernel_rfl) (by kernel_rfl) (by kernel_rfl) (by kernel_rfl) (fun _ _ _ h => h) (Or.inl ⟨by rfl, ?_⟩) (by first | assumption | trivial) ?_
          rotate_left
          · (intro w hSw; (try dsimp only at hSw); go_simp) <;> (with_reducible rfl)
          simp only [List.setIfInBounds_toArray, List.set_cons_zero, List.set_cons_succ]
          refine wpAnyT_take2 (i := 2) (v := ?_) rfl rfl (by kernel_rfl) (by kernel_rfl) (by kernel_rfl) (by kernel_rfl) (fun _ _ _ h => h) (Or.inl ⟨by rfl, ?_⟩) (by first | assumption | trivial) ?_
          rotate_left
          · (intro w hSw; (try dsimp only at hSw); go_simp) <;> (with_reducible rfl)
          simp only [List.setIfInBounds_toArray, List.set_cons_zero, List.set_cons_succ]
          refine wpAnyT_take2 (i := 3) (v := ?_) rfl rfl (by kernel_rfl) (by kernel_rfl) (by kernel_rfl) (by kernel_rfl) (fun _ _ _ h => h) (Or.inl ⟨by rfl, ?_⟩) (by first | assumption | trivial) ?_
          rotate_left
          · (intro w hSw; (try dsimp only at hSw); go_simp) <;> (with_reducible rfl)
          simp only [List.setIfInBounds_toArray, List.set_cons_zero, List.set_cons_succ]
          refine wpAnyT_take2 (i := 4) (v := ?_) rfl rfl (by kernel_rfl) (by kernel_rfl) (by kernel_rfl) (by kernel_rfl) (fun _ _ _ h => h) (Or.inl ⟨by rfl, ?_⟩) (by first | assumption | trivial) ?_
          rotate_left
          · (intro w hSw; (try dsimp only at hSw); go_simp) <;> (with_reducible rfl)
          simp only [List.setIfInBounds_toArray, List.set_cons_zero, List.set_cons_succ]
          refine wpAnyT_take2 (i := 5) (v := ?_) rfl rfl (by kernel_rfl) (by kernel_rfl) (by kernel_rfl) (by kernel_rfl) (fun _ _ _ h => h) (Or.inl ⟨by rfl, ?_⟩) (by first | assumption | trivial) ?_
          rotate_left
          · (intro w hSw; (try dsimp only at hSw); go_simp) <;> (with_reducible rfl)
          simp only [List.setIfInBounds_toArray, List.set_cons_zero, List.set_cons_succ]
          refine wpAnyT_take2 (i := 6) (v := ?_) rfl rfl (by kernel_rfl) (by kernel_rfl) (by kernel_rfl) (by kernel_rfl) (fun _ _ _ h => h) (Or.inl ⟨by rfl, ?_⟩) (by first | assumption | trivial) ?_
          rotate_left
          · (intro w hSw; (try dsimp only at hSw); go_simp) <;> (with_reducible rfl)
          simp only [List.setIfInBounds_toArray, List.set_cons_zero, List.set_cons_succ]
          refine wpAnyT_take2 (i := 7) (v := ?_) rfl rfl (by kernel_rfl) (by kernel_rfl) (by kernel_rfl) (by kernel_rfl) (fun _ _ _ h => h) (Or.inl ⟨by rfl, ?_⟩) (by first | assumption | trivial) ?_
          rotate_left
          · (intro w hSw; (try dsimp only at hSw); go_simp) <;> (with_reducible rfl)
          simp only [List.setIfInBounds_toArray, List.set_cons_zero, List.set_cons_succ]
          clear hHeld
          refine wpAnyT_next (i := 8) (by kernel_rfl) rfl ?_
          go_wp2_with fail
          refine (cmp_int x y _).mono ?_
          rintro e w' ⟨rfl, rfl⟩
          go_wp2_with fail
          refine And.intro (by first | exact fun _ => ⟨c0, c1⟩ | exact ⟨c0, c1⟩) ?_
          have hHeld := (⟨c0, c1⟩ : wr.cell? ⟨b1, o1 + j, none⟩ = some (.int .i64 x) ∧ wr.cell? ⟨b2, o2 + j, none⟩ = some (.int .i64 y))
          refine wpAnyT_take2 (i := 9) (v := ?_) rfl rfl (by kernel_rfl) (by kernel_rfl) (by kernel_rfl) (by kernel_rfl) (fun _ _ _ h => h) (Or.inl ⟨by rfl, ?_⟩) (by first | assumption | trivial) ?_
          rotate_left
          · (intro w hSw; (try dsimp only at hSw); go_simp) <;> (with_reducible rfl)
          simp only [List.setIfInBounds_toArray, List.set_cons_zero, List.set_cons_succ]
          refine wpAnyT_done (by kernel_rfl) ?_ _
          clear hHeld
          go_wp2_with fail
          go_ret
          exact ⟨ret_int HU.out, Below.drew (Below.drew hbel)⟩
  · go_wp2_with fail
    refine (cmp_int _ _ _).mono ?_
    rintro e w' ⟨rfl, rfl⟩
    have HC : Hid (ucmp (l.length : Int) (m.length : Int) = ucmp (val l) (val m)) := Lib.hid (by
      rcases Nat.lt_or_gt_of_ne hlm with h | h
      · rw [ucmp_lt (by omega), ucmp_lt (len_lt NA.out.ok NB.out h)]
      · rw [ucmp_gt (by omega), ucmp_gt (len_lt NB.out.ok NA.out h)])
    go_wp2_with fail
    go_ret
    exact ⟨ret_int HC.out, Below.refl _ _⟩
end Go.Proofs.YtcgocdhhneckhaaGreat
