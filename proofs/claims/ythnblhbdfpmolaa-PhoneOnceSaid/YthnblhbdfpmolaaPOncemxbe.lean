/- Walks of the reference of layer 40: what is free, right, fits. -/
import Derived.Test.YthnblhbdfpmolaaPOncemxaw
import Derived.Test.YthnblhbdfpmolaaPOncemxai
import Derived.Test.YthnblhbdfpmolaaPOncemxap
namespace Go.Proofs.Ythnblhbdfpmolaa
open Go.RowKit
def StockD.left (x : StockD) : Int := if x.right then x.T - x.U - sumU x.L else -1
theorem StockD.left_no {x : StockD} (h : ¬ x.ok0) : x.left = -1 := by
  have : x.right = false := by unfold StockD.right; rw [if_neg h]
  unfold StockD.left; rw [this]; rfl
theorem StockD.left_yes {x : StockD} (h : x.ok0) : x.left = if rightGo (x.T - x.U) (-1) x.L then x.T - x.U - sumU x.L else -1 := by
  have : x.right = rightGo (x.T - x.U) (-1) x.L := by unfold StockD.right; rw [if_pos h]
  unfold StockD.left; rw [this]
def leftGo (f la : Int) (l : List Loan) : Int := if rightGo f la l then f - sumU l else -1
theorem leftGo_nil (f la : Int) : leftGo f la [] = f := by simp [leftGo, rightGo, sumU]
theorem leftGo_no {f la : Int} {x : Loan} {r : List Loan} (h : x.p ≤ la ∨ 12 ≤ x.p ∨ x.u < 1 ∨ f < x.u ∨ x.s < 0 ∨ x.u < x.s) : leftGo f la (x :: r) = -1 := by
  simp [leftGo, rightGo_no h]
theorem leftGo_go {f la : Int} {x : Loan} {r : List Loan} (h : ¬ (x.p ≤ la ∨ 12 ≤ x.p ∨ x.u < 1 ∨ f < x.u ∨ x.s < 0 ∨ x.u < x.s)) : leftGo f la (x :: r) = leftGo (f - x.u) x.p r := by
  simp only [leftGo, rightGo_go h, sumU, List.map_cons, List.sum_cons]
  split
  · omega
  · rfl
set_option maxHeartbeats 400000 in
theorem rleft_no (s : Stock) (w : World) (h0 : ¬ s.d.ok0 ∨ 12 < s.L.l.length) :
    Calls Try.prog 117 #[s.v] w fun e w' => e = .returned (.int .i64 (-1)) ∧ Below w.heap.size w w' := by
  obtain ⟨T, U, A, c, L⟩ := s
  simp only [StockD.ok0, Stock.d] at h0
  simp only [Stock.v]
  rcases h1 : rngB T 0 1000000000000000
  rotate_left
  rcases h2 : rngB U 0 T
  rotate_left
  have h3 : (12 : Int) < L.length := by
    have := rngB_iff.1 h1; have := rngB_iff.1 h2; omega
  all_goals
    clear h0
    go_enter Try.func117, Try.ntmps117
    go_wp2_with (go_at_call 116; refine (in40_any _ _ _ _).mono ?_; rintro e w' ⟨rfl, rfl⟩)
    go_ret
    exact ⟨rfl, qbl⟩
set_option maxHeartbeats 1600000 in
theorem rleft_yes (s : Stock) (w : World) (hr : Rd (· < w.heap.size) 3 Loan.enc w s.L) (h0 : s.d.ok0) (hl : s.L.l.length ≤ 12) :
    Calls Try.prog 117 #[s.v] w fun e w' => e = .returned (.int .i64 (leftGo (s.T - s.U) (-1) s.L.l)) ∧ Below w.heap.size w w' := by
  obtain ⟨T, U, A, c, L⟩ := s
  obtain ⟨h11, h12, h21, h22⟩ := h0
  simp only [Stock.d] at h11 h12 h21 h22
  simp only at hl
  have h1 : rngB T 0 1000000000000000 = true := rngB_iff.2 ⟨h11, h12⟩
  have h2 : rngB U 0 T = true := rngB_iff.2 ⟨h21, h22⟩
  have h3 : (L.length : Int) ≤ 12 := by omega
  have HR := Lib.hid hr
  clear hr
  simp only [Stock.v]
  go_enter Try.func117, Try.ntmps117
  go_wp2_with (go_at_call 116; refine (in40_any _ _ _ _).mono ?_; rintro e w' ⟨rfl, rfl⟩)
  go_loopw [3, 4, 5] (fun fr i tm wr => ∃ (k : Nat) (f q : Int), k ≤ L.length ∧ fr = .int .i64 f ∧ i = .int .i64 k ∧ Blk wr w.heap.size 66 #[.int .i64 T, .int .i64 U, .slice A L.length c] ∧ Below w.heap.size w wr ∧ 0 ≤ f ∧ f ≤ 1000000000000000 ∧ -1 ≤ q ∧ (k = 0 → q = -1) ∧ (∀ j x, k = j + 1 → L[j]? = some x → q = x.p) ∧
     leftGo (T - U) (-1) L = leftGo f q (L.drop k)) (fun _ i _ _ => L.length - (intOf i).toNat)
  case atStart => exact ⟨0, T - U, -1, by omega, rfl, rfl, Blk.new _ _ _, qbl, by omega, by omega, by omega, fun _ => rfl, fun j x h => by omega, by simp⟩
  case round =>
    obtain ⟨k, f, q, hk, rfl, rfl, hblk, hbel, hf1, hf2, hq1, hq2, hq3, heq⟩ := hrel
    obtain ⟨a0, a1, a2, af, az⟩ := hblk.b3
    have B_a := Lib.hid hblk
    clear hblk
    have hhe : w.heap.size ≤ wr.heap.size := hbel.size
    by_cases hlt : k < L.length
    · obtain ⟨b, o, rfl, hb, hcl⟩ := HR.out.at1 hlt
      obtain ⟨g0, g1, g2⟩ := Cells.c3 (hcl.keep (hbel.block b hb))
      have hd : L.drop k = L[k] :: L.drop (k + 1) := List.drop_eq_getElem_cons hlt
      rw [hd] at heq
      have HQ := Lib.hid heq
      have hxk : L[k]? = some L[k] := List.getElem?_eq_getElem hlt
      clear heq hd hcl
      generalize L[k] = x at *
      have HXK := Lib.hid hxk
      clear hxk
      obtain ⟨xp, xu, xs⟩ := x
      go_wp2_with fail
      rcases Nat.eq_zero_or_pos k with rfl | hk0
      · have hq0 := hq2 rfl
        subst hq0
        refine wp_region_T (fun w' => w'.cell? ⟨wr.heap.size, 0, none⟩ = some (.int .i64 xp) ∧ w'.cell? ⟨wr.heap.size, 1, none⟩ = some (.int .i64 xu) ∧ w'.cell? ⟨wr.heap.size, 2, none⟩ = some (.int .i64 xs) ∧ w'.cell? ⟨w.heap.size, 2, none⟩ = some (.slice (some ⟨b, o, none⟩) L.length c)) (fun _ => false) (by kernel_rfl) ⟨(Blk.new _ _ _).cell 0, (Blk.new _ _ _).cell 1, (Blk.new _ _ _).cell 2, (B_a.out.alloc _).cell 2⟩ (fun hHeld => ?_)
        refine qtq 0 ?_
        simp only [qsa, qsb, qsc]
        refine qtq 1 ?_
        simp only [qsa, qsb, qsc]
        have HHD := Lib.hid hHeld
        clear hHeld
        refine wpAnyT_next (i := 2) (by kernel_rfl) rfl ?_
        go_wp2_with fail
        refine (in40_any _ _ _ _).mono ?_
        rintro e w' ⟨rfl, rfl⟩
        rcases hc1 : rngB xp 0 11
        · skip
          go_wp2_with fail
          have hHeld := HHD.out
          refine ⟨(by first | exact hHeld | exact fun _ => hHeld), ?_⟩
          refine qtq 3 ?_
          simp only [qsa, qsb, qsc]
          refine qtq 4 ?_
          simp only [qsa, qsb, qsc]
          refine qtn 5 ?_
          simp only [qsa, qsb, qsc]
          refine qtn 6 ?_
          simp only [qsa, qsb, qsc]
          refine qtn 7 ?_
          simp only [qsa, qsb, qsc]
          refine qtn 8 ?_
          simp only [qsa, qsb, qsc]
          refine qtn 9 ?_
          simp only [qsa, qsb, qsc]
          refine qtn 10 ?_
          simp only [qsa, qsb, qsc]
          refine qtn 11 ?_
          simp only [qsa, qsb, qsc]
          refine qtn 12 ?_
          simp only [qsa, qsb, qsc]
          refine qtn 13 ?_
          simp only [qsa, qsb, qsc]
          refine qtn 14 ?_
          simp only [qsa, qsb, qsc]
          refine qtn 15 ?_
          simp only [qsa, qsb, qsc]
          refine qtn 16 ?_
          simp only [qsa, qsb, qsc]
          refine qtn 17 ?_
          simp only [qsa, qsb, qsc]
          refine qtn 18 ?_
          simp only [qsa, qsb, qsc]
          refine qtq 19 ?_
          simp only [qsa, qsb, qsc]
          refine qtq 20 ?_
          simp only [qsa, qsb, qsc]
          refine qtn 21 ?_
          simp only [qsa, qsb, qsc]
          refine qtn 22 ?_
          simp only [qsa, qsb, qsc]
          refine qtn 23 ?_
          simp only [qsa, qsb, qsc]
          have HHD := Lib.hid hHeld
          clear hHeld
          refine wpAnyT_next (i := 24) (by kernel_rfl) rfl ?_
          go_wp2_with fail
          have hHeld := HHD.out
          refine ⟨(by first | exact hHeld | exact fun _ => hHeld), ?_⟩
          refine qtn 25 ?_
          simp only [qsa, qsb, qsc]
          refine qtq 26 ?_
          simp only [qsa, qsb, qsc]
          refine qtq 27 ?_
          simp only [qsa, qsb, qsc]
          refine qtn 28 ?_
          simp only [qsa, qsb, qsc]
          refine qtn 29 ?_
          simp only [qsa, qsb, qsc]
          refine qtn 30 ?_
          simp only [qsa, qsb, qsc]
          refine qtn 31 ?_
          simp only [qsa, qsb, qsc]
          have HHD := Lib.hid hHeld
          clear hHeld
          refine wpAnyT_next (i := 32) (by kernel_rfl) rfl ?_
          go_wp2_with fail
          have hHeld := HHD.out
          refine ⟨(by first | exact hHeld | exact fun _ => hHeld), ?_⟩
          refine qtn 33 ?_
          simp only [qsa, qsb, qsc]
          refine qtq 34 ?_
          simp only [qsa, qsb, qsc]
          refine wpAnyT_done (by kernel_rfl) ?_ _
          clear hHeld HHD
          go_wp2_with fail
          go_ret
          exact ⟨ret_int (by rw [HQ.out, leftGo_no (by simp only; have := rngB_not.1 hc1; omega)]), qbv⟩
        · skip
          go_wp2_with fail
          have hHeld := HHD.out
          refine ⟨(by first | exact hHeld | exact fun _ => hHeld), ?_⟩
          refine qtq 3 ?_
          simp only [qsa, qsb, qsc]
          refine qtq 4 ?_
          simp only [qsa, qsb, qsc]
          refine qtq 5 ?_
          simp only [qsa, qsb, qsc]
          refine qtq 6 ?_
          simp only [qsa, qsb, qsc]
          refine qtq 7 ?_
          simp only [qsa, qsb, qsc]
          refine qtn 8 ?_
          simp only [qsa, qsb, qsc]
          refine qtn 9 ?_
          simp only [qsa, qsb, qsc]
          refine qtn 10 ?_
          simp only [qsa, qsb, qsc]
          refine qtn 11 ?_
          simp only [qsa, qsb, qsc]
          refine qtn 12 ?_
          simp only [qsa, qsb, qsc]
          refine qtn 13 ?_
          simp only [qsa, qsb, qsc]
          refine qtn 14 ?_
          simp only [qsa, qsb, qsc]
          refine qtn 15 ?_
          simp only [qsa, qsb, qsc]
          refine qtn 16 ?_
          simp only [qsa, qsb, qsc]
          refine qtn 17 ?_
          simp only [qsa, qsb, qsc]
          refine qtq 18 ?_
          simp only [qsa, qsb, qsc]
          refine qtq 19 ?_
          simp only [qsa, qsb, qsc]
          refine qtq 20 ?_
          simp only [qsa, qsb, qsc]
          have hp := rngB_iff.1 hc1
          refine qtq 21 ?_
          simp only [qsa, qsb, qsc]
          refine qtq 22 ?_
          simp only [qsa, qsb, qsc]
          refine qtq 23 ?_
          simp only [qsa, qsb, qsc]
          have HHD := Lib.hid hHeld
          clear hHeld
          refine wpAnyT_next (i := 24) (by kernel_rfl) rfl ?_
          go_wp2_with fail
          refine (in40_any _ _ _ _).mono ?_
          rintro e w' ⟨rfl, rfl⟩
          rcases hc3 : rngB xu 1 f
          · skip
            go_wp2_with fail
            have hHeld := HHD.out
            refine ⟨(by first | exact hHeld | exact fun _ => hHeld), ?_⟩
            refine qtq 25 ?_
            simp only [qsa, qsb, qsc]
            refine qtq 26 ?_
            simp only [qsa, qsb, qsc]
            refine qtq 27 ?_
            simp only [qsa, qsb, qsc]
            refine qtn 28 ?_
            simp only [qsa, qsb, qsc]
            refine qtn 29 ?_
            simp only [qsa, qsb, qsc]
            refine qtn 30 ?_
            simp only [qsa, qsb, qsc]
            refine qtn 31 ?_
            simp only [qsa, qsb, qsc]
            have HHD := Lib.hid hHeld
            clear hHeld
            refine wpAnyT_next (i := 32) (by kernel_rfl) rfl ?_
            go_wp2_with fail
            have hHeld := HHD.out
            refine ⟨(by first | exact hHeld | exact fun _ => hHeld), ?_⟩
            refine qtn 33 ?_
            simp only [qsa, qsb, qsc]
            refine qtq 34 ?_
            simp only [qsa, qsb, qsc]
            refine wpAnyT_done (by kernel_rfl) ?_ _
            clear hHeld HHD
            go_wp2_with fail
            go_ret
            exact ⟨ret_int (by rw [HQ.out, leftGo_no (by simp only; have := rngB_not.1 hc3; omega)]), qbv⟩
          · skip
            go_wp2_with fail
            have hHeld := HHD.out
            refine ⟨(by first | exact hHeld | exact fun _ => hHeld), ?_⟩
            refine qtq 25 ?_
            simp only [qsa, qsb, qsc]
            refine qtq 26 ?_
            simp only [qsa, qsb, qsc]
            refine qtq 27 ?_
            simp only [qsa, qsb, qsc]
            refine qtq 28 ?_
            simp only [qsa, qsb, qsc]
            refine qtq 29 ?_
            simp only [qsa, qsb, qsc]
            refine qtq 30 ?_
            simp only [qsa, qsb, qsc]
            refine qtq 31 ?_
            simp only [qsa, qsb, qsc]
            have HHD := Lib.hid hHeld
            clear hHeld
            refine wpAnyT_next (i := 32) (by kernel_rfl) rfl ?_
            go_wp2_with fail
            refine (in40_any _ _ _ _).mono ?_
            rintro e w' ⟨rfl, rfl⟩
            rcases hc4 : rngB xs 0 xu
            · skip
              go_wp2_with fail
              have hHeld := HHD.out
              refine ⟨(by first | exact hHeld | exact fun _ => hHeld), ?_⟩
              refine qtq 33 ?_
              simp only [qsa, qsb, qsc]
              refine qtq 34 ?_
              simp only [qsa, qsb, qsc]
              refine wpAnyT_done (by kernel_rfl) ?_ _
              clear hHeld HHD
              go_wp2_with fail
              go_ret
              exact ⟨ret_int (by rw [HQ.out, leftGo_no (by simp only; have := rngB_not.1 hc4; omega)]), qbv⟩
            · skip
              go_wp2_with fail
              have hHeld := HHD.out
              refine ⟨(by first | exact hHeld | exact fun _ => hHeld), ?_⟩
              refine qtq 33 ?_
              simp only [qsa, qsb, qsc]
              refine qtq 34 ?_
              simp only [qsa, qsb, qsc]
              refine wpAnyT_done (by kernel_rfl) ?_ _
              have d0 := hHeld.1
              have d1 := hHeld.2.1
              clear hHeld HHD
              have hu := rngB_iff.1 hc3
              have hs := rngB_iff.1 hc4
              clear hc1 hc3 hc4
              go_wp2_with fail
              go_roundw
              case rel =>
                refine ⟨_, f - xu, xp, hlt, rfl, by go_num, B_a.out.alloc _, qbv, by omega, by omega, by omega, fun h => by omega, fun j' x hj hx => ?_, by rw [HQ.out, leftGo_go (by simp only; omega)]⟩
                rw [← Nat.succ.inj hj, HXK.out] at hx
                injection hx with hx
                subst hx
                rfl
              case measure => simp [intOf]; omega
      · obtain ⟨j, rfl⟩ : ∃ j, k = j + 1 := ⟨k - 1, by omega⟩
        have hj : j < L.length := by omega
        obtain ⟨b2, o2, hA2, hb2, hcl2⟩ := HR.out.at1 hj
        injection hA2 with hA2
        injection hA2 with e1 e2
        subst e1 e2
        have hxj : L[j]? = some L[j] := List.getElem?_eq_getElem hj
        have hqj := hq3 j _ rfl hxj
        obtain ⟨k0, _, _⟩ := Cells.c3 (hcl2.keep (hbel.block b hb2))
        clear hxj hq3 hcl2
        generalize L[j] = y at *
        obtain ⟨yp, yu, ys⟩ := y
        simp only at hqj
        subst hqj
        have hwj : ((j + 1 : Nat) : Int) - 1 = j := by omega
        have hwk : IntKind.i64.wrap (j : Int) = j := by rw [IntKind.wrap_i64]; omega
        refine wp_region_T (fun w' => w'.cell? ⟨wr.heap.size, 0, none⟩ = some (.int .i64 xp) ∧ w'.cell? ⟨wr.heap.size, 1, none⟩ = some (.int .i64 xu) ∧ w'.cell? ⟨wr.heap.size, 2, none⟩ = some (.int .i64 xs) ∧ w'.cell? ⟨w.heap.size, 2, none⟩ = some (.slice (some ⟨b, o, none⟩) L.length c) ∧ w'.cell? ⟨b, o + j * 3, none⟩ = some (.int .i64 q)) (fun _ => false) (by kernel_rfl) ⟨(Blk.new _ _ _).cell 0, (Blk.new _ _ _).cell 1, (Blk.new _ _ _).cell 2, (B_a.out.alloc _).cell 2, kalloc _ k0⟩ (fun hHeld => ?_)
        refine qtq 0 ?_
        simp only [qsa, qsb, qsc]
        refine qtq 1 ?_
        simp only [qsa, qsb, qsc]
        have HHD := Lib.hid hHeld
        clear hHeld
        refine wpAnyT_next (i := 2) (by kernel_rfl) rfl ?_
        go_wp2_with fail
        refine (in40_any _ _ _ _).mono ?_
        rintro e w' ⟨rfl, rfl⟩
        rcases hc1 : rngB xp 0 11
        · skip
          go_wp2_with fail
          have hHeld := HHD.out
          refine ⟨(by first | exact hHeld | exact fun _ => hHeld), ?_⟩
          refine qtq 3 ?_
          simp only [qsa, qsb, qsc]
          refine qtq 4 ?_
          simp only [qsa, qsb, qsc]
          refine qtn 5 ?_
          simp only [qsa, qsb, qsc]
          refine qtn 6 ?_
          simp only [qsa, qsb, qsc]
          refine qtn 7 ?_
          simp only [qsa, qsb, qsc]
          refine qtn 8 ?_
          simp only [qsa, qsb, qsc]
          refine qtn 9 ?_
          simp only [qsa, qsb, qsc]
          refine qtn 10 ?_
          simp only [qsa, qsb, qsc]
          refine qtn 11 ?_
          simp only [qsa, qsb, qsc]
          refine qtn 12 ?_
          simp only [qsa, qsb, qsc]
          refine qtn 13 ?_
          simp only [qsa, qsb, qsc]
          refine qtn 14 ?_
          simp only [qsa, qsb, qsc]
          refine qtn 15 ?_
          simp only [qsa, qsb, qsc]
          refine qtn 16 ?_
          simp only [qsa, qsb, qsc]
          refine qtn 17 ?_
          simp only [qsa, qsb, qsc]
          refine qtn 18 ?_
          simp only [qsa, qsb, qsc]
          refine qtq 19 ?_
          simp only [qsa, qsb, qsc]
          refine qtq 20 ?_
          simp only [qsa, qsb, qsc]
          refine qtn 21 ?_
          simp only [qsa, qsb, qsc]
          refine qtn 22 ?_
          simp only [qsa, qsb, qsc]
          refine qtn 23 ?_
          simp only [qsa, qsb, qsc]
          have HHD := Lib.hid hHeld
          clear hHeld
          refine wpAnyT_next (i := 24) (by kernel_rfl) rfl ?_
          go_wp2_with fail
          have hHeld := HHD.out
          refine ⟨(by first | exact hHeld | exact fun _ => hHeld), ?_⟩
          refine qtn 25 ?_
          simp only [qsa, qsb, qsc]
          refine qtq 26 ?_
          simp only [qsa, qsb, qsc]
          refine qtq 27 ?_
          simp only [qsa, qsb, qsc]
          refine qtn 28 ?_
          simp only [qsa, qsb, qsc]
          refine qtn 29 ?_
          simp only [qsa, qsb, qsc]
          refine qtn 30 ?_
          simp only [qsa, qsb, qsc]
          refine qtn 31 ?_
          simp only [qsa, qsb, qsc]
          have HHD := Lib.hid hHeld
          clear hHeld
          refine wpAnyT_next (i := 32) (by kernel_rfl) rfl ?_
          go_wp2_with fail
          have hHeld := HHD.out
          refine ⟨(by first | exact hHeld | exact fun _ => hHeld), ?_⟩
          refine qtn 33 ?_
          simp only [qsa, qsb, qsc]
          refine qtq 34 ?_
          simp only [qsa, qsb, qsc]
          refine wpAnyT_done (by kernel_rfl) ?_ _
          clear hHeld HHD
          go_wp2_with fail
          go_ret
          exact ⟨ret_int (by rw [HQ.out, leftGo_no (by simp only; have := rngB_not.1 hc1; omega)]), qbv⟩
        · skip
          go_wp2_with fail
          have hHeld := HHD.out
          refine ⟨(by first | exact hHeld | exact fun _ => hHeld), ?_⟩
          refine qtq 3 ?_
          simp only [qsa, qsb, qsc]
          refine qtq 4 ?_
          simp only [qsa, qsb, qsc]
          refine qtq 5 ?_
          simp only [qsa, qsb, qsc]
          refine wpAnyT_take2 (i := 6) (v := .bool true) rfl rfl (by kernel_rfl) (by kernel_rfl) (by kernel_rfl) (by kernel_rfl) (fun _ _ _ h => h) (Or.inl ⟨by rfl, ?_⟩) (by first | assumption | trivial) ?_
          · (intro w hSw; (try dsimp only at hSw); go_simp) <;> (first | (with_reducible rfl) | assumption | (simp; done) | (simp [*]; done) | (simp; omega))
          simp only [qsa, qsb, qsc]
          refine qtq 7 ?_
          simp only [qsa, qsb, qsc]
          refine qtq 8 ?_
          simp only [qsa, qsb, qsc]
          refine qtq 9 ?_
          simp only [qsa, qsb, qsc]
          refine qtq 10 ?_
          simp only [qsa, qsb, qsc]
          refine qtq 11 ?_
          simp only [qsa, qsb, qsc]
          refine qtq 12 ?_
          simp only [qsa, qsb, qsc]
          refine qtq 13 ?_
          simp only [qsa, qsb, qsc]
          refine qtq 14 ?_
          simp only [qsa, qsb, qsc]
          refine qtq 15 ?_
          simp only [qsa, qsb, qsc]
          refine qtq 16 ?_
          simp only [qsa, qsb, qsc]
          rcases Int.lt_or_le q xp with hqx | hqx
          · skip
            refine wpAnyT_take2 (i := 17) (v := .bool false) rfl rfl (by kernel_rfl) (by kernel_rfl) (by kernel_rfl) (by kernel_rfl) (fun _ _ _ h => h) (Or.inl ⟨by rfl, ?_⟩) (by first | assumption | trivial) ?_
            · (intro w hSw; (try dsimp only at hSw); go_simp) <;> (first | (with_reducible rfl) | assumption | (simp; done) | (simp [*]; done) | (simp; omega))
            simp only [qsa, qsb, qsc]
            refine qtq 18 ?_
            simp only [qsa, qsb, qsc]
            refine qtq 19 ?_
            simp only [qsa, qsb, qsc]
            refine qtq 20 ?_
            simp only [qsa, qsb, qsc]
            have hp := rngB_iff.1 hc1
            refine qtq 21 ?_
            simp only [qsa, qsb, qsc]
            refine qtq 22 ?_
            simp only [qsa, qsb, qsc]
            refine qtq 23 ?_
            simp only [qsa, qsb, qsc]
            have HHD := Lib.hid hHeld
            clear hHeld
            refine wpAnyT_next (i := 24) (by kernel_rfl) rfl ?_
            go_wp2_with fail
            refine (in40_any _ _ _ _).mono ?_
            rintro e w' ⟨rfl, rfl⟩
            rcases hc3 : rngB xu 1 f
            · skip
              go_wp2_with fail
              have hHeld := HHD.out
              refine ⟨(by first | exact hHeld | exact fun _ => hHeld), ?_⟩
              refine qtq 25 ?_
              simp only [qsa, qsb, qsc]
              refine qtq 26 ?_
              simp only [qsa, qsb, qsc]
              refine qtq 27 ?_
              simp only [qsa, qsb, qsc]
              refine qtn 28 ?_
              simp only [qsa, qsb, qsc]
              refine qtn 29 ?_
              simp only [qsa, qsb, qsc]
              refine qtn 30 ?_
              simp only [qsa, qsb, qsc]
              refine qtn 31 ?_
              simp only [qsa, qsb, qsc]
              have HHD := Lib.hid hHeld
              clear hHeld
              refine wpAnyT_next (i := 32) (by kernel_rfl) rfl ?_
              go_wp2_with fail
              have hHeld := HHD.out
              refine ⟨(by first | exact hHeld | exact fun _ => hHeld), ?_⟩
              refine qtn 33 ?_
              simp only [qsa, qsb, qsc]
              refine qtq 34 ?_
              simp only [qsa, qsb, qsc]
              refine wpAnyT_done (by kernel_rfl) ?_ _
              clear hHeld HHD
              go_wp2_with fail
              go_ret
              exact ⟨ret_int (by rw [HQ.out, leftGo_no (by simp only; have := rngB_not.1 hc3; omega)]), qbv⟩
            · skip
              go_wp2_with fail
              have hHeld := HHD.out
              refine ⟨(by first | exact hHeld | exact fun _ => hHeld), ?_⟩
              refine qtq 25 ?_
              simp only [qsa, qsb, qsc]
              refine qtq 26 ?_
              simp only [qsa, qsb, qsc]
              refine qtq 27 ?_
              simp only [qsa, qsb, qsc]
              refine qtq 28 ?_
              simp only [qsa, qsb, qsc]
              refine qtq 29 ?_
              simp only [qsa, qsb, qsc]
              refine qtq 30 ?_
              simp only [qsa, qsb, qsc]
              refine qtq 31 ?_
              simp only [qsa, qsb, qsc]
              have HHD := Lib.hid hHeld
              clear hHeld
              refine wpAnyT_next (i := 32) (by kernel_rfl) rfl ?_
              go_wp2_with fail
              refine (in40_any _ _ _ _).mono ?_
              rintro e w' ⟨rfl, rfl⟩
              rcases hc4 : rngB xs 0 xu
              · skip
                go_wp2_with fail
                have hHeld := HHD.out
                refine ⟨(by first | exact hHeld | exact fun _ => hHeld), ?_⟩
                refine qtq 33 ?_
                simp only [qsa, qsb, qsc]
                refine qtq 34 ?_
                simp only [qsa, qsb, qsc]
                refine wpAnyT_done (by kernel_rfl) ?_ _
                clear hHeld HHD
                go_wp2_with fail
                go_ret
                exact ⟨ret_int (by rw [HQ.out, leftGo_no (by simp only; have := rngB_not.1 hc4; omega)]), qbv⟩
              · skip
                go_wp2_with fail
                have hHeld := HHD.out
                refine ⟨(by first | exact hHeld | exact fun _ => hHeld), ?_⟩
                refine qtq 33 ?_
                simp only [qsa, qsb, qsc]
                refine qtq 34 ?_
                simp only [qsa, qsb, qsc]
                refine wpAnyT_done (by kernel_rfl) ?_ _
                have d0 := hHeld.1
                have d1 := hHeld.2.1
                clear hHeld HHD
                have hu := rngB_iff.1 hc3
                have hs := rngB_iff.1 hc4
                clear hc1 hc3 hc4
                go_wp2_with fail
                go_roundw
                case rel =>
                  refine ⟨_, f - xu, xp, hlt, rfl, by go_num, B_a.out.alloc _, qbv, by omega, by omega, by omega, fun h => by omega, fun j' x hj hx => ?_, by rw [HQ.out, leftGo_go (by simp only; omega)]⟩
                  rw [← Nat.succ.inj hj, HXK.out] at hx
                  injection hx with hx
                  subst hx
                  rfl
                case measure => simp [intOf]; omega
          · skip
            refine wpAnyT_take2 (i := 17) (v := .bool true) rfl rfl (by kernel_rfl) (by kernel_rfl) (by kernel_rfl) (by kernel_rfl) (fun _ _ _ h => h) (Or.inl ⟨by rfl, ?_⟩) (by first | assumption | trivial) ?_
            · (intro w hSw; (try dsimp only at hSw); go_simp) <;> (first | (with_reducible rfl) | assumption | (simp; done) | (simp [*]; done) | (simp; omega))
            simp only [qsa, qsb, qsc]
            refine qtq 18 ?_
            simp only [qsa, qsb, qsc]
            refine qtq 19 ?_
            simp only [qsa, qsb, qsc]
            refine qtq 20 ?_
            simp only [qsa, qsb, qsc]
            refine qtn 21 ?_
            simp only [qsa, qsb, qsc]
            refine qtn 22 ?_
            simp only [qsa, qsb, qsc]
            refine qtn 23 ?_
            simp only [qsa, qsb, qsc]
            have HHD := Lib.hid hHeld
            clear hHeld
            refine wpAnyT_next (i := 24) (by kernel_rfl) rfl ?_
            go_wp2_with fail
            have hHeld := HHD.out
            refine ⟨(by first | exact hHeld | exact fun _ => hHeld), ?_⟩
            refine qtn 25 ?_
            simp only [qsa, qsb, qsc]
            refine qtq 26 ?_
            simp only [qsa, qsb, qsc]
            refine qtq 27 ?_
            simp only [qsa, qsb, qsc]
            refine qtn 28 ?_
            simp only [qsa, qsb, qsc]
            refine qtn 29 ?_
            simp only [qsa, qsb, qsc]
            refine qtn 30 ?_
            simp only [qsa, qsb, qsc]
            refine qtn 31 ?_
            simp only [qsa, qsb, qsc]
            have HHD := Lib.hid hHeld
            clear hHeld
            refine wpAnyT_next (i := 32) (by kernel_rfl) rfl ?_
            go_wp2_with fail
            have hHeld := HHD.out
            refine ⟨(by first | exact hHeld | exact fun _ => hHeld), ?_⟩
            refine qtn 33 ?_
            simp only [qsa, qsb, qsc]
            refine qtq 34 ?_
            simp only [qsa, qsb, qsc]
            refine wpAnyT_done (by kernel_rfl) ?_ _
            clear hHeld HHD
            go_wp2_with fail
            go_ret
            exact ⟨ret_int (by rw [HQ.out, leftGo_no (by simp only; skip; omega)]), qbv⟩
    · have hkl : L.drop k = [] := List.drop_eq_nil_of_le (by omega)
      rw [hkl] at heq
      have HE := Lib.hid heq
      clear hkl heq HR
      go_wp2_with fail
      go_ret
      exact ⟨ret_int (by rw [HE.out, leftGo_nil]), hbel⟩
end Go.Proofs.Ythnblhbdfpmolaa
