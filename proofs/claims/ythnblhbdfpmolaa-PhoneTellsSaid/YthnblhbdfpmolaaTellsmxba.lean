/- Walks of the reference of layer 43: Right. -/
import Derived.Test.YthnblhbdfpmolaaTellsmxaz
namespace Go.Proofs.Ythnblhbdfpmolaa
open Go.RowKit
set_option maxHeartbeats 1000000 in
theorem rright43_1 (p : Phone) (w : World) (hp : RdPhone (· < w.heap.size) w p) (h1 : rngB p.id 0 11 = false ∨ 100 < p.H.l.length) :
    Calls Try.prog 20 #[p.v] w fun e w' => e = .returned (.bool false) ∧ Below w.heap.size w w' := by
  obtain ⟨id, cut, H, N, S⟩ := p
  simp only at h1
  rcases hid : rngB id 0 11
  · skip
    have HP := Lib.hid hp
    clear hp
    simp only [Phone.v]
    go_enter Try.func20, Try.ntmps20
    go_wp2_with (go_at_call 54; refine (in43_any _ _ _ _).mono ?_; rintro e w' ⟨rfl, rfl⟩)
    go_ret
    exact ⟨rfl, qbl⟩
  · have h2 : (100 : Int) < H.l.length := by
      rcases h1 with h1 | h1
      · rw [hid] at h1; cases h1
      · omega
    clear h1
    have HP := Lib.hid hp
    clear hp
    simp only [Phone.v]
    go_enter Try.func20, Try.ntmps20
    go_wp2_with (go_at_call 54; refine (in43_any _ _ _ _).mono ?_; rintro e w' ⟨rfl, rfl⟩)
    go_ret
    exact ⟨rfl, qbl⟩
set_option maxHeartbeats 1000000 in
theorem rright43_2 (p : Phone) (w : World) (hp : RdPhone (· < w.heap.size) w p) (h1 : rngB p.id 0 11 = true) (h2 : (p.H.l.length : Int) ≤ 100) (H3 : Hid (notesR (p.N.l.map Note.d) = false)) :
    Calls Try.prog 20 #[p.v] w fun e w' => e = .returned (.bool false) ∧ Below w.heap.size w w' := by
  obtain ⟨id, cut, H, N, S⟩ := p
  simp only at h1 h2
  have HP := Lib.hid hp
  clear hp
  simp only [Phone.v]
  go_enter Try.func20, Try.ntmps20
  go_wp2_with (go_at_call 54; refine (in43_any _ _ _ _).mono ?_; rintro e w' ⟨rfl, rfl⟩)
  refine (rright41 N _ (HP.out.2.1.later qbv (Nat.le_refl _))).mono ?_
  rintro e w1 ⟨rfl, hb1⟩
  rw [H3.out]
  have K_a : Blk _ (w.heap.size) 26 #[.int .i64 id, .bool cut, .slice H.A H.l.length H.c, .slice N.A N.l.length N.c, .slice S.A S.l.length S.c] := qkb hb1
  obtain ⟨a0, a1, a2, a3, a4, af, az⟩ := Blk.b5 K_a
  have B_a := Lib.hid K_a
  clear K_a
  have hB1 : Below w.heap.size w w1 := qbv
  clear hb1
  go_wp2_with fail
  go_ret
  exact ⟨rfl, qbv⟩
set_option maxHeartbeats 1000000 in
theorem rright43_3 (p : Phone) (w : World) (hp : RdPhone (· < w.heap.size) w p) (h1 : rngB p.id 0 11 = true) (h2 : (p.H.l.length : Int) ≤ 100) (H3 : Hid (notesR (p.N.l.map Note.d) = true)) (H4 : Hid (seenR p.S.l = false)) :
    Calls Try.prog 20 #[p.v] w fun e w' => e = .returned (.bool false) ∧ Below w.heap.size w w' := by
  obtain ⟨id, cut, H, N, S⟩ := p
  simp only at h1 h2
  have HP := Lib.hid hp
  clear hp
  simp only [Phone.v]
  go_enter Try.func20, Try.ntmps20
  go_wp2_with (go_at_call 54; refine (in43_any _ _ _ _).mono ?_; rintro e w' ⟨rfl, rfl⟩)
  refine (rright41 N _ (HP.out.2.1.later qbv (Nat.le_refl _))).mono ?_
  rintro e w1 ⟨rfl, hb1⟩
  rw [H3.out]
  have K_a : Blk _ (w.heap.size) 26 #[.int .i64 id, .bool cut, .slice H.A H.l.length H.c, .slice N.A N.l.length N.c, .slice S.A S.l.length S.c] := qkb hb1
  obtain ⟨a0, a1, a2, a3, a4, af, az⟩ := Blk.b5 K_a
  have B_a := Lib.hid K_a
  clear K_a
  have hB1 : Below w.heap.size w w1 := qbv
  clear hb1
  go_wp2_with fail
  refine (rseen43 S _ (HP.out.2.2.below' hB1 (Nat.le_refl _))).mono ?_
  rintro e w2 ⟨rfl, hb2⟩
  rw [H4.out]
  clear a0 a1 a2 a3 a4 af
  have K_a : Blk _ (w.heap.size) 26 #[.int .i64 id, .bool cut, .slice H.A H.l.length H.c, .slice N.A N.l.length N.c, .slice S.A S.l.length S.c] := qkc B_a hb2
  obtain ⟨a0, a1, a2, a3, a4, af, az⟩ := Blk.b5 K_a
  have B_a := Lib.hid K_a
  clear K_a
  have hB2 : Below w.heap.size w w2 := qbv
  clear hb2
  go_wp2_with fail
  go_ret
  exact ⟨rfl, qbv⟩
set_option maxRecDepth 20000 in
set_option maxHeartbeats 3000000 in
theorem rright43_4 (p : Phone) (w : World) (hp : RdPhone (· < w.heap.size) w p) (h1 : rngB p.id 0 11 = true) (h2 : (p.H.l.length : Int) ≤ 100) (H3 : Hid (notesR (p.N.l.map Note.d) = true)) (H4 : Hid (seenR p.S.l = true)) :
    Calls Try.prog 20 #[p.v] w fun e w' => e = .returned (.bool (holdsR p.H.l && (decide (p.S.l[p.id.toNat]? = some 0) && notesGo p.id 0 0 (p.N.l.map Note.d)))) ∧ Below w.heap.size w w' := by
  obtain ⟨id, cut, H, N, S⟩ := p
  simp only at h1 h2
  have HP := Lib.hid hp
  clear hp
  simp only [Phone.v]
  go_enter Try.func20, Try.ntmps20
  go_wp2_with (go_at_call 54; refine (in43_any _ _ _ _).mono ?_; rintro e w' ⟨rfl, rfl⟩)
  refine (rright41 N _ (HP.out.2.1.later qbv (Nat.le_refl _))).mono ?_
  rintro e w1 ⟨rfl, hb1⟩
  rw [H3.out]
  have K_a : Blk _ (w.heap.size) 26 #[.int .i64 id, .bool cut, .slice H.A H.l.length H.c, .slice N.A N.l.length N.c, .slice S.A S.l.length S.c] := qkb hb1
  obtain ⟨a0, a1, a2, a3, a4, af, az⟩ := Blk.b5 K_a
  have B_a := Lib.hid K_a
  clear K_a
  have hB1 : Below w.heap.size w w1 := qbv
  clear hb1
  go_wp2_with fail
  refine (rseen43 S _ (HP.out.2.2.below' hB1 (Nat.le_refl _))).mono ?_
  rintro e w2 ⟨rfl, hb2⟩
  rw [H4.out]
  clear a0 a1 a2 a3 a4 af
  have K_a : Blk _ (w.heap.size) 26 #[.int .i64 id, .bool cut, .slice H.A H.l.length H.c, .slice N.A N.l.length N.c, .slice S.A S.l.length S.c] := qkc B_a hb2
  obtain ⟨a0, a1, a2, a3, a4, af, az⟩ := Blk.b5 K_a
  have B_a := Lib.hid K_a
  clear K_a
  have hB2 : Below w.heap.size w w2 := qbv
  clear hb2
  obtain ⟨HA, Hc, HL⟩ := H
  simp only at h2
  go_wp2_with fail
  go_loopw [3, 4] (fun i tm wr => ∃ (k : Nat) (q : Int), k ≤ HL.length ∧ i = .int .i64 k ∧ Blk wr w.heap.size 26 #[.int .i64 id, .bool cut, .slice HA HL.length Hc, .slice N.A N.l.length N.c, .slice S.A S.l.length S.c] ∧ Below w.heap.size w wr ∧ -1 ≤ q ∧ (k = 0 → q = -1) ∧ (∀ j x, k = j + 1 → HL[j]? = some x → q = x.st) ∧
     holdsGo (-1) HL = holdsGo q (HL.drop k)) (fun i _ _ => HL.length - (intOf i).toNat)
  case atStart => exact ⟨0, -1, by omega, rfl, B_a.out, hB2, by omega, fun _ => rfl, fun j x h => by omega, by simp⟩
  case round =>
    clear a0 a1 a2 a3 a4 af
    obtain ⟨k, q, hk, rfl, hblk, hbel, hq1, hq2, hq3, heq⟩ := hrel
    obtain ⟨a0, a1, a2, a3, a4, af, az2⟩ := hblk.b5
    have B_a := Lib.hid hblk
    clear hblk
    have hhe : w.heap.size ≤ wr.heap.size := hbel.size
    by_cases hlt : k < HL.length
    · obtain ⟨b, o, rfl, hb, hcl⟩ := HP.out.1.at1 hlt
      obtain ⟨g0, g1, g2⟩ := Cells.c3 (hcl.keep (hbel.block b hb))
      have hd : HL.drop k = HL[k] :: HL.drop (k + 1) := List.drop_eq_getElem_cons hlt
      rw [hd] at heq
      have HQ := Lib.hid heq
      have hxk : HL[k]? = some HL[k] := List.getElem?_eq_getElem hlt
      clear heq hd hcl
      simp only at g0 g1 g2
      generalize HL[k] = x at *
      have HXK := Lib.hid hxk
      clear hxk
      obtain ⟨xst, xu, xs⟩ := x
      go_wp2_with fail
      rcases Nat.eq_zero_or_pos k with rfl | hk0
      · have hq0 := hq2 rfl
        subst hq0
        refine wp_region_T (fun w' => w'.cell? ⟨wr.heap.size, 0, none⟩ = some (.int .i64 xst) ∧ w'.cell? ⟨wr.heap.size, 1, none⟩ = some (.int .i64 xu) ∧ w'.cell? ⟨wr.heap.size, 2, none⟩ = some (.int .i64 xs) ∧ w'.cell? ⟨w.heap.size, 2, none⟩ = some (.slice (some ⟨b, o, none⟩) HL.length Hc)) (fun _ => false) (by kernel_rfl) ⟨(Blk.new _ _ _).cell 0, (Blk.new _ _ _).cell 1, (Blk.new _ _ _).cell 2, (B_a.out.alloc _).cell 2⟩ (fun hHeld => ?_)
        refine qtq 0 ?_
        simp only [qsa, qsb, qsc]
        refine qtq 1 ?_
        simp only [qsa, qsb, qsc]
        rcases Int.lt_or_le xst 0 with hx0 | hx0
        · skip
          have hle : xst ≤ -1 := by omega
          refine wpAnyT_take2 (i := 2) (v := .bool true) rfl rfl (by kernel_rfl) (by kernel_rfl) (by kernel_rfl) (by kernel_rfl) (fun _ _ _ h => h) (Or.inl ⟨by rfl, ?_⟩) (by first | assumption | trivial) ?_
          · (intro w hSw; (try dsimp only at hSw); go_simp) <;> (first | (with_reducible rfl) | assumption | (simp; done) | (simp [*]; done) | (simp; omega))
          simp only [qsa, qsb, qsc]
          refine qtq 3 ?_
          simp only [qsa, qsb, qsc]
          refine qtn 4 ?_
          simp only [qsa, qsb, qsc]
          refine qtn 5 ?_
          simp only [qsa, qsb, qsc]
          refine qtn 6 ?_
          simp only [qsa, qsb, qsc]
          refine qtn 7 ?_
          simp only [qsa, qsb, qsc]
          refine qtn 8 ?_
          simp only [qsa, qsb, qsc]
          refine qtn 9 ?_
          simp only [qsa, qsb, qsc]
          refine qtn 10 ?_
          simp only [qsa, qsb, qsc]
          refine qtn 11 ?_
          simp only [qsa, qsb, qsc]
          refine qtn 12 ?_
          simp only [qsa, qsb, qsc]
          refine qtn 13 ?_
          simp only [qsa, qsb, qsc]
          refine qtn 14 ?_
          simp only [qsa, qsb, qsc]
          refine qtn 15 ?_
          simp only [qsa, qsb, qsc]
          refine qtn 16 ?_
          simp only [qsa, qsb, qsc]
          refine qtn 17 ?_
          simp only [qsa, qsb, qsc]
          refine qtn 18 ?_
          simp only [qsa, qsb, qsc]
          refine qtq 19 ?_
          simp only [qsa, qsb, qsc]
          refine qtq 20 ?_
          simp only [qsa, qsb, qsc]
          refine qtn 21 ?_
          simp only [qsa, qsb, qsc]
          refine qtn 22 ?_
          simp only [qsa, qsb, qsc]
          have HHD := Lib.hid hHeld
          clear hHeld
          refine wpAnyT_next (i := 23) (by kernel_rfl) rfl ?_
          go_wp2_with fail
          have hHeld := HHD.out
          refine And.intro ?_ ?_
          · first
            | exact hHeld
            | exact fun _ => hHeld
          refine qtn 24 ?_
          simp only [qsa, qsb, qsc]
          refine qtq 25 ?_
          simp only [qsa, qsb, qsc]
          refine qtq 26 ?_
          simp only [qsa, qsb, qsc]
          refine qtn 27 ?_
          simp only [qsa, qsb, qsc]
          refine qtn 28 ?_
          simp only [qsa, qsb, qsc]
          refine qtn 29 ?_
          simp only [qsa, qsb, qsc]
          refine qtn 30 ?_
          simp only [qsa, qsb, qsc]
          have HHD := Lib.hid hHeld
          clear hHeld
          refine wpAnyT_next (i := 31) (by kernel_rfl) rfl ?_
          go_wp2_with fail
          have hHeld := HHD.out
          refine And.intro ?_ ?_
          · first
            | exact hHeld
            | exact fun _ => hHeld
          refine qtn 32 ?_
          simp only [qsa, qsb, qsc]
          refine qtq 33 ?_
          simp only [qsa, qsb, qsc]
          refine wpAnyT_done (by kernel_rfl) ?_ _
          clear hHeld HHD
          go_wp2_with fail
          go_ret
          exact ⟨ret_bool (by unfold holdsR; rw [HQ.out, holdsGo_no (.inl hle)]; rfl), qbv⟩
        · skip
          refine wpAnyT_take2 (i := 2) (v := .bool false) rfl rfl (by kernel_rfl) (by kernel_rfl) (by kernel_rfl) (by kernel_rfl) (fun _ _ _ h => h) (Or.inl ⟨by rfl, ?_⟩) (by first | assumption | trivial) ?_
          · (intro w hSw; (try dsimp only at hSw); go_simp) <;> (first | (with_reducible rfl) | assumption | (simp; done) | (simp [*]; done) | (simp; omega))
          simp only [qsa, qsb, qsc]
          refine qtq 3 ?_
          simp only [qsa, qsb, qsc]
          refine qtq 4 ?_
          simp only [qsa, qsb, qsc]
          refine wpAnyT_take2 (i := 5) (v := .bool false) rfl rfl (by kernel_rfl) (by kernel_rfl) (by kernel_rfl) (by kernel_rfl) (fun _ _ _ h => h) (Or.inl ⟨by rfl, ?_⟩) (by first | assumption | trivial) ?_
          · (intro w hSw; (try dsimp only at hSw); go_simp) <;> (first | (with_reducible rfl) | assumption | (simp; done) | (simp [*]; done) | (simp; omega))
          simp only [qsa, qsb, qsc]
          refine qtq 6 ?_
          simp only [qsa, qsb, qsc]
          refine qtn 7 ?_
          simp only [qsa, qsb, qsc]
          refine qtn 8 ?_
          simp only [qsa, qsb, qsc]
          refine qtn 9 ?_
          simp only [qsa, qsb, qsc]
          refine qtn 10 ?_
          simp only [qsa, qsb, qsc]
          refine qtn 11 ?_
          simp only [qsa, qsb, qsc]
          refine qtn 12 ?_
          simp only [qsa, qsb, qsc]
          refine qtn 13 ?_
          simp only [qsa, qsb, qsc]
          refine qtn 14 ?_
          simp only [qsa, qsb, qsc]
          refine qtn 15 ?_
          simp only [qsa, qsb, qsc]
          refine qtn 16 ?_
          simp only [qsa, qsb, qsc]
          refine qtn 17 ?_
          simp only [qsa, qsb, qsc]
          refine qtq 18 ?_
          simp only [qsa, qsb, qsc]
          refine qtq 19 ?_
          simp only [qsa, qsb, qsc]
          refine qtq 20 ?_
          simp only [qsa, qsb, qsc]
          refine qtq 21 ?_
          simp only [qsa, qsb, qsc]
          refine qtq 22 ?_
          simp only [qsa, qsb, qsc]
          have HHD := Lib.hid hHeld
          clear hHeld
          refine wpAnyT_next (i := 23) (by kernel_rfl) rfl ?_
          go_wp2_with fail
          refine (in43_any _ _ _ _).mono ?_
          rintro e w' ⟨rfl, rfl⟩
          rcases hc3 : rngB xu 1 1000000000000000
          · skip
            go_wp2_with fail
            have hHeld := HHD.out
            refine And.intro ?_ ?_
            · first
              | exact hHeld
              | exact fun _ => hHeld
            refine qtq 24 ?_
            simp only [qsa, qsb, qsc]
            refine qtq 25 ?_
            simp only [qsa, qsb, qsc]
            refine qtq 26 ?_
            simp only [qsa, qsb, qsc]
            refine qtn 27 ?_
            simp only [qsa, qsb, qsc]
            refine qtn 28 ?_
            simp only [qsa, qsb, qsc]
            refine qtn 29 ?_
            simp only [qsa, qsb, qsc]
            refine qtn 30 ?_
            simp only [qsa, qsb, qsc]
            have HHD := Lib.hid hHeld
            clear hHeld
            refine wpAnyT_next (i := 31) (by kernel_rfl) rfl ?_
            go_wp2_with fail
            have hHeld := HHD.out
            refine And.intro ?_ ?_
            · first
              | exact hHeld
              | exact fun _ => hHeld
            refine qtn 32 ?_
            simp only [qsa, qsb, qsc]
            refine qtq 33 ?_
            simp only [qsa, qsb, qsc]
            refine wpAnyT_done (by kernel_rfl) ?_ _
            clear hHeld HHD
            go_wp2_with fail
            go_ret
            exact ⟨ret_bool (by unfold holdsR; rw [HQ.out, holdsGo_no (.inr (.inl hc3))]; rfl), qbv⟩
          · skip
            go_wp2_with fail
            have hHeld := HHD.out
            refine And.intro ?_ ?_
            · first
              | exact hHeld
              | exact fun _ => hHeld
            refine qtq 24 ?_
            simp only [qsa, qsb, qsc]
            refine qtq 25 ?_
            simp only [qsa, qsb, qsc]
            refine qtq 26 ?_
            simp only [qsa, qsb, qsc]
            refine qtq 27 ?_
            simp only [qsa, qsb, qsc]
            refine qtq 28 ?_
            simp only [qsa, qsb, qsc]
            refine qtq 29 ?_
            simp only [qsa, qsb, qsc]
            refine qtq 30 ?_
            simp only [qsa, qsb, qsc]
            have HHD := Lib.hid hHeld
            clear hHeld
            refine wpAnyT_next (i := 31) (by kernel_rfl) rfl ?_
            go_wp2_with fail
            refine (in43_any _ _ _ _).mono ?_
            rintro e w' ⟨rfl, rfl⟩
            rcases hc4 : rngB xs 0 xu
            · skip
              go_wp2_with fail
              have hHeld := HHD.out
              refine And.intro ?_ ?_
              · first
                | exact hHeld
                | exact fun _ => hHeld
              refine qtq 32 ?_
              simp only [qsa, qsb, qsc]
              refine qtq 33 ?_
              simp only [qsa, qsb, qsc]
              refine wpAnyT_done (by kernel_rfl) ?_ _
              clear hHeld HHD
              go_wp2_with fail
              go_ret
              exact ⟨ret_bool (by unfold holdsR; rw [HQ.out, holdsGo_no (.inr (.inr hc4))]; rfl), qbv⟩
            · skip
              go_wp2_with fail
              have hHeld := HHD.out
              refine And.intro ?_ ?_
              · first
                | exact hHeld
                | exact fun _ => hHeld
              refine qtq 32 ?_
              simp only [qsa, qsb, qsc]
              refine qtq 33 ?_
              simp only [qsa, qsb, qsc]
              refine wpAnyT_done (by kernel_rfl) ?_ _
              clear hHeld HHD
              have HC3 := Lib.hid hc3
              have HC4 := Lib.hid hc4
              clear hc3 hc4
              go_wp2_with fail
              go_roundw
              case rel =>
                refine ⟨_, xst, hlt, by go_num, B_a.out.alloc _, qbv, by omega, fun h => by omega, fun j' x hj hx => ?_, by rw [HQ.out, holdsGo_go (by simp only; omega) HC3.out HC4.out]⟩
                rw [← Nat.succ.inj hj, HXK.out] at hx
                injection hx with hx
                subst hx
                rfl
              case measure => simp [intOf]; omega
      · obtain ⟨j, rfl⟩ : ∃ j, k = j + 1 := ⟨k - 1, by omega⟩
        have hj : j < HL.length := by omega
        obtain ⟨b2, o2, hA2, hb2, hcl2⟩ := HP.out.1.at1 hj
        injection hA2 with hA2
        injection hA2 with e1 e2
        subst e1 e2
        have hxj : HL[j]? = some HL[j] := List.getElem?_eq_getElem hj
        have hqj := hq3 j _ rfl hxj
        obtain ⟨k0, _, _⟩ := Cells.c3 (hcl2.keep (hbel.block b hb2))
        clear hxj hq3 hcl2
        simp only at k0
        generalize HL[j] = y at *
        obtain ⟨yst, yu, ys⟩ := y
        simp only at hqj
        subst hqj
        have hwj : ((j + 1 : Nat) : Int) - 1 = j := by omega
        have hwk : IntKind.i64.wrap (j : Int) = j := by rw [IntKind.wrap_i64]; omega
        refine wp_region_T (fun w' => w'.cell? ⟨wr.heap.size, 0, none⟩ = some (.int .i64 xst) ∧ w'.cell? ⟨wr.heap.size, 1, none⟩ = some (.int .i64 xu) ∧ w'.cell? ⟨wr.heap.size, 2, none⟩ = some (.int .i64 xs) ∧ w'.cell? ⟨w.heap.size, 2, none⟩ = some (.slice (some ⟨b, o, none⟩) HL.length Hc) ∧ w'.cell? ⟨b, o + j * 3, none⟩ = some (.int .i64 q)) (fun _ => false) (by kernel_rfl) ⟨(Blk.new _ _ _).cell 0, (Blk.new _ _ _).cell 1, (Blk.new _ _ _).cell 2, (B_a.out.alloc _).cell 2, kalloc _ k0⟩ (fun hHeld => ?_)
        refine qtq 0 ?_
        simp only [qsa, qsb, qsc]
        refine qtq 1 ?_
        simp only [qsa, qsb, qsc]
        rcases Int.lt_or_le xst 0 with hx0 | hx0
        · skip
          have hle : xst ≤ q := by omega
          refine wpAnyT_take2 (i := 2) (v := .bool true) rfl rfl (by kernel_rfl) (by kernel_rfl) (by kernel_rfl) (by kernel_rfl) (fun _ _ _ h => h) (Or.inl ⟨by rfl, ?_⟩) (by first | assumption | trivial) ?_
          · (intro w hSw; (try dsimp only at hSw); go_simp) <;> (first | (with_reducible rfl) | assumption | (simp; done) | (simp [*]; done) | (simp; omega))
          simp only [qsa, qsb, qsc]
          refine qtq 3 ?_
          simp only [qsa, qsb, qsc]
          refine qtn 4 ?_
          simp only [qsa, qsb, qsc]
          refine qtn 5 ?_
          simp only [qsa, qsb, qsc]
          refine qtn 6 ?_
          simp only [qsa, qsb, qsc]
          refine qtn 7 ?_
          simp only [qsa, qsb, qsc]
          refine qtn 8 ?_
          simp only [qsa, qsb, qsc]
          refine qtn 9 ?_
          simp only [qsa, qsb, qsc]
          refine qtn 10 ?_
          simp only [qsa, qsb, qsc]
          refine qtn 11 ?_
          simp only [qsa, qsb, qsc]
          refine qtn 12 ?_
          simp only [qsa, qsb, qsc]
          refine qtn 13 ?_
          simp only [qsa, qsb, qsc]
          refine qtn 14 ?_
          simp only [qsa, qsb, qsc]
          refine qtn 15 ?_
          simp only [qsa, qsb, qsc]
          refine qtn 16 ?_
          simp only [qsa, qsb, qsc]
          refine qtn 17 ?_
          simp only [qsa, qsb, qsc]
          refine qtn 18 ?_
          simp only [qsa, qsb, qsc]
          refine qtq 19 ?_
          simp only [qsa, qsb, qsc]
          refine qtq 20 ?_
          simp only [qsa, qsb, qsc]
          refine qtn 21 ?_
          simp only [qsa, qsb, qsc]
          refine qtn 22 ?_
          simp only [qsa, qsb, qsc]
          have HHD := Lib.hid hHeld
          clear hHeld
          refine wpAnyT_next (i := 23) (by kernel_rfl) rfl ?_
          go_wp2_with fail
          have hHeld := HHD.out
          refine And.intro ?_ ?_
          · first
            | exact hHeld
            | exact fun _ => hHeld
          refine qtn 24 ?_
          simp only [qsa, qsb, qsc]
          refine qtq 25 ?_
          simp only [qsa, qsb, qsc]
          refine qtq 26 ?_
          simp only [qsa, qsb, qsc]
          refine qtn 27 ?_
          simp only [qsa, qsb, qsc]
          refine qtn 28 ?_
          simp only [qsa, qsb, qsc]
          refine qtn 29 ?_
          simp only [qsa, qsb, qsc]
          refine qtn 30 ?_
          simp only [qsa, qsb, qsc]
          have HHD := Lib.hid hHeld
          clear hHeld
          refine wpAnyT_next (i := 31) (by kernel_rfl) rfl ?_
          go_wp2_with fail
          have hHeld := HHD.out
          refine And.intro ?_ ?_
          · first
            | exact hHeld
            | exact fun _ => hHeld
          refine qtn 32 ?_
          simp only [qsa, qsb, qsc]
          refine qtq 33 ?_
          simp only [qsa, qsb, qsc]
          refine wpAnyT_done (by kernel_rfl) ?_ _
          clear hHeld HHD
          go_wp2_with fail
          go_ret
          exact ⟨ret_bool (by unfold holdsR; rw [HQ.out, holdsGo_no (.inl hle)]; rfl), qbv⟩
        · skip
          refine wpAnyT_take2 (i := 2) (v := .bool false) rfl rfl (by kernel_rfl) (by kernel_rfl) (by kernel_rfl) (by kernel_rfl) (fun _ _ _ h => h) (Or.inl ⟨by rfl, ?_⟩) (by first | assumption | trivial) ?_
          · (intro w hSw; (try dsimp only at hSw); go_simp) <;> (first | (with_reducible rfl) | assumption | (simp; done) | (simp [*]; done) | (simp; omega))
          simp only [qsa, qsb, qsc]
          refine qtq 3 ?_
          simp only [qsa, qsb, qsc]
          refine qtq 4 ?_
          simp only [qsa, qsb, qsc]
          refine wpAnyT_take2 (i := 5) (v := .bool true) rfl rfl (by kernel_rfl) (by kernel_rfl) (by kernel_rfl) (by kernel_rfl) (fun _ _ _ h => h) (Or.inl ⟨by rfl, ?_⟩) (by first | assumption | trivial) ?_
          · (intro w hSw; (try dsimp only at hSw); go_simp) <;> (first | (with_reducible rfl) | assumption | (simp; done) | (simp [*]; done) | (simp; omega))
          simp only [qsa, qsb, qsc]
          refine qtq 6 ?_
          simp only [qsa, qsb, qsc]
          refine qtq 7 ?_
          simp only [qsa, qsb, qsc]
          refine qtq 8 ?_
          simp only [qsa, qsb, qsc]
          refine qtq 9 ?_
          simp only [qsa, qsb, qsc]
          refine qtq 10 ?_
          simp only [qsa, qsb, qsc]
          refine qtq 11 ?_
          simp only [qsa, qsb, qsc]
          refine qtq 12 ?_
          simp only [qsa, qsb, qsc]
          have HHD := Lib.hid hHeld
          clear hHeld
          refine wpAnyT_next (i := 13) (by kernel_rfl) rfl ?_
          go_wp2_with fail
          have hHeld := HHD.out
          refine And.intro ?_ ?_
          · first
            | exact hHeld
            | exact fun _ => hHeld
          refine qtq 14 ?_
          simp only [qsa, qsb, qsc]
          refine qtq 15 ?_
          simp only [qsa, qsb, qsc]
          refine qtq 16 ?_
          simp only [qsa, qsb, qsc]
          rcases Int.lt_or_le q xst with hqx | hqx
          · skip
            refine wpAnyT_take2 (i := 17) (v := .bool false) rfl rfl (by kernel_rfl) (by kernel_rfl) (by kernel_rfl) (by kernel_rfl) (fun _ _ _ h => h) (Or.inl ⟨by rfl, ?_⟩) (by first | assumption | trivial) ?_
            · (intro w hSw; (try dsimp only at hSw); go_simp) <;> (first | (with_reducible rfl) | assumption | (simp; done) | (simp [*]; done) | (simp; omega))
            simp only [qsa, qsb, qsc]
            refine qtq 18 ?_
            simp only [qsa, qsb, qsc]
            refine qtq 19 ?_
            simp only [qsa, qsb, qsc]
            refine qtq 20 ?_
            simp only [qsa, qsb, qsc]
            refine qtq 21 ?_
            simp only [qsa, qsb, qsc]
            refine qtq 22 ?_
            simp only [qsa, qsb, qsc]
            have HHD := Lib.hid hHeld
            clear hHeld
            refine wpAnyT_next (i := 23) (by kernel_rfl) rfl ?_
            go_wp2_with fail
            refine (in43_any _ _ _ _).mono ?_
            rintro e w' ⟨rfl, rfl⟩
            rcases hc3 : rngB xu 1 1000000000000000
            · skip
              go_wp2_with fail
              have hHeld := HHD.out
              refine And.intro ?_ ?_
              · first
                | exact hHeld
                | exact fun _ => hHeld
              refine qtq 24 ?_
              simp only [qsa, qsb, qsc]
              refine qtq 25 ?_
              simp only [qsa, qsb, qsc]
              refine qtq 26 ?_
              simp only [qsa, qsb, qsc]
              refine qtn 27 ?_
              simp only [qsa, qsb, qsc]
              refine qtn 28 ?_
              simp only [qsa, qsb, qsc]
              refine qtn 29 ?_
              simp only [qsa, qsb, qsc]
              refine qtn 30 ?_
              simp only [qsa, qsb, qsc]
              have HHD := Lib.hid hHeld
              clear hHeld
              refine wpAnyT_next (i := 31) (by kernel_rfl) rfl ?_
              go_wp2_with fail
              have hHeld := HHD.out
              refine And.intro ?_ ?_
              · first
                | exact hHeld
                | exact fun _ => hHeld
              refine qtn 32 ?_
              simp only [qsa, qsb, qsc]
              refine qtq 33 ?_
              simp only [qsa, qsb, qsc]
              refine wpAnyT_done (by kernel_rfl) ?_ _
              clear hHeld HHD
              go_wp2_with fail
              go_ret
              exact ⟨ret_bool (by unfold holdsR; rw [HQ.out, holdsGo_no (.inr (.inl hc3))]; rfl), qbv⟩
            · skip
              go_wp2_with fail
              have hHeld := HHD.out
              refine And.intro ?_ ?_
              · first
                | exact hHeld
                | exact fun _ => hHeld
              refine qtq 24 ?_
              simp only [qsa, qsb, qsc]
              refine qtq 25 ?_
              simp only [qsa, qsb, qsc]
              refine qtq 26 ?_
              simp only [qsa, qsb, qsc]
              refine qtq 27 ?_
              simp only [qsa, qsb, qsc]
              refine qtq 28 ?_
              simp only [qsa, qsb, qsc]
              refine qtq 29 ?_
              simp only [qsa, qsb, qsc]
              refine qtq 30 ?_
              simp only [qsa, qsb, qsc]
              have HHD := Lib.hid hHeld
              clear hHeld
              refine wpAnyT_next (i := 31) (by kernel_rfl) rfl ?_
              go_wp2_with fail
              refine (in43_any _ _ _ _).mono ?_
              rintro e w' ⟨rfl, rfl⟩
              rcases hc4 : rngB xs 0 xu
              · skip
                go_wp2_with fail
                have hHeld := HHD.out
                refine And.intro ?_ ?_
                · first
                  | exact hHeld
                  | exact fun _ => hHeld
                refine qtq 32 ?_
                simp only [qsa, qsb, qsc]
                refine qtq 33 ?_
                simp only [qsa, qsb, qsc]
                refine wpAnyT_done (by kernel_rfl) ?_ _
                clear hHeld HHD
                go_wp2_with fail
                go_ret
                exact ⟨ret_bool (by unfold holdsR; rw [HQ.out, holdsGo_no (.inr (.inr hc4))]; rfl), qbv⟩
              · skip
                go_wp2_with fail
                have hHeld := HHD.out
                refine And.intro ?_ ?_
                · first
                  | exact hHeld
                  | exact fun _ => hHeld
                refine qtq 32 ?_
                simp only [qsa, qsb, qsc]
                refine qtq 33 ?_
                simp only [qsa, qsb, qsc]
                refine wpAnyT_done (by kernel_rfl) ?_ _
                clear hHeld HHD
                have HC3 := Lib.hid hc3
                have HC4 := Lib.hid hc4
                clear hc3 hc4
                go_wp2_with fail
                go_roundw
                case rel =>
                  refine ⟨_, xst, hlt, by go_num, B_a.out.alloc _, qbv, by omega, fun h => by omega, fun j' x hj hx => ?_, by rw [HQ.out, holdsGo_go (by simp only; omega) HC3.out HC4.out]⟩
                  rw [← Nat.succ.inj hj, HXK.out] at hx
                  injection hx with hx
                  subst hx
                  rfl
                case measure => simp [intOf]; omega
          · skip
            have hle : xst ≤ q := hqx
            refine wpAnyT_take2 (i := 17) (v := .bool true) rfl rfl (by kernel_rfl) (by kernel_rfl) (by kernel_rfl) (by kernel_rfl) (fun _ _ _ h => h) (Or.inl ⟨by rfl, ?_⟩) (by first | assumption | trivial) ?_
            · (intro w hSw; (try dsimp only at hSw); go_simp) <;> (first | (with_reducible rfl) | assumption | (simp; done) | (simp [*]; done) | (simp; omega))
            simp only [qsa, qsb, qsc]
            refine qtq 18 ?_
            simp only [qsa, qsb, qsc]
            refine qtq 19 ?_
            simp only [qsa, qsb, qsc]
            refine qtq 20 ?_
            simp only [qsa, qsb, qsc]
            refine qtn 21 ?_
            simp only [qsa, qsb, qsc]
            refine qtn 22 ?_
            simp only [qsa, qsb, qsc]
            have HHD := Lib.hid hHeld
            clear hHeld
            refine wpAnyT_next (i := 23) (by kernel_rfl) rfl ?_
            go_wp2_with fail
            have hHeld := HHD.out
            refine And.intro ?_ ?_
            · first
              | exact hHeld
              | exact fun _ => hHeld
            refine qtn 24 ?_
            simp only [qsa, qsb, qsc]
            refine qtq 25 ?_
            simp only [qsa, qsb, qsc]
            refine qtq 26 ?_
            simp only [qsa, qsb, qsc]
            refine qtn 27 ?_
            simp only [qsa, qsb, qsc]
            refine qtn 28 ?_
            simp only [qsa, qsb, qsc]
            refine qtn 29 ?_
            simp only [qsa, qsb, qsc]
            refine qtn 30 ?_
            simp only [qsa, qsb, qsc]
            have HHD := Lib.hid hHeld
            clear hHeld
            refine wpAnyT_next (i := 31) (by kernel_rfl) rfl ?_
            go_wp2_with fail
            have hHeld := HHD.out
            refine And.intro ?_ ?_
            · first
              | exact hHeld
              | exact fun _ => hHeld
            refine qtn 32 ?_
            simp only [qsa, qsb, qsc]
            refine qtq 33 ?_
            simp only [qsa, qsb, qsc]
            refine wpAnyT_done (by kernel_rfl) ?_ _
            clear hHeld HHD
            go_wp2_with fail
            go_ret
            exact ⟨ret_bool (by unfold holdsR; rw [HQ.out, holdsGo_no (.inl hle)]; rfl), qbv⟩
    · have hkl : HL.drop k = [] := List.drop_eq_nil_of_le (by omega)
      rw [hkl] at heq
      have hv : holdsR HL = true := by
        unfold holdsR
        rw [heq]
        simp [holdsGo]; omega
      have HHV := Lib.hid hv
      clear hkl heq hv hq1 hq2 hq3
      obtain ⟨NA, Nc, NL⟩ := N
      have hn4 : NL.length ≤ 10000 := by
        have := H3.out
        simp only [notesR, Bool.and_eq_true, List.length_map] at this
        exact of_decide_eq_true this.1
      simp only
      go_wp2_with fail
      go_loopw [5, 6] (fun i tm wr => ∃ (k : Nat) (la : Int), k ≤ NL.length ∧ i = .int .i64 k ∧ Blk wr w.heap.size 26 #[.int .i64 id, .bool cut, .slice HA HL.length Hc, .slice NA NL.length Nc, .slice S.A S.l.length S.c] ∧ Below w.heap.size w wr ∧ (k = 0 → la = 0) ∧ (∀ j x, k = j + 1 → NL[j]? = some x → la = x.tm) ∧
         notesGo id 0 0 (NL.map Note.d) = notesGo id k la ((NL.map Note.d).drop k)) (fun i _ _ => NL.length - (intOf i).toNat)
      case atStart => exact ⟨0, 0, by omega, rfl, B_a.out, hbel, fun _ => rfl, fun j x h => by omega, by simp⟩
      case round =>
        clear a0 a1 a2 a3 a4 af
        obtain ⟨k, la, hk2, rfl, hblk, hbel, hq2, hq3, heq⟩ := hrel
        obtain ⟨a0, a1, a2, a3, a4, af, az2⟩ := hblk.b5
        have B_a := Lib.hid hblk
        clear hblk
        have hhe : w.heap.size ≤ wr.heap.size := hbel.size
        by_cases hlt : k < NL.length
        · obtain ⟨b, o, rfl, hb, hcl⟩ := HP.out.2.1.1.at1 hlt
          obtain ⟨g0, g1, g2, g3, g4⟩ := Cells.c5 (hcl.keep (hbel.block b hb))
          have hd : (NL.map Note.d).drop k = NL[k].d :: (NL.map Note.d).drop (k + 1) := by rw [List.drop_eq_getElem_cons (by simpa using hlt)]; simp
          rw [hd] at heq
          have HQ := Lib.hid heq
          have hxk : NL[k]? = some NL[k] := List.getElem?_eq_getElem hlt
          have hxr : NL[k].d.right = true := by
            have := H3.out
            simp only [notesR, Bool.and_eq_true, List.all_eq_true] at this
            exact this.2 _ (List.mem_map_of_mem (f := Note.d) (List.getElem_mem hlt))
          have hxt := (NoteD.right_ok hxr).2.2.2.2.1
          clear heq hd hcl hxr
          simp only at g0 g1 g2 g3 g4
          generalize NL[k] = x at *
          have HXK := Lib.hid hxk
          clear hxk
          obtain ⟨xd, xq, xa, xt, xx⟩ := x
          simp only [Note.d] at hxt
          go_wp2_with fail
          rcases Nat.eq_zero_or_pos k with rfl | hk0
          · have hla := hq2 rfl
            subst hla
            simp only [Nat.zero_mul, Nat.add_zero] at g3
            refine wp_region_T (fun w' => w'.cell? ⟨wr.heap.size, 0, none⟩ = some (.int .i64 xd) ∧ w'.cell? ⟨wr.heap.size, 1, none⟩ = some (.int .i64 xq) ∧ w'.cell? ⟨wr.heap.size, 3, none⟩ = some (.int .i64 xt) ∧ w'.cell? ⟨w.heap.size, 0, none⟩ = some (.int .i64 id) ∧ w'.cell? ⟨w.heap.size, 3, none⟩ = some (.slice (some ⟨b, o, none⟩) NL.length Nc) ∧ w'.cell? ⟨b, o + 3, none⟩ = some (.int .i64 xt)) (fun _ => false) (by kernel_rfl) ⟨(Blk.new _ _ _).cell 0, (Blk.new _ _ _).cell 1, (Blk.new _ _ _).cell 3, (B_a.out.alloc _).cell 0, (B_a.out.alloc _).cell 3, kalloc _ g3⟩ (fun hHeld => ?_)
            refine qtq 0 ?_
            simp only [qsa, qsb, qsc]
            refine qtq 1 ?_
            simp only [qsa, qsb, qsc]
            refine qtq 2 ?_
            simp only [qsa, qsb, qsc]
            refine qtq 3 ?_
            simp only [qsa, qsb, qsc]
            by_cases h5 : xd = id
            · skip
              subst h5
              refine wpAnyT_take2 (i := 4) (v := .bool false) rfl rfl (by kernel_rfl) (by kernel_rfl) (by kernel_rfl) (by kernel_rfl) (fun _ _ _ h => h) (Or.inl ⟨by rfl, ?_⟩) (by first | assumption | trivial) ?_
              · (intro w hSw; (try dsimp only at hSw); go_simp) <;> (first | (with_reducible rfl) | assumption | (simp; done) | (simp [*]; done) | (simp; omega))
              simp only [qsa, qsb, qsc]
              refine qtq 5 ?_
              simp only [qsa, qsb, qsc]
              refine qtq 6 ?_
              simp only [qsa, qsb, qsc]
              refine qtq 7 ?_
              simp only [qsa, qsb, qsc]
              refine qtq 8 ?_
              simp only [qsa, qsb, qsc]
              by_cases h6 : xq = 0
              · skip
                subst h6
                refine wpAnyT_take2 (i := 9) (v := .bool false) rfl rfl (by kernel_rfl) (by kernel_rfl) (by kernel_rfl) (by kernel_rfl) (fun _ _ _ h => h) (Or.inl ⟨by rfl, ?_⟩) (by first | assumption | trivial) ?_
                · (intro w hSw; (try dsimp only at hSw); go_simp) <;> (first | (with_reducible rfl) | assumption | (simp; done) | (simp [*]; done) | (simp; omega))
                simp only [qsa, qsb, qsc]
                refine qtq 10 ?_
                simp only [qsa, qsb, qsc]
                refine qtq 11 ?_
                simp only [qsa, qsb, qsc]
                refine qtq 12 ?_
                simp only [qsa, qsb, qsc]
                refine qtq 13 ?_
                simp only [qsa, qsb, qsc]
                refine qtq 14 ?_
                simp only [qsa, qsb, qsc]
                refine qtq 15 ?_
                simp only [qsa, qsb, qsc]
                refine qtq 16 ?_
                simp only [qsa, qsb, qsc]
                refine qtq 17 ?_
                simp only [qsa, qsb, qsc]
                have HHD := Lib.hid hHeld
                clear hHeld
                refine wpAnyT_next (i := 18) (by kernel_rfl) rfl ?_
                go_wp2_with fail
                have hHeld := HHD.out
                refine And.intro ?_ ?_
                · first
                  | exact hHeld
                  | exact fun _ => hHeld
                refine qtq 19 ?_
                simp only [qsa, qsb, qsc]
                refine qtq 20 ?_
                simp only [qsa, qsb, qsc]
                refine qtq 21 ?_
                simp only [qsa, qsb, qsc]
                refine wpAnyT_take2 (i := 22) (v := .bool false) rfl rfl (by kernel_rfl) (by kernel_rfl) (by kernel_rfl) (by kernel_rfl) (fun _ _ _ h => h) (Or.inl ⟨by rfl, ?_⟩) (by first | assumption | trivial) ?_
                · (intro w hSw; (try dsimp only at hSw); go_simp) <;> (first | (with_reducible rfl) | assumption | (simp; done) | (simp [*]; done) | (simp; omega))
                simp only [qsa, qsb, qsc]
                refine qtq 23 ?_
                simp only [qsa, qsb, qsc]
                refine wpAnyT_done (by kernel_rfl) ?_ _
                clear hHeld
                have hgo := HQ.out.trans (notesGo_go (x := Note.d ⟨xd, 0, xa, xt, xx⟩) rfl rfl hxt)
                have HGO := Lib.hid hgo
                clear hgo
                go_wp2_with fail
                go_roundw
                case rel =>
                  refine ⟨_, xt, hlt, by go_num, B_a.out.alloc _, qbv, fun h => by omega, fun j' y hj hy => ?_, HGO.out.trans (by simp [Note.d])⟩
                  rw [← Nat.succ.inj hj, HXK.out] at hy
                  injection hy with hy
                  subst hy
                  rfl
                case measure => simp [intOf]; omega
              · skip
                refine wpAnyT_take2 (i := 9) (v := .bool true) rfl rfl (by kernel_rfl) (by kernel_rfl) (by kernel_rfl) (by kernel_rfl) (fun _ _ _ h => h) (Or.inl ⟨by rfl, ?_⟩) (by first | assumption | trivial) ?_
                · (intro w hSw; (try dsimp only at hSw); go_simp) <;> (first | (with_reducible rfl) | assumption | (simp; done) | (simp [*]; done) | (simp; omega))
                simp only [qsa, qsb, qsc]
                refine qtq 10 ?_
                simp only [qsa, qsb, qsc]
                refine qtq 11 ?_
                simp only [qsa, qsb, qsc]
                refine qtn 12 ?_
                simp only [qsa, qsb, qsc]
                refine qtn 13 ?_
                simp only [qsa, qsb, qsc]
                refine qtn 14 ?_
                simp only [qsa, qsb, qsc]
                refine qtn 15 ?_
                simp only [qsa, qsb, qsc]
                refine qtn 16 ?_
                simp only [qsa, qsb, qsc]
                refine qtn 17 ?_
                simp only [qsa, qsb, qsc]
                refine qtn 18 ?_
                simp only [qsa, qsb, qsc]
                refine qtn 19 ?_
                simp only [qsa, qsb, qsc]
                refine qtn 20 ?_
                simp only [qsa, qsb, qsc]
                refine qtn 21 ?_
                simp only [qsa, qsb, qsc]
                refine qtn 22 ?_
                simp only [qsa, qsb, qsc]
                refine qtq 23 ?_
                simp only [qsa, qsb, qsc]
                refine wpAnyT_done (by kernel_rfl) ?_ _
                clear hHeld
                go_wp2_with fail
                go_ret
                exact ⟨ret_bool (by rw [HQ.out, notesGo_no (.inr (.inl h6)), Bool.and_false, Bool.and_false]), qbv⟩
            · skip
              refine wpAnyT_take2 (i := 4) (v := .bool true) rfl rfl (by kernel_rfl) (by kernel_rfl) (by kernel_rfl) (by kernel_rfl) (fun _ _ _ h => h) (Or.inl ⟨by rfl, ?_⟩) (by first | assumption | trivial) ?_
              · (intro w hSw; (try dsimp only at hSw); go_simp) <;> (first | (with_reducible rfl) | assumption | (simp; done) | (simp [*]; done) | (simp; omega))
              simp only [qsa, qsb, qsc]
              refine qtq 5 ?_
              simp only [qsa, qsb, qsc]
              refine qtn 6 ?_
              simp only [qsa, qsb, qsc]
              refine qtn 7 ?_
              simp only [qsa, qsb, qsc]
              refine qtn 8 ?_
              simp only [qsa, qsb, qsc]
              refine qtn 9 ?_
              simp only [qsa, qsb, qsc]
              refine qtq 10 ?_
              simp only [qsa, qsb, qsc]
              refine qtq 11 ?_
              simp only [qsa, qsb, qsc]
              refine qtn 12 ?_
              simp only [qsa, qsb, qsc]
              refine qtn 13 ?_
              simp only [qsa, qsb, qsc]
              refine qtn 14 ?_
              simp only [qsa, qsb, qsc]
              refine qtn 15 ?_
              simp only [qsa, qsb, qsc]
              refine qtn 16 ?_
              simp only [qsa, qsb, qsc]
              refine qtn 17 ?_
              simp only [qsa, qsb, qsc]
              refine qtn 18 ?_
              simp only [qsa, qsb, qsc]
              refine qtn 19 ?_
              simp only [qsa, qsb, qsc]
              refine qtn 20 ?_
              simp only [qsa, qsb, qsc]
              refine qtn 21 ?_
              simp only [qsa, qsb, qsc]
              refine qtn 22 ?_
              simp only [qsa, qsb, qsc]
              refine qtq 23 ?_
              simp only [qsa, qsb, qsc]
              refine wpAnyT_done (by kernel_rfl) ?_ _
              clear hHeld
              go_wp2_with fail
              go_ret
              exact ⟨ret_bool (by rw [HQ.out, notesGo_no (.inl h5), Bool.and_false, Bool.and_false]), qbv⟩
          · obtain ⟨j, rfl⟩ : ∃ j, k = j + 1 := ⟨k - 1, by omega⟩
            have hj : j < NL.length := by omega
            obtain ⟨b2, o2, hA2, hb2, hcl2⟩ := HP.out.2.1.1.at1 hj
            injection hA2 with hA2
            injection hA2 with e1 e2
            subst e1 e2
            have hxj : NL[j]? = some NL[j] := List.getElem?_eq_getElem hj
            have hqj := hq3 j _ rfl hxj
            obtain ⟨_, _, _, k3, _⟩ := Cells.c5 (hcl2.keep (hbel.block b hb2))
            clear hxj hq3 hcl2
            simp only at k3
            generalize NL[j] = y at *
            obtain ⟨yd, yq, ya, yt, yx⟩ := y
            simp only at hqj k3
            subst hqj
            have hwj : ((j + 1 : Nat) : Int) - 1 = j := by omega
            have hwk : IntKind.i64.wrap (j : Int) = j := by rw [IntKind.wrap_i64]; omega
            refine wp_region_T (fun w' => w'.cell? ⟨wr.heap.size, 0, none⟩ = some (.int .i64 xd) ∧ w'.cell? ⟨wr.heap.size, 1, none⟩ = some (.int .i64 xq) ∧ w'.cell? ⟨wr.heap.size, 3, none⟩ = some (.int .i64 xt) ∧ w'.cell? ⟨w.heap.size, 0, none⟩ = some (.int .i64 id) ∧ w'.cell? ⟨w.heap.size, 3, none⟩ = some (.slice (some ⟨b, o, none⟩) NL.length Nc) ∧ w'.cell? ⟨b, o + j * 5 + 3, none⟩ = some (.int .i64 la)) (fun _ => false) (by kernel_rfl) ⟨(Blk.new _ _ _).cell 0, (Blk.new _ _ _).cell 1, (Blk.new _ _ _).cell 3, (B_a.out.alloc _).cell 0, (B_a.out.alloc _).cell 3, kalloc _ k3⟩ (fun hHeld => ?_)
            refine qtq 0 ?_
            simp only [qsa, qsb, qsc]
            refine qtq 1 ?_
            simp only [qsa, qsb, qsc]
            refine qtq 2 ?_
            simp only [qsa, qsb, qsc]
            refine qtq 3 ?_
            simp only [qsa, qsb, qsc]
            by_cases h5 : xd = id
            · skip
              subst h5
              refine wpAnyT_take2 (i := 4) (v := .bool false) rfl rfl (by kernel_rfl) (by kernel_rfl) (by kernel_rfl) (by kernel_rfl) (fun _ _ _ h => h) (Or.inl ⟨by rfl, ?_⟩) (by first | assumption | trivial) ?_
              · (intro w hSw; (try dsimp only at hSw); go_simp) <;> (first | (with_reducible rfl) | assumption | (simp; done) | (simp [*]; done) | (simp; omega))
              simp only [qsa, qsb, qsc]
              refine qtq 5 ?_
              simp only [qsa, qsb, qsc]
              refine qtq 6 ?_
              simp only [qsa, qsb, qsc]
              refine qtq 7 ?_
              simp only [qsa, qsb, qsc]
              refine qtq 8 ?_
              simp only [qsa, qsb, qsc]
              by_cases h6 : xq = ((j + 1 : Nat) : Int)
              · skip
                subst h6
                refine wpAnyT_take2 (i := 9) (v := .bool false) rfl rfl (by kernel_rfl) (by kernel_rfl) (by kernel_rfl) (by kernel_rfl) (fun _ _ _ h => h) (Or.inl ⟨by rfl, ?_⟩) (by first | assumption | trivial) ?_
                · (intro w hSw; (try dsimp only at hSw); go_simp) <;> (first | (with_reducible rfl) | assumption | (simp; done) | (simp [*]; done) | (simp; omega))
                simp only [qsa, qsb, qsc]
                refine qtq 10 ?_
                simp only [qsa, qsb, qsc]
                refine qtq 11 ?_
                simp only [qsa, qsb, qsc]
                refine qtq 12 ?_
                simp only [qsa, qsb, qsc]
                refine qtq 13 ?_
                simp only [qsa, qsb, qsc]
                refine qtq 14 ?_
                simp only [qsa, qsb, qsc]
                refine qtq 15 ?_
                simp only [qsa, qsb, qsc]
                refine qtq 16 ?_
                simp only [qsa, qsb, qsc]
                refine qtq 17 ?_
                simp only [qsa, qsb, qsc]
                have HHD := Lib.hid hHeld
                clear hHeld
                refine wpAnyT_next (i := 18) (by kernel_rfl) rfl ?_
                go_wp2_with fail
                have hHeld := HHD.out
                refine And.intro ?_ ?_
                · first
                  | exact hHeld
                  | exact fun _ => hHeld
                refine qtq 19 ?_
                simp only [qsa, qsb, qsc]
                refine qtq 20 ?_
                simp only [qsa, qsb, qsc]
                refine qtq 21 ?_
                simp only [qsa, qsb, qsc]
                rcases Int.lt_or_le xt la with h7 | h7
                · skip
                  refine wpAnyT_take2 (i := 22) (v := .bool true) rfl rfl (by kernel_rfl) (by kernel_rfl) (by kernel_rfl) (by kernel_rfl) (fun _ _ _ h => h) (Or.inl ⟨by rfl, ?_⟩) (by first | assumption | trivial) ?_
                  · (intro w hSw; (try dsimp only at hSw); go_simp) <;> (first | (with_reducible rfl) | assumption | (simp; done) | (simp [*]; done) | (simp; omega))
                  simp only [qsa, qsb, qsc]
                  refine qtq 23 ?_
                  simp only [qsa, qsb, qsc]
                  refine wpAnyT_done (by kernel_rfl) ?_ _
                  clear hHeld
                  go_wp2_with fail
                  go_ret
                  exact ⟨ret_bool (by rw [HQ.out, notesGo_no (.inr (.inr h7)), Bool.and_false, Bool.and_false]), qbv⟩
                · skip
                  refine wpAnyT_take2 (i := 22) (v := .bool false) rfl rfl (by kernel_rfl) (by kernel_rfl) (by kernel_rfl) (by kernel_rfl) (fun _ _ _ h => h) (Or.inl ⟨by rfl, ?_⟩) (by first | assumption | trivial) ?_
                  · (intro w hSw; (try dsimp only at hSw); go_simp) <;> (first | (with_reducible rfl) | assumption | (simp; done) | (simp [*]; done) | (simp; omega))
                  simp only [qsa, qsb, qsc]
                  refine qtq 23 ?_
                  simp only [qsa, qsb, qsc]
                  refine wpAnyT_done (by kernel_rfl) ?_ _
                  clear hHeld
                  have hgo := HQ.out.trans (notesGo_go (x := Note.d ⟨xd, ((j + 1 : Nat) : Int), xa, xt, xx⟩) rfl rfl h7)
                  have HGO := Lib.hid hgo
                  clear hgo
                  go_wp2_with fail
                  go_roundw
                  case rel =>
                    refine ⟨_, xt, hlt, by go_num, B_a.out.alloc _, qbv, fun h => by omega, fun j' y hj hy => ?_, HGO.out.trans (by simp [Note.d])⟩
                    rw [← Nat.succ.inj hj, HXK.out] at hy
                    injection hy with hy
                    subst hy
                    rfl
                  case measure => simp [intOf]; omega
              · skip
                refine wpAnyT_take2 (i := 9) (v := .bool true) rfl rfl (by kernel_rfl) (by kernel_rfl) (by kernel_rfl) (by kernel_rfl) (fun _ _ _ h => h) (Or.inl ⟨by rfl, ?_⟩) (by first | assumption | trivial) ?_
                · (intro w hSw; (try dsimp only at hSw); go_simp) <;> (first | (with_reducible rfl) | assumption | (simp; done) | (simp [*]; done) | (simp; omega))
                simp only [qsa, qsb, qsc]
                refine qtq 10 ?_
                simp only [qsa, qsb, qsc]
                refine qtq 11 ?_
                simp only [qsa, qsb, qsc]
                refine qtn 12 ?_
                simp only [qsa, qsb, qsc]
                refine qtn 13 ?_
                simp only [qsa, qsb, qsc]
                refine qtn 14 ?_
                simp only [qsa, qsb, qsc]
                refine qtn 15 ?_
                simp only [qsa, qsb, qsc]
                refine qtn 16 ?_
                simp only [qsa, qsb, qsc]
                refine qtn 17 ?_
                simp only [qsa, qsb, qsc]
                refine qtn 18 ?_
                simp only [qsa, qsb, qsc]
                refine qtn 19 ?_
                simp only [qsa, qsb, qsc]
                refine qtn 20 ?_
                simp only [qsa, qsb, qsc]
                refine qtn 21 ?_
                simp only [qsa, qsb, qsc]
                refine qtn 22 ?_
                simp only [qsa, qsb, qsc]
                refine qtq 23 ?_
                simp only [qsa, qsb, qsc]
                refine wpAnyT_done (by kernel_rfl) ?_ _
                clear hHeld
                go_wp2_with fail
                go_ret
                exact ⟨ret_bool (by rw [HQ.out, notesGo_no (.inr (.inl h6)), Bool.and_false, Bool.and_false]), qbv⟩
            · skip
              refine wpAnyT_take2 (i := 4) (v := .bool true) rfl rfl (by kernel_rfl) (by kernel_rfl) (by kernel_rfl) (by kernel_rfl) (fun _ _ _ h => h) (Or.inl ⟨by rfl, ?_⟩) (by first | assumption | trivial) ?_
              · (intro w hSw; (try dsimp only at hSw); go_simp) <;> (first | (with_reducible rfl) | assumption | (simp; done) | (simp [*]; done) | (simp; omega))
              simp only [qsa, qsb, qsc]
              refine qtq 5 ?_
              simp only [qsa, qsb, qsc]
              refine qtn 6 ?_
              simp only [qsa, qsb, qsc]
              refine qtn 7 ?_
              simp only [qsa, qsb, qsc]
              refine qtn 8 ?_
              simp only [qsa, qsb, qsc]
              refine qtn 9 ?_
              simp only [qsa, qsb, qsc]
              refine qtq 10 ?_
              simp only [qsa, qsb, qsc]
              refine qtq 11 ?_
              simp only [qsa, qsb, qsc]
              refine qtn 12 ?_
              simp only [qsa, qsb, qsc]
              refine qtn 13 ?_
              simp only [qsa, qsb, qsc]
              refine qtn 14 ?_
              simp only [qsa, qsb, qsc]
              refine qtn 15 ?_
              simp only [qsa, qsb, qsc]
              refine qtn 16 ?_
              simp only [qsa, qsb, qsc]
              refine qtn 17 ?_
              simp only [qsa, qsb, qsc]
              refine qtn 18 ?_
              simp only [qsa, qsb, qsc]
              refine qtn 19 ?_
              simp only [qsa, qsb, qsc]
              refine qtn 20 ?_
              simp only [qsa, qsb, qsc]
              refine qtn 21 ?_
              simp only [qsa, qsb, qsc]
              refine qtn 22 ?_
              simp only [qsa, qsb, qsc]
              refine qtq 23 ?_
              simp only [qsa, qsb, qsc]
              refine wpAnyT_done (by kernel_rfl) ?_ _
              clear hHeld
              go_wp2_with fail
              go_ret
              exact ⟨ret_bool (by rw [HQ.out, notesGo_no (.inl h5), Bool.and_false, Bool.and_false]), qbv⟩
        · have hkn : (NL.map Note.d).drop k = [] := List.drop_eq_nil_of_le (by simp; omega)
          rw [hkn] at heq
          have HQ : Hid (notesGo id 0 0 (NL.map Note.d) = true) := Lib.hid heq
          obtain ⟨hid0, hid1⟩ := rngB_iff.1 h1
          have h12 : S.l.length = 12 := by
            have := H4.out
            simp only [seenR, Bool.and_eq_true] at this
            exact of_decide_eq_true this.1
          obtain ⟨SA, Sc, SL⟩ := S
          simp only at h12
          have hil : id.toNat < SL.length := by omega
          obtain ⟨b, o, hA, hb, hcl⟩ := HP.out.2.2.at1 hil
          simp only at hA
          subst hA
          have hxx : SL[id.toNat]? = some SL[id.toNat] := List.getElem?_eq_getElem hil
          have g0 := (hcl.keep (hbel.block b hb)).c1
          simp only [Nat.mul_one] at g0
          generalize SL[id.toNat] = x at *
          have HXX := Lib.hid hxx
          have hid2 : id < (SL.length : Int) := by omega
          clear hkn heq hcl hxx hq2 hq3
          go_wp2_with fail
          go_ret
          exact ⟨ret_bool (by
            have e1 := HHV.out
            have e2 := HQ.out
            have e3 := HXX.out
            try simp only at e1 e2 e3 ⊢
            rw [e1, e2, e3]
            simp
            rfl), hbel⟩
theorem rright43 (p : Phone) (w : World) (hp : RdPhone (· < w.heap.size) w p) :
    Calls Try.prog 20 #[p.v] w fun e w' => e = .returned (.bool p.d.right) ∧ Below w.heap.size w w' := by
  have hd : p.d.right = (rngB p.id 0 11 && (holdsR p.H.l && (notesR (p.N.l.map Note.d) && (seenR p.S.l && (decide (p.S.l[p.id.toNat]? = some 0) && notesGo p.id 0 0 (p.N.l.map Note.d)))))) := by
    rfl
  rcases e1 : rngB p.id 0 11
  · have hv : p.d.right = false := by rw [hd, e1]; rfl
    rw [hv]
    exact rright43_1 p w hp (.inl e1)
  · rcases Nat.lt_or_ge 100 p.H.l.length with e2 | e2
    · have hh : holdsR p.H.l = false := by
        unfold holdsR
        rw [decide_eq_false (by omega), Bool.and_false]
      have hv : p.d.right = false := by rw [hd, hh]; simp
      rw [hv]
      exact rright43_1 p w hp (.inr e2)
    · have e2' : (p.H.l.length : Int) ≤ 100 := by omega
      rcases e3 : notesR (p.N.l.map Note.d)
      · have hv : p.d.right = false := by rw [hd, e3]; simp
        rw [hv]
        exact rright43_2 p w hp e1 e2' (Lib.hid e3)
      · rcases e4 : seenR p.S.l
        · have hv : p.d.right = false := by rw [hd, e4]; simp
          rw [hv]
          exact rright43_3 p w hp e1 e2' (Lib.hid e3) (Lib.hid e4)
        · have hv : p.d.right = (holdsR p.H.l && (decide (p.S.l[p.id.toNat]? = some 0) && notesGo p.id 0 0 (p.N.l.map Note.d))) := by rw [hd, e1, e3, e4]; simp
          rw [hv]
          exact rright43_4 p w hp e1 e2' (Lib.hid e3) (Lib.hid e4)
end Go.Proofs.Ythnblhbdfpmolaa
