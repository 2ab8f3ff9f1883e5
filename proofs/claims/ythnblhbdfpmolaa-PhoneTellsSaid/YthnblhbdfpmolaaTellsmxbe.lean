/- Walks of the helpers of the laws of layer 43: same (where both are), few. -/
import Derived.Test.YthnblhbdfpmolaaTellsmxaz
namespace Go.Proofs.Ythnblhbdfpmolaa
open Go.RowKit
set_option maxHeartbeats 1600000 in
theorem lsame (p q : Phone) (w : World) (hp : RdPhone (· < w.heap.size) w p) (hq : RdPhone (· < w.heap.size) w q) (hd : p.d = q.d) :
    Calls Try.prog 18 #[p.v, q.v] w fun e w' => e = .returned (.bool true) ∧ Below w.heap.size w w' := by
  obtain ⟨id, cut, ⟨HA, Hc, HL⟩, N, S⟩ := p
  obtain ⟨id', cut', ⟨HA', Hc', HL'⟩, N', S'⟩ := q
  simp only [Phone.d, PhoneD.mk.injEq] at hd
  obtain ⟨rfl, rfl, rfl, hN, hS⟩ := hd
  have hhn := hp.1.len
  simp only at hhn
  have HP := Lib.hid hp
  have HQ := Lib.hid hq
  have HN := Lib.hid hN
  have HSS := Lib.hid hS
  clear hp hq hN hS
  simp only [Phone.v]
  go_enter Try.func18, Try.ntmps18
  go_wp2_with fail
  have hi := rints S S' ((w.alloc (.cells #[.int .i64 id, .bool cut, .slice HA HL.length Hc, .slice N.A N.l.length N.c, .slice S.A S.l.length S.c] 33)).alloc (.cells #[.int .i64 id, .bool cut, .slice HA' HL.length Hc', .slice N'.A N'.l.length N'.c, .slice S'.A S'.l.length S'.c] 26)) ((HP.out.2.2.lt_alloc _).lt_alloc _) ((HQ.out.2.2.lt_alloc _).lt_alloc _)
  rw [decide_eq_true HSS.out] at hi
  refine hi.mono ?_
  clear hi
  rintro e w1 ⟨rfl, hb1⟩
  have K_a : Blk _ (w.heap.size) 33 #[.int .i64 id, .bool cut, .slice HA HL.length Hc, .slice N.A N.l.length N.c, .slice S.A S.l.length S.c] := qkb hb1
  obtain ⟨a0, a1, a2, a3, a4, af, az⟩ := Blk.b5 K_a
  have B_a := Lib.hid K_a
  clear K_a
  have K_b : Blk _ (w.heap.size + 1) 26 #[.int .i64 id, .bool cut, .slice HA' HL.length Hc', .slice N'.A N'.l.length N'.c, .slice S'.A S'.l.length S'.c] := qkb hb1
  obtain ⟨b0, b1, b2, b3, b4, bf, bz⟩ := Blk.b5 K_b
  have B_b := Lib.hid K_b
  clear K_b
  have hB1 : Below w.heap.size w w1 := qbv
  clear hb1
  go_wp2_with fail
  have hl := rlists N N' w1 (HP.out.2.1.later hB1 (Nat.le_refl _)) (HQ.out.2.1.later hB1 (Nat.le_refl _))
  rw [HN.out, listsN_refl] at hl
  refine hl.mono ?_
  clear hl
  rintro e w2 ⟨rfl, hb2⟩
  clear a0 a1 a2 a3 a4 af b0 b1 b2 b3 b4 bf
  have K_a : Blk _ (w.heap.size) 33 #[.int .i64 id, .bool cut, .slice HA HL.length Hc, .slice N.A N.l.length N.c, .slice S.A S.l.length S.c] := qkc B_a hb2
  obtain ⟨a0, a1, a2, a3, a4, af, az⟩ := Blk.b5 K_a
  have B_a := Lib.hid K_a
  clear K_a
  have K_b : Blk _ (w.heap.size + 1) 26 #[.int .i64 id, .bool cut, .slice HA' HL.length Hc', .slice N'.A N'.l.length N'.c, .slice S'.A S'.l.length S'.c] := qkc B_b hb2
  obtain ⟨b0, b1, b2, b3, b4, bf, bz⟩ := Blk.b5 K_b
  have B_b := Lib.hid K_b
  clear K_b
  have hB2 : Below w.heap.size w w2 := qbv
  clear hb2
  go_wp2_with fail
  go_loopw [5] (fun i wr => ∃ (k : Nat), k ≤ HL.length ∧ i = .int .i64 k ∧ Blk wr w.heap.size 33 #[.int .i64 id, .bool cut, .slice HA HL.length Hc, .slice N.A N.l.length N.c, .slice S.A S.l.length S.c] ∧ Blk wr (w.heap.size + 1) 26 #[.int .i64 id, .bool cut, .slice HA' HL.length Hc', .slice N'.A N'.l.length N'.c, .slice S'.A S'.l.length S'.c] ∧ Below w.heap.size w wr) (fun i _ => HL.length - (intOf i).toNat)
  case atStart => exact ⟨0, by omega, rfl, B_a.out, B_b.out, hB2⟩
  case round =>
    clear a0 a1 a2 a3 a4 af b0 b1 b2 b3 b4 bf
    obtain ⟨k, hk, rfl, hblk, hblkb, hbel⟩ := hrel
    obtain ⟨a0, a1, a2, a3, a4, af, az'⟩ := hblk.b5
    obtain ⟨b0, b1, b2, b3, b4, bf, bz'⟩ := hblkb.b5
    have B_a := Lib.hid hblk
    have B_b := Lib.hid hblkb
    clear hblk hblkb
    have hhe : w.heap.size ≤ wr.heap.size := hbel.size
    by_cases hlt : k < HL.length
    · obtain ⟨b, o, rfl, hb, hcl⟩ := HP.out.1.at1 hlt
      obtain ⟨b', o', rfl, hb', hcl'⟩ := HQ.out.1.at1 hlt
      obtain ⟨g0, g1, g2⟩ := Cells.c3 (hcl.keep (hbel.block b hb))
      obtain ⟨j0, j1, j2⟩ := Cells.c3 (hcl'.keep (hbel.block b' hb'))
      simp only at g0 g1 g2 j0 j1 j2
      generalize HL[k] = x at *
      obtain ⟨xst, xu, xs⟩ := x
      clear hcl hcl'
      go_wp2_with fail
      refine wp_region_T (fun w' => w'.cell? ⟨w.heap.size, 2, none⟩ = some (.slice (some ⟨b, o, none⟩) HL.length Hc) ∧ w'.cell? ⟨w.heap.size + 1, 2, none⟩ = some (.slice (some ⟨b', o', none⟩) HL.length Hc') ∧ w'.cell? ⟨b, o + k * 3, none⟩ = some (.int .i64 xst) ∧ w'.cell? ⟨b, o + k * 3 + 1, none⟩ = some (.int .i64 xu) ∧ w'.cell? ⟨b, o + k * 3 + 2, none⟩ = some (.int .i64 xs) ∧ w'.cell? ⟨b', o' + k * 3, none⟩ = some (.int .i64 xst) ∧ w'.cell? ⟨b', o' + k * 3 + 1, none⟩ = some (.int .i64 xu) ∧ w'.cell? ⟨b', o' + k * 3 + 2, none⟩ = some (.int .i64 xs)) (fun _ => false) (by kernel_rfl) ⟨a2, b2, g0, g1, g2, j0, j1, j2⟩ (fun hHeld => ?_)
      refine qtq 0 ?_
      simp only [qsa, qsb, qsc]
      refine qtq 1 ?_
      simp only [qsa, qsb, qsc]
      refine qtq 2 ?_
      simp only [qsa, qsb, qsc]
      refine qtq 3 ?_
      simp only [qsa, qsb, qsc]
      refine qtq 4 ?_
      simp only [qsa, qsb, qsc]
      refine qtq 5 ?_
      simp only [qsa, qsb, qsc]
      refine qtq 6 ?_
      simp only [qsa, qsb, qsc]
      refine qtq 7 ?_
      simp only [qsa, qsb, qsc]
      refine qtq 8 ?_
      simp only [qsa, qsb, qsc]
      refine qtq 9 ?_
      simp only [qsa, qsb, qsc]
      refine qtq 10 ?_
      simp only [qsa, qsb, qsc]
      refine qtq 11 ?_
      simp only [qsa, qsb, qsc]
      refine wpAnyT_take2 (i := 12) (v := .bool false) rfl rfl (by kernel_rfl) (by kernel_rfl) (by kernel_rfl) (by kernel_rfl) (fun _ _ _ h => h) (Or.inl ⟨by rfl, ?_⟩) (by first | assumption | trivial) ?_
      · (intro w hSw; (try dsimp only at hSw); go_simp) <;> (first | (with_reducible rfl) | assumption | (simp; done) | (simp [*]; done) | (simp; omega))
      simp only [qsa, qsb, qsc]
      refine qtq 13 ?_
      simp only [qsa, qsb, qsc]
      refine qtq 14 ?_
      simp only [qsa, qsb, qsc]
      refine qtq 15 ?_
      simp only [qsa, qsb, qsc]
      refine qtq 16 ?_
      simp only [qsa, qsb, qsc]
      refine qtq 17 ?_
      simp only [qsa, qsb, qsc]
      refine qtq 18 ?_
      simp only [qsa, qsb, qsc]
      refine qtq 19 ?_
      simp only [qsa, qsb, qsc]
      refine qtq 20 ?_
      simp only [qsa, qsb, qsc]
      refine qtq 21 ?_
      simp only [qsa, qsb, qsc]
      refine qtq 22 ?_
      simp only [qsa, qsb, qsc]
      refine qtq 23 ?_
      simp only [qsa, qsb, qsc]
      refine qtq 24 ?_
      simp only [qsa, qsb, qsc]
      refine qtq 25 ?_
      simp only [qsa, qsb, qsc]
      refine wpAnyT_take2 (i := 26) (v := .bool false) rfl rfl (by kernel_rfl) (by kernel_rfl) (by kernel_rfl) (by kernel_rfl) (fun _ _ _ h => h) (Or.inl ⟨by rfl, ?_⟩) (by first | assumption | trivial) ?_
      · (intro w hSw; (try dsimp only at hSw); go_simp) <;> (first | (with_reducible rfl) | assumption | (simp; done) | (simp [*]; done) | (simp; omega))
      simp only [qsa, qsb, qsc]
      refine qtq 27 ?_
      simp only [qsa, qsb, qsc]
      refine qtq 28 ?_
      simp only [qsa, qsb, qsc]
      refine qtq 29 ?_
      simp only [qsa, qsb, qsc]
      refine qtq 30 ?_
      simp only [qsa, qsb, qsc]
      refine qtq 31 ?_
      simp only [qsa, qsb, qsc]
      refine qtq 32 ?_
      simp only [qsa, qsb, qsc]
      refine qtq 33 ?_
      simp only [qsa, qsb, qsc]
      refine qtq 34 ?_
      simp only [qsa, qsb, qsc]
      refine qtq 35 ?_
      simp only [qsa, qsb, qsc]
      refine qtq 36 ?_
      simp only [qsa, qsb, qsc]
      refine qtq 37 ?_
      simp only [qsa, qsb, qsc]
      refine qtq 38 ?_
      simp only [qsa, qsb, qsc]
      refine qtq 39 ?_
      simp only [qsa, qsb, qsc]
      refine qtq 40 ?_
      simp only [qsa, qsb, qsc]
      refine wpAnyT_take2 (i := 41) (v := .bool false) rfl rfl (by kernel_rfl) (by kernel_rfl) (by kernel_rfl) (by kernel_rfl) (fun _ _ _ h => h) (Or.inl ⟨by rfl, ?_⟩) (by first | assumption | trivial) ?_
      · (intro w hSw; (try dsimp only at hSw); go_simp) <;> (first | (with_reducible rfl) | assumption | (simp; done) | (simp [*]; done) | (simp; omega))
      simp only [qsa, qsb, qsc]
      refine qtq 42 ?_
      simp only [qsa, qsb, qsc]
      refine wpAnyT_done (by kernel_rfl) ?_ _
      clear hHeld
      go_wp2_with fail
      go_roundw
      case rel => exact ⟨k + 1, by omega, by go_num, B_a.out, B_b.out, qbv⟩
      case measure => simp [intOf]; omega
    · go_wp2_with fail
      go_ret
      exact ⟨rfl, hbel⟩
set_option maxHeartbeats 800000 in
theorem lfew (p : Phone) (w : World) (hp : RdPhone (· < w.heap.size) w p) :
    Calls Try.prog 13 #[p.v] w fun e w' => AnyB (fun b => b = true → p.H.l.length ≤ 6 ∧ p.N.l.length ≤ 12 ∧ p.S.l.length ≤ 20) e ∧ Below w.heap.size w w' := by
  obtain ⟨id, cut, H, N, S⟩ := p
  have HP := Lib.hid hp
  clear hp
  simp only [Phone.v]
  rcases Nat.lt_or_ge 6 H.l.length with h6 | h6
  · have h6' : (6 : Int) < H.l.length := by omega
    go_enter Try.func13, Try.ntmps13
    go_wp2_with fail
    go_ret
    exact ⟨⟨false, rfl, fun h => by cases h⟩, qbl⟩
  · have h6' : (H.l.length : Int) ≤ 6 := by omega
    go_enter Try.func13, Try.ntmps13
    go_wp2_with fail
    refine (rfew41 N 12 (by omega) _ (HP.out.2.1.later qbv (Nat.le_refl _))).mono ?_
    rintro e w1 ⟨⟨b, rfl, hN⟩, hb1⟩
    have HN := Lib.hid hN
    have K_a : Blk _ (w.heap.size) 26 #[.int .i64 id, .bool cut, .slice H.A H.l.length H.c, .slice N.A N.l.length N.c, .slice S.A S.l.length S.c] := qkb hb1
    obtain ⟨a0, a1, a2, a3, a4, af, az⟩ := Blk.b5 K_a
    have B_a := Lib.hid K_a
    clear K_a
    have hB1 : Below w.heap.size w w1 := qbv
    clear hb1 hN
    rcases b with _ | _
    · go_wp2_with fail
      go_ret
      exact ⟨⟨false, rfl, fun h => by cases h⟩, hB1⟩
    · rcases Nat.lt_or_ge 20 S.l.length with h20 | h20
      · have h20' : (20 : Int) < S.l.length := by omega
        go_wp2_with fail
        go_ret
        exact ⟨⟨false, ret_bool (by first | (simp; done) | (simp; omega)), fun h => by cases h⟩, hB1⟩
      · have h20' : (S.l.length : Int) ≤ 20 := by omega
        go_wp2_with fail
        go_ret
        exact ⟨⟨true, ret_bool (by first | (simp; done) | (simp; omega)), fun _ => ⟨h6, HN.out (by first | rfl | trivial | simp), h20⟩⟩, hB1⟩
end Go.Proofs.Ythnblhbdfpmolaa
/- Walks of the helpers of the laws of layer 43: of. -/
namespace Go.Proofs.Ythnblhbdfpmolaa
open Go.RowKit
set_option maxRecDepth 20000 in
set_option maxHeartbeats 1600000 in
theorem lof (q : Phone) (w : World) (hq : RdPhone (· < w.heap.size) w q) (hb : (q.H.l.length + 1) * 24 ≤ 140737488355328) :
    Calls Try.prog 15 #[q.v] w fun e w' => ∃ p' : Phone, e = .returned p'.v ∧ p'.d = q.d ∧ RdPhone (· < w'.heap.size) w' p' ∧ Below w.heap.size w w' := by
  obtain ⟨id, cut, ⟨HA, Hc, HL⟩, N, S⟩ := q
  have hhn := hq.1.len
  simp only at hhn hb
  have HQ := Lib.hid hq
  clear hq
  simp only [Phone.v]
  go_enter Try.func15, Try.ntmps15
  go_wp2_with fail
  go_loopw [4] (fun i wr => ∃ (TL : List Hold) (A : Option Addr) (c : Nat), TL.length ≤ HL.length ∧ i = .int .i64 TL.length ∧ TL = HL.take TL.length ∧
    Blk wr w.heap.size 26 #[.int .i64 id, .bool cut, .slice HA HL.length Hc, .slice N.A N.l.length N.c, .slice S.A S.l.length S.c] ∧ Blk wr (w.heap.size + 1) 33 #[.int .i64 0, .bool false, .slice none 0 0, .slice none 0 0, .slice none 0 0] ∧
    Blk wr (w.heap.size + 2) 33 #[.int .i64 id, .bool cut, .slice A TL.length c, .slice N.A N.l.length N.c, .slice S.A S.l.length S.c] ∧
    Own (w.heap.size + 3) 62 3 Hold.enc wr ⟨A, c, TL⟩ ∧ Below w.heap.size w wr ∧ w.heap.size + 3 ≤ wr.heap.size) (fun i _ => HL.length - (intOf i).toNat)
  case atStart =>
    exact ⟨[], none, 0, by simp, rfl, by simp, ((Blk.new _ _ _).alloc _).alloc _, (Blk.new' (by simp)).alloc _, Blk.new' (by simp), Own.nil _ _ _ _ _, qbl, by simp⟩
  case round =>
    obtain ⟨TL, A, c, hk, rfl, htl, hblk, hblkb, hblkc, hown, hbel, hsz⟩ := hrel
    obtain ⟨a0, a1, a2, a3, a4, af, az⟩ := hblk.b5
    obtain ⟨b0, b1, b2, b3, b4, bf, bz⟩ := hblkb.b5
    obtain ⟨d0, d1, d2, d3, d4, df, dz⟩ := hblkc.b5
    have B_a := Lib.hid hblk
    have B_b := Lib.hid hblkb
    have B_d := Lib.hid hblkc
    have HOWN := Lib.hid hown
    have HTL := Lib.hid htl
    clear hblk hblkb hblkc hown htl
    by_cases hlt : TL.length < HL.length
    · obtain ⟨b, o, rfl, hbF, hcl⟩ := HQ.out.1.at1 hlt
      obtain ⟨g0, g1, g2⟩ := Cells.c3 (hcl.keep (hbel.block b hbF))
      have htk : HL.take (TL.length + 1) = HL.take TL.length ++ [HL[TL.length]] := (List.take_append_getElem hlt).symm
      rw [← HTL.out] at htk
      have HTK := Lib.hid htk
      have hcl0 : Cells w b (o + TL.length * 3) (Hold.enc HL[TL.length]) := hcl
      clear htk hcl
      simp only at g0 g1 g2
      generalize HL[TL.length] = x at *
      obtain ⟨xst, xu, xs⟩ := x
      have HCL : Hid (Cells w b (o + TL.length * 3) [.int .i64 xst, .int .i64 xu, .int .i64 xs]) := Lib.hid hcl0
      clear hcl0
      go_wp2_with fail
      refine wp_region_T (fun w' => w'.cell? ⟨w.heap.size + 2, 2, none⟩ = some (.slice A TL.length c) ∧ w'.cell? ⟨w.heap.size, 2, none⟩ = some (.slice (some ⟨b, o, none⟩) HL.length Hc) ∧ w'.cell? ⟨b, o + TL.length * 3, none⟩ = some (.int .i64 xst) ∧ w'.cell? ⟨b, o + TL.length * 3 + 1, none⟩ = some (.int .i64 xu) ∧ w'.cell? ⟨b, o + TL.length * 3 + 2, none⟩ = some (.int .i64 xs)) (fun i => 24 ≤ i) (by kernel_rfl) ⟨d2, a2, g0, g1, g2⟩ (fun hHeld => ?_)
      refine qtq 0 ?_
      simp only [qsa, qsb, qsc]
      refine qtq 1 ?_
      simp only [qsa, qsb, qsc]
      refine qtq 2 ?_
      simp only [qsa, qsb, qsc]
      refine qtq 3 ?_
      simp only [qsa, qsb, qsc]
      refine qtq 4 ?_
      simp only [qsa, qsb, qsc]
      refine qtq 5 ?_
      simp only [qsa, qsb, qsc]
      refine qtq 6 ?_
      simp only [qsa, qsb, qsc]
      refine qtq 7 ?_
      simp only [qsa, qsb, qsc]
      refine qtq 8 ?_
      simp only [qsa, qsb, qsc]
      refine qtq 9 ?_
      simp only [qsa, qsb, qsc]
      refine qtq 10 ?_
      simp only [qsa, qsb, qsc]
      refine qtq 11 ?_
      simp only [qsa, qsb, qsc]
      refine qtq 12 ?_
      simp only [qsa, qsb, qsc]
      refine qtq 13 ?_
      simp only [qsa, qsb, qsc]
      refine qtq 14 ?_
      simp only [qsa, qsb, qsc]
      refine qtq 15 ?_
      simp only [qsa, qsb, qsc]
      refine qtq 16 ?_
      simp only [qsa, qsb, qsc]
      refine qtq 17 ?_
      simp only [qsa, qsb, qsc]
      refine qtq 18 ?_
      simp only [qsa, qsb, qsc]
      refine qtq 19 ?_
      simp only [qsa, qsb, qsc]
      have HHD := Lib.hid hHeld
      clear hHeld
      refine wpAnyT_next (i := 20) (by kernel_rfl) rfl ?_
      go_wp2_with fail
      have hHeld := HHD.out
      refine And.intro ?_ ?_
      · first
        | exact hHeld
        | exact fun _ => hHeld
      clear hHeld
      refine wpAnyT_next (i := 21) (by kernel_rfl) rfl ?_
      go_wp2_with fail
      have hHeld : ∀ o, _ := fun o => And.intro (kalloc o d2) (And.intro (kalloc o a2) (And.intro (kalloc o g0) (And.intro (kalloc o g1) (kalloc o g2))))
      refine And.intro ?_ ?_
      · first
        | exact hHeld _
        | exact fun _ => hHeld _
      clear hHeld
      refine wpAnyT_next (i := 22) (by kernel_rfl) rfl ?_
      refine wpl_append_sl _ rfl (.tmp 22) (.tmp 42) _ rfl Try.underlying31 infoHold (by omega) Hold.k Hold.one ⟨A, c, TL⟩ ⟨some ⟨wr.heap.size, 0, none⟩, 1, [⟨xst, xu, xs⟩]⟩ rfl rfl (HOWN.out.drew.alloc _) ((Own.lit (base := wr.heap.size) wr.drew _ [⟨xst, xu, xs⟩] (Nat.le_refl _) (by simp [maxLen]) rfl Hold.k).rd Hold.k) (by simp [maxLen]; omega) (by simp; omega) (by simp; omega) ?_
      intro A5 c5 w5 hown5 hg5 hat5
      clear a0 a1 a2 a3 a4 af b0 b1 b2 b3 b4 bf d0 d1 d2 d3 d4 df g0 g1 g2
      have K_a : Blk _ (w.heap.size) 26 #[.int .i64 id, .bool cut, .slice (some ⟨b, o, none⟩) HL.length Hc, .slice N.A N.l.length N.c, .slice S.A S.l.length S.c] := blk_grown hg5 (by simp [hp_past, hp_at, hp_other, hp_same, hp_drew, hp_drewN, B_a.out.eq, B_a.out.lt, hp_same B_a.out.eq]) (own_ne HOWN.out (.inl (by omega)))
      obtain ⟨a0, a1, a2, a3, a4, af, az⟩ := Blk.b5 K_a
      have B_a := Lib.hid K_a
      clear K_a
      have K_b : Blk _ (w.heap.size + 1) 33 #[.int .i64 0, .bool false, .slice none 0 0, .slice none 0 0, .slice none 0 0] := blk_grown hg5 (by simp [hp_past, hp_at, hp_other, hp_same, hp_drew, hp_drewN, B_b.out.eq, B_b.out.lt, hp_same B_b.out.eq]) (own_ne HOWN.out (.inl (by omega)))
      obtain ⟨b0, b1, b2, b3, b4, bf, bz⟩ := Blk.b5 K_b
      have B_b := Lib.hid K_b
      clear K_b
      have K_d : Blk _ (w.heap.size + 2) 33 #[.int .i64 id, .bool cut, .slice A TL.length c, .slice N.A N.l.length N.c, .slice S.A S.l.length S.c] := blk_grown hg5 (by simp [hp_past, hp_at, hp_other, hp_same, hp_drew, hp_drewN, B_d.out.eq, B_d.out.lt, hp_same B_d.out.eq]) (own_ne HOWN.out (.inl (by omega)))
      obtain ⟨d0, d1, d2, d3, d4, df, dz⟩ := Blk.b5 K_d
      have B_d := Lib.hid K_d
      clear K_d
      have hB5 : Below w.heap.size w w5 := Below.grown qbv hg5 (by simp; omega) (fun j hj => by
        rcases HOWN.out.form with ⟨h0, _⟩ | ⟨g', h0, h1, _⟩
        · simp only at h0; rw [h0] at hj; simp [Value.ownBlock] at hj
        · simp only at h0; rw [h0] at hj; simp [Value.ownBlock] at hj; omega)
      have z5 : wr.heap.size + 1 ≤ w5.heap.size := by have := hg5.size; simp at this; omega
      have HO5 := Lib.hid hown5
      clear hown5 hg5 hat5
      go_wp2_with fail
      have hbb : b < w.heap.size := hbF
      have hcl5 : Cells w5 b (o + TL.length * 3) [.int .i64 xst, .int .i64 xu, .int .i64 xs] := HCL.out.keep (hB5.block b hbb)
      have hHeld := And.intro d2 (And.intro a2 hcl5.c3)
      refine And.intro ?_ ?_
      · first
        | exact hHeld
        | exact fun _ => hHeld
      refine wpAnyT_next (i := 23) (by kernel_rfl) rfl ?_
      go_wp2_with fail
      refine And.intro ?_ ?_
      · first
        | exact hHeld
        | exact fun _ => hHeld
      clear hHeld
      refine wpAnyT_next (i := 24) (by kernel_rfl) rfl ?_
      go_wp2_with fail
      try simp only [QT]
      try (with_reducible refine And.intro (fun h => by simp at h) ?_)
      refine wpAnyT_done (by kernel_rfl) ?_ _
      have XD := Lib.hid (B_d.out.set_ 2 (.slice A5 (TL ++ [(⟨xst, xu, xs⟩ : Hold)]).length c5))
      have m1 : w.heap.size ≠ w.heap.size + 2 := by omega
      have m2 : w.heap.size + 1 ≠ w.heap.size + 2 := by omega
      have XA := Lib.hid (Blk.farr (p := ⟨w.heap.size + 2, 2, none⟩) (u := .slice A5 (TL ++ [(⟨xst, xu, xs⟩ : Hold)]).length c5) m1 B_a.out)
      have XB := Lib.hid (Blk.farr (p := ⟨w.heap.size + 2, 2, none⟩) (u := .slice A5 (TL ++ [(⟨xst, xu, xs⟩ : Hold)]).length c5) m2 B_b.out)
      go_wp2_with fail
      go_roundw
      case rel => exact ⟨TL ++ [⟨xst, xu, xs⟩], A5, c5, by simp; omega, by simp, by rw [List.length_append]; exact HTK.out.symm, by simpa using XA.out, by simpa using XB.out, by simpa using XD.out, (by repeat (first | (with_reducible exact HO5.out) | ((with_reducible refine Own.farr ?_ ?_); focus (first | (simp; done) | (simp; omega) | omega)) | (with_reducible refine Own.alloc ?_ _) | (with_reducible refine Own.drew ?_) | (with_reducible refine Own.drewN ?_ _) | ((with_reducible apply own_via); focus (with_reducible assumption)))), qbv, by simp; omega⟩
      case measure => simp [intOf]; omega
    · have htl : TL = HL := by have h1 := HTL.out; rw [List.take_of_length_le (by omega)] at h1; exact h1
      have HTLL := Lib.hid htl
      have hlen : TL.length = HL.length := by rw [htl]
      have HRH := Lib.hid ((HOWN.out.rd Hold.k).mono (G := fun b => w.heap.size + 3 ≤ b ∧ b < wr.heap.size) (fun b hb => hb))
      clear htl
      go_wp2_with fail
      try simp only [Exit.inBlock, Exit.then]
      refine bodyPost_ret (v := .agg #[.int .i64 id, .bool cut, .slice A HL.length c, .slice N.A N.l.length N.c, .slice S.A S.l.length S.c]) ?_ rfl ⟨⟨id, cut, ⟨A, c, TL⟩, N, S⟩, by simp only [Phone.v, hlen], by simp only [Phone.d, HTLL.out], ⟨?_, ?_, ?_⟩, qbv⟩
      simp [results, Try.results15, go_sem, a0, a1, a2, a3, a4, af, b0, b1, b2, b3, b4, bf, d0, d1, d2, d3, d4, df, az, bz, dz]
      · refine Rd.mono (F := fun b => w.heap.size + 3 ≤ b ∧ b < wr.heap.size) ?_ (fun b hb => by simpa using hb.2)
        repeat ((with_reducible refine Rd.setfarr ?_ ?_); focus (first | (simp; done) | (simp; omega)))
        exact HRH.out
      · exact HQ.out.2.1.later qbv (Nat.le_refl _)
      · exact HQ.out.2.2.below' qbv (Nat.le_refl _)
end Go.Proofs.Ythnblhbdfpmolaa
