/- An operation of the play: all of them. -/
import Derived.Test.YthnblhbdfpmolaaPNotemxbi
import Derived.Test.YthnblhbdfpmolaaPNotemxbj
import Derived.Test.YthnblhbdfpmolaaPNotemxbk
namespace Go.Proofs.Ythnblhbdfpmolaa
open Go.RowKit
set_option maxRecDepth 100000 in
set_option maxHeartbeats 4000000 in
theorem pdo_join (B : Nat) (m : PlM) (w : World) (h : PlayAt B w m) (i k : Nat) (p : PhoneD) (q : List Int) (s : StockD) (un tm : Int) (ha : ActOK m.d i k p q s) (hj : JoinOK m.d i p q) :
    Calls Try.prog 48 #[.pointer (some ⟨m.g, 0, none⟩), .agg #[.int .i64 3, .int .i64 i, .int .i64 k, .int .i64 un, .int .i64 tm]] w fun e w' => e = .returned (.bool true) ∧ ∃ m' : PlM, PlayAt B w' m' ∧ m'.g = m.g ∧ m'.d = m.d.join i p q ∧ Below B w w' := by
  have HJ := Lib.hid hj
  clear hj
  have HP := Lib.hid h
  have HA := Lib.hid ha
  have hpl : m.P.l.length = 3 := by have := ha.lP; simpa [PlM.d] using this
  have hi3 : i < 3 := ha.i3
  have hip : i < m.P.l.length := by omega
  have hsl : m.S.l.length ≤ 3 := by have := ha.lS; simpa [PlM.d] using this
  have hks : k < m.S.l.length := by
    have := (List.getElem?_eq_some_iff.1 ha.S).1
    simpa [PlM.d] using this
  have hpd : m.P.l[i].d = p := by
    have := ha.P
    simp only [PlM.d, List.getElem?_map, List.getElem?_eq_getElem hip, Option.map_some, Option.some.injEq] at this
    exact this
  obtain ⟨pb, hPA, _, _, hcP, hfP⟩ := h.P.atk Phone.k (List.getElem?_eq_getElem hip)
  have hpr := h.rP m.P.l[i] (List.getElem_mem hip)
  obtain ⟨c0, c1, c2, c3, c4⟩ := hcP.c5
  obtain ⟨b0, b1, b2, b3, b4, b5, bf, bz⟩ := h.box.b6
  rw [hPA, hpl] at b0
  have hbw : B ≤ w.heap.size := Nat.le_trans h.lo (Nat.le_of_lt h.box.lt)
  clear h ha hcP hfP bf
  generalize m.P.l[i] = ph at *
  have HPD := Lib.hid hpd
  clear hpd
  obtain ⟨w0, hw0⟩ : ∃ x, x = World.drew (w.alloc (.cells #[.int .i64 3, .int .i64 i, .int .i64 k, .int .i64 un, .int .i64 tm] 89)) := ⟨_, rfl⟩
  obtain ⟨ob, hob⟩ : ∃ g, g = w.heap.size := ⟨_, rfl⟩
  have HP0 : Hid (PlayAt B w0 m) := Lib.hid (by rw [hw0]; exact (HP.out.alloc _).drew)
  have HOB : Hid (Blk w0 ob 89 #[.int .i64 3, .int .i64 i, .int .i64 k, .int .i64 un, .int .i64 tm]) := Lib.hid (by rw [hw0, hob]; exact (Blk.new _ _ _).drew)
  have HBW : Hid (Below w.heap.size w w0) := Lib.hid (by rw [hw0]; exact Below.drew ((Below.refl _ _).alloc (Nat.le_refl _) _))
  have HPH0 : Hid (RdPhone m.G w0 ph) := Lib.hid (hpr.keep fun b hb => HBW.out.block b (HP.out.G b hb).1)
  have hss : ∀ W, Below w0.heap.size w0 W → W.cell? ⟨m.g, 0, none⟩ = some (.slice (some ⟨pb, 0, none⟩) 3 m.P.c) ∧ W.cell? ⟨m.g, 1, none⟩ = some (.slice m.S.A m.S.l.length m.S.c) ∧ W.cell? ⟨pb, i * 5, none⟩ = some (.int .i64 ph.id) ∧ W.cell? ⟨pb, i * 5 + 1, none⟩ = some (.bool ph.cut) ∧ W.cell? ⟨pb, i * 5 + 2, none⟩ = some (.slice ph.H.A ph.H.l.length ph.H.c) ∧ W.cell? ⟨pb, i * 5 + 3, none⟩ = some (.slice ph.N.A ph.N.l.length ph.N.c) ∧ W.cell? ⟨pb, i * 5 + 4, none⟩ = some (.slice ph.S.A ph.S.l.length ph.S.c) ∧ W.cell? ⟨ob, 0, none⟩ = some (.int .i64 3) ∧ W.cell? ⟨ob, 1, none⟩ = some (.int .i64 i) ∧ W.cell? ⟨ob, 2, none⟩ = some (.int .i64 k) ∧ W.cell? ⟨ob, 3, none⟩ = some (.int .i64 un) ∧ W.cell? ⟨ob, 4, none⟩ = some (.int .i64 tm) := by
    intro W hW
    have ky : ∀ {a v}, w.cell? a = some v → W.cell? a = some v := fun h => keep_cell hW (keep_cell HBW.out h)
    have o := HOB.out.later hW
    exact ⟨ky b0, ky b1, ky c0, ky c1, ky c2, ky c3, ky c4, o.cell 0, o.cell 1, o.cell 2, o.cell 3, o.cell 4⟩
  have HSS := Lib.hid hss
  have hs0 := hss w0 (Below.refl _ _)
  clear hss b0 b1 b2 b3 b4 b5 bz c0 c1 c2 c3 c4 hpr
  have hi3' : (i : Int) < 3 := by omega
  have hks' : (k : Int) < (m.S.l.length : Int) := by omega
  have hn1 : decide ((i : Int) < 0) = false := by simp
  have hn2 : decide ((3 : Int) ≤ (i : Int)) = false := by simp; omega
  have hn3 : decide ((k : Int) < 0) = false := by simp
  have hn4 : decide ((m.S.l.length : Int) ≤ (k : Int)) = false := by simp; omega
  go_enter Try.func48, Try.ntmps48
  go_wp2_with fail
  rw [hw0, hob] at hs0
  refine wp_region_T (fun W => W.cell? ⟨m.g, 0, none⟩ = some (.slice (some ⟨pb, 0, none⟩) 3 m.P.c) ∧ W.cell? ⟨m.g, 1, none⟩ = some (.slice m.S.A m.S.l.length m.S.c) ∧ W.cell? ⟨pb, i * 5, none⟩ = some (.int .i64 ph.id) ∧ W.cell? ⟨pb, i * 5 + 1, none⟩ = some (.bool ph.cut) ∧ W.cell? ⟨pb, i * 5 + 2, none⟩ = some (.slice ph.H.A ph.H.l.length ph.H.c) ∧ W.cell? ⟨pb, i * 5 + 3, none⟩ = some (.slice ph.N.A ph.N.l.length ph.N.c) ∧ W.cell? ⟨pb, i * 5 + 4, none⟩ = some (.slice ph.S.A ph.S.l.length ph.S.c) ∧ W.cell? ⟨w.heap.size, 0, none⟩ = some (.int .i64 3) ∧ W.cell? ⟨w.heap.size, 1, none⟩ = some (.int .i64 i) ∧ W.cell? ⟨w.heap.size, 2, none⟩ = some (.int .i64 k) ∧ W.cell? ⟨w.heap.size, 3, none⟩ = some (.int .i64 un) ∧ W.cell? ⟨w.heap.size, 4, none⟩ = some (.int .i64 tm)) (fun _ => false) (by kernel_rfl) hs0 (fun hHeld => ?_)
  clear hs0
  rw [← hw0]
  rw [← hw0, ← hob] at hHeld
  rw [← hob]
  have hwob : w.heap.size ≤ ob := by omega
  clear hw0 hob
  refine qtq 0 ?_
  simp only [qsa, qsb, qsc]
  refine qtq 1 ?_
  simp only [qsa, qsb, qsc]
  refine wpAnyT_take2 (i := 2) (v := .bool false) rfl rfl (by kernel_rfl) (by kernel_rfl) (by kernel_rfl) (by kernel_rfl) (fun _ _ _ h => h) (Or.inl ⟨by rfl, ?_⟩) (by first | assumption | trivial) ?_
  · (intro w hSw; (try dsimp only at hSw); go_simp) <;> (first | (with_reducible rfl) | assumption | (simp; done) | (simp [*]; done) | (simp; omega))
  simp only [qsa, qsb, qsc]
  refine qtq 3 ?_
  simp only [qsa, qsb, qsc]
  refine qtq 4 ?_
  simp only [qsa, qsb, qsc]
  refine qtq 5 ?_
  simp only [qsa, qsb, qsc]
  refine wpAnyT_take2 (i := 6) (v := .bool false) rfl rfl (by kernel_rfl) (by kernel_rfl) (by kernel_rfl) (by kernel_rfl) (fun _ _ _ h => h) (Or.inl ⟨by rfl, ?_⟩) (by first | assumption | trivial) ?_
  · (intro w hSw; (try dsimp only at hSw); go_simp) <;> (first | (with_reducible rfl) | assumption | (simp; done) | (simp [*]; done) | (simp; omega))
  simp only [qsa, qsb, qsc]
  refine qtq 7 ?_
  simp only [qsa, qsb, qsc]
  refine qtq 8 ?_
  simp only [qsa, qsb, qsc]
  refine qtq 9 ?_
  simp only [qsa, qsb, qsc]
  refine qtq 10 ?_
  simp only [qsa, qsb, qsc]
  refine wpAnyT_take2 (i := 11) (v := .bool false) rfl rfl (by kernel_rfl) (by kernel_rfl) (by kernel_rfl) (by kernel_rfl) (fun _ _ _ h => h) (Or.inl ⟨by rfl, ?_⟩) (by first | assumption | trivial) ?_
  · (intro w hSw; (try dsimp only at hSw); go_simp) <;> (first | (with_reducible rfl) | assumption | (simp; done) | (simp [*]; done) | (simp; omega))
  simp only [qsa, qsb, qsc]
  refine qtq 12 ?_
  simp only [qsa, qsb, qsc]
  refine qtq 13 ?_
  simp only [qsa, qsb, qsc]
  refine qtq 14 ?_
  simp only [qsa, qsb, qsc]
  refine qtq 15 ?_
  simp only [qsa, qsb, qsc]
  refine qtq 16 ?_
  simp only [qsa, qsb, qsc]
  refine qtq 17 ?_
  simp only [qsa, qsb, qsc]
  refine qtq 18 ?_
  simp only [qsa, qsb, qsc]
  refine qtq 19 ?_
  simp only [qsa, qsb, qsc]
  refine qtq 20 ?_
  simp only [qsa, qsb, qsc]
  refine wpAnyT_take2 (i := 21) (v := .bool false) rfl rfl (by kernel_rfl) (by kernel_rfl) (by kernel_rfl) (by kernel_rfl) (fun _ _ _ h => h) (Or.inl ⟨by rfl, ?_⟩) (by first | assumption | trivial) ?_
  · (intro w hSw; (try dsimp only at hSw); go_simp) <;> (first | (with_reducible rfl) | assumption | (simp; done) | (simp [*]; done) | (simp; omega))
  simp only [qsa, qsb, qsc]
  refine qtq 22 ?_
  simp only [qsa, qsb, qsc]
  refine wpAnyT_done (by kernel_rfl) ?_ _
  obtain ⟨y0, y1, y2, y3, y4, y5, y6, o0, o1, o2, o3, o4⟩ := hHeld
  go_wp2_with fail
  clear y0 y1 y2 y3 y4 y5 y6 o0 o1 o2 o3 o4
  refine (pjoin B m w0 HP0.out i p q HJ.out).mono ?_
  rintro e w1 ⟨rfl, m', h1, h2, h3, h4⟩
  have HB4 := Lib.hid ((HBW.out.mono hbw).trans h4)
  clear h4
  go_wp2_with fail
  go_ret
  exact ⟨by simp [Act.eval, go_sem], m', h1, h2, h3, HB4.out⟩
set_option maxRecDepth 100000 in
set_option maxHeartbeats 4000000 in
theorem pdo_none (B : Nat) (m : PlM) (w : World) (h : PlayAt B w m) (i k : Nat) (p : PhoneD) (q : List Int) (s : StockD) (kd un tm : Int) (ha : ActOK m.d i k p q s) (hk : kd < 0 ∨ 4 < kd) :
    Calls Try.prog 48 #[.pointer (some ⟨m.g, 0, none⟩), .agg #[.int .i64 kd, .int .i64 i, .int .i64 k, .int .i64 un, .int .i64 tm]] w fun e w' => e = .returned (.bool true) ∧ ∃ m' : PlM, PlayAt B w' m' ∧ m'.g = m.g ∧ m'.d = m.d ∧ Below B w w' := by
  have e0 : (kd == 0) = false := by simp; omega
  have e1 : (kd == 1) = false := by simp; omega
  have e2 : (kd == 2) = false := by simp; omega
  have e3 : (kd == 3) = false := by simp; omega
  have e4 : (kd == 4) = false := by simp; omega
  clear hk
  have HP := Lib.hid h
  have HA := Lib.hid ha
  have hpl : m.P.l.length = 3 := by have := ha.lP; simpa [PlM.d] using this
  have hi3 : i < 3 := ha.i3
  have hip : i < m.P.l.length := by omega
  have hsl : m.S.l.length ≤ 3 := by have := ha.lS; simpa [PlM.d] using this
  have hks : k < m.S.l.length := by
    have := (List.getElem?_eq_some_iff.1 ha.S).1
    simpa [PlM.d] using this
  have hpd : m.P.l[i].d = p := by
    have := ha.P
    simp only [PlM.d, List.getElem?_map, List.getElem?_eq_getElem hip, Option.map_some, Option.some.injEq] at this
    exact this
  obtain ⟨pb, hPA, _, _, hcP, hfP⟩ := h.P.atk Phone.k (List.getElem?_eq_getElem hip)
  have hpr := h.rP m.P.l[i] (List.getElem_mem hip)
  obtain ⟨c0, c1, c2, c3, c4⟩ := hcP.c5
  obtain ⟨b0, b1, b2, b3, b4, b5, bf, bz⟩ := h.box.b6
  rw [hPA, hpl] at b0
  have hbw : B ≤ w.heap.size := Nat.le_trans h.lo (Nat.le_of_lt h.box.lt)
  clear h ha hcP hfP bf
  generalize m.P.l[i] = ph at *
  have HPD := Lib.hid hpd
  clear hpd
  obtain ⟨w0, hw0⟩ : ∃ x, x = World.drew (w.alloc (.cells #[.int .i64 kd, .int .i64 i, .int .i64 k, .int .i64 un, .int .i64 tm] 89)) := ⟨_, rfl⟩
  obtain ⟨ob, hob⟩ : ∃ g, g = w.heap.size := ⟨_, rfl⟩
  have HP0 : Hid (PlayAt B w0 m) := Lib.hid (by rw [hw0]; exact (HP.out.alloc _).drew)
  have HOB : Hid (Blk w0 ob 89 #[.int .i64 kd, .int .i64 i, .int .i64 k, .int .i64 un, .int .i64 tm]) := Lib.hid (by rw [hw0, hob]; exact (Blk.new _ _ _).drew)
  have HBW : Hid (Below w.heap.size w w0) := Lib.hid (by rw [hw0]; exact Below.drew ((Below.refl _ _).alloc (Nat.le_refl _) _))
  have HPH0 : Hid (RdPhone m.G w0 ph) := Lib.hid (hpr.keep fun b hb => HBW.out.block b (HP.out.G b hb).1)
  have hss : ∀ W, Below w0.heap.size w0 W → W.cell? ⟨m.g, 0, none⟩ = some (.slice (some ⟨pb, 0, none⟩) 3 m.P.c) ∧ W.cell? ⟨m.g, 1, none⟩ = some (.slice m.S.A m.S.l.length m.S.c) ∧ W.cell? ⟨pb, i * 5, none⟩ = some (.int .i64 ph.id) ∧ W.cell? ⟨pb, i * 5 + 1, none⟩ = some (.bool ph.cut) ∧ W.cell? ⟨pb, i * 5 + 2, none⟩ = some (.slice ph.H.A ph.H.l.length ph.H.c) ∧ W.cell? ⟨pb, i * 5 + 3, none⟩ = some (.slice ph.N.A ph.N.l.length ph.N.c) ∧ W.cell? ⟨pb, i * 5 + 4, none⟩ = some (.slice ph.S.A ph.S.l.length ph.S.c) ∧ W.cell? ⟨ob, 0, none⟩ = some (.int .i64 kd) ∧ W.cell? ⟨ob, 1, none⟩ = some (.int .i64 i) ∧ W.cell? ⟨ob, 2, none⟩ = some (.int .i64 k) ∧ W.cell? ⟨ob, 3, none⟩ = some (.int .i64 un) ∧ W.cell? ⟨ob, 4, none⟩ = some (.int .i64 tm) := by
    intro W hW
    have ky : ∀ {a v}, w.cell? a = some v → W.cell? a = some v := fun h => keep_cell hW (keep_cell HBW.out h)
    have o := HOB.out.later hW
    exact ⟨ky b0, ky b1, ky c0, ky c1, ky c2, ky c3, ky c4, o.cell 0, o.cell 1, o.cell 2, o.cell 3, o.cell 4⟩
  have HSS := Lib.hid hss
  have hs0 := hss w0 (Below.refl _ _)
  clear hss b0 b1 b2 b3 b4 b5 bz c0 c1 c2 c3 c4 hpr
  have hi3' : (i : Int) < 3 := by omega
  have hks' : (k : Int) < (m.S.l.length : Int) := by omega
  have hn1 : decide ((i : Int) < 0) = false := by simp
  have hn2 : decide ((3 : Int) ≤ (i : Int)) = false := by simp; omega
  have hn3 : decide ((k : Int) < 0) = false := by simp
  have hn4 : decide ((m.S.l.length : Int) ≤ (k : Int)) = false := by simp; omega
  go_enter Try.func48, Try.ntmps48
  go_wp2_with fail
  rw [hw0, hob] at hs0
  refine wp_region_T (fun W => W.cell? ⟨m.g, 0, none⟩ = some (.slice (some ⟨pb, 0, none⟩) 3 m.P.c) ∧ W.cell? ⟨m.g, 1, none⟩ = some (.slice m.S.A m.S.l.length m.S.c) ∧ W.cell? ⟨pb, i * 5, none⟩ = some (.int .i64 ph.id) ∧ W.cell? ⟨pb, i * 5 + 1, none⟩ = some (.bool ph.cut) ∧ W.cell? ⟨pb, i * 5 + 2, none⟩ = some (.slice ph.H.A ph.H.l.length ph.H.c) ∧ W.cell? ⟨pb, i * 5 + 3, none⟩ = some (.slice ph.N.A ph.N.l.length ph.N.c) ∧ W.cell? ⟨pb, i * 5 + 4, none⟩ = some (.slice ph.S.A ph.S.l.length ph.S.c) ∧ W.cell? ⟨w.heap.size, 0, none⟩ = some (.int .i64 kd) ∧ W.cell? ⟨w.heap.size, 1, none⟩ = some (.int .i64 i) ∧ W.cell? ⟨w.heap.size, 2, none⟩ = some (.int .i64 k) ∧ W.cell? ⟨w.heap.size, 3, none⟩ = some (.int .i64 un) ∧ W.cell? ⟨w.heap.size, 4, none⟩ = some (.int .i64 tm)) (fun _ => false) (by kernel_rfl) hs0 (fun hHeld => ?_)
  clear hs0
  rw [← hw0]
  rw [← hw0, ← hob] at hHeld
  rw [← hob]
  have hwob : w.heap.size ≤ ob := by omega
  clear hw0 hob
  refine qtq 0 ?_
  simp only [qsa, qsb, qsc]
  refine qtq 1 ?_
  simp only [qsa, qsb, qsc]
  refine wpAnyT_take2 (i := 2) (v := .bool false) rfl rfl (by kernel_rfl) (by kernel_rfl) (by kernel_rfl) (by kernel_rfl) (fun _ _ _ h => h) (Or.inl ⟨by rfl, ?_⟩) (by first | assumption | trivial) ?_
  · (intro w hSw; (try dsimp only at hSw); go_simp) <;> (first | (with_reducible rfl) | assumption | (simp; done) | (simp [*]; done) | (simp; omega))
  simp only [qsa, qsb, qsc]
  refine qtq 3 ?_
  simp only [qsa, qsb, qsc]
  refine qtq 4 ?_
  simp only [qsa, qsb, qsc]
  refine qtq 5 ?_
  simp only [qsa, qsb, qsc]
  refine wpAnyT_take2 (i := 6) (v := .bool false) rfl rfl (by kernel_rfl) (by kernel_rfl) (by kernel_rfl) (by kernel_rfl) (fun _ _ _ h => h) (Or.inl ⟨by rfl, ?_⟩) (by first | assumption | trivial) ?_
  · (intro w hSw; (try dsimp only at hSw); go_simp) <;> (first | (with_reducible rfl) | assumption | (simp; done) | (simp [*]; done) | (simp; omega))
  simp only [qsa, qsb, qsc]
  refine qtq 7 ?_
  simp only [qsa, qsb, qsc]
  refine qtq 8 ?_
  simp only [qsa, qsb, qsc]
  refine qtq 9 ?_
  simp only [qsa, qsb, qsc]
  refine qtq 10 ?_
  simp only [qsa, qsb, qsc]
  refine wpAnyT_take2 (i := 11) (v := .bool false) rfl rfl (by kernel_rfl) (by kernel_rfl) (by kernel_rfl) (by kernel_rfl) (fun _ _ _ h => h) (Or.inl ⟨by rfl, ?_⟩) (by first | assumption | trivial) ?_
  · (intro w hSw; (try dsimp only at hSw); go_simp) <;> (first | (with_reducible rfl) | assumption | (simp; done) | (simp [*]; done) | (simp; omega))
  simp only [qsa, qsb, qsc]
  refine qtq 12 ?_
  simp only [qsa, qsb, qsc]
  refine qtq 13 ?_
  simp only [qsa, qsb, qsc]
  refine qtq 14 ?_
  simp only [qsa, qsb, qsc]
  refine qtq 15 ?_
  simp only [qsa, qsb, qsc]
  refine qtq 16 ?_
  simp only [qsa, qsb, qsc]
  refine qtq 17 ?_
  simp only [qsa, qsb, qsc]
  refine qtq 18 ?_
  simp only [qsa, qsb, qsc]
  refine qtq 19 ?_
  simp only [qsa, qsb, qsc]
  refine qtq 20 ?_
  simp only [qsa, qsb, qsc]
  refine wpAnyT_take2 (i := 21) (v := .bool false) rfl rfl (by kernel_rfl) (by kernel_rfl) (by kernel_rfl) (by kernel_rfl) (fun _ _ _ h => h) (Or.inl ⟨by rfl, ?_⟩) (by first | assumption | trivial) ?_
  · (intro w hSw; (try dsimp only at hSw); go_simp) <;> (first | (with_reducible rfl) | assumption | (simp; done) | (simp [*]; done) | (simp; omega))
  simp only [qsa, qsb, qsc]
  refine qtq 22 ?_
  simp only [qsa, qsb, qsc]
  refine wpAnyT_done (by kernel_rfl) ?_ _
  obtain ⟨y0, y1, y2, y3, y4, y5, y6, o0, o1, o2, o3, o4⟩ := hHeld
  go_wp2_with fail
  clear y0 y1 y2 y3 y4 y5 y6 o0 o1 o2 o3 o4
  go_ret
  exact ⟨by simp [Act.eval, go_sem], m, HP0.out, rfl, rfl, HBW.out.mono hbw⟩
set_option maxRecDepth 100000 in
set_option maxHeartbeats 4000000 in
theorem pdo_out (B : Nat) (m : PlM) (w : World) (h : PlayAt B w m) (kd pn sn un tm : Int) (ho : pn < 0 ∨ 3 ≤ pn ∨ sn < 0 ∨ (m.S.l.length : Int) ≤ sn) :
    Calls Try.prog 48 #[.pointer (some ⟨m.g, 0, none⟩), .agg #[.int .i64 kd, .int .i64 pn, .int .i64 sn, .int .i64 un, .int .i64 tm]] w fun e w' => e = .returned (.bool true) ∧ ∃ m' : PlM, PlayAt B w' m' ∧ m'.g = m.g ∧ m'.d = m.d ∧ Below B w w' := by
  by_cases h1 : pn < 0
  · have f1 : decide (pn < 0) = true := by simp; omega
    clear ho
    have hbw : B ≤ w.heap.size := Nat.le_trans h.lo (Nat.le_of_lt h.box.lt)
    have HP := Lib.hid h
    have hb1 := h.box.cell 1
    have hX := Blk.new w 89 #[.int .i64 kd, .int .i64 pn, .int .i64 sn, .int .i64 un, .int .i64 tm]
    have hk1 := kalloc (.cells #[.int .i64 kd, .int .i64 pn, .int .i64 sn, .int .i64 un, .int .i64 tm] 89) hb1
    have o1 := hX.cell 1
    have o2 := hX.cell 2
    clear h hX hb1
    go_enter Try.func48, Try.ntmps48
    go_wp2_with fail
    refine wp_region_T (fun W => W.cell? ⟨m.g, 1, none⟩ = some (.slice m.S.A m.S.l.length m.S.c) ∧ W.cell? ⟨w.heap.size, 1, none⟩ = some (.int .i64 pn) ∧ W.cell? ⟨w.heap.size, 2, none⟩ = some (.int .i64 sn)) (fun _ => false) (by kernel_rfl) ⟨hk1, o1, o2⟩ (fun hHeld => ?_)
    refine qtq 0 ?_
    simp only [qsa, qsb, qsc]
    refine qtq 1 ?_
    simp only [qsa, qsb, qsc]
    refine wpAnyT_take2 (i := 2) (v := .bool true) rfl rfl (by kernel_rfl) (by kernel_rfl) (by kernel_rfl) (by kernel_rfl) (fun _ _ _ h => h) (Or.inl ⟨by rfl, ?_⟩) (by first | assumption | trivial) ?_
    · (intro w hSw; (try dsimp only at hSw); go_simp) <;> (first | (with_reducible rfl) | assumption | (simp; done) | (simp [*]; done) | (simp; omega))
    simp only [qsa, qsb, qsc]
    refine qtq 3 ?_
    simp only [qsa, qsb, qsc]
    refine qtn 4 ?_
    simp only [qsa, qsb, qsc]
    refine qtn 5 ?_
    simp only [qsa, qsb, qsc]
    refine qtn 6 ?_
    simp only [qsa, qsb, qsc]
    refine qtq 7 ?_
    simp only [qsa, qsb, qsc]
    refine qtq 8 ?_
    simp only [qsa, qsb, qsc]
    refine qtn 9 ?_
    simp only [qsa, qsb, qsc]
    refine qtn 10 ?_
    simp only [qsa, qsb, qsc]
    refine qtn 11 ?_
    simp only [qsa, qsb, qsc]
    refine qtq 12 ?_
    simp only [qsa, qsb, qsc]
    refine qtq 13 ?_
    simp only [qsa, qsb, qsc]
    refine qtn 14 ?_
    simp only [qsa, qsb, qsc]
    refine qtn 15 ?_
    simp only [qsa, qsb, qsc]
    refine qtn 16 ?_
    simp only [qsa, qsb, qsc]
    refine qtn 17 ?_
    simp only [qsa, qsb, qsc]
    refine qtn 18 ?_
    simp only [qsa, qsb, qsc]
    refine qtn 19 ?_
    simp only [qsa, qsb, qsc]
    refine qtn 20 ?_
    simp only [qsa, qsb, qsc]
    refine qtn 21 ?_
    simp only [qsa, qsb, qsc]
    refine qtq 22 ?_
    simp only [qsa, qsb, qsc]
    refine wpAnyT_done (by kernel_rfl) ?_ _
    clear hHeld hk1 o1 o2
    go_wp2_with fail
    go_ret
    exact ⟨by simp [Act.eval, go_sem], m, (HP.out.alloc _).drew, rfl, rfl, Below.drew ((Below.refl _ _).alloc hbw _)⟩
  · have f1 : decide (pn < 0) = false := by simp; omega
    by_cases h2 : 3 ≤ pn
    · have f2 : decide (3 ≤ pn) = true := by simp; omega
      clear ho
      have hbw : B ≤ w.heap.size := Nat.le_trans h.lo (Nat.le_of_lt h.box.lt)
      have HP := Lib.hid h
      have hb1 := h.box.cell 1
      have hX := Blk.new w 89 #[.int .i64 kd, .int .i64 pn, .int .i64 sn, .int .i64 un, .int .i64 tm]
      have hk1 := kalloc (.cells #[.int .i64 kd, .int .i64 pn, .int .i64 sn, .int .i64 un, .int .i64 tm] 89) hb1
      have o1 := hX.cell 1
      have o2 := hX.cell 2
      clear h hX hb1
      go_enter Try.func48, Try.ntmps48
      go_wp2_with fail
      refine wp_region_T (fun W => W.cell? ⟨m.g, 1, none⟩ = some (.slice m.S.A m.S.l.length m.S.c) ∧ W.cell? ⟨w.heap.size, 1, none⟩ = some (.int .i64 pn) ∧ W.cell? ⟨w.heap.size, 2, none⟩ = some (.int .i64 sn)) (fun _ => false) (by kernel_rfl) ⟨hk1, o1, o2⟩ (fun hHeld => ?_)
      refine qtq 0 ?_
      simp only [qsa, qsb, qsc]
      refine qtq 1 ?_
      simp only [qsa, qsb, qsc]
      refine wpAnyT_take2 (i := 2) (v := .bool false) rfl rfl (by kernel_rfl) (by kernel_rfl) (by kernel_rfl) (by kernel_rfl) (fun _ _ _ h => h) (Or.inl ⟨by rfl, ?_⟩) (by first | assumption | trivial) ?_
      · (intro w hSw; (try dsimp only at hSw); go_simp) <;> (first | (with_reducible rfl) | assumption | (simp; done) | (simp [*]; done) | (simp; omega))
      simp only [qsa, qsb, qsc]
      refine qtq 3 ?_
      simp only [qsa, qsb, qsc]
      refine qtq 4 ?_
      simp only [qsa, qsb, qsc]
      refine qtq 5 ?_
      simp only [qsa, qsb, qsc]
      refine wpAnyT_take2 (i := 6) (v := .bool true) rfl rfl (by kernel_rfl) (by kernel_rfl) (by kernel_rfl) (by kernel_rfl) (fun _ _ _ h => h) (Or.inl ⟨by rfl, ?_⟩) (by first | assumption | trivial) ?_
      · (intro w hSw; (try dsimp only at hSw); go_simp) <;> (first | (with_reducible rfl) | assumption | (simp; done) | (simp [*]; done) | (simp; omega))
      simp only [qsa, qsb, qsc]
      refine qtq 7 ?_
      simp only [qsa, qsb, qsc]
      refine qtq 8 ?_
      simp only [qsa, qsb, qsc]
      refine qtn 9 ?_
      simp only [qsa, qsb, qsc]
      refine qtn 10 ?_
      simp only [qsa, qsb, qsc]
      refine qtn 11 ?_
      simp only [qsa, qsb, qsc]
      refine qtq 12 ?_
      simp only [qsa, qsb, qsc]
      refine qtq 13 ?_
      simp only [qsa, qsb, qsc]
      refine qtn 14 ?_
      simp only [qsa, qsb, qsc]
      refine qtn 15 ?_
      simp only [qsa, qsb, qsc]
      refine qtn 16 ?_
      simp only [qsa, qsb, qsc]
      refine qtn 17 ?_
      simp only [qsa, qsb, qsc]
      refine qtn 18 ?_
      simp only [qsa, qsb, qsc]
      refine qtn 19 ?_
      simp only [qsa, qsb, qsc]
      refine qtn 20 ?_
      simp only [qsa, qsb, qsc]
      refine qtn 21 ?_
      simp only [qsa, qsb, qsc]
      refine qtq 22 ?_
      simp only [qsa, qsb, qsc]
      refine wpAnyT_done (by kernel_rfl) ?_ _
      clear hHeld hk1 o1 o2
      go_wp2_with fail
      go_ret
      exact ⟨by simp [Act.eval, go_sem], m, (HP.out.alloc _).drew, rfl, rfl, Below.drew ((Below.refl _ _).alloc hbw _)⟩
    · have f2 : decide (3 ≤ pn) = false := by simp; omega
      by_cases h3 : sn < 0
      · have f3 : decide (sn < 0) = true := by simp; omega
        clear ho
        have hbw : B ≤ w.heap.size := Nat.le_trans h.lo (Nat.le_of_lt h.box.lt)
        have HP := Lib.hid h
        have hb1 := h.box.cell 1
        have hX := Blk.new w 89 #[.int .i64 kd, .int .i64 pn, .int .i64 sn, .int .i64 un, .int .i64 tm]
        have hk1 := kalloc (.cells #[.int .i64 kd, .int .i64 pn, .int .i64 sn, .int .i64 un, .int .i64 tm] 89) hb1
        have o1 := hX.cell 1
        have o2 := hX.cell 2
        clear h hX hb1
        go_enter Try.func48, Try.ntmps48
        go_wp2_with fail
        refine wp_region_T (fun W => W.cell? ⟨m.g, 1, none⟩ = some (.slice m.S.A m.S.l.length m.S.c) ∧ W.cell? ⟨w.heap.size, 1, none⟩ = some (.int .i64 pn) ∧ W.cell? ⟨w.heap.size, 2, none⟩ = some (.int .i64 sn)) (fun _ => false) (by kernel_rfl) ⟨hk1, o1, o2⟩ (fun hHeld => ?_)
        refine qtq 0 ?_
        simp only [qsa, qsb, qsc]
        refine qtq 1 ?_
        simp only [qsa, qsb, qsc]
        refine wpAnyT_take2 (i := 2) (v := .bool false) rfl rfl (by kernel_rfl) (by kernel_rfl) (by kernel_rfl) (by kernel_rfl) (fun _ _ _ h => h) (Or.inl ⟨by rfl, ?_⟩) (by first | assumption | trivial) ?_
        · (intro w hSw; (try dsimp only at hSw); go_simp) <;> (first | (with_reducible rfl) | assumption | (simp; done) | (simp [*]; done) | (simp; omega))
        simp only [qsa, qsb, qsc]
        refine qtq 3 ?_
        simp only [qsa, qsb, qsc]
        refine qtq 4 ?_
        simp only [qsa, qsb, qsc]
        refine qtq 5 ?_
        simp only [qsa, qsb, qsc]
        refine wpAnyT_take2 (i := 6) (v := .bool false) rfl rfl (by kernel_rfl) (by kernel_rfl) (by kernel_rfl) (by kernel_rfl) (fun _ _ _ h => h) (Or.inl ⟨by rfl, ?_⟩) (by first | assumption | trivial) ?_
        · (intro w hSw; (try dsimp only at hSw); go_simp) <;> (first | (with_reducible rfl) | assumption | (simp; done) | (simp [*]; done) | (simp; omega))
        simp only [qsa, qsb, qsc]
        refine qtq 7 ?_
        simp only [qsa, qsb, qsc]
        refine qtq 8 ?_
        simp only [qsa, qsb, qsc]
        refine qtq 9 ?_
        simp only [qsa, qsb, qsc]
        refine qtq 10 ?_
        simp only [qsa, qsb, qsc]
        refine wpAnyT_take2 (i := 11) (v := .bool true) rfl rfl (by kernel_rfl) (by kernel_rfl) (by kernel_rfl) (by kernel_rfl) (fun _ _ _ h => h) (Or.inl ⟨by rfl, ?_⟩) (by first | assumption | trivial) ?_
        · (intro w hSw; (try dsimp only at hSw); go_simp) <;> (first | (with_reducible rfl) | assumption | (simp; done) | (simp [*]; done) | (simp; omega))
        simp only [qsa, qsb, qsc]
        refine qtq 12 ?_
        simp only [qsa, qsb, qsc]
        refine qtq 13 ?_
        simp only [qsa, qsb, qsc]
        refine qtn 14 ?_
        simp only [qsa, qsb, qsc]
        refine qtn 15 ?_
        simp only [qsa, qsb, qsc]
        refine qtn 16 ?_
        simp only [qsa, qsb, qsc]
        refine qtn 17 ?_
        simp only [qsa, qsb, qsc]
        refine qtn 18 ?_
        simp only [qsa, qsb, qsc]
        refine qtn 19 ?_
        simp only [qsa, qsb, qsc]
        refine qtn 20 ?_
        simp only [qsa, qsb, qsc]
        refine qtn 21 ?_
        simp only [qsa, qsb, qsc]
        refine qtq 22 ?_
        simp only [qsa, qsb, qsc]
        refine wpAnyT_done (by kernel_rfl) ?_ _
        clear hHeld hk1 o1 o2
        go_wp2_with fail
        go_ret
        exact ⟨by simp [Act.eval, go_sem], m, (HP.out.alloc _).drew, rfl, rfl, Below.drew ((Below.refl _ _).alloc hbw _)⟩
      · have f3 : decide (sn < 0) = false := by simp; omega
        have h4 : (m.S.l.length : Int) ≤ sn := by omega
        have f4 : decide ((m.S.l.length : Int) ≤ sn) = true := by simp; omega
        clear ho
        have hbw : B ≤ w.heap.size := Nat.le_trans h.lo (Nat.le_of_lt h.box.lt)
        have HP := Lib.hid h
        have hb1 := h.box.cell 1
        have hX := Blk.new w 89 #[.int .i64 kd, .int .i64 pn, .int .i64 sn, .int .i64 un, .int .i64 tm]
        have hk1 := kalloc (.cells #[.int .i64 kd, .int .i64 pn, .int .i64 sn, .int .i64 un, .int .i64 tm] 89) hb1
        have o1 := hX.cell 1
        have o2 := hX.cell 2
        clear h hX hb1
        go_enter Try.func48, Try.ntmps48
        go_wp2_with fail
        refine wp_region_T (fun W => W.cell? ⟨m.g, 1, none⟩ = some (.slice m.S.A m.S.l.length m.S.c) ∧ W.cell? ⟨w.heap.size, 1, none⟩ = some (.int .i64 pn) ∧ W.cell? ⟨w.heap.size, 2, none⟩ = some (.int .i64 sn)) (fun _ => false) (by kernel_rfl) ⟨hk1, o1, o2⟩ (fun hHeld => ?_)
        refine qtq 0 ?_
        simp only [qsa, qsb, qsc]
        refine qtq 1 ?_
        simp only [qsa, qsb, qsc]
        refine wpAnyT_take2 (i := 2) (v := .bool false) rfl rfl (by kernel_rfl) (by kernel_rfl) (by kernel_rfl) (by kernel_rfl) (fun _ _ _ h => h) (Or.inl ⟨by rfl, ?_⟩) (by first | assumption | trivial) ?_
        · (intro w hSw; (try dsimp only at hSw); go_simp) <;> (first | (with_reducible rfl) | assumption | (simp; done) | (simp [*]; done) | (simp; omega))
        simp only [qsa, qsb, qsc]
        refine qtq 3 ?_
        simp only [qsa, qsb, qsc]
        refine qtq 4 ?_
        simp only [qsa, qsb, qsc]
        refine qtq 5 ?_
        simp only [qsa, qsb, qsc]
        refine wpAnyT_take2 (i := 6) (v := .bool false) rfl rfl (by kernel_rfl) (by kernel_rfl) (by kernel_rfl) (by kernel_rfl) (fun _ _ _ h => h) (Or.inl ⟨by rfl, ?_⟩) (by first | assumption | trivial) ?_
        · (intro w hSw; (try dsimp only at hSw); go_simp) <;> (first | (with_reducible rfl) | assumption | (simp; done) | (simp [*]; done) | (simp; omega))
        simp only [qsa, qsb, qsc]
        refine qtq 7 ?_
        simp only [qsa, qsb, qsc]
        refine qtq 8 ?_
        simp only [qsa, qsb, qsc]
        refine qtq 9 ?_
        simp only [qsa, qsb, qsc]
        refine qtq 10 ?_
        simp only [qsa, qsb, qsc]
        refine wpAnyT_take2 (i := 11) (v := .bool false) rfl rfl (by kernel_rfl) (by kernel_rfl) (by kernel_rfl) (by kernel_rfl) (fun _ _ _ h => h) (Or.inl ⟨by rfl, ?_⟩) (by first | assumption | trivial) ?_
        · (intro w hSw; (try dsimp only at hSw); go_simp) <;> (first | (with_reducible rfl) | assumption | (simp; done) | (simp [*]; done) | (simp; omega))
        simp only [qsa, qsb, qsc]
        refine qtq 12 ?_
        simp only [qsa, qsb, qsc]
        refine qtq 13 ?_
        simp only [qsa, qsb, qsc]
        refine qtq 14 ?_
        simp only [qsa, qsb, qsc]
        refine qtq 15 ?_
        simp only [qsa, qsb, qsc]
        refine qtq 16 ?_
        simp only [qsa, qsb, qsc]
        refine qtq 17 ?_
        simp only [qsa, qsb, qsc]
        refine qtq 18 ?_
        simp only [qsa, qsb, qsc]
        refine qtq 19 ?_
        simp only [qsa, qsb, qsc]
        refine qtq 20 ?_
        simp only [qsa, qsb, qsc]
        refine wpAnyT_take2 (i := 21) (v := .bool true) rfl rfl (by kernel_rfl) (by kernel_rfl) (by kernel_rfl) (by kernel_rfl) (fun _ _ _ h => h) (Or.inl ⟨by rfl, ?_⟩) (by first | assumption | trivial) ?_
        · (intro w hSw; (try dsimp only at hSw); go_simp) <;> (first | (with_reducible rfl) | assumption | (simp; done) | (simp [*]; done) | (simp; omega))
        simp only [qsa, qsb, qsc]
        refine qtq 22 ?_
        simp only [qsa, qsb, qsc]
        refine wpAnyT_done (by kernel_rfl) ?_ _
        clear hHeld hk1 o1 o2
        go_wp2_with fail
        go_ret
        exact ⟨by simp [Act.eval, go_sem], m, (HP.out.alloc _).drew, rfl, rfl, Below.drew ((Below.refl _ _).alloc hbw _)⟩
/-- One operation. -/
def PlD.act (d : PlD) (kd pn sn un tm : Int) : PlD :=
  if pn < 0 ∨ 3 ≤ pn ∨ sn < 0 ∨ (d.S.length : Int) ≤ sn then d else
  match d.P[pn.toNat]?, d.Q[pn.toNat]?, d.S[sn.toNat]? with
  | some p, some q, some s =>
    if kd = 0 then d.doLend pn.toNat sn.toNat p un else if kd = 1 then d.doPromise pn.toNat sn.toNat p q un tm else if kd = 2 then d.doCut pn.toNat p else if kd = 3 then d.join pn.toNat p q else if kd = 4 then d.doTake sn.toNat s un else d
  | _, _, _ => d
theorem pdo (B : Nat) (m : PlM) (w : World) (h : PlayAt B w m) (kd pn sn un tm : Int) (hok : ∀ i k p q s, m.d.P[i]? = some p → m.d.Q[i]? = some q → m.d.S[k]? = some s → ActOK m.d i k p q s ∧ JoinOK m.d i p q ∧ s.L.length * 24 ≤ 140737488355328) (hP : m.d.P.length = 3) (hQ : m.d.Q.length = 3) :
    Calls Try.prog 48 #[.pointer (some ⟨m.g, 0, none⟩), .agg #[.int .i64 kd, .int .i64 pn, .int .i64 sn, .int .i64 un, .int .i64 tm]] w fun e w' => e = .returned (.bool true) ∧ ∃ m' : PlM, PlayAt B w' m' ∧ m'.g = m.g ∧ m'.d = m.d.act kd pn sn un tm ∧ Below B w w' := by
  by_cases ho : pn < 0 ∨ 3 ≤ pn ∨ sn < 0 ∨ (m.d.S.length : Int) ≤ sn
  · unfold PlD.act
    rw [if_pos ho]
    exact pdo_out B m w h kd pn sn un tm (by simpa [PlM.d] using ho)
  · unfold PlD.act
    rw [if_neg ho]
    have h1 : ¬ pn < 0 := fun h => ho (.inl h)
    have h2 : ¬ 3 ≤ pn := fun h => ho (.inr (.inl h))
    have h3 : ¬ sn < 0 := fun h => ho (.inr (.inr (.inl h)))
    have h4 : ¬ (m.d.S.length : Int) ≤ sn := fun h => ho (.inr (.inr (.inr h)))
    obtain ⟨i, rfl⟩ := Int.eq_ofNat_of_zero_le (show 0 ≤ pn by omega)
    obtain ⟨k, rfl⟩ := Int.eq_ofNat_of_zero_le (show 0 ≤ sn by omega)
    simp only [Int.toNat_natCast]
    have hi : i < m.d.P.length := by omega
    have hq : i < m.d.Q.length := by omega
    have hk : k < m.d.S.length := by omega
    have e1 : m.d.P[i]? = some m.d.P[i] := List.getElem?_eq_getElem hi
    have e2 : m.d.Q[i]? = some m.d.Q[i] := List.getElem?_eq_getElem hq
    have e3 : m.d.S[k]? = some m.d.S[k] := List.getElem?_eq_getElem hk
    obtain ⟨ha, hj, hl⟩ := hok i k _ _ _ e1 e2 e3
    rw [e1, e2, e3]
    simp only
    by_cases k0 : kd = 0
    · subst k0; exact pdo_lend B m w h i k _ _ _ un tm ha
    rw [if_neg k0]
    by_cases k1 : kd = 1
    · subst k1; exact pdo_promise B m w h i k _ _ _ un tm ha
    rw [if_neg k1]
    by_cases k2 : kd = 2
    · subst k2; exact pdo_cut B m w h i k _ _ _ un tm ha
    rw [if_neg k2]
    by_cases k3 : kd = 3
    · subst k3; exact pdo_join B m w h i k _ _ _ un tm ha hj
    rw [if_neg k3]
    by_cases k4 : kd = 4
    · subst k4; exact pdo_take B m w h i k _ _ _ un tm ha hl
    rw [if_neg k4]
    exact pdo_none B m w h i k _ _ _ kd un tm ha (by omega)
end Go.Proofs.Ythnblhbdfpmolaa
