/- An operation of the play: a phone promises. -/
import Derived.Test.YthnblhbdfpmolaaPNotemxbh
namespace Go.Proofs.Ythnblhbdfpmolaa
open Go.RowKit
theorem promise_un {p : PhoneD} {k n t : Int} {tx : ByteArray} (h : (p.promise k n t tx).2 = 0) : 1 ≤ n ∧ n ≤ 1000000000000000 := by
  unfold PhoneD.promise at h
  split at h
  · rename_i h1
    simp only [okPro, Bool.and_eq_true, rngB_iff] at h1
    exact h1.2.1
  · cases h
set_option maxRecDepth 100000 in
set_option maxHeartbeats 4000000 in
theorem pdo_promise (B : Nat) (m : PlM) (w : World) (h : PlayAt B w m) (i k : Nat) (p : PhoneD) (q : List Int) (s : StockD) (un tm : Int) (ha : ActOK m.d i k p q s) :
    Calls Try.prog 48 #[.pointer (some ⟨m.g, 0, none⟩), .agg #[.int .i64 1, .int .i64 i, .int .i64 k, .int .i64 un, .int .i64 tm]] w fun e w' => e = .returned (.bool true) ∧ ∃ m' : PlM, PlayAt B w' m' ∧ m'.g = m.g ∧ m'.d = m.d.doPromise i k p q un tm ∧ Below B w w' := by
  have HP := Lib.hid h
  have HA := Lib.hid ha
  have hpl : m.P.l.length = 3 := by have := ha.lP; simpa [PlM.d] using this
  have hi3 : i < 3 := ha.i3
  have hip : i < m.P.l.length := by omega
  have hsl : m.S.l.length ≤ 3 := by have := ha.lS; simpa [PlM.d] using this
  have hks : k < m.S.l.length := by
    have := (List.getElem?_eq_some_iff.1 ha.S).1
    simpa [PlM.d] using this
  have hpd : m.P.l[i].d = p := by
    have := ha.P
    simp only [PlM.d, List.getElem?_map, List.getElem?_eq_getElem hip, Option.map_some, Option.some.injEq] at this
    exact this
  obtain ⟨pb, hPA, _, _, hcP, hfP⟩ := h.P.atk Phone.k (List.getElem?_eq_getElem hip)
  have hpr := h.rP m.P.l[i] (List.getElem_mem hip)
  obtain ⟨c0, c1, c2, c3, c4⟩ := hcP.c5
  obtain ⟨b0, b1, b2, b3, b4, b5, bf, bz⟩ := h.box.b6
  rw [hPA, hpl] at b0
  have hbw : B ≤ w.heap.size := Nat.le_trans h.lo (Nat.le_of_lt h.box.lt)
  clear h ha hcP hfP bf
  generalize m.P.l[i] = ph at *
  have HPD := Lib.hid hpd
  clear hpd
  obtain ⟨w0, hw0⟩ : ∃ x, x = World.drew (w.alloc (.cells #[.int .i64 1, .int .i64 i, .int .i64 k, .int .i64 un, .int .i64 tm] 89)) := ⟨_, rfl⟩
  obtain ⟨ob, hob⟩ : ∃ g, g = w.heap.size := ⟨_, rfl⟩
  have HP0 : Hid (PlayAt B w0 m) := Lib.hid (by rw [hw0]; exact (HP.out.alloc _).drew)
  have HOB : Hid (Blk w0 ob 89 #[.int .i64 1, .int .i64 i, .int .i64 k, .int .i64 un, .int .i64 tm]) := Lib.hid (by rw [hw0, hob]; exact (Blk.new _ _ _).drew)
  have HBW : Hid (Below w.heap.size w w0) := Lib.hid (by rw [hw0]; exact Below.drew ((Below.refl _ _).alloc (Nat.le_refl _) _))
  have HPH0 : Hid (RdPhone m.G w0 ph) := Lib.hid (hpr.keep fun b hb => HBW.out.block b (HP.out.G b hb).1)
  have hss : ∀ W, Below w0.heap.size w0 W → W.cell? ⟨m.g, 0, none⟩ = some (.slice (some ⟨pb, 0, none⟩) 3 m.P.c) ∧ W.cell? ⟨m.g, 1, none⟩ = some (.slice m.S.A m.S.l.length m.S.c) ∧ W.cell? ⟨pb, i * 5, none⟩ = some (.int .i64 ph.id) ∧ W.cell? ⟨pb, i * 5 + 1, none⟩ = some (.bool ph.cut) ∧ W.cell? ⟨pb, i * 5 + 2, none⟩ = some (.slice ph.H.A ph.H.l.length ph.H.c) ∧ W.cell? ⟨pb, i * 5 + 3, none⟩ = some (.slice ph.N.A ph.N.l.length ph.N.c) ∧ W.cell? ⟨pb, i * 5 + 4, none⟩ = some (.slice ph.S.A ph.S.l.length ph.S.c) ∧ W.cell? ⟨ob, 0, none⟩ = some (.int .i64 1) ∧ W.cell? ⟨ob, 1, none⟩ = some (.int .i64 i) ∧ W.cell? ⟨ob, 2, none⟩ = some (.int .i64 k) ∧ W.cell? ⟨ob, 3, none⟩ = some (.int .i64 un) ∧ W.cell? ⟨ob, 4, none⟩ = some (.int .i64 tm) := by
    intro W hW
    have ky : ∀ {a v}, w.cell? a = some v → W.cell? a = some v := fun h => keep_cell hW (keep_cell HBW.out h)
    have o := HOB.out.later hW
    exact ⟨ky b0, ky b1, ky c0, ky c1, ky c2, ky c3, ky c4, o.cell 0, o.cell 1, o.cell 2, o.cell 3, o.cell 4⟩
  have HSS := Lib.hid hss
  have hs0 := hss w0 (Below.refl _ _)
  clear hss b0 b1 b2 b3 b4 b5 bz c0 c1 c2 c3 c4 hpr
  have hi3' : (i : Int) < 3 := by omega
  have hks' : (k : Int) < (m.S.l.length : Int) := by omega
  have hn1 : decide ((i : Int) < 0) = false := by simp
  have hn2 : decide ((3 : Int) ≤ (i : Int)) = false := by simp; omega
  have hn3 : decide ((k : Int) < 0) = false := by simp
  have hn4 : decide ((m.S.l.length : Int) ≤ (k : Int)) = false := by simp; omega
  go_enter Try.func48, Try.ntmps48
  go_wp2_with fail
  rw [hw0, hob] at hs0
  refine wp_region_T (fun W => W.cell? ⟨m.g, 0, none⟩ = some (.slice (some ⟨pb, 0, none⟩) 3 m.P.c) ∧ W.cell? ⟨m.g, 1, none⟩ = some (.slice m.S.A m.S.l.length m.S.c) ∧ W.cell? ⟨pb, i * 5, none⟩ = some (.int .i64 ph.id) ∧ W.cell? ⟨pb, i * 5 + 1, none⟩ = some (.bool ph.cut) ∧ W.cell? ⟨pb, i * 5 + 2, none⟩ = some (.slice ph.H.A ph.H.l.length ph.H.c) ∧ W.cell? ⟨pb, i * 5 + 3, none⟩ = some (.slice ph.N.A ph.N.l.length ph.N.c) ∧ W.cell? ⟨pb, i * 5 + 4, none⟩ = some (.slice ph.S.A ph.S.l.length ph.S.c) ∧ W.cell? ⟨w.heap.size, 0, none⟩ = some (.int .i64 1) ∧ W.cell? ⟨w.heap.size, 1, none⟩ = some (.int .i64 i) ∧ W.cell? ⟨w.heap.size, 2, none⟩ = some (.int .i64 k) ∧ W.cell? ⟨w.heap.size, 3, none⟩ = some (.int .i64 un) ∧ W.cell? ⟨w.heap.size, 4, none⟩ = some (.int .i64 tm)) (fun _ => false) (by kernel_rfl) hs0 (fun hHeld => ?_)
  clear hs0
  rw [← hw0]
  rw [← hw0, ← hob] at hHeld
  rw [← hob]
  have hwob : w.heap.size ≤ ob := by omega
  clear hw0 hob
  refine qtq 0 ?_
  simp only [qsa, qsb, qsc]
  refine qtq 1 ?_
  simp only [qsa, qsb, qsc]
  refine wpAnyT_take2 (i := 2) (v := .bool false) rfl rfl (by kernel_rfl) (by kernel_rfl) (by kernel_rfl) (by kernel_rfl) (fun _ _ _ h => h) (Or.inl ⟨by rfl, ?_⟩) (by first | assumption | trivial) ?_
  · (intro w hSw; (try dsimp only at hSw); go_simp) <;> (first | (with_reducible rfl) | assumption | (simp; done) | (simp [*]; done) | (simp; omega))
  simp only [qsa, qsb, qsc]
  refine qtq 3 ?_
  simp only [qsa, qsb, qsc]
  refine qtq 4 ?_
  simp only [qsa, qsb, qsc]
  refine qtq 5 ?_
  simp only [qsa, qsb, qsc]
  refine wpAnyT_take2 (i := 6) (v := .bool false) rfl rfl (by kernel_rfl) (by kernel_rfl) (by kernel_rfl) (by kernel_rfl) (fun _ _ _ h => h) (Or.inl ⟨by rfl, ?_⟩) (by first | assumption | trivial) ?_
  · (intro w hSw; (try dsimp only at hSw); go_simp) <;> (first | (with_reducible rfl) | assumption | (simp; done) | (simp [*]; done) | (simp; omega))
  simp only [qsa, qsb, qsc]
  refine qtq 7 ?_
  simp only [qsa, qsb, qsc]
  refine qtq 8 ?_
  simp only [qsa, qsb, qsc]
  refine qtq 9 ?_
  simp only [qsa, qsb, qsc]
  refine qtq 10 ?_
  simp only [qsa, qsb, qsc]
  refine wpAnyT_take2 (i := 11) (v := .bool false) rfl rfl (by kernel_rfl) (by kernel_rfl) (by kernel_rfl) (by kernel_rfl) (fun _ _ _ h => h) (Or.inl ⟨by rfl, ?_⟩) (by first | assumption | trivial) ?_
  · (intro w hSw; (try dsimp only at hSw); go_simp) <;> (first | (with_reducible rfl) | assumption | (simp; done) | (simp [*]; done) | (simp; omega))
  simp only [qsa, qsb, qsc]
  refine qtq 12 ?_
  simp only [qsa, qsb, qsc]
  refine qtq 13 ?_
  simp only [qsa, qsb, qsc]
  refine qtq 14 ?_
  simp only [qsa, qsb, qsc]
  refine qtq 15 ?_
  simp only [qsa, qsb, qsc]
  refine qtq 16 ?_
  simp only [qsa, qsb, qsc]
  refine qtq 17 ?_
  simp only [qsa, qsb, qsc]
  refine qtq 18 ?_
  simp only [qsa, qsb, qsc]
  refine qtq 19 ?_
  simp only [qsa, qsb, qsc]
  refine qtq 20 ?_
  simp only [qsa, qsb, qsc]
  refine wpAnyT_take2 (i := 21) (v := .bool false) rfl rfl (by kernel_rfl) (by kernel_rfl) (by kernel_rfl) (by kernel_rfl) (fun _ _ _ h => h) (Or.inl ⟨by rfl, ?_⟩) (by first | assumption | trivial) ?_
  · (intro w hSw; (try dsimp only at hSw); go_simp) <;> (first | (with_reducible rfl) | assumption | (simp; done) | (simp [*]; done) | (simp; omega))
  simp only [qsa, qsb, qsc]
  refine qtq 22 ?_
  simp only [qsa, qsb, qsc]
  refine wpAnyT_done (by kernel_rfl) ?_ _
  obtain ⟨y0, y1, y2, y3, y4, y5, y6, o0, o1, o2, o3, o4⟩ := hHeld
  go_wp2_with fail
  clear y0 y1 y2 y3 y4 y5 y6 o0 o1 o2 o3 o4
  clear hn1 hn2 hn3 hn4
  obtain ⟨rr, hr⟩ : ∃ r, r = p.promise k un tm nB := ⟨_, rfl⟩
  obtain ⟨rp, rE⟩ := rr
  have HRR := Lib.hid hr
  clear hr
  refine wp_region_T (fun W => W.cell? ⟨m.g, 0, none⟩ = some (.slice (some ⟨pb, 0, none⟩) 3 m.P.c) ∧ W.cell? ⟨m.g, 1, none⟩ = some (.slice m.S.A m.S.l.length m.S.c) ∧ W.cell? ⟨pb, i * 5, none⟩ = some (.int .i64 ph.id) ∧ W.cell? ⟨pb, i * 5 + 1, none⟩ = some (.bool ph.cut) ∧ W.cell? ⟨pb, i * 5 + 2, none⟩ = some (.slice ph.H.A ph.H.l.length ph.H.c) ∧ W.cell? ⟨pb, i * 5 + 3, none⟩ = some (.slice ph.N.A ph.N.l.length ph.N.c) ∧ W.cell? ⟨pb, i * 5 + 4, none⟩ = some (.slice ph.S.A ph.S.l.length ph.S.c) ∧ W.cell? ⟨ob, 0, none⟩ = some (.int .i64 1) ∧ W.cell? ⟨ob, 1, none⟩ = some (.int .i64 i) ∧ W.cell? ⟨ob, 2, none⟩ = some (.int .i64 k) ∧ W.cell? ⟨ob, 3, none⟩ = some (.int .i64 un) ∧ W.cell? ⟨ob, 4, none⟩ = some (.int .i64 tm)) (fun _ => false) (by kernel_rfl) (HSS.out _ (Below.drew (Below.refl _ _))) (fun hHeld => ?_)
  obtain ⟨W, hW⟩ : ∃ x, x = World.drew w0 := ⟨_, rfl⟩
  have FK : Hid (Below w0.heap.size w0 W) := Lib.hid (by rw [hW]; exact Below.drew (Below.refl _ _))
  rw [← hW] at hHeld ⊢
  clear hW
  refine qtq 0 ?_
  simp only [qsa, qsb, qsc]
  refine qtq 1 ?_
  simp only [qsa, qsb, qsc]
  refine qtq 2 ?_
  simp only [qsa, qsb, qsc]
  refine qtq 3 ?_
  simp only [qsa, qsb, qsc]
  refine qtq 4 ?_
  simp only [qsa, qsb, qsc]
  refine qtq 5 ?_
  simp only [qsa, qsb, qsc]
  refine qtq 6 ?_
  simp only [qsa, qsb, qsc]
  refine qtq 7 ?_
  simp only [qsa, qsb, qsc]
  refine qtq 8 ?_
  simp only [qsa, qsb, qsc]
  refine qtq 9 ?_
  simp only [qsa, qsb, qsc]
  refine qtq 10 ?_
  simp only [qsa, qsb, qsc]
  refine qtq 11 ?_
  simp only [qsa, qsb, qsc]
  refine qtq 12 ?_
  simp only [qsa, qsb, qsc]
  refine qtq 13 ?_
  simp only [qsa, qsb, qsc]
  clear hHeld
  apply cutP
  · intro fin0
    have FIN := Lib.hid fin0
    clear fin0
    refine wpAnyT_two (i := 14) (j := 18) (by kernel_rfl) rfl rfl ?_ ?_
    · skip
      go_wp2_with fail
      refine (phone_promise_s ph k un tm nB W ((HPH0.out.mono (G := fun b => b < w0.heap.size) (fun b hb => (HP0.out.G b hb).1)).later FK.out (Nat.le_refl _))).mono ?_
      rintro e W2 ⟨p', rfl, hdj, hjr, hb⟩
      have hJ : ph.d.promise k un tm nB = (rp, rE) := by rw [HRR.out, ← HPD.out]
      rw [hJ] at hdj
      rw [hJ]
      simp only at hdj
      have DJ := Lib.hid hdj
      have hk : Below w0.heap.size w0 W2 := FK.out.trans (hb.mono FK.out.size)
      have JQ := Lib.hid (And.intro FK.out.size (PR0.of (m := m) (fun b hG => Nat.lt_of_lt_of_le (HP0.out.G b hG).1 FK.out.size) hb (HPH0.out.keep fun b hG => FK.out.block b (HP0.out.G b hG).1) hjr.out))
      skip
      try replace FX := Lib.hid (FX.out.later hb)
      clear hdj hjr hJ hb
      obtain ⟨W, hW⟩ : ∃ x, x = W2 := ⟨_, rfl⟩
      subst hW
      have FK := Lib.hid hk
      clear hk
      simp only [Phone.v]
      go_wp2_with fail
      refine And.intro ?_ ?_
      · first
        | exact HSS.out _ FK.out
        | exact fun _ => HSS.out _ FK.out
      have hHeld := HSS.out _ FK.out
      refine qtq 15 ?_
      simp only [qsa, qsb, qsc]
      refine qtq 16 ?_
      simp only [qsa, qsb, qsc]
      refine qtq 17 ?_
      simp only [qsa, qsb, qsc]
      clear hHeld
      refine wpAnyT_next (i := 18) (by kernel_rfl) rfl ?_
      go_wp2_with fail
      have hk : Below w0.heap.size w0 (W.alloc (.cells #[.int .i64 0, .bool false, .slice none 0 0, .slice none 0 0, .slice none 0 0] 33)) := FK.out.alloc FK.out.size _
      have hx : Blk (W.alloc (.cells #[.int .i64 0, .bool false, .slice none 0 0, .slice none 0 0, .slice none 0 0] 33)) W.heap.size 33 #[.int .i64 0, .bool false, .slice none 0 0, .slice none 0 0, .slice none 0 0] := Blk.new _ _ _
      have hg : w0.heap.size ≤ W.heap.size := FK.out.size
      have jr := PRes.a (m := m) (n := w0.heap.size) (fun b hG => Nat.lt_of_lt_of_le (HP0.out.G b hG).1 FK.out.size) JQ.out.1 JQ.out.2 (.cells #[.int .i64 0, .bool false, .slice none 0 0, .slice none 0 0, .slice none 0 0] 33)
      generalize W.heap.size = gx at hx hg jr ⊢
      generalize W.alloc (.cells #[.int .i64 0, .bool false, .slice none 0 0, .slice none 0 0, .slice none 0 0] 33) = W2 at hk hx jr ⊢
      obtain ⟨W, hW⟩ : ∃ x, x = W2 := ⟨_, rfl⟩
      subst hW
      have FK := Lib.hid hk
      have FX := Lib.hid hx
      have FG := Lib.hid hg
      have JR := Lib.hid jr
      clear hk hx hg
      refine And.intro ?_ ?_
      · first
        | exact HSS.out _ FK.out
        | exact fun _ => HSS.out _ FK.out
      have ALL := Lib.hid (And.intro JR.out (And.intro DJ.out (And.intro FX.out (And.intro FG.out FK.out))))
      clear JR DJ FX FG FK JQ
      try clear jr
      revert ALL
      revert W
      revert p'
      revert gx
      exact FIN.out
    · skip
      go_wp2_with fail
      have hk : Below w0.heap.size w0 (W.alloc (.cells #[.int .i64 0, .bool false, .slice none 0 0, .slice none 0 0, .slice none 0 0] 33)) := FK.out.alloc FK.out.size _
      have hx : Blk (W.alloc (.cells #[.int .i64 0, .bool false, .slice none 0 0, .slice none 0 0, .slice none 0 0] 33)) W.heap.size 33 #[.int .i64 0, .bool false, .slice none 0 0, .slice none 0 0, .slice none 0 0] := Blk.new _ _ _
      have hg : w0.heap.size ≤ W.heap.size := FK.out.size
      skip
      generalize W.heap.size = gx at hx hg  ⊢
      generalize W.alloc (.cells #[.int .i64 0, .bool false, .slice none 0 0, .slice none 0 0, .slice none 0 0] 33) = W2 at hk hx  ⊢
      obtain ⟨W, hW⟩ : ∃ x, x = W2 := ⟨_, rfl⟩
      subst hW
      have FK := Lib.hid hk
      have FX := Lib.hid hx
      have FG := Lib.hid hg
      skip
      clear hk hx hg
      refine And.intro ?_ ?_
      · first
        | exact HSS.out _ FK.out
        | exact fun _ => HSS.out _ FK.out
      refine wpAnyT_next (i := 14) (by kernel_rfl) rfl ?_
      go_wp2_with fail
      refine (phone_promise_s ph k un tm nB W ((HPH0.out.mono (G := fun b => b < w0.heap.size) (fun b hb => (HP0.out.G b hb).1)).later FK.out (Nat.le_refl _))).mono ?_
      rintro e W2 ⟨p', rfl, hdj, hjr, hb⟩
      have hJ : ph.d.promise k un tm nB = (rp, rE) := by rw [HRR.out, ← HPD.out]
      rw [hJ] at hdj
      rw [hJ]
      simp only at hdj
      have DJ := Lib.hid hdj
      have hk : Below w0.heap.size w0 W2 := FK.out.trans (hb.mono FK.out.size)
      have JQ := Lib.hid (And.intro FK.out.size (PR0.of (m := m) (fun b hG => Nat.lt_of_lt_of_le (HP0.out.G b hG).1 FK.out.size) hb (HPH0.out.keep fun b hG => FK.out.block b (HP0.out.G b hG).1) hjr.out))
      have JR := Lib.hid (PRes.b (m := m) (n := w0.heap.size) (gx := gx) JQ.out.1 FX.out.lt JQ.out.2)
      try replace FX := Lib.hid (FX.out.later hb)
      clear hdj hjr hJ hb
      obtain ⟨W, hW⟩ : ∃ x, x = W2 := ⟨_, rfl⟩
      subst hW
      have FK := Lib.hid hk
      clear hk
      simp only [Phone.v]
      go_wp2_with fail
      refine And.intro ?_ ?_
      · first
        | exact HSS.out _ FK.out
        | exact fun _ => HSS.out _ FK.out
      have hHeld := HSS.out _ FK.out
      refine qtq 15 ?_
      simp only [qsa, qsb, qsc]
      refine qtq 16 ?_
      simp only [qsa, qsb, qsc]
      refine qtq 17 ?_
      simp only [qsa, qsb, qsc]
      clear hHeld
      have ALL := Lib.hid (And.intro JR.out (And.intro DJ.out (And.intro FX.out (And.intro FG.out FK.out))))
      exact wpAnyT_listed (by kernel_rfl) (FIN.out gx p' W ALL)
  · skip
    intro gx p' W ALL
    obtain ⟨hjr, hdj, hfx, hfg, hfk⟩ := ALL.out
    clear ALL
    have HJR := Lib.hid hjr
    have HDJ := Lib.hid hdj
    clear hjr hdj
    obtain ⟨x0, x1, x2, x3, x4, xf, xz⟩ := hfx.b5
    have hbV : ∀ v0 v1 v2 v3 v4 : Value, Below w0.heap.size w0 (((((W.setCell ⟨gx, 0, none⟩ v0).setCell ⟨gx, 1, none⟩ v1).setCell ⟨gx, 2, none⟩ v2).setCell ⟨gx, 3, none⟩ v3).setCell ⟨gx, 4, none⟩ v4) := fun v0 v1 v2 v3 v4 => ((((hfk.setCell hfg v0).setCell hfg v1).setCell hfg v2).setCell hfg v3).setCell hfg v4
    have hkV : ∀ v0 v1 v2 v3 v4 : Value, ∀ b, b ≠ gx → (((((W.setCell ⟨gx, 0, none⟩ v0).setCell ⟨gx, 1, none⟩ v1).setCell ⟨gx, 2, none⟩ v2).setCell ⟨gx, 3, none⟩ v3).setCell ⟨gx, 4, none⟩ v4).heap[b]? = W.heap[b]? := fun v0 v1 v2 v3 v4 b hne => by
      rw [Below.heap_setCell _ _ _ _ hne, Below.heap_setCell _ _ _ _ hne, Below.heap_setCell _ _ _ _ hne, Below.heap_setCell _ _ _ _ hne, Below.heap_setCell _ _ _ _ hne]
    have hxV : ∀ v0 v1 v2 v3 v4 : Value, Blk (((((W.setCell ⟨gx, 0, none⟩ v0).setCell ⟨gx, 1, none⟩ v1).setCell ⟨gx, 2, none⟩ v2).setCell ⟨gx, 3, none⟩ v3).setCell ⟨gx, 4, none⟩ v4) gx 33 #[v0, v1, v2, v3, v4] := fun v0 v1 v2 v3 v4 => ((((hfx.set_ 0 v0).set_ 1 v1).set_ 2 v2).set_ 3 v3).set_ 4 v4
    have HBV := Lib.hid hbV
    have HKV := Lib.hid hkV
    have HXV := Lib.hid hxV
    have HFG := Lib.hid hfg
    clear hbV hkV hxV hfx hfk
    refine wpAnyT_next (i := 19) (by kernel_rfl) rfl ?_
    go_wp2_with fail
    have hHeld := HSS.out _ (HBV.out (.int .i64 p'.id) (.bool p'.cut) (.slice p'.H.A p'.H.l.length p'.H.c) (.slice p'.N.A p'.N.l.length p'.N.c) (.slice p'.S.A p'.S.l.length p'.S.c))
    refine And.intro ?_ ?_
    · first
      | exact hHeld
      | exact fun _ => hHeld
    refine qtq 20 ?_
    simp only [qsa, qsb, qsc]
    refine wpAnyT_done (by kernel_rfl) ?_ _
    clear hHeld x0 x1 x2 x3 x4 xf xz
    have hnx : ∀ V, V = (((((W.setCell ⟨gx, 0, none⟩ (.int .i64 p'.id)).setCell ⟨gx, 1, none⟩ (.bool p'.cut)).setCell ⟨gx, 2, none⟩ (.slice p'.H.A p'.H.l.length p'.H.c)).setCell ⟨gx, 3, none⟩ (.slice p'.N.A p'.N.l.length p'.N.c)).setCell ⟨gx, 4, none⟩ (.slice p'.S.A p'.S.l.length p'.S.c)) → Below w0.heap.size w0 V ∧ V.heap.size = W.heap.size ∧ (∀ b, b ≠ gx → V.heap[b]? = W.heap[b]?) ∧ Blk V gx 33 #[.int .i64 p'.id, .bool p'.cut, .slice p'.H.A p'.H.l.length p'.H.c, .slice p'.N.A p'.N.l.length p'.N.c, .slice p'.S.A p'.S.l.length p'.S.c] := by
      rintro V rfl
      exact ⟨HBV.out _ _ _ _ _, by simp, HKV.out _ _ _ _ _, HXV.out _ _ _ _ _⟩
    obtain ⟨V, hV⟩ : ∃ V, V = (((((W.setCell ⟨gx, 0, none⟩ (.int .i64 p'.id)).setCell ⟨gx, 1, none⟩ (.bool p'.cut)).setCell ⟨gx, 2, none⟩ (.slice p'.H.A p'.H.l.length p'.H.c)).setCell ⟨gx, 3, none⟩ (.slice p'.N.A p'.N.l.length p'.N.c)).setCell ⟨gx, 4, none⟩ (.slice p'.S.A p'.S.l.length p'.S.c)) := ⟨_, rfl⟩
    obtain ⟨v1, vs, vk, v3⟩ := hnx V hV
    rw [← hV]
    have VB := Lib.hid v1
    have VX := Lib.hid v3
    clear hnx hV v1 v3 HBV HKV HXV
    have hgG : ∀ b, m.G b → b ≠ gx := fun b hG => by
      have := (HP0.out.G b hG).1
      have := HFG.out
      omega
    have hres := HJR.out.keep hgG vs vk
    have hpv := HP0.out.more VB.out (fun b => b ≠ gx)
    obtain ⟨G1, hG1⟩ : ∃ G1 : Nat → Prop, G1 = fun b => m.G b ∨ (w0.heap.size ≤ b ∧ b < V.heap.size ∧ b ≠ gx) := ⟨_, rfl⟩
    unfold PRes at hres
    rw [← hG1] at hpv hres
    have HPV := Lib.hid hpv
    have HPHV := Lib.hid hres
    have HBV : Hid (Below B w V) := Lib.hid ((HBW.out.mono hbw).trans (VB.out.mono (Nat.le_trans hbw HBW.out.size)))
    clear hG1 hgG hres hpv vs vk HJR
    clear W
    by_cases hE : rE = 0
    · subst hE
      have hun := promise_un (p := p) (k := k) (n := un) (t := tm) (tx := nB) (by rw [← HRR.out])
      go_wp2_with fail
      have hob1 := VX.out.h5p
      have hss := HSS.out V VB.out
      obtain ⟨pb', hPA', _, _, hcP', hfP'⟩ := HPV.out.P.atk Phone.k (i := i) (x := m.P.l[i]) (List.getElem?_eq_getElem hip)
      obtain rfl : pb' = pb := by
        have h1 : m.P.A = some ⟨pb', 0, none⟩ := hPA'
        rw [hPA] at h1
        injection h1 with h1
        injection h1 with h1
        exact h1.symm
      obtain ⟨k0, k1, k2, k3, k4⟩ := hcP'.c5
      have hb0 := hss.1
      have ho1 := hss.2.2.2.2.2.2.2.2.1
      clear hcP' hPA' hss
      refine wp_region_T (fun W => W.cell? ⟨m.g, 0, none⟩ = some (.slice (some ⟨pb', 0, none⟩) 3 m.P.c) ∧ W.cell? ⟨ob, 1, none⟩ = some (.int .i64 i) ∧ W.cell? ⟨gx, 0, none⟩ = some (.int .i64 p'.id) ∧ W.cell? ⟨gx, 1, none⟩ = some (.bool p'.cut) ∧ W.cell? ⟨gx, 2, none⟩ = some (.slice p'.H.A p'.H.l.length p'.H.c) ∧ W.cell? ⟨gx, 3, none⟩ = some (.slice p'.N.A p'.N.l.length p'.N.c) ∧ W.cell? ⟨gx, 4, none⟩ = some (.slice p'.S.A p'.S.l.length p'.S.c)) (fun i => 8 ≤ i) (by kernel_rfl) ⟨hb0, ho1, hob1⟩ (fun hHeld => ?_)
      refine qtq 0 ?_
      simp only [qsa, qsb, qsc]
      refine qtq 1 ?_
      simp only [qsa, qsb, qsc]
      refine qtq 2 ?_
      simp only [qsa, qsb, qsc]
      refine qtq 3 ?_
      simp only [qsa, qsb, qsc]
      refine qtq 4 ?_
      simp only [qsa, qsb, qsc]
      refine qtq 5 ?_
      simp only [qsa, qsb, qsc]
      refine qtq 6 ?_
      simp only [qsa, qsb, qsc]
      refine qtq 7 ?_
      simp only [qsa, qsb, qsc]
      clear hHeld
      refine wpAnyT_next (i := 8) (by kernel_rfl) rfl ?_
      go_wp2_with fail
      try simp only [QT]
      try (with_reducible refine And.intro (fun h => by simp at h) ?_)
      refine wpAnyT_done (by kernel_rfl) ?_ _
      clear k0 k1 k2 k3 k4 hfP' hb0 ho1 hob1
      have hp4 := HPV.out.stP (b := pb') (w' := (((((V.setCell ⟨pb', i * 5, none⟩ (.int .i64 p'.id)).setCell ⟨pb', i * 5 + 1, none⟩ (.bool p'.cut)).setCell ⟨pb', i * 5 + 2, none⟩ (.slice p'.H.A p'.H.l.length p'.H.c)).setCell ⟨pb', i * 5 + 3, none⟩ (.slice p'.N.A p'.N.l.length p'.N.c)).setCell ⟨pb', i * 5 + 4, none⟩ (.slice p'.S.A p'.S.l.length p'.S.c))) hPA (by simp) (pst_off _ _ _ _) (l := m.P.l.set i p') (by simp) (by
        have hq := HPV.out.P
        unfold Own at hq
        rw [show ({ m with G := G1 } : PlM).P.A = some ⟨pb', 0, none⟩ from hPA] at hq ⊢
        exact Own.setPhone (B := B) (w := V) (l := m.P.l) hq p' (List.getElem?_eq_getElem hip)) (fun y hy => by
        rcases List.mem_or_eq_of_mem_set hy with hy | rfl
        · exact HPV.out.rP y hy
        · exact HPHV.out)
      have hB4 : Below B w (((((V.setCell ⟨pb', i * 5, none⟩ (.int .i64 p'.id)).setCell ⟨pb', i * 5 + 1, none⟩ (.bool p'.cut)).setCell ⟨pb', i * 5 + 2, none⟩ (.slice p'.H.A p'.H.l.length p'.H.c)).setCell ⟨pb', i * 5 + 3, none⟩ (.slice p'.N.A p'.N.l.length p'.N.c)).setCell ⟨pb', i * 5 + 4, none⟩ (.slice p'.S.A p'.S.l.length p'.S.c)) := by
        have hpB : B ≤ pb' := (HP0.out.rb (i := 1) hPA).2
        exact ((((HBV.out.setCell hpB _).setCell hpB _).setCell hpB _).setCell hpB _).setCell hpB _
      have HP4 := Lib.hid hp4.drew
      have HB4 := Lib.hid (Below.drew hB4)
      have hne : ob ≠ pb' := by
        have := (HP.out.rb (i := 1) hPA).1
        simp only at this
        omega
      have ho4 : Blk (World.drew (((((V.setCell ⟨pb', i * 5, none⟩ (.int .i64 p'.id)).setCell ⟨pb', i * 5 + 1, none⟩ (.bool p'.cut)).setCell ⟨pb', i * 5 + 2, none⟩ (.slice p'.H.A p'.H.l.length p'.H.c)).setCell ⟨pb', i * 5 + 3, none⟩ (.slice p'.N.A p'.N.l.length p'.N.c)).setCell ⟨pb', i * 5 + 4, none⟩ (.slice p'.S.A p'.S.l.length p'.S.c))) ob 89 #[.int .i64 1, .int .i64 i, .int .i64 k, .int .i64 un, .int .i64 tm] := (pst_off V pb' i p' ob hne).trans (HOB.out.later VB.out)
      clear hp4 hB4
      generalize World.drew (((((V.setCell ⟨pb', i * 5, none⟩ (.int .i64 p'.id)).setCell ⟨pb', i * 5 + 1, none⟩ (.bool p'.cut)).setCell ⟨pb', i * 5 + 2, none⟩ (.slice p'.H.A p'.H.l.length p'.H.c)).setCell ⟨pb', i * 5 + 3, none⟩ (.slice p'.N.A p'.N.l.length p'.N.c)).setCell ⟨pb', i * 5 + 4, none⟩ (.slice p'.S.A p'.S.l.length p'.S.c)) = V4 at *
      obtain ⟨o0, o1, o2, o3, o4, of, oz⟩ := ho4.b5
      have hqi : i < m.Q.l.length := by
        have := (List.getElem?_eq_some_iff.1 HA.out.Q).1
        simpa [PlM.d] using this
      have hq3 : m.Q.l.length = 3 := by have := HA.out.lQ; simpa [PlM.d] using this
      have hyl : m.Q.l[i].l = q := by
        have := HA.out.Q
        simp only [PlM.d, List.getElem?_map, List.getElem?_eq_getElem hqi, Option.map_some, Option.some.injEq] at this
        exact this
      have hql : q.length = m.S.l.length := by have := HA.out.lq; simpa [PlM.d] using this
      have hkq : k < q.length := by omega
      have hky : k < m.Q.l[i].l.length := by rw [hyl]; exact hkq
      have hqv : m.Q.l[i].l[k] = q.getD k 0 := by simp only [hyl]; rw [getD_at hkq]
      have hbq := HA.out.bq k
      have hny : m.Q.l[i].l.length = m.S.l.length := by rw [hyl]; exact hql
      obtain ⟨b0, b1, b2, b3, b4, b5, bf, bz⟩ := HP4.out.box.b6
      obtain ⟨gq, hQA, _, _, hcQ, _⟩ := HP4.out.Q.atk qenc_k (i := i) (x := m.Q.l[i]) (List.getElem?_eq_getElem hqi)
      obtain ⟨gy, hyA, _, _, hcy, hfy⟩ := (HP4.out.q m.Q.l[i] (List.getElem_mem hqi)).atk ienc_k (i := k) (x := m.Q.l[i].l[k]) (List.getElem?_eq_getElem hky)
      have cq := hcQ.c1
      have cy := hcy.c1
      simp only [Nat.mul_one] at cq cy b4
      rw [hyA, hny] at cq
      rw [hqv] at cy
      have hf := hfy k
      rw [show m.Q.A = some ⟨gq, 0, none⟩ from hQA, hq3] at b4
      have hw1 : IntKind.i64.wrap (q.getD k 0 + un) = q.getD k 0 + un := by rw [IntKind.wrap_i64]; omega
      have hst := HP4.out.stq hqi hyA (w' := V4.setCell ⟨gy, k, none⟩ (.int .i64 (q.getD k 0 + un))) (by simp) (fun c hc => setCell_off _ ⟨gy, k, none⟩ _ c hc) (l := m.Q.l[i].l.set k (q.getD k 0 + un)) (by simp) (by
        have h1 := (HP4.out.q m.Q.l[i] (List.getElem_mem hqi)).set ienc_k hyA (List.getElem?_eq_getElem hky) (j := 0) (y := q.getD k 0 + un) (u := .int .i64 (q.getD k 0 + un)) (by omega) rfl
        simp only [Nat.mul_one, Nat.add_zero] at h1
        exact h1)
      rw [hyl] at hst
      have hBy : B ≤ gy := (HP4.out.qb (List.getElem_mem hqi) hyA).2
      have HP5 := Lib.hid hst.drew
      have HB5 := Lib.hid (Below.drew (HB4.out.setCell (p := ⟨gy, k, none⟩) hBy (.int .i64 (q.getD k 0 + un))))
      have hdd : PlM.d { m with G := G1, P := ⟨m.P.A, m.P.c, m.P.l.set i p'⟩, Q := ⟨m.Q.A, m.Q.c, m.Q.l.set i ⟨m.Q.l[i].A, m.Q.l[i].c, q.set k (q.getD k 0 + un)⟩⟩ } = m.d.doPromise i k p q un tm := by
        unfold PlD.doPromise
        rw [← HRR.out, if_pos rfl]
        simp only [PlM.d, List.map_set, HDJ.out]
      have HDD := Lib.hid hdd
      have HYL := Lib.hid hyl
      clear hst hdd hcQ hcy hyl hqv hbq hny hfy hQA ho4
      generalize q.getD k 0 = qv at *
      go_wp2_with fail
      refine wp_region_T (fun W => W.cell? ⟨m.g, 4, none⟩ = some (.slice (some ⟨gq, 0, none⟩) 3 m.Q.c) ∧ W.cell? ⟨gq, i, none⟩ = some (.slice (some ⟨gy, 0, none⟩) m.S.l.length m.Q.l[i].c) ∧ W.cell? ⟨gy, k, none⟩ = some (.int .i64 qv) ∧ W.cell? ⟨ob, 1, none⟩ = some (.int .i64 i) ∧ W.cell? ⟨ob, 2, none⟩ = some (.int .i64 k) ∧ W.cell? ⟨ob, 3, none⟩ = some (.int .i64 un)) (fun i => 26 ≤ i) (by kernel_rfl) ⟨b4, cq, cy, o1, o2, o3⟩ (fun hHeld => ?_)
      refine qtq 0 ?_
      simp only [qsa, qsb, qsc]
      refine qtq 1 ?_
      simp only [qsa, qsb, qsc]
      refine qtq 2 ?_
      simp only [qsa, qsb, qsc]
      refine qtq 3 ?_
      simp only [qsa, qsb, qsc]
      refine qtq 4 ?_
      simp only [qsa, qsb, qsc]
      refine qtq 5 ?_
      simp only [qsa, qsb, qsc]
      refine qtq 6 ?_
      simp only [qsa, qsb, qsc]
      refine qtq 7 ?_
      simp only [qsa, qsb, qsc]
      refine qtq 8 ?_
      simp only [qsa, qsb, qsc]
      refine qtq 9 ?_
      simp only [qsa, qsb, qsc]
      refine qtq 10 ?_
      simp only [qsa, qsb, qsc]
      refine qtq 11 ?_
      simp only [qsa, qsb, qsc]
      refine qtq 12 ?_
      simp only [qsa, qsb, qsc]
      refine qtq 13 ?_
      simp only [qsa, qsb, qsc]
      refine qtq 14 ?_
      simp only [qsa, qsb, qsc]
      refine qtq 15 ?_
      simp only [qsa, qsb, qsc]
      refine qtq 16 ?_
      simp only [qsa, qsb, qsc]
      refine qtq 17 ?_
      simp only [qsa, qsb, qsc]
      refine qtq 18 ?_
      simp only [qsa, qsb, qsc]
      refine qtq 19 ?_
      simp only [qsa, qsb, qsc]
      refine qtq 20 ?_
      simp only [qsa, qsb, qsc]
      refine qtq 21 ?_
      simp only [qsa, qsb, qsc]
      refine qtq 22 ?_
      simp only [qsa, qsb, qsc]
      refine qtq 23 ?_
      simp only [qsa, qsb, qsc]
      refine qtq 24 ?_
      simp only [qsa, qsb, qsc]
      refine qtq 25 ?_
      simp only [qsa, qsb, qsc]
      clear hHeld
      refine wpAnyT_next (i := 26) (by kernel_rfl) rfl ?_
      go_wp2_with fail
      try simp only [QT]
      try (with_reducible refine And.intro (fun h => by simp at h) ?_)
      refine wpAnyT_done (by kernel_rfl) ?_ _
      clear b0 b1 b2 b3 b4 b5 bf bz cq cy hf o0 o1 o2 o3 o4 of oz
      generalize World.drew (V4.setCell ⟨gy, k, none⟩ (.int .i64 (qv + un))) = V5 at *
      go_wp2_with fail
      go_ret
      exact ⟨by simp [Act.eval, go_sem], _, HP5.out, rfl, HDD.out, HB5.out⟩
    · have e1 : (rE == 0) = false := by simp [hE]
      have hdd : ({ m with G := G1 } : PlM).d = m.d.doPromise i k p q un tm := by
        unfold PlD.doPromise
        rw [← HRR.out, if_neg hE]
        rfl
      have HDD := Lib.hid hdd
      clear hdd hE
      go_wp2_with fail
      go_ret
      exact ⟨by simp [Act.eval, go_sem], _, HPV.out, rfl, HDD.out, HBV.out⟩
end Go.Proofs.Ythnblhbdfpmolaa
