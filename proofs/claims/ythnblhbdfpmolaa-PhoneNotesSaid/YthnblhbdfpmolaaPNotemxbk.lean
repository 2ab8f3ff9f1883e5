/- An operation of the play: the site takes of a stock. -/
import Derived.Test.YthnblhbdfpmolaaPNotemxbh
namespace Go.Proofs.Ythnblhbdfpmolaa
open Go.RowKit
def PlD.doTake (d : PlD) (k : Nat) (s : StockD) (un : Int) : PlD :=
  if (s.take un).2 = 0 then { d with S := d.S.set k (s.take un).1, T := d.T.set k (d.T.getD k 0 + un) } else d
theorem take_TL (x : StockD) (n : Int) : (x.take n).1 = ⟨x.T, (x.take n).1.U, x.L⟩ := by
  unfold StockD.take
  split
  · split <;> rfl
  · rfl
theorem take_un {x : StockD} {n : Int} (h : (x.take n).2 = 0) : 1 ≤ n ∧ n ≤ 1000000000000000 := by
  unfold StockD.take at h
  split at h
  · rename_i h1; have := StockD.fits_iff h1; exact this.2.2.2
  · cases h
theorem Own.setStock {B g c : Nat} {w : World} {l : List Stock} (h : Own B 66 3 Stock.enc w ⟨some ⟨g, 0, none⟩, c, l⟩) {k : Nat} {x : Stock} (T U : Int) (L : Sl Loan) (hx : l[k]? = some x) : Own B 66 3 Stock.enc (((w.setCell ⟨g, k * 3, none⟩ (.int .i64 (T))).setCell ⟨g, k * 3 + 1, none⟩ (.int .i64 (U))).setCell ⟨g, k * 3 + 2, none⟩ (.slice L.A L.l.length L.c)) ⟨some ⟨g, 0, none⟩, c, l.set k ⟨T, U, L⟩⟩ := by
  have hi : k < l.length := (List.getElem?_eq_some_iff.1 hx).1
  have h0 := h.set Stock.k rfl hx (j := 0) (y := ⟨T, x.U, x.L⟩) (u := .int .i64 T) (by omega) rfl
  have h1 := h0.set Stock.k rfl (i := k) (x := ⟨T, x.U, x.L⟩) (by simp only [List.getElem?_set_self hi]) (j := 1) (y := ⟨T, U, x.L⟩) (u := .int .i64 U) (by omega) rfl
  have h2 := h1.set Stock.k rfl (i := k) (x := ⟨T, U, x.L⟩) (by simp only [List.set_set, List.getElem?_set_self hi]) (j := 2) (y := ⟨T, U, L⟩) (u := .slice L.A L.l.length L.c) (by omega) rfl
  simp only [List.set_set, Nat.add_zero] at h2
  exact h2
theorem sst_off (w : World) (g k : Nat) (T U : Int) (L : Sl Loan) : ∀ c, c ≠ g → (((w.setCell ⟨g, k * 3, none⟩ (.int .i64 (T))).setCell ⟨g, k * 3 + 1, none⟩ (.int .i64 (U))).setCell ⟨g, k * 3 + 2, none⟩ (.slice L.A L.l.length L.c)).heap[c]? = w.heap[c]? := fun c hne => by
  rw [Below.heap_setCell _ _ _ _ hne, Below.heap_setCell _ _ _ _ hne, Below.heap_setCell _ _ _ _ hne]
theorem TRes.a {n lo : Nat} {W : World} {L : Sl Loan} (hlo : n ≤ lo) (h : Rd (fun b => lo ≤ b ∧ b < W.heap.size) 3 Loan.enc W L) (o : Obj) : Rd (fun b => n ≤ b ∧ b < (W.alloc o).heap.size ∧ b ≠ W.heap.size) 3 Loan.enc (W.alloc o) L :=
  (h.keep fun b hb => Below.heap_alloc _ _ b hb.2).mono fun b hb => ⟨by omega, by simp; omega, by omega⟩
theorem TRes.b {n lo gx : Nat} {W : World} {L : Sl Loan} (hlo : n ≤ lo) (hg : gx < lo) (h : Rd (fun b => lo ≤ b ∧ b < W.heap.size) 3 Loan.enc W L) : Rd (fun b => n ≤ b ∧ b < W.heap.size ∧ b ≠ gx) 3 Loan.enc W L :=
  h.mono fun b hb => ⟨by omega, by omega, by omega⟩
set_option maxRecDepth 100000 in
set_option maxHeartbeats 4000000 in
theorem pdo_take (B : Nat) (m : PlM) (w : World) (h : PlayAt B w m) (i k : Nat) (p : PhoneD) (q : List Int) (s : StockD) (un tm : Int) (ha : ActOK m.d i k p q s) (hsr : s.L.length * 24 ≤ 140737488355328) :
    Calls Try.prog 48 #[.pointer (some ⟨m.g, 0, none⟩), .agg #[.int .i64 4, .int .i64 i, .int .i64 k, .int .i64 un, .int .i64 tm]] w fun e w' => e = .returned (.bool true) ∧ ∃ m' : PlM, PlayAt B w' m' ∧ m'.g = m.g ∧ m'.d = m.d.doTake k s un ∧ Below B w w' := by
  have HP := Lib.hid h
  have HA := Lib.hid ha
  have hpl : m.P.l.length = 3 := by have := ha.lP; simpa [PlM.d] using this
  have hi3 : i < 3 := ha.i3
  have hip : i < m.P.l.length := by omega
  have hsl : m.S.l.length ≤ 3 := by have := ha.lS; simpa [PlM.d] using this
  have hks : k < m.S.l.length := by
    have := (List.getElem?_eq_some_iff.1 ha.S).1
    simpa [PlM.d] using this
  have hpd : m.P.l[i].d = p := by
    have := ha.P
    simp only [PlM.d, List.getElem?_map, List.getElem?_eq_getElem hip, Option.map_some, Option.some.injEq] at this
    exact this
  obtain ⟨pb, hPA, _, _, hcP, hfP⟩ := h.P.atk Phone.k (List.getElem?_eq_getElem hip)
  have hpr := h.rP m.P.l[i] (List.getElem_mem hip)
  obtain ⟨c0, c1, c2, c3, c4⟩ := hcP.c5
  obtain ⟨b0, b1, b2, b3, b4, b5, bf, bz⟩ := h.box.b6
  rw [hPA, hpl] at b0
  have hbw : B ≤ w.heap.size := Nat.le_trans h.lo (Nat.le_of_lt h.box.lt)
  clear h ha hcP hfP bf
  generalize m.P.l[i] = ph at *
  have HPD := Lib.hid hpd
  clear hpd
  obtain ⟨w0, hw0⟩ : ∃ x, x = World.drew (w.alloc (.cells #[.int .i64 4, .int .i64 i, .int .i64 k, .int .i64 un, .int .i64 tm] 89)) := ⟨_, rfl⟩
  obtain ⟨ob, hob⟩ : ∃ g, g = w.heap.size := ⟨_, rfl⟩
  have HP0 : Hid (PlayAt B w0 m) := Lib.hid (by rw [hw0]; exact (HP.out.alloc _).drew)
  have HOB : Hid (Blk w0 ob 89 #[.int .i64 4, .int .i64 i, .int .i64 k, .int .i64 un, .int .i64 tm]) := Lib.hid (by rw [hw0, hob]; exact (Blk.new _ _ _).drew)
  have HBW : Hid (Below w.heap.size w w0) := Lib.hid (by rw [hw0]; exact Below.drew ((Below.refl _ _).alloc (Nat.le_refl _) _))
  have HPH0 : Hid (RdPhone m.G w0 ph) := Lib.hid (hpr.keep fun b hb => HBW.out.block b (HP.out.G b hb).1)
  have hss : ∀ W, Below w0.heap.size w0 W → W.cell? ⟨m.g, 0, none⟩ = some (.slice (some ⟨pb, 0, none⟩) 3 m.P.c) ∧ W.cell? ⟨m.g, 1, none⟩ = some (.slice m.S.A m.S.l.length m.S.c) ∧ W.cell? ⟨pb, i * 5, none⟩ = some (.int .i64 ph.id) ∧ W.cell? ⟨pb, i * 5 + 1, none⟩ = some (.bool ph.cut) ∧ W.cell? ⟨pb, i * 5 + 2, none⟩ = some (.slice ph.H.A ph.H.l.length ph.H.c) ∧ W.cell? ⟨pb, i * 5 + 3, none⟩ = some (.slice ph.N.A ph.N.l.length ph.N.c) ∧ W.cell? ⟨pb, i * 5 + 4, none⟩ = some (.slice ph.S.A ph.S.l.length ph.S.c) ∧ W.cell? ⟨ob, 0, none⟩ = some (.int .i64 4) ∧ W.cell? ⟨ob, 1, none⟩ = some (.int .i64 i) ∧ W.cell? ⟨ob, 2, none⟩ = some (.int .i64 k) ∧ W.cell? ⟨ob, 3, none⟩ = some (.int .i64 un) ∧ W.cell? ⟨ob, 4, none⟩ = some (.int .i64 tm) := by
    intro W hW
    have ky : ∀ {a v}, w.cell? a = some v → W.cell? a = some v := fun h => keep_cell hW (keep_cell HBW.out h)
    have o := HOB.out.later hW
    exact ⟨ky b0, ky b1, ky c0, ky c1, ky c2, ky c3, ky c4, o.cell 0, o.cell 1, o.cell 2, o.cell 3, o.cell 4⟩
  have HSS := Lib.hid hss
  have hs0 := hss w0 (Below.refl _ _)
  clear hss b0 b1 b2 b3 b4 b5 bz c0 c1 c2 c3 c4 hpr
  have hi3' : (i : Int) < 3 := by omega
  have hks' : (k : Int) < (m.S.l.length : Int) := by omega
  have hn1 : decide ((i : Int) < 0) = false := by simp
  have hn2 : decide ((3 : Int) ≤ (i : Int)) = false := by simp; omega
  have hn3 : decide ((k : Int) < 0) = false := by simp
  have hn4 : decide ((m.S.l.length : Int) ≤ (k : Int)) = false := by simp; omega
  go_enter Try.func48, Try.ntmps48
  go_wp2_with fail
  rw [hw0, hob] at hs0
  refine wp_region_T (fun W => W.cell? ⟨m.g, 0, none⟩ = some (.slice (some ⟨pb, 0, none⟩) 3 m.P.c) ∧ W.cell? ⟨m.g, 1, none⟩ = some (.slice m.S.A m.S.l.length m.S.c) ∧ W.cell? ⟨pb, i * 5, none⟩ = some (.int .i64 ph.id) ∧ W.cell? ⟨pb, i * 5 + 1, none⟩ = some (.bool ph.cut) ∧ W.cell? ⟨pb, i * 5 + 2, none⟩ = some (.slice ph.H.A ph.H.l.length ph.H.c) ∧ W.cell? ⟨pb, i * 5 + 3, none⟩ = some (.slice ph.N.A ph.N.l.length ph.N.c) ∧ W.cell? ⟨pb, i * 5 + 4, none⟩ = some (.slice ph.S.A ph.S.l.length ph.S.c) ∧ W.cell? ⟨w.heap.size, 0, none⟩ = some (.int .i64 4) ∧ W.cell? ⟨w.heap.size, 1, none⟩ = some (.int .i64 i) ∧ W.cell? ⟨w.heap.size, 2, none⟩ = some (.int .i64 k) ∧ W.cell? ⟨w.heap.size, 3, none⟩ = some (.int .i64 un) ∧ W.cell? ⟨w.heap.size, 4, none⟩ = some (.int .i64 tm)) (fun _ => false) (by kernel_rfl) hs0 (fun hHeld => ?_)
  clear hs0
  rw [← hw0]
  rw [← hw0, ← hob] at hHeld
  rw [← hob]
  have hwob : w.heap.size ≤ ob := by omega
  clear hw0 hob
  refine qtq 0 ?_
  simp only [qsa, qsb, qsc]
  refine qtq 1 ?_
  simp only [qsa, qsb, qsc]
  refine wpAnyT_take2 (i := 2) (v := .bool false) rfl rfl (by kernel_rfl) (by kernel_rfl) (by kernel_rfl) (by kernel_rfl) (fun _ _ _ h => h) (Or.inl ⟨by rfl, ?_⟩) (by first | assumption | trivial) ?_
  · (intro w hSw; (try dsimp only at hSw); go_simp) <;> (first | (with_reducible rfl) | assumption | (simp; done) | (simp [*]; done) | (simp; omega))
  simp only [qsa, qsb, qsc]
  refine qtq 3 ?_
  simp only [qsa, qsb, qsc]
  refine qtq 4 ?_
  simp only [qsa, qsb, qsc]
  refine qtq 5 ?_
  simp only [qsa, qsb, qsc]
  refine wpAnyT_take2 (i := 6) (v := .bool false) rfl rfl (by kernel_rfl) (by kernel_rfl) (by kernel_rfl) (by kernel_rfl) (fun _ _ _ h => h) (Or.inl ⟨by rfl, ?_⟩) (by first | assumption | trivial) ?_
  · (intro w hSw; (try dsimp only at hSw); go_simp) <;> (first | (with_reducible rfl) | assumption | (simp; done) | (simp [*]; done) | (simp; omega))
  simp only [qsa, qsb, qsc]
  refine qtq 7 ?_
  simp only [qsa, qsb, qsc]
  refine qtq 8 ?_
  simp only [qsa, qsb, qsc]
  refine qtq 9 ?_
  simp only [qsa, qsb, qsc]
  refine qtq 10 ?_
  simp only [qsa, qsb, qsc]
  refine wpAnyT_take2 (i := 11) (v := .bool false) rfl rfl (by kernel_rfl) (by kernel_rfl) (by kernel_rfl) (by kernel_rfl) (fun _ _ _ h => h) (Or.inl ⟨by rfl, ?_⟩) (by first | assumption | trivial) ?_
  · (intro w hSw; (try dsimp only at hSw); go_simp) <;> (first | (with_reducible rfl) | assumption | (simp; done) | (simp [*]; done) | (simp; omega))
  simp only [qsa, qsb, qsc]
  refine qtq 12 ?_
  simp only [qsa, qsb, qsc]
  refine qtq 13 ?_
  simp only [qsa, qsb, qsc]
  refine qtq 14 ?_
  simp only [qsa, qsb, qsc]
  refine qtq 15 ?_
  simp only [qsa, qsb, qsc]
  refine qtq 16 ?_
  simp only [qsa, qsb, qsc]
  refine qtq 17 ?_
  simp only [qsa, qsb, qsc]
  refine qtq 18 ?_
  simp only [qsa, qsb, qsc]
  refine qtq 19 ?_
  simp only [qsa, qsb, qsc]
  refine qtq 20 ?_
  simp only [qsa, qsb, qsc]
  refine wpAnyT_take2 (i := 21) (v := .bool false) rfl rfl (by kernel_rfl) (by kernel_rfl) (by kernel_rfl) (by kernel_rfl) (fun _ _ _ h => h) (Or.inl ⟨by rfl, ?_⟩) (by first | assumption | trivial) ?_
  · (intro w hSw; (try dsimp only at hSw); go_simp) <;> (first | (with_reducible rfl) | assumption | (simp; done) | (simp [*]; done) | (simp; omega))
  simp only [qsa, qsb, qsc]
  refine qtq 22 ?_
  simp only [qsa, qsb, qsc]
  refine wpAnyT_done (by kernel_rfl) ?_ _
  obtain ⟨y0, y1, y2, y3, y4, y5, y6, o0, o1, o2, o3, o4⟩ := hHeld
  go_wp2_with fail
  clear y0 y1 y2 y3 y4 y5 y6 o0 o1 o2 o3 o4
  clear hn1 hn2 hn3 hn4
  have hsd : m.S.l[k].d = s := by
    have := HA.out.S
    simp only [PlM.d, List.getElem?_map, List.getElem?_eq_getElem hks, Option.map_some, Option.some.injEq] at this
    exact this
  obtain ⟨sb, hSA, hsl0, hsl1, hcS, hfS⟩ := HP0.out.S.atk Stock.k (List.getElem?_eq_getElem hks)
  have hrl := HP0.out.rS m.S.l[k] (List.getElem_mem hks)
  obtain ⟨c0, c1, c2⟩ := hcS.c3
  have hsx : m.S.l[k]? = some m.S.l[k] := List.getElem?_eq_getElem hks
  generalize m.S.l[k] = sx at *
  have HSX := Lib.hid hsx
  have HSL : Hid (Rd (· < w0.heap.size) 3 Loan.enc w0 sx.L) := Lib.hid (hrl.mono fun b hb => (HP0.out.G b hb).1)
  have h24 : sx.L.l.length * 24 ≤ 140737488355328 := by rw [← hsd] at hsr; exact hsr
  have HSD := Lib.hid hsd
  have hst : ∀ W, Below w0.heap.size w0 W → W.cell? ⟨m.g, 1, none⟩ = some (.slice (some ⟨sb, 0, none⟩) m.S.l.length m.S.c) ∧ W.cell? ⟨sb, k * 3, none⟩ = some (.int .i64 sx.T) ∧ W.cell? ⟨sb, k * 3 + 1, none⟩ = some (.int .i64 sx.U) ∧ W.cell? ⟨sb, k * 3 + 2, none⟩ = some (.slice sx.L.A sx.L.l.length sx.L.c) ∧ W.cell? ⟨ob, 2, none⟩ = some (.int .i64 k) ∧ W.cell? ⟨ob, 3, none⟩ = some (.int .i64 un) := by
    intro W hW
    have o := HOB.out.later hW
    have hb1 := (HSS.out W hW).2.1
    rw [hSA] at hb1
    exact ⟨hb1, keep_cell hW c0, keep_cell hW c1, keep_cell hW c2, o.cell 2, o.cell 3⟩
  have HST := Lib.hid hst
  obtain ⟨rr, hr⟩ : ∃ r, r = s.take un := ⟨_, rfl⟩
  obtain ⟨rs, rE⟩ := rr
  have HRR := Lib.hid hr
  clear hr hst hsd hrl c0 c1 c2 hcS hfS hsx hsr
  refine wp_region_T (fun W => W.cell? ⟨m.g, 1, none⟩ = some (.slice (some ⟨sb, 0, none⟩) m.S.l.length m.S.c) ∧ W.cell? ⟨sb, k * 3, none⟩ = some (.int .i64 sx.T) ∧ W.cell? ⟨sb, k * 3 + 1, none⟩ = some (.int .i64 sx.U) ∧ W.cell? ⟨sb, k * 3 + 2, none⟩ = some (.slice sx.L.A sx.L.l.length sx.L.c) ∧ W.cell? ⟨ob, 2, none⟩ = some (.int .i64 k) ∧ W.cell? ⟨ob, 3, none⟩ = some (.int .i64 un)) (fun _ => false) (by kernel_rfl) (HST.out _ (Below.drew (Below.refl _ _))) (fun hHeld => ?_)
  obtain ⟨W, hW⟩ : ∃ x, x = World.drew w0 := ⟨_, rfl⟩
  have FK : Hid (Below w0.heap.size w0 W) := Lib.hid (by rw [hW]; exact Below.drew (Below.refl _ _))
  rw [← hW] at hHeld ⊢
  clear hW
  refine qtq 0 ?_
  simp only [qsa, qsb, qsc]
  refine qtq 1 ?_
  simp only [qsa, qsb, qsc]
  refine qtq 2 ?_
  simp only [qsa, qsb, qsc]
  refine qtq 3 ?_
  simp only [qsa, qsb, qsc]
  refine qtq 4 ?_
  simp only [qsa, qsb, qsc]
  refine qtq 5 ?_
  simp only [qsa, qsb, qsc]
  refine qtq 6 ?_
  simp only [qsa, qsb, qsc]
  refine qtq 7 ?_
  simp only [qsa, qsb, qsc]
  refine qtq 8 ?_
  simp only [qsa, qsb, qsc]
  refine qtq 9 ?_
  simp only [qsa, qsb, qsc]
  clear hHeld
  apply cutP
  · intro fin0
    have FIN := Lib.hid fin0
    clear fin0
    refine wpAnyT_two (i := 10) (j := 14) (by kernel_rfl) rfl rfl ?_ ?_
    · skip
      go_wp2_with fail
      refine (stock_take sx un W (HSL.out.below' FK.out (Nat.le_refl _)) h24).mono ?_
      rintro e W2 ⟨lA, lc, rfl, hjr, hb⟩
      have hJ : sx.d.take un = (rs, rE) := by rw [HRR.out, ← HSD.out]
      rw [hJ]
      have hk2 : Below w0.heap.size w0 W2 := FK.out.trans (hb.mono FK.out.size)
      have hjr2 := hjr.rd Loan.k
      have JQ := Lib.hid (And.intro FK.out.size hjr2)
      skip
      try replace FX := Lib.hid (FX.out.later hb)
      clear hjr hjr2 hJ hb
      obtain ⟨W, hW⟩ : ∃ x, x = W2 := ⟨_, rfl⟩
      subst hW
      have FK := Lib.hid hk2
      clear hk2
      simp only
      go_wp2_with fail
      refine And.intro ?_ ?_
      · first
        | exact HST.out _ FK.out
        | exact fun _ => HST.out _ FK.out
      have hHeld := HST.out _ FK.out
      refine qtq 11 ?_
      simp only [qsa, qsb, qsc]
      refine qtq 12 ?_
      simp only [qsa, qsb, qsc]
      refine qtq 13 ?_
      simp only [qsa, qsb, qsc]
      clear hHeld
      refine wpAnyT_next (i := 14) (by kernel_rfl) rfl ?_
      go_wp2_with fail
      have hk2 : Below w0.heap.size w0 (W.alloc (.cells #[.int .i64 0, .int .i64 0, .slice none 0 0] 66)) := FK.out.alloc FK.out.size _
      have hx : Blk (W.alloc (.cells #[.int .i64 0, .int .i64 0, .slice none 0 0] 66)) W.heap.size 66 #[.int .i64 0, .int .i64 0, .slice none 0 0] := Blk.new _ _ _
      have hg : w0.heap.size ≤ W.heap.size := FK.out.size
      have jr := TRes.a (n := w0.heap.size) JQ.out.1 JQ.out.2 (.cells #[.int .i64 0, .int .i64 0, .slice none 0 0] 66)
      generalize W.heap.size = gx at hx hg jr ⊢
      generalize W.alloc (.cells #[.int .i64 0, .int .i64 0, .slice none 0 0] 66) = W2 at hk2 hx jr ⊢
      obtain ⟨W, hW⟩ : ∃ x, x = W2 := ⟨_, rfl⟩
      subst hW
      have FK := Lib.hid hk2
      have FX := Lib.hid hx
      have FG := Lib.hid hg
      have JR := Lib.hid jr
      clear hk2 hx hg
      refine And.intro ?_ ?_
      · first
        | exact HST.out _ FK.out
        | exact fun _ => HST.out _ FK.out
      have ALL := Lib.hid (And.intro JR.out (And.intro FX.out (And.intro FG.out FK.out)))
      clear JR FX FG FK JQ jr
      revert ALL
      revert W
      revert lc
      revert lA
      revert gx
      exact FIN.out
    · skip
      go_wp2_with fail
      have hk2 : Below w0.heap.size w0 (W.alloc (.cells #[.int .i64 0, .int .i64 0, .slice none 0 0] 66)) := FK.out.alloc FK.out.size _
      have hx : Blk (W.alloc (.cells #[.int .i64 0, .int .i64 0, .slice none 0 0] 66)) W.heap.size 66 #[.int .i64 0, .int .i64 0, .slice none 0 0] := Blk.new _ _ _
      have hg : w0.heap.size ≤ W.heap.size := FK.out.size
      skip
      generalize W.heap.size = gx at hx hg  ⊢
      generalize W.alloc (.cells #[.int .i64 0, .int .i64 0, .slice none 0 0] 66) = W2 at hk2 hx  ⊢
      obtain ⟨W, hW⟩ : ∃ x, x = W2 := ⟨_, rfl⟩
      subst hW
      have FK := Lib.hid hk2
      have FX := Lib.hid hx
      have FG := Lib.hid hg
      skip
      clear hk2 hx hg
      refine And.intro ?_ ?_
      · first
        | exact HST.out _ FK.out
        | exact fun _ => HST.out _ FK.out
      refine wpAnyT_next (i := 10) (by kernel_rfl) rfl ?_
      go_wp2_with fail
      refine (stock_take sx un W (HSL.out.below' FK.out (Nat.le_refl _)) h24).mono ?_
      rintro e W2 ⟨lA, lc, rfl, hjr, hb⟩
      have hJ : sx.d.take un = (rs, rE) := by rw [HRR.out, ← HSD.out]
      rw [hJ]
      have hk2 : Below w0.heap.size w0 W2 := FK.out.trans (hb.mono FK.out.size)
      have hjr2 := hjr.rd Loan.k
      have JQ := Lib.hid (And.intro FK.out.size hjr2)
      have JR := Lib.hid (TRes.b (n := w0.heap.size) (gx := gx) JQ.out.1 FX.out.lt JQ.out.2)
      try replace FX := Lib.hid (FX.out.later hb)
      clear hjr hjr2 hJ hb
      obtain ⟨W, hW⟩ : ∃ x, x = W2 := ⟨_, rfl⟩
      subst hW
      have FK := Lib.hid hk2
      clear hk2
      simp only
      go_wp2_with fail
      refine And.intro ?_ ?_
      · first
        | exact HST.out _ FK.out
        | exact fun _ => HST.out _ FK.out
      have hHeld := HST.out _ FK.out
      refine qtq 11 ?_
      simp only [qsa, qsb, qsc]
      refine qtq 12 ?_
      simp only [qsa, qsb, qsc]
      refine qtq 13 ?_
      simp only [qsa, qsb, qsc]
      clear hHeld
      have ALL := Lib.hid (And.intro JR.out (And.intro FX.out (And.intro FG.out FK.out)))
      exact wpAnyT_listed (by kernel_rfl) (FIN.out gx lA lc W ALL)
  · skip
    intro gx lA lc W ALL
    obtain ⟨hjr, hfx, hfg, hfk⟩ := ALL.out
    clear ALL
    obtain ⟨x0, x1, x2, xf, xz⟩ := hfx.b3
    have hnx : ∀ V, V = (((W.setCell ⟨gx, 0, none⟩ (.int .i64 sx.T)).setCell ⟨gx, 1, none⟩ (.int .i64 rs.U)).setCell ⟨gx, 2, none⟩ (.slice lA sx.L.l.length lc)) → Below w0.heap.size w0 V ∧ V.heap.size = W.heap.size ∧ (∀ b, b ≠ gx → V.heap[b]? = W.heap[b]?) ∧ Blk V gx 66 #[.int .i64 sx.T, .int .i64 rs.U, .slice lA sx.L.l.length lc] := by
      rintro V rfl
      refine ⟨((hfk.setCell hfg _).setCell hfg _).setCell hfg _, by simp, fun b hne => ?_, ((hfx.set_ 0 _).set_ 1 _).set_ 2 _⟩
      rw [Below.heap_setCell _ _ _ _ hne, Below.heap_setCell _ _ _ _ hne, Below.heap_setCell _ _ _ _ hne]
    have HNX := Lib.hid hnx
    have HJR := Lib.hid hjr
    have HFG := Lib.hid hfg
    have hHeld := HST.out _ (hnx _ rfl).1
    clear hnx hjr hfx hfk
    refine wpAnyT_next (i := 15) (by kernel_rfl) rfl ?_
    go_wp2_with fail
    refine And.intro ?_ ?_
    · first
      | exact hHeld
      | exact fun _ => hHeld
    refine qtq 16 ?_
    simp only [qsa, qsb, qsc]
    refine wpAnyT_done (by kernel_rfl) ?_ _
    clear hHeld x0 x1 x2 xf xz
    obtain ⟨V, hV⟩ : ∃ V, V = (((W.setCell ⟨gx, 0, none⟩ (.int .i64 sx.T)).setCell ⟨gx, 1, none⟩ (.int .i64 rs.U)).setCell ⟨gx, 2, none⟩ (.slice lA sx.L.l.length lc)) := ⟨_, rfl⟩
    obtain ⟨v1, vs, vk, v3⟩ := HNX.out V hV
    rw [← hV]
    clear HNX hV
    have VB := Lib.hid v1
    have VX := Lib.hid v3
    have hpv := HP0.out.more VB.out (fun b => b ≠ gx)
    obtain ⟨G1, hG1⟩ : ∃ G1 : Nat → Prop, G1 = fun b => m.G b ∨ (w0.heap.size ≤ b ∧ b < V.heap.size ∧ b ≠ gx) := ⟨_, rfl⟩
    have hlv : Rd G1 3 Loan.enc V ⟨lA, lc, sx.L.l⟩ := by
      rw [hG1]
      exact (HJR.out.keep fun b hb => vk b hb.2.2).mono fun b hb => .inr ⟨hb.1, by rw [vs]; exact hb.2.1, hb.2.2⟩
    rw [← hG1] at hpv
    have HPV := Lib.hid hpv
    have HLV := Lib.hid hlv
    have HBV : Hid (Below B w V) := Lib.hid ((HBW.out.mono hbw).trans (VB.out.mono (Nat.le_trans hbw HBW.out.size)))
    clear hG1 hpv hlv vs vk v1 v3 HJR
    clear W
    by_cases hE : rE = 0
    · subst hE
      have hun := take_un (x := s) (n := un) (by rw [← HRR.out])
      go_wp2_with fail
      obtain ⟨x0, x1, x2, xf, xz⟩ := VX.out.b3
      obtain ⟨h1, h2, h3, h4, h5, h6⟩ := HST.out V VB.out
      obtain ⟨sb', hSA', _, _, hcS', hfS'⟩ := HPV.out.S.atk Stock.k (i := k) (x := sx) HSX.out
      obtain rfl : sb' = sb := by
        have e1 : m.S.A = some ⟨sb', 0, none⟩ := hSA'
        rw [hSA] at e1
        injection e1 with e1
        injection e1 with e1
        exact e1.symm
      clear hSA' hcS'
      have hsw : sb' < w.heap.size := (HP.out.rb (i := 2) hSA).1
      have hsB : B ≤ sb' := (HP.out.rb (i := 2) hSA).2
      have hne : ob ≠ sb' := by omega
      refine wp_region_T (fun W => W.cell? ⟨m.g, 1, none⟩ = some (.slice (some ⟨sb', 0, none⟩) m.S.l.length m.S.c) ∧ W.cell? ⟨ob, 2, none⟩ = some (.int .i64 k) ∧ W.cell? ⟨gx, 0, none⟩ = some (.int .i64 sx.T) ∧ W.cell? ⟨gx, 1, none⟩ = some (.int .i64 rs.U) ∧ W.cell? ⟨gx, 2, none⟩ = some (.slice lA sx.L.l.length lc)) (fun i => 8 ≤ i) (by kernel_rfl) ⟨h1, h5, x0, x1, x2⟩ (fun hHeld => ?_)
      refine qtq 0 ?_
      simp only [qsa, qsb, qsc]
      refine qtq 1 ?_
      simp only [qsa, qsb, qsc]
      refine qtq 2 ?_
      simp only [qsa, qsb, qsc]
      refine qtq 3 ?_
      simp only [qsa, qsb, qsc]
      refine qtq 4 ?_
      simp only [qsa, qsb, qsc]
      refine qtq 5 ?_
      simp only [qsa, qsb, qsc]
      refine qtq 6 ?_
      simp only [qsa, qsb, qsc]
      refine qtq 7 ?_
      simp only [qsa, qsb, qsc]
      clear hHeld
      refine wpAnyT_next (i := 8) (by kernel_rfl) rfl ?_
      go_wp2_with fail
      try simp only [QT]
      try (with_reducible refine And.intro (fun h => by simp at h) ?_)
      refine wpAnyT_done (by kernel_rfl) ?_ _
      clear x0 x1 x2 xf xz h1 h2 h3 h4 h5 h6 hfS'
      have hoff : ∀ c, c ≠ sb' → ((((V.setCell ⟨sb', k * 3, none⟩ (.int .i64 sx.T)).setCell ⟨sb', k * 3 + 1, none⟩ (.int .i64 rs.U)).setCell ⟨sb', k * 3 + 2, none⟩ (.slice lA sx.L.l.length lc))).heap[c]? = V.heap[c]? := sst_off V sb' k sx.T rs.U ⟨lA, lc, sx.L.l⟩
      have hp4 : PlayAt B (((V.setCell ⟨sb', k * 3, none⟩ (.int .i64 sx.T)).setCell ⟨sb', k * 3 + 1, none⟩ (.int .i64 rs.U)).setCell ⟨sb', k * 3 + 2, none⟩ (.slice lA sx.L.l.length lc)) { m with G := G1, S := ⟨m.S.A, m.S.c, m.S.l.set k ⟨sx.T, rs.U, ⟨lA, lc, sx.L.l⟩⟩⟩ } := HPV.out.stS (b := sb') hSA (by simp) hoff (l := m.S.l.set k ⟨sx.T, rs.U, ⟨lA, lc, sx.L.l⟩⟩) (by simp) (by
        have hq := HPV.out.S
        unfold Own at hq
        rw [show ({ m with G := G1 } : PlM).S.A = some ⟨sb', 0, none⟩ from hSA] at hq ⊢
        exact Own.setStock (B := B) (w := V) (l := m.S.l) hq sx.T rs.U ⟨lA, lc, sx.L.l⟩ HSX.out) (fun y hy => by
        rcases List.mem_or_eq_of_mem_set hy with hy | rfl
        · exact HPV.out.rS y hy
        · exact HLV.out)
      have ho4 : Blk (World.drew (((V.setCell ⟨sb', k * 3, none⟩ (.int .i64 sx.T)).setCell ⟨sb', k * 3 + 1, none⟩ (.int .i64 rs.U)).setCell ⟨sb', k * 3 + 2, none⟩ (.slice lA sx.L.l.length lc))) ob 89 #[.int .i64 4, .int .i64 i, .int .i64 k, .int .i64 un, .int .i64 tm] := (hoff ob hne).trans (HOB.out.later VB.out)
      have HP4 := Lib.hid hp4.drew
      have HB4 : Hid (Below B w (World.drew (((V.setCell ⟨sb', k * 3, none⟩ (.int .i64 sx.T)).setCell ⟨sb', k * 3 + 1, none⟩ (.int .i64 rs.U)).setCell ⟨sb', k * 3 + 2, none⟩ (.slice lA sx.L.l.length lc)))) := Lib.hid (Below.drew (((HBV.out.setCell hsB _).setCell hsB _).setCell hsB _))
      clear hp4 hoff
      generalize World.drew (((V.setCell ⟨sb', k * 3, none⟩ (.int .i64 sx.T)).setCell ⟨sb', k * 3 + 1, none⟩ (.int .i64 rs.U)).setCell ⟨sb', k * 3 + 2, none⟩ (.slice lA sx.L.l.length lc)) = V4 at *
      obtain ⟨o0, o1, o2, o3, o4, of, oz⟩ := ho4.b5
      have hkT : k < m.T.l.length := by have := HA.out.lT; simp only [PlM.d, List.length_map] at this; omega
      have htl : m.T.l.length = m.S.l.length := by have := HA.out.lT; simpa [PlM.d] using this
      have hbT := HA.out.bT k
      have hTd : m.d.T.getD k 0 = m.T.l[k] := getD_at hkT
      rw [hTd] at hbT
      obtain ⟨b0, b1, b2, b3, b4, b5, bf, bz⟩ := HP4.out.box.b6
      obtain ⟨gt, hTA, _, _, hcT, hfT⟩ := HP4.out.T.atk ienc_k (i := k) (x := m.T.l[k]) (List.getElem?_eq_getElem hkT)
      have ct := hcT.c1
      simp only [Nat.mul_one] at ct b2
      rw [show m.T.A = some ⟨gt, 0, none⟩ from hTA, htl] at b2
      have hf := hfT k
      have hw1 : IntKind.i64.wrap (m.T.l[k] + un) = m.T.l[k] + un := by rw [IntKind.wrap_i64]; omega
      have hst := HP4.out.stT hTA (w' := V4.setCell ⟨gt, k, none⟩ (.int .i64 (m.T.l[k] + un))) (by simp) (fun c hc => setCell_off _ ⟨gt, k, none⟩ _ c hc) (l := m.T.l.set k (m.T.l[k] + un)) (by simp) (by
        have e1 := HP4.out.T.set ienc_k hTA (List.getElem?_eq_getElem hkT) (j := 0) (y := m.T.l[k] + un) (u := .int .i64 (m.T.l[k] + un)) (by omega) rfl
        simp only [Nat.mul_one, Nat.add_zero] at e1
        exact e1)
      have hBt : B ≤ gt := (HP4.out.rb (i := 3) hTA).2
      have HP5 := Lib.hid hst.drew
      have HB5 := Lib.hid (Below.drew (HB4.out.setCell (p := ⟨gt, k, none⟩) hBt (.int .i64 (m.T.l[k] + un))))
      have hrs : rs = ⟨sx.T, rs.U, sx.L.l⟩ := by
        have e1 := take_TL s un
        rw [← HRR.out, ← HSD.out] at e1
        exact e1
      have hdd : PlM.d { m with G := G1, S := ⟨m.S.A, m.S.c, m.S.l.set k ⟨sx.T, rs.U, ⟨lA, lc, sx.L.l⟩⟩⟩, T := ⟨m.T.A, m.T.c, m.T.l.set k (m.T.l[k] + un)⟩ } = m.d.doTake k s un := by
        unfold PlD.doTake
        rw [← HRR.out, if_pos rfl, hTd]
        simp only [PlM.d, List.map_set]
        rw [show Stock.d ⟨sx.T, rs.U, ⟨lA, lc, sx.L.l⟩⟩ = rs from hrs.symm]
      have HDD := Lib.hid hdd
      clear hst hdd hcT hbT hTd hfT hTA ho4 hrs
      generalize m.T.l[k] = tv at *
      go_wp2_with fail
      refine wp_region_T (fun W => W.cell? ⟨m.g, 2, none⟩ = some (.slice (some ⟨gt, 0, none⟩) m.S.l.length m.T.c) ∧ W.cell? ⟨gt, k, none⟩ = some (.int .i64 tv) ∧ W.cell? ⟨ob, 2, none⟩ = some (.int .i64 k) ∧ W.cell? ⟨ob, 3, none⟩ = some (.int .i64 un)) (fun i => 18 ≤ i) (by kernel_rfl) ⟨b2, ct, o2, o3⟩ (fun hHeld => ?_)
      refine qtq 0 ?_
      simp only [qsa, qsb, qsc]
      refine qtq 1 ?_
      simp only [qsa, qsb, qsc]
      refine qtq 2 ?_
      simp only [qsa, qsb, qsc]
      refine qtq 3 ?_
      simp only [qsa, qsb, qsc]
      refine qtq 4 ?_
      simp only [qsa, qsb, qsc]
      refine qtq 5 ?_
      simp only [qsa, qsb, qsc]
      refine qtq 6 ?_
      simp only [qsa, qsb, qsc]
      refine qtq 7 ?_
      simp only [qsa, qsb, qsc]
      refine qtq 8 ?_
      simp only [qsa, qsb, qsc]
      refine qtq 9 ?_
      simp only [qsa, qsb, qsc]
      refine qtq 10 ?_
      simp only [qsa, qsb, qsc]
      refine qtq 11 ?_
      simp only [qsa, qsb, qsc]
      refine qtq 12 ?_
      simp only [qsa, qsb, qsc]
      refine qtq 13 ?_
      simp only [qsa, qsb, qsc]
      refine qtq 14 ?_
      simp only [qsa, qsb, qsc]
      refine qtq 15 ?_
      simp only [qsa, qsb, qsc]
      refine qtq 16 ?_
      simp only [qsa, qsb, qsc]
      refine qtq 17 ?_
      simp only [qsa, qsb, qsc]
      clear hHeld
      refine wpAnyT_next (i := 18) (by kernel_rfl) rfl ?_
      go_wp2_with fail
      try simp only [QT]
      try (with_reducible refine And.intro (fun h => by simp at h) ?_)
      refine wpAnyT_done (by kernel_rfl) ?_ _
      clear b0 b1 b2 b3 b4 b5 bf bz ct hf o0 o1 o2 o3 o4 of oz
      generalize World.drew (V4.setCell ⟨gt, k, none⟩ (.int .i64 (tv + un))) = V5 at *
      go_wp2_with fail
      go_ret
      exact ⟨by simp [Act.eval, go_sem], _, HP5.out, rfl, HDD.out, HB5.out⟩
    · have e1 : (rE == 0) = false := by simp [hE]
      have hdd : ({ m with G := G1 } : PlM).d = m.d.doTake k s un := by
        unfold PlD.doTake
        rw [← HRR.out, if_neg hE]
        rfl
      have HDD := Lib.hid hdd
      clear hdd hE
      go_wp2_with fail
      go_ret
      exact ⟨by simp [Act.eval, go_sem], _, HPV.out, rfl, HDD.out, HBV.out⟩
end Go.Proofs.Ythnblhbdfpmolaa
