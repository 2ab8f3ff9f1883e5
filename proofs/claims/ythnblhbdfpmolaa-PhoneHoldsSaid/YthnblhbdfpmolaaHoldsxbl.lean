/- The walk of PhoneHolds. -/
import Derived.Test.YthnblhbdfpmolaaHoldsxba
import Derived.Test.YthnblhbdfpmolaaHoldsxbc
import Derived.Test.YthnblhbdfpmolaaHoldsxbj
import Derived.Test.YthnblhbdfpmolaaHoldsxaz
import Derived.Test.YthnblhbdfpmolaaHoldsxbk
namespace Go.Proofs.Ythnblhbdfpmolaa
open Go.RowKit
theorem RdNotes.take_ {F : Nat → Prop} {w : World} {A : Option Addr} {c : Nat} {l : List Note} (h : RdNotes F w ⟨A, c, l⟩) (q : Nat) : RdNotes F w ⟨A, c, l.take q⟩ := by
  refine ⟨⟨?_, h.1.2.1, h.1.2.2.1, fun i x hx => ?_⟩, fun y hy => h.2 y (List.mem_of_mem_take hy)⟩
  · have h1 := h.1.1
    simp only at h1 ⊢
    rw [List.length_take]; omega
  · simp only at hx
    have hlt := (List.getElem?_eq_some_iff.1 hx).1
    rw [List.length_take] at hlt
    rw [List.getElem?_take_of_lt (by omega)] at hx
    exact h.1.2.2.2 i x hx
theorem late_nil {N : List Note} (t : Int) (h : ¬ (0 : Int) < (N.length : Int)) : lateN (N.map Note.d) t = false := by
  rcases N with _ | ⟨x, r⟩
  · rfl
  · simp at h
theorem late_last {N : List Note} {j : Nat} {y : Note} (t : Int) (h : N.length = j + 1) (hy : N[j]? = some y) : lateN (N.map Note.d) t = decide (t < y.tm) := by
  have h1 : N.getLast? = some y := by rw [List.getLast?_eq_getElem?, h]; exact hy
  unfold lateN
  rw [List.getLast?_map, h1]; rfl
theorem pro_none {P : PhoneD} (hp : P.right = true) (hN : P.N.length ≤ 100) {k n t : Int} (hn1 : 1 ≤ n) (hn2 : n ≤ 1099511627776) (ht1 : 0 ≤ t) (ht2 : t ≤ 1048576) (hh : hhas P.H k = false) : (P.promise k n t nB).2 ≠ 0 ∧ (P.promise k n t nB).1 = P := by
  rcases promise_cases hp hN (k := k) hn1 (by omega) ht1 ht2 with ⟨a, b, _⟩ | ⟨x, a, _⟩
  · exact ⟨a, b⟩
  · rw [hh] at a; cases a
theorem pro_some {P : PhoneD} (hp : P.right = true) (hN : P.N.length ≤ 100) {k n t : Int} (hn1 : 1 ≤ n) (hn2 : n ≤ 1099511627776) (ht1 : 0 ≤ t) (ht2 : t ≤ 1048576) (hh : hhas P.H k = true) {x : Hold} (hx : P.H[hidx P.H k]? = some x) :
    ((P.promise k n t nB).2 ≠ 0 ∧ (P.promise k n t nB).1 = P ∧ (x.u - x.s < n ∨ lateN P.N t = true)) ∨ (n ≤ x.u - x.s ∧ lateN P.N t = false ∧ P.promise k n t nB = (after1 P (hidx P.H k) x n t, 0)) := by
  rcases promise_cases hp hN (k := k) hn1 (by omega) ht1 ht2 with ⟨a, b, c⟩ | ⟨y, a, b, _, c, d, e⟩
  · refine .inl ⟨a, b, ?_⟩
    rcases c with c | ⟨y, c, _, d⟩
    · rw [hh] at c; cases c
    · rw [hx] at c; injection c with c; subst c; exact d
  · rw [hx] at b; injection b with b; subst b
    exact .inr ⟨c, d, e⟩
set_option maxRecDepth 20000 in
set_option maxHeartbeats 4000000 in
theorem phoneholds (p : Phone) (k n m t : Int) (w : World) (hp : RdPhone (· < w.heap.size) w p) (hb : (p.H.l.length + 1) * 24 ≤ 140737488355328) :
    Calls Try.prog 4 #[p.v, .int .i64 k, .int .i64 n, .int .i64 m, .int .i64 t] w fun e w' => e = .returned (.bool true) ∧ Below w.heap.size w w' := by
  obtain ⟨id, cut, ⟨HA, Hc, HL⟩, ⟨NA, Nc, NL⟩, S⟩ := p
  have HP := Lib.hid hp
  clear hp
  simp only at hb
  simp only [Phone.v]
  go_enter Try.func4, Try.ntmps4
  go_wp2_with fail
  refine (small43 _).mono ?_
  rintro e w1 ⟨rfl, hb1⟩
  have K_a : Blk _ (w.heap.size) 26 #[.int .i64 id, .bool cut, .slice (HA) HL.length Hc, .slice (NA) NL.length Nc, .slice S.A S.l.length S.c] := blk_later hb1 (by simp [hp_past, hp_at, hp_other, hp_same, hp_drew, hp_drewN])
  obtain ⟨a0, a1, a2, a3, a4, af, az⟩ := Blk.b5 K_a
  have B_a := Lib.hid K_a
  clear K_a
  have hB1 : Below w.heap.size w w1 := (by repeat (first | (with_reducible exact Below.refl _ _) | ((with_reducible refine below_setr ?_ ?_); focus (first | (simp; done) | (simp; omega) | omega)) | ((with_reducible refine below_allocr ?_ ?_); focus (first | (simp; done) | (simp; omega) | omega)) | (with_reducible refine Below.drew ?_) | (with_reducible refine below_drewN ?_ _) | ((with_reducible apply below_via); focus (with_reducible assumption))))
  clear hb1
  go_wp2_with fail
  refine (lof ⟨id, cut, ⟨HA, Hc, HL⟩, ⟨NA, Nc, NL⟩, S⟩ _ (HP.out.later hB1 (Nat.le_refl _)) hb).mono ?_
  rintro e w2 ⟨⟨i2, c2, H2, N2, S2⟩, rfl, hd2, hr2, hb2⟩
  clear a0 a1 a2 a3 a4 af
  have K_a : Blk _ (w.heap.size) 26 #[.int .i64 id, .bool cut, .slice (HA) HL.length Hc, .slice (NA) NL.length Nc, .slice S.A S.l.length S.c] := blk_later hb2 (by simp [hp_past, hp_at, hp_other, hp_same, hp_drew, hp_drewN, B_a.out.eq, B_a.out.lt, hp_same B_a.out.eq])
  obtain ⟨a0, a1, a2, a3, a4, af, az⟩ := Blk.b5 K_a
  have B_a := Lib.hid K_a
  clear K_a
  have hB2 : Below w.heap.size w w2 := (by repeat (first | (with_reducible exact hB1) | (with_reducible exact Below.refl _ _) | ((with_reducible refine below_setr ?_ ?_); focus (first | (simp; done) | (simp; omega) | omega)) | ((with_reducible refine below_allocr ?_ ?_); focus (first | (simp; done) | (simp; omega) | omega)) | (with_reducible refine Below.drew ?_) | (with_reducible refine below_drewN ?_ _) | ((with_reducible apply below_via); focus (with_reducible assumption))))
  have HD2 : Hid (Phone.d ⟨i2, c2, H2, N2, S2⟩ = (⟨id, cut, HL, NL.map Note.d, S.l⟩ : PhoneD)) := Lib.hid hd2
  have HR2 := Lib.hid hr2
  clear hb2 hd2 hr2
  simp only [Phone.v]
  go_wp2_with fail
  refine (lfew ⟨id, cut, ⟨HA, Hc, HL⟩, ⟨NA, Nc, NL⟩, S⟩ _ (HP.out.later (by repeat (first | (with_reducible exact hB2) | (with_reducible exact Below.refl _ _) | ((with_reducible refine below_setr ?_ ?_); focus (first | (simp; done) | (simp; omega) | omega)) | ((with_reducible refine below_allocr ?_ ?_); focus (first | (simp; done) | (simp; omega) | omega)) | (with_reducible refine Below.drew ?_) | (with_reducible refine below_drewN ?_ _) | ((with_reducible apply below_via); focus (with_reducible assumption)))) (Nat.le_refl _))).mono ?_
  rintro e w3 ⟨⟨b, rfl, hfew⟩, hb3⟩
  clear a0 a1 a2 a3 a4 af
  have K_a : Blk _ (w.heap.size) 26 #[.int .i64 id, .bool cut, .slice (HA) HL.length Hc, .slice (NA) NL.length Nc, .slice S.A S.l.length S.c] := blk_later hb3 (by simp [hp_past, hp_at, hp_other, hp_same, hp_drew, hp_drewN, B_a.out.eq, B_a.out.lt, hp_same B_a.out.eq])
  obtain ⟨a0, a1, a2, a3, a4, af, az⟩ := Blk.b5 K_a
  have B_a := Lib.hid K_a
  clear K_a
  have K_b : Blk _ (w2.heap.size) 33 #[.int .i64 i2, .bool c2, .slice H2.A H2.l.length H2.c, .slice N2.A N2.l.length N2.c, .slice S2.A S2.l.length S2.c] := blk_later hb3 (by simp [hp_past, hp_at, hp_other, hp_same, hp_drew, hp_drewN])
  obtain ⟨b0, b1, b2, b3, b4, bf, bz⟩ := Blk.b5 K_b
  have B_b := Lib.hid K_b
  clear K_b
  have h23 : Below w2.heap.size w2 w3 := Below.trans (Below.alloc (Below.refl _ _) (Nat.le_refl _) _) (hb3.mono (by simp))
  have hB3 : Below w.heap.size w w3 := (by repeat (first | (with_reducible exact hB2) | (with_reducible exact Below.refl _ _) | ((with_reducible refine below_setr ?_ ?_); focus (first | (simp; done) | (simp; omega) | omega)) | ((with_reducible refine below_allocr ?_ ?_); focus (first | (simp; done) | (simp; omega) | omega)) | (with_reducible refine Below.drew ?_) | (with_reducible refine below_drewN ?_ _) | ((with_reducible apply below_via); focus (with_reducible assumption))))
  have z23 : w2.heap.size < w3.heap.size := bz
  have HFEW := Lib.hid hfew
  clear hb3 hfew
  rcases b with _ | _
  · skip
    go_wp2_with fail
    go_ret
    exact ⟨rfl, (by repeat (first | (with_reducible exact hB3) | (with_reducible exact Below.refl _ _) | ((with_reducible refine below_setr ?_ ?_); focus (first | (simp; done) | (simp; omega) | omega)) | ((with_reducible refine below_allocr ?_ ?_); focus (first | (simp; done) | (simp; omega) | omega)) | (with_reducible refine Below.drew ?_) | (with_reducible refine below_drewN ?_ _) | ((with_reducible apply below_via); focus (with_reducible assumption))))⟩
  obtain ⟨hl1, hl2, hl3⟩ := HFEW.out rfl
  simp only at hl1 hl2 hl3
  go_wp2_with fail
  refine (phone_right ⟨i2, c2, H2, N2, S2⟩ _ (HR2.out.later h23 (Nat.le_refl _))).mono ?_
  rintro e w4 ⟨rfl, hb4⟩
  rw [HD2.out]
  clear a0 a1 a2 a3 a4 af
  clear b0 b1 b2 b3 b4 bf
  have K_a : Blk _ (w.heap.size) 26 #[.int .i64 id, .bool cut, .slice (HA) HL.length Hc, .slice (NA) NL.length Nc, .slice S.A S.l.length S.c] := blk_later hb4 (by simp [hp_past, hp_at, hp_other, hp_same, hp_drew, hp_drewN, B_a.out.eq, B_a.out.lt, hp_same B_a.out.eq])
  obtain ⟨a0, a1, a2, a3, a4, af, az⟩ := Blk.b5 K_a
  have B_a := Lib.hid K_a
  clear K_a
  have K_b : Blk _ (w2.heap.size) 33 #[.int .i64 i2, .bool c2, .slice H2.A H2.l.length H2.c, .slice N2.A N2.l.length N2.c, .slice S2.A S2.l.length S2.c] := blk_later hb4 (by simp [hp_past, hp_at, hp_other, hp_same, hp_drew, hp_drewN, B_b.out.eq, B_b.out.lt, hp_same B_b.out.eq])
  obtain ⟨b0, b1, b2, b3, b4, bf, bz⟩ := Blk.b5 K_b
  have B_b := Lib.hid K_b
  clear K_b
  have h24 : Below w2.heap.size w2 w4 := below_via hb4 h23
  have hB4 : Below w.heap.size w w4 := (by repeat (first | (with_reducible exact hB3) | (with_reducible exact Below.refl _ _) | ((with_reducible refine below_setr ?_ ?_); focus (first | (simp; done) | (simp; omega) | omega)) | ((with_reducible refine below_allocr ?_ ?_); focus (first | (simp; done) | (simp; omega) | omega)) | (with_reducible refine Below.drew ?_) | (with_reducible refine below_drewN ?_ _) | ((with_reducible apply below_via); focus (with_reducible assumption))))
  clear hb4 h23
  rcases hri : PhoneD.right (⟨id, cut, HL, NL.map Note.d, S.l⟩ : PhoneD)
  · clear hri
    go_wp2_with fail
    go_ret
    exact ⟨rfl, (by repeat (first | (with_reducible exact hB4) | (with_reducible exact Below.refl _ _) | ((with_reducible refine below_setr ?_ ?_); focus (first | (simp; done) | (simp; omega) | omega)) | ((with_reducible refine below_allocr ?_ ?_); focus (first | (simp; done) | (simp; omega) | omega)) | (with_reducible refine Below.drew ?_) | (with_reducible refine below_drewN ?_ _) | ((with_reducible apply below_via); focus (with_reducible assumption))))⟩
  have HRI := Lib.hid hri
  clear hri
  go_wp2_with fail
  refine (rright43 ⟨id, cut, ⟨HA, Hc, HL⟩, ⟨NA, Nc, NL⟩, S⟩ _ (HP.out.later hB4 (Nat.le_refl _))).mono ?_
  rintro e w5 ⟨rfl, hb5⟩
  simp only [Phone.d]
  rw [HRI.out]
  clear a0 a1 a2 a3 a4 af
  clear b0 b1 b2 b3 b4 bf
  have K_a : Blk _ (w.heap.size) 26 #[.int .i64 id, .bool cut, .slice (HA) HL.length Hc, .slice (NA) NL.length Nc, .slice S.A S.l.length S.c] := blk_later hb5 (by simp [hp_past, hp_at, hp_other, hp_same, hp_drew, hp_drewN, B_a.out.eq, B_a.out.lt, hp_same B_a.out.eq])
  obtain ⟨a0, a1, a2, a3, a4, af, az⟩ := Blk.b5 K_a
  have B_a := Lib.hid K_a
  clear K_a
  have K_b : Blk _ (w2.heap.size) 33 #[.int .i64 i2, .bool c2, .slice H2.A H2.l.length H2.c, .slice N2.A N2.l.length N2.c, .slice S2.A S2.l.length S2.c] := blk_later hb5 (by simp [hp_past, hp_at, hp_other, hp_same, hp_drew, hp_drewN, B_b.out.eq, B_b.out.lt, hp_same B_b.out.eq])
  obtain ⟨b0, b1, b2, b3, b4, bf, bz⟩ := Blk.b5 K_b
  have B_b := Lib.hid K_b
  clear K_b
  have h25 : Below w2.heap.size w2 w5 := below_via hb5 h24
  have hB5 : Below w.heap.size w w5 := (by repeat (first | (with_reducible exact hB4) | (with_reducible exact Below.refl _ _) | ((with_reducible refine below_setr ?_ ?_); focus (first | (simp; done) | (simp; omega) | omega)) | ((with_reducible refine below_allocr ?_ ?_); focus (first | (simp; done) | (simp; omega) | omega)) | (with_reducible refine Below.drew ?_) | (with_reducible refine below_drewN ?_ _) | ((with_reducible apply below_via); focus (with_reducible assumption))))
  clear hb5 h24
  rcases Int.lt_or_le n 1 with q1 | q1
  · skip
    go_wp2_with fail
    go_ret
    exact ⟨rfl, (by repeat (first | (with_reducible exact hB5) | (with_reducible exact Below.refl _ _) | ((with_reducible refine below_setr ?_ ?_); focus (first | (simp; done) | (simp; omega) | omega)) | ((with_reducible refine below_allocr ?_ ?_); focus (first | (simp; done) | (simp; omega) | omega)) | (with_reducible refine Below.drew ?_) | (with_reducible refine below_drewN ?_ _) | ((with_reducible apply below_via); focus (with_reducible assumption))))⟩
  rcases Int.lt_or_le m 1 with q2 | q2
  · skip
    go_wp2_with fail
    go_ret
    exact ⟨rfl, (by repeat (first | (with_reducible exact hB5) | (with_reducible exact Below.refl _ _) | ((with_reducible refine below_setr ?_ ?_); focus (first | (simp; done) | (simp; omega) | omega)) | ((with_reducible refine below_allocr ?_ ?_); focus (first | (simp; done) | (simp; omega) | omega)) | (with_reducible refine Below.drew ?_) | (with_reducible refine below_drewN ?_ _) | ((with_reducible apply below_via); focus (with_reducible assumption))))⟩
  rcases Int.lt_or_le 1099511627776 n with q3 | q3
  · skip
    go_wp2_with fail
    go_ret
    exact ⟨rfl, (by repeat (first | (with_reducible exact hB5) | (with_reducible exact Below.refl _ _) | ((with_reducible refine below_setr ?_ ?_); focus (first | (simp; done) | (simp; omega) | omega)) | ((with_reducible refine below_allocr ?_ ?_); focus (first | (simp; done) | (simp; omega) | omega)) | (with_reducible refine Below.drew ?_) | (with_reducible refine below_drewN ?_ _) | ((with_reducible apply below_via); focus (with_reducible assumption))))⟩
  rcases Int.lt_or_le 1099511627776 m with q4 | q4
  · skip
    go_wp2_with fail
    go_ret
    exact ⟨rfl, (by repeat (first | (with_reducible exact hB5) | (with_reducible exact Below.refl _ _) | ((with_reducible refine below_setr ?_ ?_); focus (first | (simp; done) | (simp; omega) | omega)) | ((with_reducible refine below_allocr ?_ ?_); focus (first | (simp; done) | (simp; omega) | omega)) | (with_reducible refine Below.drew ?_) | (with_reducible refine below_drewN ?_ _) | ((with_reducible apply below_via); focus (with_reducible assumption))))⟩
  rcases Int.lt_or_le t 0 with q5 | q5
  · skip
    go_wp2_with fail
    go_ret
    exact ⟨rfl, (by repeat (first | (with_reducible exact hB5) | (with_reducible exact Below.refl _ _) | ((with_reducible refine below_setr ?_ ?_); focus (first | (simp; done) | (simp; omega) | omega)) | ((with_reducible refine below_allocr ?_ ?_); focus (first | (simp; done) | (simp; omega) | omega)) | (with_reducible refine Below.drew ?_) | (with_reducible refine below_drewN ?_ _) | ((with_reducible apply below_via); focus (with_reducible assumption))))⟩
  rcases Int.lt_or_le 1048576 t with q6 | q6
  · skip
    go_wp2_with fail
    go_ret
    exact ⟨rfl, (by repeat (first | (with_reducible exact hB5) | (with_reducible exact Below.refl _ _) | ((with_reducible refine below_setr ?_ ?_); focus (first | (simp; done) | (simp; omega) | omega)) | ((with_reducible refine below_allocr ?_ ?_); focus (first | (simp; done) | (simp; omega) | omega)) | (with_reducible refine Below.drew ?_) | (with_reducible refine below_drewN ?_ _) | ((with_reducible apply below_via); focus (with_reducible assumption))))⟩
  go_wp2_with fail
  refine (rat43 ⟨id, cut, ⟨HA, Hc, HL⟩, ⟨NA, Nc, NL⟩, S⟩ k _ (HP.out.later hB5 (Nat.le_refl _)).1).mono ?_
  rintro e w6 ⟨rfl, hb6⟩
  clear a0 a1 a2 a3 a4 af
  clear b0 b1 b2 b3 b4 bf
  have K_a : Blk _ (w.heap.size) 26 #[.int .i64 id, .bool cut, .slice (HA) HL.length Hc, .slice (NA) NL.length Nc, .slice S.A S.l.length S.c] := blk_later hb6 (by simp [hp_past, hp_at, hp_other, hp_same, hp_drew, hp_drewN, B_a.out.eq, B_a.out.lt, hp_same B_a.out.eq])
  obtain ⟨a0, a1, a2, a3, a4, af, az⟩ := Blk.b5 K_a
  have B_a := Lib.hid K_a
  clear K_a
  have K_b : Blk _ (w2.heap.size) 33 #[.int .i64 i2, .bool c2, .slice H2.A H2.l.length H2.c, .slice N2.A N2.l.length N2.c, .slice S2.A S2.l.length S2.c] := blk_later hb6 (by simp [hp_past, hp_at, hp_other, hp_same, hp_drew, hp_drewN, B_b.out.eq, B_b.out.lt, hp_same B_b.out.eq])
  obtain ⟨b0, b1, b2, b3, b4, bf, bz⟩ := Blk.b5 K_b
  have B_b := Lib.hid K_b
  clear K_b
  have h26 : Below w2.heap.size w2 w6 := below_via hb6 h25
  have hB6 : Below w.heap.size w w6 := (by repeat (first | (with_reducible exact hB5) | (with_reducible exact Below.refl _ _) | ((with_reducible refine below_setr ?_ ?_); focus (first | (simp; done) | (simp; omega) | omega)) | ((with_reducible refine below_allocr ?_ ?_); focus (first | (simp; done) | (simp; omega) | omega)) | (with_reducible refine Below.drew ?_) | (with_reducible refine below_drewN ?_ _) | ((with_reducible apply below_via); focus (with_reducible assumption))))
  clear hb6 h25
  have hhN : (NL.map Note.d).length ≤ 100 := by rw [List.length_map]; omega
  rcases hh : hhas HL k
  · have hfk : findK Hold.st k 0 HL = -1 := findK_none hh
    have HPN := Lib.hid (pro_none HRI.out hhN (k := k) q1 q3 q5 q6 hh)
    simp only [hfk]
    clear hfk hh
    rcases Int.lt_or_le 0 (NL.length : Int) with hN | hN
    · skip
      obtain ⟨j, hj⟩ : ∃ j, NL.length = j + 1 := ⟨NL.length - 1, by omega⟩
      obtain ⟨bn, on, rfl, hbF, hcl⟩ := HP.out.2.1.1.at1 (i := j) (show j < NL.length by omega)
      obtain ⟨g0, g1, g2, g3, g4⟩ := Cells.c5 (hcl.keep (hB6.block bn hbF))
      have hyj : NL[j]? = some NL[j] := List.getElem?_eq_getElem _
      have hlate := late_last t hj hyj
      simp only at g3
      generalize NL[j] = y at *
      have hw1 : (NL.length : Int) - 1 = (j : Int) := by omega
      have hw2 : (j : Int) < (NL.length : Int) := by omega
      have hw3 : (0 : Int) ≤ (j : Int) := by omega
      have HLATE := Lib.hid hlate
      clear hcl g0 g1 g2 g4 hj hyj hlate
      go_wp2_with fail
      refine (phone_promise ⟨i2, c2, H2, N2, S2⟩ k n t nB _ (HR2.out.later (by repeat (first | (with_reducible exact h26) | (with_reducible exact Below.refl _ _) | ((with_reducible refine below_setr ?_ ?_); focus (first | (simp; done) | (simp; omega) | omega)) | ((with_reducible refine below_allocr ?_ ?_); focus (first | (simp; done) | (simp; omega) | omega)) | (with_reducible refine Below.drew ?_) | (with_reducible refine below_drewN ?_ _) | ((with_reducible apply below_via); focus (with_reducible assumption)))) (Nat.le_refl _))).mono ?_
      rintro e w7 ⟨⟨i7, c7, ⟨J7, jc, JL⟩, ⟨M7, mc, ML⟩, S7⟩, rfl, hd7, hr7, hb7⟩
      rw [HD2.out] at hd7
      rw [HD2.out]
      clear a0 a1 a2 a3 a4 af
      clear b0 b1 b2 b3 b4 bf
      have K_a : Blk _ (w.heap.size) 26 #[.int .i64 id, .bool cut, .slice (HA) HL.length Hc, .slice (some ⟨bn, on, none⟩) NL.length Nc, .slice S.A S.l.length S.c] := blk_later hb7 (by simp [hp_past, hp_at, hp_other, hp_same, hp_drew, hp_drewN, B_a.out.eq, B_a.out.lt, hp_same B_a.out.eq])
      obtain ⟨a0, a1, a2, a3, a4, af, az⟩ := Blk.b5 K_a
      have B_a := Lib.hid K_a
      clear K_a
      have K_b : Blk _ (w2.heap.size) 33 #[.int .i64 i2, .bool c2, .slice H2.A H2.l.length H2.c, .slice N2.A N2.l.length N2.c, .slice S2.A S2.l.length S2.c] := blk_later hb7 (by simp [hp_past, hp_at, hp_other, hp_same, hp_drew, hp_drewN, B_b.out.eq, B_b.out.lt, hp_same B_b.out.eq])
      obtain ⟨b0, b1, b2, b3, b4, bf, bz⟩ := Blk.b5 K_b
      have B_b := Lib.hid K_b
      clear K_b
      have h27 : Below w2.heap.size w2 w7 := (by repeat (first | (with_reducible exact h26) | (with_reducible exact Below.refl _ _) | ((with_reducible refine below_setr ?_ ?_); focus (first | (simp; done) | (simp; omega) | omega)) | ((with_reducible refine below_allocr ?_ ?_); focus (first | (simp; done) | (simp; omega) | omega)) | (with_reducible refine Below.drew ?_) | (with_reducible refine below_drewN ?_ _) | ((with_reducible apply below_via); focus (with_reducible assumption))))
      have hB7 : Below w.heap.size w w7 := (by repeat (first | (with_reducible exact hB6) | (with_reducible exact Below.refl _ _) | ((with_reducible refine below_setr ?_ ?_); focus (first | (simp; done) | (simp; omega) | omega)) | ((with_reducible refine below_allocr ?_ ?_); focus (first | (simp; done) | (simp; omega) | omega)) | (with_reducible refine Below.drew ?_) | (with_reducible refine below_drewN ?_ _) | ((with_reducible apply below_via); focus (with_reducible assumption))))
      have HR7 := Lib.hid hr7
      have HD7 := Lib.hid hd7
      clear hb7 h26 hr7 hd7
      simp only [Phone.v]
      have HDS : Hid (Phone.d ⟨i7, c7, ⟨J7, jc, JL⟩, ⟨M7, mc, ML⟩, S7⟩ = (⟨id, cut, HL, NL.map Note.d, S.l⟩ : PhoneD)) := Lib.hid (HD7.out.trans HPN.out.2)
      have her0 := HPN.out.1
      generalize (PhoneD.promise (⟨id, cut, HL, NL.map Note.d, S.l⟩ : PhoneD) k n t nB).2 = er at *
      have her : (er != 0) = true := by simp [her0]
      have her2 : (er == 0) = false := by simp [her0]
      clear her0
      go_wp2_with fail
      refine (lsame ⟨i7, c7, ⟨J7, jc, JL⟩, ⟨M7, mc, ML⟩, S7⟩ ⟨id, cut, ⟨HA, Hc, HL⟩, ⟨some ⟨bn, on, none⟩, Nc, NL⟩, S⟩ _ (HR7.out.later (by repeat (first | (with_reducible exact Below.refl _ _) | ((with_reducible refine below_setr ?_ ?_); focus (first | (simp; done) | (simp; omega) | omega)) | ((with_reducible refine below_allocr ?_ ?_); focus (first | (simp; done) | (simp; omega) | omega)) | (with_reducible refine Below.drew ?_) | (with_reducible refine below_drewN ?_ _) | ((with_reducible apply below_via); focus (with_reducible assumption)))) (Nat.le_refl _)) (HP.out.later (by repeat (first | (with_reducible exact hB7) | (with_reducible exact Below.refl _ _) | ((with_reducible refine below_setr ?_ ?_); focus (first | (simp; done) | (simp; omega) | omega)) | ((with_reducible refine below_allocr ?_ ?_); focus (first | (simp; done) | (simp; omega) | omega)) | (with_reducible refine Below.drew ?_) | (with_reducible refine below_drewN ?_ _) | ((with_reducible apply below_via); focus (with_reducible assumption)))) (Nat.le_refl _)) HDS.out).mono ?_
      rintro e w8 ⟨rfl, hb8⟩
      have hB8 : Below w.heap.size w w8 := (by repeat (first | (with_reducible exact hB7) | (with_reducible exact Below.refl _ _) | ((with_reducible refine below_setr ?_ ?_); focus (first | (simp; done) | (simp; omega) | omega)) | ((with_reducible refine below_allocr ?_ ?_); focus (first | (simp; done) | (simp; omega) | omega)) | (with_reducible refine Below.drew ?_) | (with_reducible refine below_drewN ?_ _) | ((with_reducible apply below_via); focus (with_reducible assumption))))
      go_wp2_with fail
      go_ret
      exact ⟨rfl, hB8⟩
    · have hN2 : ¬ (0 : Int) < (NL.length : Int) := by omega
      go_wp2_with fail
      refine (phone_promise ⟨i2, c2, H2, N2, S2⟩ k n t nB _ (HR2.out.later (by repeat (first | (with_reducible exact h26) | (with_reducible exact Below.refl _ _) | ((with_reducible refine below_setr ?_ ?_); focus (first | (simp; done) | (simp; omega) | omega)) | ((with_reducible refine below_allocr ?_ ?_); focus (first | (simp; done) | (simp; omega) | omega)) | (with_reducible refine Below.drew ?_) | (with_reducible refine below_drewN ?_ _) | ((with_reducible apply below_via); focus (with_reducible assumption)))) (Nat.le_refl _))).mono ?_
      rintro e w7 ⟨⟨i7, c7, ⟨J7, jc, JL⟩, ⟨M7, mc, ML⟩, S7⟩, rfl, hd7, hr7, hb7⟩
      rw [HD2.out] at hd7
      rw [HD2.out]
      clear a0 a1 a2 a3 a4 af
      clear b0 b1 b2 b3 b4 bf
      have K_a : Blk _ (w.heap.size) 26 #[.int .i64 id, .bool cut, .slice (HA) HL.length Hc, .slice (NA) NL.length Nc, .slice S.A S.l.length S.c] := blk_later hb7 (by simp [hp_past, hp_at, hp_other, hp_same, hp_drew, hp_drewN, B_a.out.eq, B_a.out.lt, hp_same B_a.out.eq])
      obtain ⟨a0, a1, a2, a3, a4, af, az⟩ := Blk.b5 K_a
      have B_a := Lib.hid K_a
      clear K_a
      have K_b : Blk _ (w2.heap.size) 33 #[.int .i64 i2, .bool c2, .slice H2.A H2.l.length H2.c, .slice N2.A N2.l.length N2.c, .slice S2.A S2.l.length S2.c] := blk_later hb7 (by simp [hp_past, hp_at, hp_other, hp_same, hp_drew, hp_drewN, B_b.out.eq, B_b.out.lt, hp_same B_b.out.eq])
      obtain ⟨b0, b1, b2, b3, b4, bf, bz⟩ := Blk.b5 K_b
      have B_b := Lib.hid K_b
      clear K_b
      have h27 : Below w2.heap.size w2 w7 := (by repeat (first | (with_reducible exact h26) | (with_reducible exact Below.refl _ _) | ((with_reducible refine below_setr ?_ ?_); focus (first | (simp; done) | (simp; omega) | omega)) | ((with_reducible refine below_allocr ?_ ?_); focus (first | (simp; done) | (simp; omega) | omega)) | (with_reducible refine Below.drew ?_) | (with_reducible refine below_drewN ?_ _) | ((with_reducible apply below_via); focus (with_reducible assumption))))
      have hB7 : Below w.heap.size w w7 := (by repeat (first | (with_reducible exact hB6) | (with_reducible exact Below.refl _ _) | ((with_reducible refine below_setr ?_ ?_); focus (first | (simp; done) | (simp; omega) | omega)) | ((with_reducible refine below_allocr ?_ ?_); focus (first | (simp; done) | (simp; omega) | omega)) | (with_reducible refine Below.drew ?_) | (with_reducible refine below_drewN ?_ _) | ((with_reducible apply below_via); focus (with_reducible assumption))))
      have HR7 := Lib.hid hr7
      have HD7 := Lib.hid hd7
      clear hb7 h26 hr7 hd7
      simp only [Phone.v]
      have HDS : Hid (Phone.d ⟨i7, c7, ⟨J7, jc, JL⟩, ⟨M7, mc, ML⟩, S7⟩ = (⟨id, cut, HL, NL.map Note.d, S.l⟩ : PhoneD)) := Lib.hid (HD7.out.trans HPN.out.2)
      have her0 := HPN.out.1
      generalize (PhoneD.promise (⟨id, cut, HL, NL.map Note.d, S.l⟩ : PhoneD) k n t nB).2 = er at *
      have her : (er != 0) = true := by simp [her0]
      have her2 : (er == 0) = false := by simp [her0]
      clear her0
      go_wp2_with fail
      refine (lsame ⟨i7, c7, ⟨J7, jc, JL⟩, ⟨M7, mc, ML⟩, S7⟩ ⟨id, cut, ⟨HA, Hc, HL⟩, ⟨NA, Nc, NL⟩, S⟩ _ (HR7.out.later (by repeat (first | (with_reducible exact Below.refl _ _) | ((with_reducible refine below_setr ?_ ?_); focus (first | (simp; done) | (simp; omega) | omega)) | ((with_reducible refine below_allocr ?_ ?_); focus (first | (simp; done) | (simp; omega) | omega)) | (with_reducible refine Below.drew ?_) | (with_reducible refine below_drewN ?_ _) | ((with_reducible apply below_via); focus (with_reducible assumption)))) (Nat.le_refl _)) (HP.out.later (by repeat (first | (with_reducible exact hB7) | (with_reducible exact Below.refl _ _) | ((with_reducible refine below_setr ?_ ?_); focus (first | (simp; done) | (simp; omega) | omega)) | ((with_reducible refine below_allocr ?_ ?_); focus (first | (simp; done) | (simp; omega) | omega)) | (with_reducible refine Below.drew ?_) | (with_reducible refine below_drewN ?_ _) | ((with_reducible apply below_via); focus (with_reducible assumption)))) (Nat.le_refl _)) HDS.out).mono ?_
      rintro e w8 ⟨rfl, hb8⟩
      have hB8 : Below w.heap.size w w8 := (by repeat (first | (with_reducible exact hB7) | (with_reducible exact Below.refl _ _) | ((with_reducible refine below_setr ?_ ?_); focus (first | (simp; done) | (simp; omega) | omega)) | ((with_reducible refine below_allocr ?_ ?_); focus (first | (simp; done) | (simp; omega) | omega)) | (with_reducible refine Below.drew ?_) | (with_reducible refine below_drewN ?_ _) | ((with_reducible apply below_via); focus (with_reducible assumption))))
      go_wp2_with fail
      go_ret
      exact ⟨rfl, hB8⟩
  · have hso : HL.Pairwise (fun a b => a.st < b.st) := (holdsR_iff (PhoneD.right_iff HRI.out).H).2.1
    have hxb := (holdsR_iff (PhoneD.right_iff HRI.out).H).2.2
    obtain ⟨x, hx, _⟩ := hidx_at hso hh
    have hfk : findK Hold.st k 0 HL = (hidx HL k : Int) := by rw [findK_at hso hh]; simp [hidx]
    have HPS : Hid (((PhoneD.promise (⟨id, cut, HL, NL.map Note.d, S.l⟩ : PhoneD) k n t nB).2 ≠ 0 ∧ (PhoneD.promise (⟨id, cut, HL, NL.map Note.d, S.l⟩ : PhoneD) k n t nB).1 = (⟨id, cut, HL, NL.map Note.d, S.l⟩ : PhoneD) ∧ (x.u - x.s < n ∨ lateN (NL.map Note.d) t = true)) ∨ (n ≤ x.u - x.s ∧ lateN (NL.map Note.d) t = false ∧ PhoneD.promise (⟨id, cut, HL, NL.map Note.d, S.l⟩ : PhoneD) k n t nB = (after1 (⟨id, cut, HL, NL.map Note.d, S.l⟩ : PhoneD) (hidx HL k) x n t, 0))) := Lib.hid (pro_some HRI.out hhN (k := k) q1 q3 q5 q6 hh hx)
    have HTW : Hid (∀ M, 1 ≤ M → M ≤ 1099511627776 → n ≤ x.u - x.s → lateN (NL.map Note.d) t = false → (((after1 (⟨id, cut, HL, NL.map Note.d, S.l⟩ : PhoneD) (hidx HL k) x n t).promise k M t nB).2 = 0 ↔ (PhoneD.promise (⟨id, cut, HL, NL.map Note.d, S.l⟩ : PhoneD) k (n + M) t nB).2 = 0)) := Lib.hid (fun M h1 h2 h3 h4 => promise_two HRI.out (by show (NL.map Note.d).length ≤ 50; rw [List.length_map]; omega) hh hx q1 q3 h1 h2 h3 h4 q5 q6)
    have HHH := Lib.hid hh
    obtain ⟨x1, x2, x3, x4, x5⟩ := hxb x (List.mem_of_getElem? hx)
    have hil := (List.getElem?_eq_some_iff.1 hx).1
    simp only [hfk]
    obtain ⟨bh, oh, rfl, hbH, hch⟩ := HP.out.1.2.2.2 (hidx HL k) x hx
    try simp only at hil
    generalize hidx HL k = i at *
    obtain ⟨f0, f1, f2⟩ := Cells.c3 (hch.keep (hB6.block bh hbH))
    have HX := Lib.hid hx
    have HCH := Lib.hid hch
    have hwu : IntKind.i64.wrap (x.u - x.s) = x.u - x.s := by rw [IntKind.wrap_i64]; omega
    have hi0 : (0 : Int) ≤ (i : Int) := by omega
    have hi1 : (i : Int) < (HL.length : Int) := by omega
    clear hfk hh hso hxb hx hch
    rcases Int.lt_or_le 0 (NL.length : Int) with hN | hN
    · skip
      obtain ⟨j, hj⟩ : ∃ j, NL.length = j + 1 := ⟨NL.length - 1, by omega⟩
      obtain ⟨bn, on, rfl, hbF, hcl⟩ := HP.out.2.1.1.at1 (i := j) (show j < NL.length by omega)
      obtain ⟨g0, g1, g2, g3, g4⟩ := Cells.c5 (hcl.keep (hB6.block bn hbF))
      have hyj : NL[j]? = some NL[j] := List.getElem?_eq_getElem _
      have hlate := late_last t hj hyj
      simp only at g3
      generalize NL[j] = y at *
      have hw1 : (NL.length : Int) - 1 = (j : Int) := by omega
      have hw2 : (j : Int) < (NL.length : Int) := by omega
      have hw3 : (0 : Int) ≤ (j : Int) := by omega
      have HLATE := Lib.hid hlate
      clear hcl g0 g1 g2 g4 hj hyj hlate
      go_wp2_with fail
      refine wp_region_T (fun w' => w'.cell? ⟨w.heap.size, 2, none⟩ = some (.slice (some ⟨bh, oh, none⟩) HL.length Hc) ∧ w'.cell? ⟨bh, oh + i * 3 + 1, none⟩ = some (.int .i64 x.u) ∧ w'.cell? ⟨bh, oh + i * 3 + 2, none⟩ = some (.int .i64 x.s)) (fun _ => false) (by kernel_rfl) ⟨a2, f1, f2⟩ (fun hHeld => ?_)
      refine wpAnyT_take2 (i := 0) (v := ?_) rfl rfl (by kernel_rfl) (by kernel_rfl) (by kernel_rfl) (by kernel_rfl) (fun _ _ _ h => h) (Or.inl ⟨by rfl, ?_⟩) (by first | assumption | trivial) ?_
      rotate_left
      · (intro w hSw; (try dsimp only at hSw); go_simp) <;> (with_reducible rfl)
      simp only [List.setIfInBounds_toArray, List.set_cons_zero, List.set_cons_succ]
      refine wpAnyT_take2 (i := 1) (v := ?_) rfl rfl (by kernel_rfl) (by kernel_rfl) (by kernel_rfl) (by kernel_rfl) (fun _ _ _ h => h) (Or.inl ⟨by rfl, ?_⟩) (by first | assumption | trivial) ?_
      rotate_left
      · (intro w hSw; (try dsimp only at hSw); go_simp) <;> (with_reducible rfl)
      simp only [List.setIfInBounds_toArray, List.set_cons_zero, List.set_cons_succ]
      refine wpAnyT_take2 (i := 2) (v := ?_) rfl rfl (by kernel_rfl) (by kernel_rfl) (by kernel_rfl) (by kernel_rfl) (fun _ _ _ h => h) (Or.inl ⟨by rfl, ?_⟩) (by first | assumption | trivial) ?_
      rotate_left
      · (intro w hSw; (try dsimp only at hSw); go_simp) <;> (with_reducible rfl)
      simp only [List.setIfInBounds_toArray, List.set_cons_zero, List.set_cons_succ]
      refine wpAnyT_take2 (i := 3) (v := ?_) rfl rfl (by kernel_rfl) (by kernel_rfl) (by kernel_rfl) (by kernel_rfl) (fun _ _ _ h => h) (Or.inl ⟨by rfl, ?_⟩) (by first | assumption | trivial) ?_
      rotate_left
      · (intro w hSw; (try dsimp only at hSw); go_simp) <;> (with_reducible rfl)
      simp only [List.setIfInBounds_toArray, List.set_cons_zero, List.set_cons_succ]
      refine wpAnyT_take2 (i := 4) (v := ?_) rfl rfl (by kernel_rfl) (by kernel_rfl) (by kernel_rfl) (by kernel_rfl) (fun _ _ _ h => h) (Or.inl ⟨by rfl, ?_⟩) (by first | assumption | trivial) ?_
      rotate_left
      · (intro w hSw; (try dsimp only at hSw); go_simp) <;> (with_reducible rfl)
      simp only [List.setIfInBounds_toArray, List.set_cons_zero, List.set_cons_succ]
      refine wpAnyT_take2 (i := 5) (v := ?_) rfl rfl (by kernel_rfl) (by kernel_rfl) (by kernel_rfl) (by kernel_rfl) (fun _ _ _ h => h) (Or.inl ⟨by rfl, ?_⟩) (by first | assumption | trivial) ?_
      rotate_left
      · (intro w hSw; (try dsimp only at hSw); go_simp) <;> (with_reducible rfl)
      simp only [List.setIfInBounds_toArray, List.set_cons_zero, List.set_cons_succ]
      refine wpAnyT_take2 (i := 6) (v := ?_) rfl rfl (by kernel_rfl) (by kernel_rfl) (by kernel_rfl) (by kernel_rfl) (fun _ _ _ h => h) (Or.inl ⟨by rfl, ?_⟩) (by first | assumption | trivial) ?_
      rotate_left
      · (intro w hSw; (try dsimp only at hSw); go_simp) <;> (with_reducible rfl)
      simp only [List.setIfInBounds_toArray, List.set_cons_zero, List.set_cons_succ]
      refine wpAnyT_take2 (i := 7) (v := ?_) rfl rfl (by kernel_rfl) (by kernel_rfl) (by kernel_rfl) (by kernel_rfl) (fun _ _ _ h => h) (Or.inl ⟨by rfl, ?_⟩) (by first | assumption | trivial) ?_
      rotate_left
      · (intro w hSw; (try dsimp only at hSw); go_simp) <;> (with_reducible rfl)
      simp only [List.setIfInBounds_toArray, List.set_cons_zero, List.set_cons_succ]
      refine wpAnyT_take2 (i := 8) (v := ?_) rfl rfl (by kernel_rfl) (by kernel_rfl) (by kernel_rfl) (by kernel_rfl) (fun _ _ _ h => h) (Or.inl ⟨by rfl, ?_⟩) (by first | assumption | trivial) ?_
      rotate_left
      · (intro w hSw; (try dsimp only at hSw); go_simp) <;> (with_reducible rfl)
      simp only [List.setIfInBounds_toArray, List.set_cons_zero, List.set_cons_succ]
      refine wpAnyT_take2 (i := 9) (v := ?_) rfl rfl (by kernel_rfl) (by kernel_rfl) (by kernel_rfl) (by kernel_rfl) (fun _ _ _ h => h) (Or.inl ⟨by rfl, ?_⟩) (by first | assumption | trivial) ?_
      rotate_left
      · (intro w hSw; (try dsimp only at hSw); go_simp) <;> (with_reducible rfl)
      simp only [List.setIfInBounds_toArray, List.set_cons_zero, List.set_cons_succ]
      refine wpAnyT_take2 (i := 10) (v := ?_) rfl rfl (by kernel_rfl) (by kernel_rfl) (by kernel_rfl) (by kernel_rfl) (fun _ _ _ h => h) (Or.inl ⟨by rfl, ?_⟩) (by first | assumption | trivial) ?_
      rotate_left
      · (intro w hSw; (try dsimp only at hSw); go_simp) <;> (with_reducible rfl)
      simp only [List.setIfInBounds_toArray, List.set_cons_zero, List.set_cons_succ]
      refine wpAnyT_take2 (i := 11) (v := ?_) rfl rfl (by kernel_rfl) (by kernel_rfl) (by kernel_rfl) (by kernel_rfl) (fun _ _ _ h => h) (Or.inl ⟨by rfl, ?_⟩) (by first | assumption | trivial) ?_
      rotate_left
      · (intro w hSw; (try dsimp only at hSw); go_simp) <;> (with_reducible rfl)
      simp only [List.setIfInBounds_toArray, List.set_cons_zero, List.set_cons_succ]
      refine wpAnyT_take2 (i := 12) (v := ?_) rfl rfl (by kernel_rfl) (by kernel_rfl) (by kernel_rfl) (by kernel_rfl) (fun _ _ _ h => h) (Or.inl ⟨by rfl, ?_⟩) (by first | assumption | trivial) ?_
      rotate_left
      · (intro w hSw; (try dsimp only at hSw); go_simp) <;> (with_reducible rfl)
      simp only [List.setIfInBounds_toArray, List.set_cons_zero, List.set_cons_succ]
      refine wpAnyT_take2 (i := 13) (v := ?_) rfl rfl (by kernel_rfl) (by kernel_rfl) (by kernel_rfl) (by kernel_rfl) (fun _ _ _ h => h) (Or.inl ⟨by rfl, ?_⟩) (by first | assumption | trivial) ?_
      rotate_left
      · (intro w hSw; (try dsimp only at hSw); go_simp) <;> (with_reducible rfl)
      simp only [List.setIfInBounds_toArray, List.set_cons_zero, List.set_cons_succ]
      refine wpAnyT_done (by kernel_rfl) ?_ _
      clear hHeld
      go_wp2_with fail
      refine (phone_promise ⟨i2, c2, H2, N2, S2⟩ k n t nB _ (HR2.out.later (by repeat (first | (with_reducible exact h26) | (with_reducible exact Below.refl _ _) | ((with_reducible refine below_setr ?_ ?_); focus (first | (simp; done) | (simp; omega) | omega)) | ((with_reducible refine below_allocr ?_ ?_); focus (first | (simp; done) | (simp; omega) | omega)) | (with_reducible refine Below.drew ?_) | (with_reducible refine below_drewN ?_ _) | ((with_reducible apply below_via); focus (with_reducible assumption)))) (Nat.le_refl _))).mono ?_
      rintro e w7 ⟨⟨i7, c7, ⟨J7, jc, JL⟩, ⟨M7, mc, ML⟩, S7⟩, rfl, hd7, hr7, hb7⟩
      rw [HD2.out] at hd7
      rw [HD2.out]
      clear a0 a1 a2 a3 a4 af
      clear b0 b1 b2 b3 b4 bf
      have K_a : Blk _ (w.heap.size) 26 #[.int .i64 id, .bool cut, .slice (some ⟨bh, oh, none⟩) HL.length Hc, .slice (some ⟨bn, on, none⟩) NL.length Nc, .slice S.A S.l.length S.c] := blk_later hb7 (by simp [hp_past, hp_at, hp_other, hp_same, hp_drew, hp_drewN, B_a.out.eq, B_a.out.lt, hp_same B_a.out.eq])
      obtain ⟨a0, a1, a2, a3, a4, af, az⟩ := Blk.b5 K_a
      have B_a := Lib.hid K_a
      clear K_a
      have K_b : Blk _ (w2.heap.size) 33 #[.int .i64 i2, .bool c2, .slice H2.A H2.l.length H2.c, .slice N2.A N2.l.length N2.c, .slice S2.A S2.l.length S2.c] := blk_later hb7 (by simp [hp_past, hp_at, hp_other, hp_same, hp_drew, hp_drewN, B_b.out.eq, B_b.out.lt, hp_same B_b.out.eq])
      obtain ⟨b0, b1, b2, b3, b4, bf, bz⟩ := Blk.b5 K_b
      have B_b := Lib.hid K_b
      clear K_b
      have h27 : Below w2.heap.size w2 w7 := (by repeat (first | (with_reducible exact h26) | (with_reducible exact Below.refl _ _) | ((with_reducible refine below_setr ?_ ?_); focus (first | (simp; done) | (simp; omega) | omega)) | ((with_reducible refine below_allocr ?_ ?_); focus (first | (simp; done) | (simp; omega) | omega)) | (with_reducible refine Below.drew ?_) | (with_reducible refine below_drewN ?_ _) | ((with_reducible apply below_via); focus (with_reducible assumption))))
      have hB7 : Below w.heap.size w w7 := (by repeat (first | (with_reducible exact hB6) | (with_reducible exact Below.refl _ _) | ((with_reducible refine below_setr ?_ ?_); focus (first | (simp; done) | (simp; omega) | omega)) | ((with_reducible refine below_allocr ?_ ?_); focus (first | (simp; done) | (simp; omega) | omega)) | (with_reducible refine Below.drew ?_) | (with_reducible refine below_drewN ?_ _) | ((with_reducible apply below_via); focus (with_reducible assumption))))
      have HR7 := Lib.hid hr7
      have HD7 := Lib.hid hd7
      clear hb7 h26 hr7 hd7
      simp only [Phone.v]
      rcases HPS.out with ⟨p2, p1, pc⟩ | ⟨pn, pl, pe⟩
      · have HP1 := Lib.hid p1
        have HP2 := Lib.hid p2
        clear p1 p2
        rcases Int.lt_or_le (x.u - x.s) n with pn | pn
        · clear pc
          have HDS : Hid (Phone.d ⟨i7, c7, ⟨J7, jc, JL⟩, ⟨M7, mc, ML⟩, S7⟩ = (⟨id, cut, HL, NL.map Note.d, S.l⟩ : PhoneD)) := Lib.hid (HD7.out.trans HP1.out)
          have her0 := HP2.out
          generalize (PhoneD.promise (⟨id, cut, HL, NL.map Note.d, S.l⟩ : PhoneD) k n t nB).2 = er at *
          have her : (er != 0) = true := by simp [her0]
          have her2 : (er == 0) = false := by simp [her0]
          clear her0
          go_wp2_with fail
          refine (lsame ⟨i7, c7, ⟨J7, jc, JL⟩, ⟨M7, mc, ML⟩, S7⟩ ⟨id, cut, ⟨some ⟨bh, oh, none⟩, Hc, HL⟩, ⟨some ⟨bn, on, none⟩, Nc, NL⟩, S⟩ _ (HR7.out.later (by repeat (first | (with_reducible exact Below.refl _ _) | ((with_reducible refine below_setr ?_ ?_); focus (first | (simp; done) | (simp; omega) | omega)) | ((with_reducible refine below_allocr ?_ ?_); focus (first | (simp; done) | (simp; omega) | omega)) | (with_reducible refine Below.drew ?_) | (with_reducible refine below_drewN ?_ _) | ((with_reducible apply below_via); focus (with_reducible assumption)))) (Nat.le_refl _)) (HP.out.later (by repeat (first | (with_reducible exact hB7) | (with_reducible exact Below.refl _ _) | ((with_reducible refine below_setr ?_ ?_); focus (first | (simp; done) | (simp; omega) | omega)) | ((with_reducible refine below_allocr ?_ ?_); focus (first | (simp; done) | (simp; omega) | omega)) | (with_reducible refine Below.drew ?_) | (with_reducible refine below_drewN ?_ _) | ((with_reducible apply below_via); focus (with_reducible assumption)))) (Nat.le_refl _)) HDS.out).mono ?_
          rintro e w8 ⟨rfl, hb8⟩
          have hB8 : Below w.heap.size w w8 := (by repeat (first | (with_reducible exact hB7) | (with_reducible exact Below.refl _ _) | ((with_reducible refine below_setr ?_ ?_); focus (first | (simp; done) | (simp; omega) | omega)) | ((with_reducible refine below_allocr ?_ ?_); focus (first | (simp; done) | (simp; omega) | omega)) | (with_reducible refine Below.drew ?_) | (with_reducible refine below_drewN ?_ _) | ((with_reducible apply below_via); focus (with_reducible assumption))))
          go_wp2_with fail
          go_ret
          exact ⟨rfl, hB8⟩
        · have hty : t < y.tm := by
            rcases pc with pc | pc
            · omega
            · have h1 : lateN (NL.map Note.d) t = true := pc
              rw [HLATE.out] at h1; simpa using h1
          clear pc
          have HDS : Hid (Phone.d ⟨i7, c7, ⟨J7, jc, JL⟩, ⟨M7, mc, ML⟩, S7⟩ = (⟨id, cut, HL, NL.map Note.d, S.l⟩ : PhoneD)) := Lib.hid (HD7.out.trans HP1.out)
          have her0 := HP2.out
          generalize (PhoneD.promise (⟨id, cut, HL, NL.map Note.d, S.l⟩ : PhoneD) k n t nB).2 = er at *
          have her : (er != 0) = true := by simp [her0]
          have her2 : (er == 0) = false := by simp [her0]
          clear her0
          go_wp2_with fail
          refine (lsame ⟨i7, c7, ⟨J7, jc, JL⟩, ⟨M7, mc, ML⟩, S7⟩ ⟨id, cut, ⟨some ⟨bh, oh, none⟩, Hc, HL⟩, ⟨some ⟨bn, on, none⟩, Nc, NL⟩, S⟩ _ (HR7.out.later (by repeat (first | (with_reducible exact Below.refl _ _) | ((with_reducible refine below_setr ?_ ?_); focus (first | (simp; done) | (simp; omega) | omega)) | ((with_reducible refine below_allocr ?_ ?_); focus (first | (simp; done) | (simp; omega) | omega)) | (with_reducible refine Below.drew ?_) | (with_reducible refine below_drewN ?_ _) | ((with_reducible apply below_via); focus (with_reducible assumption)))) (Nat.le_refl _)) (HP.out.later (by repeat (first | (with_reducible exact hB7) | (with_reducible exact Below.refl _ _) | ((with_reducible refine below_setr ?_ ?_); focus (first | (simp; done) | (simp; omega) | omega)) | ((with_reducible refine below_allocr ?_ ?_); focus (first | (simp; done) | (simp; omega) | omega)) | (with_reducible refine Below.drew ?_) | (with_reducible refine below_drewN ?_ _) | ((with_reducible apply below_via); focus (with_reducible assumption)))) (Nat.le_refl _)) HDS.out).mono ?_
          rintro e w8 ⟨rfl, hb8⟩
          have hB8 : Below w.heap.size w w8 := (by repeat (first | (with_reducible exact hB7) | (with_reducible exact Below.refl _ _) | ((with_reducible refine below_setr ?_ ?_); focus (first | (simp; done) | (simp; omega) | omega)) | ((with_reducible refine below_allocr ?_ ?_); focus (first | (simp; done) | (simp; omega) | omega)) | (with_reducible refine Below.drew ?_) | (with_reducible refine below_drewN ?_ _) | ((with_reducible apply below_via); focus (with_reducible assumption))))
          go_wp2_with fail
          go_ret
          exact ⟨rfl, hB8⟩
      · have hty : y.tm ≤ t := by
          have h1 : lateN (NL.map Note.d) t = false := pl
          rw [HLATE.out] at h1; simpa using h1
        have hd7 := HD7.out
        rw [pe] at hd7
        rw [pe]
        have HD8 : Hid (Phone.d ⟨i7, c7, ⟨J7, jc, JL⟩, ⟨M7, mc, ML⟩, S7⟩ = after1 (⟨id, cut, HL, NL.map Note.d, S.l⟩ : PhoneD) i x n t) := Lib.hid hd7
        simp only [after1, Phone.d, PhoneD.mk.injEq] at hd7
        obtain ⟨e1, e2, e3, e4, e5⟩ := hd7
        replace e1 := e1.symm
        replace e2 := e2.symm
        subst e1
        subst e2
        have hlH : JL.length = HL.length := by rw [e3, List.length_set]
        have hlN : ML.length = NL.length + 1 := by
          have := congrArg List.length e4
          simpa using this
        obtain ⟨b7, o7, rfl, -, -⟩ := HR7.out.1.at1 (i := 0) (show 0 < JL.length by omega)
        obtain ⟨b9, o9, rfl, -, -⟩ := HR7.out.2.1.1.at1 (i := 0) (show 0 < ML.length by omega)
        have hlH2 : (JL.length : Int) = (HL.length : Int) := by omega
        have hlN2 : (ML.length : Int) = (NL.length : Int) + 1 := by omega
        have hrt : PhoneD.right (after1 (⟨id, cut, HL, NL.map Note.d, S.l⟩ : PhoneD) i x n t) = true := promise_right HRI.out hhN HX.out q1 pn q5 q6 pl
        have HRT := Lib.hid hrt
        have HE3 := Lib.hid e3
        have HE4 := Lib.hid e4
        have HLH := Lib.hid hlH
        have HLN := Lib.hid hlN
        have HTM := Lib.hid (HTW.out m q2 q4 pn pl)
        clear HD7 pe e3 e4 e5 hrt hlH hlN
        go_wp2_with fail
        refine (phone_right ⟨id, cut, ⟨some ⟨b7, o7, none⟩, jc, JL⟩, ⟨some ⟨b9, o9, none⟩, mc, ML⟩, S7⟩ _ (HR7.out.later (by repeat (first | (with_reducible exact Below.refl _ _) | ((with_reducible refine below_setr ?_ ?_); focus (first | (simp; done) | (simp; omega) | omega)) | ((with_reducible refine below_allocr ?_ ?_); focus (first | (simp; done) | (simp; omega) | omega)) | (with_reducible refine Below.drew ?_) | (with_reducible refine below_drewN ?_ _) | ((with_reducible apply below_via); focus (with_reducible assumption)))) (Nat.le_refl _))).mono ?_
        rintro e w8 ⟨rfl, hb8⟩
        rw [HD8.out, HRT.out]
        clear a0 a1 a2 a3 a4 af
        clear b0 b1 b2 b3 b4 bf
        have K_a : Blk _ (w.heap.size) 26 #[.int .i64 id, .bool cut, .slice (some ⟨bh, oh, none⟩) HL.length Hc, .slice (some ⟨bn, on, none⟩) NL.length Nc, .slice S.A S.l.length S.c] := blk_later hb8 (by simp [hp_past, hp_at, hp_other, hp_same, hp_drew, hp_drewN, B_a.out.eq, B_a.out.lt, hp_same B_a.out.eq])
        obtain ⟨a0, a1, a2, a3, a4, af, az⟩ := Blk.b5 K_a
        have B_a := Lib.hid K_a
        clear K_a
        have K_b : Blk _ (w2.heap.size) 33 #[.int .i64 i2, .bool c2, .slice H2.A H2.l.length H2.c, .slice N2.A N2.l.length N2.c, .slice S2.A S2.l.length S2.c] := blk_later hb8 (by simp [hp_past, hp_at, hp_other, hp_same, hp_drew, hp_drewN, B_b.out.eq, B_b.out.lt, hp_same B_b.out.eq])
        obtain ⟨b0, b1, b2, b3, b4, bf, bz⟩ := Blk.b5 K_b
        have B_b := Lib.hid K_b
        clear K_b
        have K_c : Blk _ (w7.heap.size) 33 #[.int .i64 id, .bool cut, .slice (some ⟨b7, o7, none⟩) JL.length jc, .slice (some ⟨b9, o9, none⟩) ML.length mc, .slice S7.A S7.l.length S7.c] := blk_later hb8 (by simp [hp_past, hp_at, hp_other, hp_same, hp_drew, hp_drewN])
        obtain ⟨c0, c1, c2, c3, c4, cf, cz⟩ := Blk.b5 K_c
        have B_c := Lib.hid K_c
        clear K_c
        have h28 : Below w2.heap.size w2 w8 := (by repeat (first | (with_reducible exact h27) | (with_reducible exact Below.refl _ _) | ((with_reducible refine below_setr ?_ ?_); focus (first | (simp; done) | (simp; omega) | omega)) | ((with_reducible refine below_allocr ?_ ?_); focus (first | (simp; done) | (simp; omega) | omega)) | (with_reducible refine Below.drew ?_) | (with_reducible refine below_drewN ?_ _) | ((with_reducible apply below_via); focus (with_reducible assumption))))
        have hB8 : Below w.heap.size w w8 := (by repeat (first | (with_reducible exact hB7) | (with_reducible exact Below.refl _ _) | ((with_reducible refine below_setr ?_ ?_); focus (first | (simp; done) | (simp; omega) | omega)) | ((with_reducible refine below_allocr ?_ ?_); focus (first | (simp; done) | (simp; omega) | omega)) | (with_reducible refine Below.drew ?_) | (with_reducible refine below_drewN ?_ _) | ((with_reducible apply below_via); focus (with_reducible assumption))))
        have h78 : Below w7.heap.size w7 w8 := Below.trans (Below.alloc (Below.refl _ _) (Nat.le_refl _) _) (hb8.mono (by simp))
        have HR8 := Lib.hid (HR7.out.later h78 (Nat.le_refl _))
        clear hb8 h27 HR7 h78
        go_wp2_with fail
        clear a0 a1 a2 a3 a4 af
        clear b0 b1 b2 b3 b4 bf
        clear c0 c1 c2 c3 c4 cf
        go_loopw [18] (fun vi wr => ∃ (q : Nat), q ≤ HL.length ∧ vi = .int .i64 q ∧ Below w8.heap.size w8 wr) (fun vi _ => HL.length - (intOf vi).toNat)
        case atStart => exact ⟨0, by omega, rfl, Below.refl _ _⟩
        case round =>
          obtain ⟨q, hq, rfl, hbw⟩ := hrel
          have hzw : w8.heap.size ≤ wr.heap.size := hbw.size
          have A1 := B_a.out.below hbw B_a.out.lt
          have C1 := B_c.out.below hbw B_c.out.lt
          obtain ⟨a0, a1, a2, a3, a4, af, az2⟩ := A1.b5
          obtain ⟨d0, d1, d2, d3, d4, df, dz2⟩ := C1.b5
          have BA1 := Lib.hid A1
          have BC1 := Lib.hid C1
          have hB9 : Below w.heap.size w wr := below_via hbw hB8
          clear A1 C1
          by_cases hql : q < HL.length
          · have hqj : q < JL.length := by have := HLH.out; omega
            obtain ⟨u1, u2, hA, hF, hcl⟩ := HP.out.1.at1 (i := q) hql
            simp only [Option.some.injEq, Addr.mk.injEq, and_true] at hA
            obtain ⟨rfl, rfl⟩ := hA
            obtain ⟨v1, v2, hA, hG, hcl2⟩ := HR8.out.1.at1 (i := q) hqj
            simp only [Option.some.injEq, Addr.mk.injEq, and_true] at hA
            obtain ⟨rfl, rfl⟩ := hA
            obtain ⟨_, m1, m2⟩ := Cells.c3 (hcl.keep (hB9.block _ hF))
            obtain ⟨_, n1, n2⟩ := Cells.c3 (hcl2.keep (hbw.block _ hG))
            have hJq : JL[q] = if q = i then { x with s := x.s + n } else HL[q] := by
              have h1 := HE3.out
              have h2 : (HL.set i { x with s := x.s + n })[q]? = some JL[q] := by rw [← h1]; exact List.getElem?_eq_getElem hqj
              rw [List.getElem?_set] at h2
              split at h2
              · rename_i hiq
                subst hiq
                rw [if_pos rfl]
                simp [hql] at h2
                exact h2.symm
              · rename_i hiq
                rw [if_neg (fun e => hiq e.symm)]
                rw [List.getElem?_eq_getElem hql] at h2
                injection h2 with h2
                exact h2.symm
            have hHq : q = i → HL[q] = x := fun e => by
              subst e
              have := HX.out
              rw [List.getElem?_eq_getElem hql] at this
              injection this
            simp only at m1 m2 n1 n2
            generalize HL[q] = hx at *
            generalize JL[q] = jx at *
            obtain ⟨hst, hu, hs⟩ := hx
            obtain ⟨jst, ju, js⟩ := jx
            simp only at m1 m2 n1 n2
            clear hcl hcl2 hqj
            have hq1 : (q : Int) < (HL.length : Int) := by omega
            have hq0 : (0 : Int) ≤ (q : Int) := by omega
            have hqj1 : (q : Int) < (JL.length : Int) := by omega
            by_cases hqi : q = i
            · rw [if_pos hqi] at hJq
              have hHq2 := hHq hqi
              obtain rfl : hu = x.u := by rw [← hHq2]
              obtain rfl : hs = x.s := by rw [← hHq2]
              obtain rfl : ju = x.u := congrArg Hold.u hJq
              obtain rfl : js = x.s + n := congrArg Hold.s hJq
              have hqe : ((q : Int) == (i : Int)) = true := by simp [hqi]
              clear hJq hHq hHq2 hqi
              go_wp2_with fail
              refine wp_region_T (fun w' => w'.cell? ⟨w.heap.size, 2, none⟩ = some (.slice (some ⟨bh, oh, none⟩) HL.length Hc) ∧ w'.cell? ⟨w7.heap.size, 2, none⟩ = some (.slice (some ⟨b7, o7, none⟩) JL.length jc) ∧ w'.cell? ⟨b7, o7 + q * 3 + 1, none⟩ = some (.int .i64 (x.u)) ∧ w'.cell? ⟨b7, o7 + q * 3 + 2, none⟩ = some (.int .i64 (x.s + n)) ∧ w'.cell? ⟨bh, oh + q * 3 + 1, none⟩ = some (.int .i64 (x.u))) (fun _ => false) (by kernel_rfl) ⟨a2, d2, n1, n2, m1⟩ (fun hHeld => ?_)
              refine wpAnyT_take2 (i := 0) (v := ?_) rfl rfl (by kernel_rfl) (by kernel_rfl) (by kernel_rfl) (by kernel_rfl) (fun _ _ _ h => h) (Or.inl ⟨by rfl, ?_⟩) (by first | assumption | trivial) ?_
              rotate_left
              · (intro w hSw; (try dsimp only at hSw); go_simp) <;> (with_reducible rfl)
              simp only [List.setIfInBounds_toArray, List.set_cons_zero, List.set_cons_succ]
              refine wpAnyT_take2 (i := 1) (v := ?_) rfl rfl (by kernel_rfl) (by kernel_rfl) (by kernel_rfl) (by kernel_rfl) (fun _ _ _ h => h) (Or.inl ⟨by rfl, ?_⟩) (by first | assumption | trivial) ?_
              rotate_left
              · (intro w hSw; (try dsimp only at hSw); go_simp) <;> (with_reducible rfl)
              simp only [List.setIfInBounds_toArray, List.set_cons_zero, List.set_cons_succ]
              refine wpAnyT_take2 (i := 2) (v := ?_) rfl rfl (by kernel_rfl) (by kernel_rfl) (by kernel_rfl) (by kernel_rfl) (fun _ _ _ h => h) (Or.inl ⟨by rfl, ?_⟩) (by first | assumption | trivial) ?_
              rotate_left
              · (intro w hSw; (try dsimp only at hSw); go_simp) <;> (with_reducible rfl)
              simp only [List.setIfInBounds_toArray, List.set_cons_zero, List.set_cons_succ]
              refine wpAnyT_take2 (i := 3) (v := ?_) rfl rfl (by kernel_rfl) (by kernel_rfl) (by kernel_rfl) (by kernel_rfl) (fun _ _ _ h => h) (Or.inl ⟨by rfl, ?_⟩) (by first | assumption | trivial) ?_
              rotate_left
              · (intro w hSw; (try dsimp only at hSw); go_simp) <;> (with_reducible rfl)
              simp only [List.setIfInBounds_toArray, List.set_cons_zero, List.set_cons_succ]
              refine wpAnyT_take2 (i := 4) (v := ?_) rfl rfl (by kernel_rfl) (by kernel_rfl) (by kernel_rfl) (by kernel_rfl) (fun _ _ _ h => h) (Or.inl ⟨by rfl, ?_⟩) (by first | assumption | trivial) ?_
              rotate_left
              · (intro w hSw; (try dsimp only at hSw); go_simp) <;> (with_reducible rfl)
              simp only [List.setIfInBounds_toArray, List.set_cons_zero, List.set_cons_succ]
              refine wpAnyT_take2 (i := 5) (v := ?_) rfl rfl (by kernel_rfl) (by kernel_rfl) (by kernel_rfl) (by kernel_rfl) (fun _ _ _ h => h) (Or.inl ⟨by rfl, ?_⟩) (by first | assumption | trivial) ?_
              rotate_left
              · (intro w hSw; (try dsimp only at hSw); go_simp) <;> (with_reducible rfl)
              simp only [List.setIfInBounds_toArray, List.set_cons_zero, List.set_cons_succ]
              refine wpAnyT_take2 (i := 6) (v := ?_) rfl rfl (by kernel_rfl) (by kernel_rfl) (by kernel_rfl) (by kernel_rfl) (fun _ _ _ h => h) (Or.inl ⟨by rfl, ?_⟩) (by first | assumption | trivial) ?_
              rotate_left
              · (intro w hSw; (try dsimp only at hSw); go_simp) <;> (with_reducible rfl)
              simp only [List.setIfInBounds_toArray, List.set_cons_zero, List.set_cons_succ]
              refine wpAnyT_take2 (i := 7) (v := ?_) rfl rfl (by kernel_rfl) (by kernel_rfl) (by kernel_rfl) (by kernel_rfl) (fun _ _ _ h => h) (Or.inl ⟨by rfl, ?_⟩) (by first | assumption | trivial) ?_
              rotate_left
              · (intro w hSw; (try dsimp only at hSw); go_simp) <;> (with_reducible rfl)
              simp only [List.setIfInBounds_toArray, List.set_cons_zero, List.set_cons_succ]
              refine wpAnyT_take2 (i := 8) (v := ?_) rfl rfl (by kernel_rfl) (by kernel_rfl) (by kernel_rfl) (by kernel_rfl) (fun _ _ _ h => h) (Or.inl ⟨by rfl, ?_⟩) (by first | assumption | trivial) ?_
              rotate_left
              · (intro w hSw; (try dsimp only at hSw); go_simp) <;> (with_reducible rfl)
              simp only [List.setIfInBounds_toArray, List.set_cons_zero, List.set_cons_succ]
              refine wpAnyT_take2 (i := 9) (v := ?_) rfl rfl (by kernel_rfl) (by kernel_rfl) (by kernel_rfl) (by kernel_rfl) (fun _ _ _ h => h) (Or.inl ⟨by rfl, ?_⟩) (by first | assumption | trivial) ?_
              rotate_left
              · (intro w hSw; (try dsimp only at hSw); go_simp) <;> (with_reducible rfl)
              simp only [List.setIfInBounds_toArray, List.set_cons_zero, List.set_cons_succ]
              refine wpAnyT_take2 (i := 10) (v := ?_) rfl rfl (by kernel_rfl) (by kernel_rfl) (by kernel_rfl) (by kernel_rfl) (fun _ _ _ h => h) (Or.inl ⟨by rfl, ?_⟩) (by first | assumption | trivial) ?_
              rotate_left
              · (intro w hSw; (try dsimp only at hSw); go_simp) <;> (with_reducible rfl)
              simp only [List.setIfInBounds_toArray, List.set_cons_zero, List.set_cons_succ]
              refine wpAnyT_take2 (i := 11) (v := ?_) rfl rfl (by kernel_rfl) (by kernel_rfl) (by kernel_rfl) (by kernel_rfl) (fun _ _ _ h => h) (Or.inl ⟨by rfl, ?_⟩) (by first | assumption | trivial) ?_
              rotate_left
              · (intro w hSw; (try dsimp only at hSw); go_simp) <;> (with_reducible rfl)
              simp only [List.setIfInBounds_toArray, List.set_cons_zero, List.set_cons_succ]
              refine wpAnyT_take2 (i := 12) (v := ?_) rfl rfl (by kernel_rfl) (by kernel_rfl) (by kernel_rfl) (by kernel_rfl) (fun _ _ _ h => h) (Or.inl ⟨by rfl, ?_⟩) (by first | assumption | trivial) ?_
              rotate_left
              · (intro w hSw; (try dsimp only at hSw); go_simp) <;> (with_reducible rfl)
              simp only [List.setIfInBounds_toArray, List.set_cons_zero, List.set_cons_succ]
              refine wpAnyT_take2 (i := 13) (v := ?_) rfl rfl (by kernel_rfl) (by kernel_rfl) (by kernel_rfl) (by kernel_rfl) (fun _ _ _ h => h) (Or.inl ⟨by rfl, ?_⟩) (by first | assumption | trivial) ?_
              rotate_left
              · (intro w hSw; (try dsimp only at hSw); go_simp) <;> (with_reducible rfl)
              simp only [List.setIfInBounds_toArray, List.set_cons_zero, List.set_cons_succ]
              refine wpAnyT_take2 (i := 14) (v := ?_) rfl rfl (by kernel_rfl) (by kernel_rfl) (by kernel_rfl) (by kernel_rfl) (fun _ _ _ h => h) (Or.inl ⟨by rfl, ?_⟩) (by first | assumption | trivial) ?_
              rotate_left
              · (intro w hSw; (try dsimp only at hSw); go_simp) <;> (with_reducible rfl)
              simp only [List.setIfInBounds_toArray, List.set_cons_zero, List.set_cons_succ]
              refine wpAnyT_take2 (i := 15) (v := ?_) rfl rfl (by kernel_rfl) (by kernel_rfl) (by kernel_rfl) (by kernel_rfl) (fun _ _ _ h => h) (Or.inl ⟨by rfl, ?_⟩) (by first | assumption | trivial) ?_
              rotate_left
              · (intro w hSw; (try dsimp only at hSw); go_simp) <;> (with_reducible rfl)
              simp only [List.setIfInBounds_toArray, List.set_cons_zero, List.set_cons_succ]
              refine wpAnyT_take2 (i := 16) (v := ?_) rfl rfl (by kernel_rfl) (by kernel_rfl) (by kernel_rfl) (by kernel_rfl) (fun _ _ _ h => h) (Or.inl ⟨by rfl, ?_⟩) (by first | assumption | trivial) ?_
              rotate_left
              · (intro w hSw; (try dsimp only at hSw); go_simp) <;> (with_reducible rfl)
              simp only [List.setIfInBounds_toArray, List.set_cons_zero, List.set_cons_succ]
              refine wpAnyT_take2 (i := 17) (v := ?_) rfl rfl (by kernel_rfl) (by kernel_rfl) (by kernel_rfl) (by kernel_rfl) (fun _ _ _ h => h) (Or.inl ⟨by rfl, ?_⟩) (by first | assumption | trivial) ?_
              rotate_left
              · (intro w hSw; (try dsimp only at hSw); go_simp) <;> (with_reducible rfl)
              simp only [List.setIfInBounds_toArray, List.set_cons_zero, List.set_cons_succ]
              refine wpAnyT_take2 (i := 18) (v := ?_) rfl rfl (by kernel_rfl) (by kernel_rfl) (by kernel_rfl) (by kernel_rfl) (fun _ _ _ h => h) (Or.inl ⟨by rfl, ?_⟩) (by first | assumption | trivial) ?_
              rotate_left
              · (intro w hSw; (try dsimp only at hSw); go_simp) <;> (with_reducible rfl)
              simp only [List.setIfInBounds_toArray, List.set_cons_zero, List.set_cons_succ]
              refine wpAnyT_take2 (i := 19) (v := ?_) rfl rfl (by kernel_rfl) (by kernel_rfl) (by kernel_rfl) (by kernel_rfl) (fun _ _ _ h => h) (Or.inl ⟨by rfl, ?_⟩) (by first | assumption | trivial) ?_
              rotate_left
              · (intro w hSw; (try dsimp only at hSw); go_simp) <;> (with_reducible rfl)
              simp only [List.setIfInBounds_toArray, List.set_cons_zero, List.set_cons_succ]
              refine wpAnyT_take2 (i := 20) (v := ?_) rfl rfl (by kernel_rfl) (by kernel_rfl) (by kernel_rfl) (by kernel_rfl) (fun _ _ _ h => h) (Or.inl ⟨by rfl, ?_⟩) (by first | assumption | trivial) ?_
              rotate_left
              · (intro w hSw; (try dsimp only at hSw); go_simp) <;> (with_reducible rfl)
              simp only [List.setIfInBounds_toArray, List.set_cons_zero, List.set_cons_succ]
              refine wpAnyT_take2 (i := 21) (v := ?_) rfl rfl (by kernel_rfl) (by kernel_rfl) (by kernel_rfl) (by kernel_rfl) (fun _ _ _ h => h) (Or.inl ⟨by rfl, ?_⟩) (by first | assumption | trivial) ?_
              rotate_left
              · (intro w hSw; (try dsimp only at hSw); go_simp) <;> (with_reducible rfl)
              simp only [List.setIfInBounds_toArray, List.set_cons_zero, List.set_cons_succ]
              refine wpAnyT_take2 (i := 22) (v := ?_) rfl rfl (by kernel_rfl) (by kernel_rfl) (by kernel_rfl) (by kernel_rfl) (fun _ _ _ h => h) (Or.inl ⟨by rfl, ?_⟩) (by first | assumption | trivial) ?_
              rotate_left
              · (intro w hSw; (try dsimp only at hSw); go_simp) <;> (with_reducible rfl)
              simp only [List.setIfInBounds_toArray, List.set_cons_zero, List.set_cons_succ]
              refine wpAnyT_done (by kernel_rfl) ?_ _
              clear hHeld
              go_wp2_with fail
              go_roundw
              case rel => exact ⟨q + 1, hql, by go_num, (by repeat (first | (with_reducible exact hbw) | (with_reducible exact Below.refl _ _) | ((with_reducible refine below_setr ?_ ?_); focus (first | (simp; done) | (simp; omega) | omega)) | ((with_reducible refine below_allocr ?_ ?_); focus (first | (simp; done) | (simp; omega) | omega)) | (with_reducible refine Below.drew ?_) | (with_reducible refine below_drewN ?_ _)))⟩
              case measure => simp [intOf]; omega
            · rw [if_neg hqi] at hJq
              obtain rfl : ju = hu := congrArg Hold.u hJq
              obtain rfl : js = hs := congrArg Hold.s hJq
              have hqe : ((q : Int) == (i : Int)) = false := by simp; omega
              clear hJq hHq hqi
              go_wp2_with fail
              refine wp_region_T (fun w' => w'.cell? ⟨w.heap.size, 2, none⟩ = some (.slice (some ⟨bh, oh, none⟩) HL.length Hc) ∧ w'.cell? ⟨w7.heap.size, 2, none⟩ = some (.slice (some ⟨b7, o7, none⟩) JL.length jc) ∧ w'.cell? ⟨b7, o7 + q * 3 + 1, none⟩ = some (.int .i64 (ju)) ∧ w'.cell? ⟨b7, o7 + q * 3 + 2, none⟩ = some (.int .i64 (js)) ∧ w'.cell? ⟨bh, oh + q * 3 + 1, none⟩ = some (.int .i64 (ju))) (fun _ => false) (by kernel_rfl) ⟨a2, d2, n1, n2, m1⟩ (fun hHeld => ?_)
              refine wpAnyT_take2 (i := 0) (v := ?_) rfl rfl (by kernel_rfl) (by kernel_rfl) (by kernel_rfl) (by kernel_rfl) (fun _ _ _ h => h) (Or.inl ⟨by rfl, ?_⟩) (by first | assumption | trivial) ?_
              rotate_left
              · (intro w hSw; (try dsimp only at hSw); go_simp) <;> (with_reducible rfl)
              simp only [List.setIfInBounds_toArray, List.set_cons_zero, List.set_cons_succ]
              refine wpAnyT_take2 (i := 1) (v := ?_) rfl rfl (by kernel_rfl) (by kernel_rfl) (by kernel_rfl) (by kernel_rfl) (fun _ _ _ h => h) (Or.inl ⟨by rfl, ?_⟩) (by first | assumption | trivial) ?_
              rotate_left
              · (intro w hSw; (try dsimp only at hSw); go_simp) <;> (with_reducible rfl)
              simp only [List.setIfInBounds_toArray, List.set_cons_zero, List.set_cons_succ]
              refine wpAnyT_take2 (i := 2) (v := ?_) rfl rfl (by kernel_rfl) (by kernel_rfl) (by kernel_rfl) (by kernel_rfl) (fun _ _ _ h => h) (Or.inl ⟨by rfl, ?_⟩) (by first | assumption | trivial) ?_
              rotate_left
              · (intro w hSw; (try dsimp only at hSw); go_simp) <;> (with_reducible rfl)
              simp only [List.setIfInBounds_toArray, List.set_cons_zero, List.set_cons_succ]
              refine wpAnyT_take2 (i := 3) (v := ?_) rfl rfl (by kernel_rfl) (by kernel_rfl) (by kernel_rfl) (by kernel_rfl) (fun _ _ _ h => h) (Or.inl ⟨by rfl, ?_⟩) (by first | assumption | trivial) ?_
              rotate_left
              · (intro w hSw; (try dsimp only at hSw); go_simp) <;> (with_reducible rfl)
              simp only [List.setIfInBounds_toArray, List.set_cons_zero, List.set_cons_succ]
              refine wpAnyT_take2 (i := 4) (v := ?_) rfl rfl (by kernel_rfl) (by kernel_rfl) (by kernel_rfl) (by kernel_rfl) (fun _ _ _ h => h) (Or.inl ⟨by rfl, ?_⟩) (by first | assumption | trivial) ?_
              rotate_left
              · (intro w hSw; (try dsimp only at hSw); go_simp) <;> (with_reducible rfl)
              simp only [List.setIfInBounds_toArray, List.set_cons_zero, List.set_cons_succ]
              refine wpAnyT_take2 (i := 5) (v := ?_) rfl rfl (by kernel_rfl) (by kernel_rfl) (by kernel_rfl) (by kernel_rfl) (fun _ _ _ h => h) (Or.inl ⟨by rfl, ?_⟩) (by first | assumption | trivial) ?_
              rotate_left
              · (intro w hSw; (try dsimp only at hSw); go_simp) <;> (with_reducible rfl)
              simp only [List.setIfInBounds_toArray, List.set_cons_zero, List.set_cons_succ]
              refine wpAnyT_take2 (i := 6) (v := ?_) rfl rfl (by kernel_rfl) (by kernel_rfl) (by kernel_rfl) (by kernel_rfl) (fun _ _ _ h => h) (Or.inl ⟨by rfl, ?_⟩) (by first | assumption | trivial) ?_
              rotate_left
              · (intro w hSw; (try dsimp only at hSw); go_simp) <;> (with_reducible rfl)
              simp only [List.setIfInBounds_toArray, List.set_cons_zero, List.set_cons_succ]
              refine wpAnyT_take2 (i := 7) (v := ?_) rfl rfl (by kernel_rfl) (by kernel_rfl) (by kernel_rfl) (by kernel_rfl) (fun _ _ _ h => h) (Or.inl ⟨by rfl, ?_⟩) (by first | assumption | trivial) ?_
              rotate_left
              · (intro w hSw; (try dsimp only at hSw); go_simp) <;> (with_reducible rfl)
              simp only [List.setIfInBounds_toArray, List.set_cons_zero, List.set_cons_succ]
              refine wpAnyT_take2 (i := 8) (v := ?_) rfl rfl (by kernel_rfl) (by kernel_rfl) (by kernel_rfl) (by kernel_rfl) (fun _ _ _ h => h) (Or.inl ⟨by rfl, ?_⟩) (by first | assumption | trivial) ?_
              rotate_left
              · (intro w hSw; (try dsimp only at hSw); go_simp) <;> (with_reducible rfl)
              simp only [List.setIfInBounds_toArray, List.set_cons_zero, List.set_cons_succ]
              refine wpAnyT_take2 (i := 9) (v := ?_) rfl rfl (by kernel_rfl) (by kernel_rfl) (by kernel_rfl) (by kernel_rfl) (fun _ _ _ h => h) (Or.inl ⟨by rfl, ?_⟩) (by first | assumption | trivial) ?_
              rotate_left
              · (intro w hSw; (try dsimp only at hSw); go_simp) <;> (with_reducible rfl)
              simp only [List.setIfInBounds_toArray, List.set_cons_zero, List.set_cons_succ]
              refine wpAnyT_take2 (i := 10) (v := ?_) rfl rfl (by kernel_rfl) (by kernel_rfl) (by kernel_rfl) (by kernel_rfl) (fun _ _ _ h => h) (Or.inl ⟨by rfl, ?_⟩) (by first | assumption | trivial) ?_
              rotate_left
              · (intro w hSw; (try dsimp only at hSw); go_simp) <;> (with_reducible rfl)
              simp only [List.setIfInBounds_toArray, List.set_cons_zero, List.set_cons_succ]
              refine wpAnyT_take2 (i := 11) (v := ?_) rfl rfl (by kernel_rfl) (by kernel_rfl) (by kernel_rfl) (by kernel_rfl) (fun _ _ _ h => h) (Or.inl ⟨by rfl, ?_⟩) (by first | assumption | trivial) ?_
              rotate_left
              · (intro w hSw; (try dsimp only at hSw); go_simp) <;> (with_reducible rfl)
              simp only [List.setIfInBounds_toArray, List.set_cons_zero, List.set_cons_succ]
              refine wpAnyT_take2 (i := 12) (v := ?_) rfl rfl (by kernel_rfl) (by kernel_rfl) (by kernel_rfl) (by kernel_rfl) (fun _ _ _ h => h) (Or.inl ⟨by rfl, ?_⟩) (by first | assumption | trivial) ?_
              rotate_left
              · (intro w hSw; (try dsimp only at hSw); go_simp) <;> (with_reducible rfl)
              simp only [List.setIfInBounds_toArray, List.set_cons_zero, List.set_cons_succ]
              refine wpAnyT_take2 (i := 13) (v := ?_) rfl rfl (by kernel_rfl) (by kernel_rfl) (by kernel_rfl) (by kernel_rfl) (fun _ _ _ h => h) (Or.inl ⟨by rfl, ?_⟩) (by first | assumption | trivial) ?_
              rotate_left
              · (intro w hSw; (try dsimp only at hSw); go_simp) <;> (with_reducible rfl)
              simp only [List.setIfInBounds_toArray, List.set_cons_zero, List.set_cons_succ]
              refine wpAnyT_take2 (i := 14) (v := ?_) rfl rfl (by kernel_rfl) (by kernel_rfl) (by kernel_rfl) (by kernel_rfl) (fun _ _ _ h => h) (Or.inl ⟨by rfl, ?_⟩) (by first | assumption | trivial) ?_
              rotate_left
              · (intro w hSw; (try dsimp only at hSw); go_simp) <;> (with_reducible rfl)
              simp only [List.setIfInBounds_toArray, List.set_cons_zero, List.set_cons_succ]
              refine wpAnyT_take2 (i := 15) (v := ?_) rfl rfl (by kernel_rfl) (by kernel_rfl) (by kernel_rfl) (by kernel_rfl) (fun _ _ _ h => h) (Or.inl ⟨by rfl, ?_⟩) (by first | assumption | trivial) ?_
              rotate_left
              · (intro w hSw; (try dsimp only at hSw); go_simp) <;> (with_reducible rfl)
              simp only [List.setIfInBounds_toArray, List.set_cons_zero, List.set_cons_succ]
              refine wpAnyT_take2 (i := 16) (v := ?_) rfl rfl (by kernel_rfl) (by kernel_rfl) (by kernel_rfl) (by kernel_rfl) (fun _ _ _ h => h) (Or.inl ⟨by rfl, ?_⟩) (by first | assumption | trivial) ?_
              rotate_left
              · (intro w hSw; (try dsimp only at hSw); go_simp) <;> (with_reducible rfl)
              simp only [List.setIfInBounds_toArray, List.set_cons_zero, List.set_cons_succ]
              refine wpAnyT_take2 (i := 17) (v := ?_) rfl rfl (by kernel_rfl) (by kernel_rfl) (by kernel_rfl) (by kernel_rfl) (fun _ _ _ h => h) (Or.inl ⟨by rfl, ?_⟩) (by first | assumption | trivial) ?_
              rotate_left
              · (intro w hSw; (try dsimp only at hSw); go_simp) <;> (with_reducible rfl)
              simp only [List.setIfInBounds_toArray, List.set_cons_zero, List.set_cons_succ]
              refine wpAnyT_take2 (i := 18) (v := ?_) rfl rfl (by kernel_rfl) (by kernel_rfl) (by kernel_rfl) (by kernel_rfl) (fun _ _ _ h => h) (Or.inl ⟨by rfl, ?_⟩) (by first | assumption | trivial) ?_
              rotate_left
              · (intro w hSw; (try dsimp only at hSw); go_simp) <;> (with_reducible rfl)
              simp only [List.setIfInBounds_toArray, List.set_cons_zero, List.set_cons_succ]
              refine wpAnyT_take2 (i := 19) (v := ?_) rfl rfl (by kernel_rfl) (by kernel_rfl) (by kernel_rfl) (by kernel_rfl) (fun _ _ _ h => h) (Or.inl ⟨by rfl, ?_⟩) (by first | assumption | trivial) ?_
              rotate_left
              · (intro w hSw; (try dsimp only at hSw); go_simp) <;> (with_reducible rfl)
              simp only [List.setIfInBounds_toArray, List.set_cons_zero, List.set_cons_succ]
              refine wpAnyT_take2 (i := 20) (v := ?_) rfl rfl (by kernel_rfl) (by kernel_rfl) (by kernel_rfl) (by kernel_rfl) (fun _ _ _ h => h) (Or.inl ⟨by rfl, ?_⟩) (by first | assumption | trivial) ?_
              rotate_left
              · (intro w hSw; (try dsimp only at hSw); go_simp) <;> (with_reducible rfl)
              simp only [List.setIfInBounds_toArray, List.set_cons_zero, List.set_cons_succ]
              refine wpAnyT_take2 (i := 21) (v := ?_) rfl rfl (by kernel_rfl) (by kernel_rfl) (by kernel_rfl) (by kernel_rfl) (fun _ _ _ h => h) (Or.inl ⟨by rfl, ?_⟩) (by first | assumption | trivial) ?_
              rotate_left
              · (intro w hSw; (try dsimp only at hSw); go_simp) <;> (with_reducible rfl)
              simp only [List.setIfInBounds_toArray, List.set_cons_zero, List.set_cons_succ]
              refine wpAnyT_take2 (i := 22) (v := ?_) rfl rfl (by kernel_rfl) (by kernel_rfl) (by kernel_rfl) (by kernel_rfl) (fun _ _ _ h => h) (Or.inl ⟨by rfl, ?_⟩) (by first | assumption | trivial) ?_
              rotate_left
              · (intro w hSw; (try dsimp only at hSw); go_simp) <;> (with_reducible rfl)
              simp only [List.setIfInBounds_toArray, List.set_cons_zero, List.set_cons_succ]
              refine wpAnyT_done (by kernel_rfl) ?_ _
              clear hHeld
              go_wp2_with fail
              go_roundw
              case rel => exact ⟨q + 1, hql, by go_num, (by repeat (first | (with_reducible exact hbw) | (with_reducible exact Below.refl _ _) | ((with_reducible refine below_setr ?_ ?_); focus (first | (simp; done) | (simp; omega) | omega)) | ((with_reducible refine below_allocr ?_ ?_); focus (first | (simp; done) | (simp; omega) | omega)) | (with_reducible refine Below.drew ?_) | (with_reducible refine below_drewN ?_ _)))⟩
              case measure => simp [intOf]; omega
          · have hqq : q = HL.length := by omega
            subst hqq
            have hif := HTM.out
            have heq : (((after1 (⟨id, cut, HL, NL.map Note.d, S.l⟩ : PhoneD) i x n t).promise k m t nB).2 == 0) = ((PhoneD.promise (⟨id, cut, HL, NL.map Note.d, S.l⟩ : PhoneD) k (n + m) t nB).2 == 0) := by
              rw [Bool.eq_iff_iff]
              simp only [beq_iff_eq]
              exact hif
            have BB1 := Lib.hid (B_b.out.below hbw B_b.out.lt)
            have h2w : Below w2.heap.size w2 wr := below_via hbw h28
            have HR9 := Lib.hid (HR8.out.later hbw (Nat.le_refl _))
            have HEQ := Lib.hid heq
            obtain ⟨b0, b1, b2, b3, b4, bf, bz2⟩ := BB1.out.b5
            clear heq hif
            go_wp2_with fail
            refine (phone_promise ⟨id, cut, ⟨some ⟨b7, o7, none⟩, jc, JL⟩, ⟨some ⟨b9, o9, none⟩, mc, ML⟩, S7⟩ k m t nB _ HR9.out).mono ?_
            rintro e w10 ⟨⟨i10, c10, H10, N10, S10⟩, rfl, -, -, hb10⟩
            rw [HD8.out]
            clear a0 a1 a2 a3 a4 af d0 d1 d2 d3 d4 df
            clear b0 b1 b2 b3 b4 bf
            have K_a : Blk _ (w.heap.size) 26 #[.int .i64 id, .bool cut, .slice (some ⟨bh, oh, none⟩) HL.length Hc, .slice (some ⟨bn, on, none⟩) NL.length Nc, .slice S.A S.l.length S.c] := blk_later hb10 (by simp [hp_past, hp_at, hp_other, hp_same, hp_drew, hp_drewN, BA1.out.eq, BA1.out.lt, hp_same BA1.out.eq])
            obtain ⟨a0, a1, a2, a3, a4, af, az⟩ := Blk.b5 K_a
            have B_a := Lib.hid K_a
            clear K_a
            have K_b : Blk _ (w2.heap.size) 33 #[.int .i64 i2, .bool c2, .slice H2.A H2.l.length H2.c, .slice N2.A N2.l.length N2.c, .slice S2.A S2.l.length S2.c] := blk_later hb10 (by simp [hp_past, hp_at, hp_other, hp_same, hp_drew, hp_drewN, BB1.out.eq, BB1.out.lt, hp_same BB1.out.eq])
            obtain ⟨b0, b1, b2, b3, b4, bf, bz⟩ := Blk.b5 K_b
            have B_b := Lib.hid K_b
            clear K_b
            have K_d : Blk _ (w7.heap.size) 33 #[.int .i64 id, .bool cut, .slice (some ⟨b7, o7, none⟩) JL.length jc, .slice (some ⟨b9, o9, none⟩) ML.length mc, .slice S7.A S7.l.length S7.c] := blk_later hb10 (by simp [hp_past, hp_at, hp_other, hp_same, hp_drew, hp_drewN, BC1.out.eq, BC1.out.lt, hp_same BC1.out.eq])
            obtain ⟨d0, d1, d2, d3, d4, df, dz⟩ := Blk.b5 K_d
            have B_d := Lib.hid K_d
            clear K_d
            have hB10 : Below w.heap.size w w10 := (by repeat (first | (with_reducible exact hB9) | (with_reducible exact Below.refl _ _) | ((with_reducible refine below_setr ?_ ?_); focus (first | (simp; done) | (simp; omega) | omega)) | ((with_reducible refine below_allocr ?_ ?_); focus (first | (simp; done) | (simp; omega) | omega)) | (with_reducible refine Below.drew ?_) | (with_reducible refine below_drewN ?_ _) | ((with_reducible apply below_via); focus (with_reducible assumption))))
            have h2A : Below w2.heap.size w2 w10 := below_via hb10 h2w
            have HRA := Lib.hid (HR9.out.later hb10 (Nat.le_refl _))
            clear hb10 h2w
            simp only [Phone.v]
            go_wp2_with fail
            refine (phone_promise ⟨i2, c2, H2, N2, S2⟩ k (n + m) t nB _ (HR2.out.later (by repeat (first | (with_reducible exact h2A) | (with_reducible exact Below.refl _ _) | ((with_reducible refine below_setr ?_ ?_); focus (first | (simp; done) | (simp; omega) | omega)) | ((with_reducible refine below_allocr ?_ ?_); focus (first | (simp; done) | (simp; omega) | omega)) | (with_reducible refine Below.drew ?_) | (with_reducible refine below_drewN ?_ _) | ((with_reducible apply below_via); focus (with_reducible assumption)))) (Nat.le_refl _))).mono ?_
            rintro e w11 ⟨⟨i11, c11, H11, N11, S11⟩, rfl, -, -, hb11⟩
            rw [HD2.out]
            clear a0 a1 a2 a3 a4 af d0 d1 d2 d3 d4 df
            clear b0 b1 b2 b3 b4 bf
            have K_a : Blk _ (w.heap.size) 26 #[.int .i64 id, .bool cut, .slice (some ⟨bh, oh, none⟩) HL.length Hc, .slice (some ⟨bn, on, none⟩) NL.length Nc, .slice S.A S.l.length S.c] := blk_later hb11 (by simp [hp_past, hp_at, hp_other, hp_same, hp_drew, hp_drewN, B_a.out.eq, B_a.out.lt, hp_same B_a.out.eq])
            obtain ⟨a0, a1, a2, a3, a4, af, az⟩ := Blk.b5 K_a
            have B_a := Lib.hid K_a
            clear K_a
            have K_d : Blk _ (w7.heap.size) 33 #[.int .i64 id, .bool cut, .slice (some ⟨b7, o7, none⟩) JL.length jc, .slice (some ⟨b9, o9, none⟩) ML.length mc, .slice S7.A S7.l.length S7.c] := blk_later hb11 (by simp [hp_past, hp_at, hp_other, hp_same, hp_drew, hp_drewN, B_d.out.eq, B_d.out.lt, hp_same B_d.out.eq])
            obtain ⟨d0, d1, d2, d3, d4, df, dz⟩ := Blk.b5 K_d
            have B_d := Lib.hid K_d
            clear K_d
            have hB11 : Below w.heap.size w w11 := (by repeat (first | (with_reducible exact hB10) | (with_reducible exact Below.refl _ _) | ((with_reducible refine below_setr ?_ ?_); focus (first | (simp; done) | (simp; omega) | omega)) | ((with_reducible refine below_allocr ?_ ?_); focus (first | (simp; done) | (simp; omega) | omega)) | (with_reducible refine Below.drew ?_) | (with_reducible refine below_drewN ?_ _) | ((with_reducible apply below_via); focus (with_reducible assumption))))
            have hAB : Below w10.heap.size w10 w11 := Below.trans (Below.alloc (Below.refl _ _) (Nat.le_refl _) _) (hb11.mono (by simp))
            have HRB := Lib.hid (HRA.out.later hAB (Nat.le_refl _))
            have heq := HEQ.out
            clear hb11 hAB HRA HR9 HEQ
            generalize ((after1 (⟨id, cut, HL, NL.map Note.d, S.l⟩ : PhoneD) i x n t).promise k m t nB).2 = er2 at *
            generalize (PhoneD.promise (⟨id, cut, HL, NL.map Note.d, S.l⟩ : PhoneD) k (n + m) t nB).2 = er3 at *
            have hT : (ML.take NL.length).length = NL.length := by rw [List.length_take, HLN.out]; omega
            have hTd : (ML.take NL.length).map Note.d = NL.map Note.d := by
              rw [List.map_take, HE4.out, List.take_append_of_le_length (by simp), List.take_of_length_le (by simp)]
            have hmc : (NL.length : Int) ≤ (mc : Int) := by
              have h1 := HRB.out.2.1.1.1
              simp only at h1
              have := HLN.out
              omega
            have hmc0 : (0 : Int) ≤ (NL.length : Int) := by omega
            have HTK := Lib.hid (HRB.out.2.1.take_ NL.length)
            simp only [Phone.v]
            go_wp2_with fail
            obtain ⟨W, hW⟩ : ∃ x, x = w11.alloc (.cells #[.int .i64 i11, .bool c11, .slice H11.A H11.l.length H11.c, .slice N11.A N11.l.length N11.c, .slice S11.A S11.l.length S11.c] 33) := ⟨_, rfl⟩
            rw [← hW]
            have hbW : Below w11.heap.size w11 W := by rw [hW]; exact Below.alloc (Below.refl _ _) (Nat.le_refl _) _
            have d3' := keep_cell hbW d3
            have a3' := keep_cell hbW a3
            have hBW : Below w.heap.size w W := below_via hbW hB11
            clear hW
            refine wp_region_T (fun w' => w'.cell? ⟨w7.heap.size, 3, none⟩ = some (.slice (some ⟨b9, o9, none⟩) ML.length mc) ∧ w'.cell? ⟨w.heap.size, 3, none⟩ = some (.slice (some ⟨bn, on, none⟩) NL.length Nc)) (fun _ => false) (by kernel_rfl) ⟨d3', a3'⟩ (fun hHeld => ?_)
            refine wpAnyT_take2 (i := 0) (v := ?_) rfl rfl (by kernel_rfl) (by kernel_rfl) (by kernel_rfl) (by kernel_rfl) (fun _ _ _ h => h) (Or.inl ⟨by rfl, ?_⟩) (by first | assumption | trivial) ?_
            rotate_left
            · (intro w hSw; (try dsimp only at hSw); go_simp) <;> (with_reducible rfl)
            simp only [List.setIfInBounds_toArray, List.set_cons_zero, List.set_cons_succ]
            refine wpAnyT_take2 (i := 1) (v := ?_) rfl rfl (by kernel_rfl) (by kernel_rfl) (by kernel_rfl) (by kernel_rfl) (fun _ _ _ h => h) (Or.inl ⟨by rfl, ?_⟩) (by first | assumption | trivial) ?_
            rotate_left
            · (intro w hSw; (try dsimp only at hSw); go_simp) <;> (with_reducible rfl)
            simp only [List.setIfInBounds_toArray, List.set_cons_zero, List.set_cons_succ]
            refine wpAnyT_take2 (i := 2) (v := ?_) rfl rfl (by kernel_rfl) (by kernel_rfl) (by kernel_rfl) (by kernel_rfl) (fun _ _ _ h => h) (Or.inl ⟨by rfl, ?_⟩) (by first | assumption | trivial) ?_
            rotate_left
            · (intro w hSw; (try dsimp only at hSw); go_simp) <;> (with_reducible rfl)
            simp only [List.setIfInBounds_toArray, List.set_cons_zero, List.set_cons_succ]
            refine wpAnyT_take2 (i := 3) (v := ?_) rfl rfl (by kernel_rfl) (by kernel_rfl) (by kernel_rfl) (by kernel_rfl) (fun _ _ _ h => h) (Or.inl ⟨by rfl, ?_⟩) (by first | assumption | trivial) ?_
            rotate_left
            · (intro w hSw; (try dsimp only at hSw); go_simp) <;> (with_reducible rfl)
            simp only [List.setIfInBounds_toArray, List.set_cons_zero, List.set_cons_succ]
            refine wpAnyT_take2 (i := 4) (v := ?_) rfl rfl (by kernel_rfl) (by kernel_rfl) (by kernel_rfl) (by kernel_rfl) (fun _ _ _ h => h) (Or.inl ⟨by rfl, ?_⟩) (by first | assumption | trivial) ?_
            rotate_left
            · (intro w hSw; (try dsimp only at hSw); go_simp) <;> (with_reducible rfl)
            simp only [List.setIfInBounds_toArray, List.set_cons_zero, List.set_cons_succ]
            refine wpAnyT_take2 (i := 5) (v := ?_) rfl rfl (by kernel_rfl) (by kernel_rfl) (by kernel_rfl) (by kernel_rfl) (fun _ _ _ h => h) (Or.inl ⟨by rfl, ?_⟩) (by first | assumption | trivial) ?_
            rotate_left
            · (intro w hSw; (try dsimp only at hSw); go_simp) <;> (with_reducible rfl)
            simp only [List.setIfInBounds_toArray, List.set_cons_zero, List.set_cons_succ]
            refine wpAnyT_take2 (i := 6) (v := .bool true) rfl rfl (by kernel_rfl) (by kernel_rfl) (by kernel_rfl) (by kernel_rfl) (fun _ _ _ h => h) (Or.inl ⟨by rfl, ?_⟩) (by first | assumption | trivial) ?_
            · (intro w hSw; (try dsimp only at hSw); go_simp) <;> (first | (with_reducible rfl) | assumption | (simp; done) | (simp [*]; done) | (simp; omega))
            simp only [List.setIfInBounds_toArray, List.set_cons_zero, List.set_cons_succ]
            refine wpAnyT_take2 (i := 7) (v := ?_) rfl rfl (by kernel_rfl) (by kernel_rfl) (by kernel_rfl) (by kernel_rfl) (fun _ _ _ h => h) (Or.inl ⟨by rfl, ?_⟩) (by first | assumption | trivial) ?_
            rotate_left
            · (intro w hSw; (try dsimp only at hSw); go_simp) <;> (with_reducible rfl)
            simp only [List.setIfInBounds_toArray, List.set_cons_zero, List.set_cons_succ]
            refine wpAnyT_take2 (i := 8) (v := ?_) rfl rfl (by kernel_rfl) (by kernel_rfl) (by kernel_rfl) (by kernel_rfl) (fun _ _ _ h => h) (Or.inl ⟨by rfl, ?_⟩) (by first | assumption | trivial) ?_
            rotate_left
            · (intro w hSw; (try dsimp only at hSw); go_simp) <;> (with_reducible rfl)
            simp only [List.setIfInBounds_toArray, List.set_cons_zero, List.set_cons_succ]
            refine wpAnyT_take2 (i := 9) (v := ?_) rfl rfl (by kernel_rfl) (by kernel_rfl) (by kernel_rfl) (by kernel_rfl) (fun _ _ _ h => h) (Or.inl ⟨by rfl, ?_⟩) (by first | assumption | trivial) ?_
            rotate_left
            · (intro w hSw; (try dsimp only at hSw); go_simp) <;> (with_reducible rfl)
            simp only [List.setIfInBounds_toArray, List.set_cons_zero, List.set_cons_succ]
            refine wpAnyT_take2 (i := 10) (v := ?_) rfl rfl (by kernel_rfl) (by kernel_rfl) (by kernel_rfl) (by kernel_rfl) (fun _ _ _ h => h) (Or.inl ⟨by rfl, ?_⟩) (by first | assumption | trivial) ?_
            rotate_left
            · (intro w hSw; (try dsimp only at hSw); go_simp) <;> (with_reducible rfl)
            simp only [List.setIfInBounds_toArray, List.set_cons_zero, List.set_cons_succ]
            refine wpAnyT_take2 (i := 11) (v := ?_) rfl rfl (by kernel_rfl) (by kernel_rfl) (by kernel_rfl) (by kernel_rfl) (fun _ _ _ h => h) (Or.inl ⟨by rfl, ?_⟩) (by first | assumption | trivial) ?_
            rotate_left
            · (intro w hSw; (try dsimp only at hSw); go_simp) <;> (with_reducible rfl)
            simp only [List.setIfInBounds_toArray, List.set_cons_zero, List.set_cons_succ]
            refine wpAnyT_take2 (i := 12) (v := ?_) rfl rfl (by kernel_rfl) (by kernel_rfl) (by kernel_rfl) (by kernel_rfl) (fun _ _ _ h => h) (Or.inl ⟨by rfl, ?_⟩) (by first | assumption | trivial) ?_
            rotate_left
            · (intro w hSw; (try dsimp only at hSw); go_simp) <;> (with_reducible rfl)
            simp only [List.setIfInBounds_toArray, List.set_cons_zero, List.set_cons_succ]
            refine wpAnyT_take2 (i := 13) (v := ?_) rfl rfl (by kernel_rfl) (by kernel_rfl) (by kernel_rfl) (by kernel_rfl) (fun _ _ _ h => h) (Or.inl ⟨by rfl, ?_⟩) (by first | assumption | trivial) ?_
            rotate_left
            · (intro w hSw; (try dsimp only at hSw); go_simp) <;> (with_reducible rfl)
            simp only [List.setIfInBounds_toArray, List.set_cons_zero, List.set_cons_succ]
            refine wpAnyT_take2 (i := 14) (v := .slice (some ⟨b9, o9, none⟩) NL.length mc) rfl rfl (by kernel_rfl) (by kernel_rfl) (by kernel_rfl) (by kernel_rfl) (fun _ _ _ h => h) (Or.inl ⟨by rfl, ?_⟩) (by first | assumption | trivial) ?_
            · (intro w hSw; (try dsimp only at hSw); go_simp) <;> (first | (with_reducible rfl) | assumption | (simp; done) | (simp [*]; done) | (simp; omega))
            simp only [List.setIfInBounds_toArray, List.set_cons_zero, List.set_cons_succ]
            refine wpAnyT_take2 (i := 15) (v := ?_) rfl rfl (by kernel_rfl) (by kernel_rfl) (by kernel_rfl) (by kernel_rfl) (fun _ _ _ h => h) (Or.inl ⟨by rfl, ?_⟩) (by first | assumption | trivial) ?_
            rotate_left
            · (intro w hSw; (try dsimp only at hSw); go_simp) <;> (with_reducible rfl)
            simp only [List.setIfInBounds_toArray, List.set_cons_zero, List.set_cons_succ]
            refine wpAnyT_take2 (i := 16) (v := ?_) rfl rfl (by kernel_rfl) (by kernel_rfl) (by kernel_rfl) (by kernel_rfl) (fun _ _ _ h => h) (Or.inl ⟨by rfl, ?_⟩) (by first | assumption | trivial) ?_
            rotate_left
            · (intro w hSw; (try dsimp only at hSw); go_simp) <;> (with_reducible rfl)
            simp only [List.setIfInBounds_toArray, List.set_cons_zero, List.set_cons_succ]
            have HHD := Lib.hid hHeld
            clear hHeld
            refine wpAnyT_next (i := 17) (by kernel_rfl) rfl ?_
            go_wp2_with fail
            have hrl := rlists ⟨some ⟨b9, o9, none⟩, mc, ML.take NL.length⟩ ⟨some ⟨bn, on, none⟩, Nc, NL⟩ W.drew (HTK.out.later (Below.drew hbW) (Nat.le_refl _)) (HP.out.2.1.later (Below.drew hBW) (Nat.le_refl _))
            simp only [hT, hTd, listsN_refl] at hrl
            refine hrl.mono ?_
            rintro e w12 ⟨rfl, hb12⟩
            have hB12 : Below w.heap.size w w12 := (by repeat (first | (with_reducible exact hBW) | (with_reducible exact Below.refl _ _) | ((with_reducible refine below_setr ?_ ?_); focus (first | (simp; done) | (simp; omega) | omega)) | ((with_reducible refine below_allocr ?_ ?_); focus (first | (simp; done) | (simp; omega) | omega)) | (with_reducible refine Below.drew ?_) | (with_reducible refine below_drewN ?_ _) | ((with_reducible apply below_via); focus (with_reducible assumption))))
            go_wp2_with fail
            have hHeld := And.intro (keep_cell hb12 HHD.out.1) (keep_cell hb12 HHD.out.2)
            clear HHD
            refine And.intro ?_ ?_
            · first
              | exact hHeld
              | exact fun _ => hHeld
            refine wpAnyT_take2 (i := 18) (v := ?_) rfl rfl (by kernel_rfl) (by kernel_rfl) (by kernel_rfl) (by kernel_rfl) (fun _ _ _ h => h) (Or.inl ⟨by rfl, ?_⟩) (by first | assumption | trivial) ?_
            rotate_left
            · (intro w hSw; (try dsimp only at hSw); go_simp) <;> (with_reducible rfl)
            simp only [List.setIfInBounds_toArray, List.set_cons_zero, List.set_cons_succ]
            refine wpAnyT_take2 (i := 19) (v := ?_) rfl rfl (by kernel_rfl) (by kernel_rfl) (by kernel_rfl) (by kernel_rfl) (fun _ _ _ h => h) (Or.inl ⟨by rfl, ?_⟩) (by first | assumption | trivial) ?_
            rotate_left
            · (intro w hSw; (try dsimp only at hSw); go_simp) <;> (with_reducible rfl)
            simp only [List.setIfInBounds_toArray, List.set_cons_zero, List.set_cons_succ]
            refine wpAnyT_done (by kernel_rfl) ?_ _
            clear hHeld
            go_wp2_with fail
            go_ret
            exact ⟨rfl, (by repeat (first | (with_reducible exact hB12) | (with_reducible exact Below.refl _ _) | ((with_reducible refine below_setr ?_ ?_); focus (first | (simp; done) | (simp; omega) | omega)) | ((with_reducible refine below_allocr ?_ ?_); focus (first | (simp; done) | (simp; omega) | omega)) | (with_reducible refine Below.drew ?_) | (with_reducible refine below_drewN ?_ _) | ((with_reducible apply below_via); focus (with_reducible assumption))))⟩
        done
    · have hN2 : ¬ (0 : Int) < (NL.length : Int) := by omega
      go_wp2_with fail
      refine wp_region_T (fun w' => w'.cell? ⟨w.heap.size, 2, none⟩ = some (.slice (some ⟨bh, oh, none⟩) HL.length Hc) ∧ w'.cell? ⟨bh, oh + i * 3 + 1, none⟩ = some (.int .i64 x.u) ∧ w'.cell? ⟨bh, oh + i * 3 + 2, none⟩ = some (.int .i64 x.s)) (fun _ => false) (by kernel_rfl) ⟨a2, f1, f2⟩ (fun hHeld => ?_)
      refine wpAnyT_take2 (i := 0) (v := ?_) rfl rfl (by kernel_rfl) (by kernel_rfl) (by kernel_rfl) (by kernel_rfl) (fun _ _ _ h => h) (Or.inl ⟨by rfl, ?_⟩) (by first | assumption | trivial) ?_
      rotate_left
      · (intro w hSw; (try dsimp only at hSw); go_simp) <;> (with_reducible rfl)
      simp only [List.setIfInBounds_toArray, List.set_cons_zero, List.set_cons_succ]
      refine wpAnyT_take2 (i := 1) (v := ?_) rfl rfl (by kernel_rfl) (by kernel_rfl) (by kernel_rfl) (by kernel_rfl) (fun _ _ _ h => h) (Or.inl ⟨by rfl, ?_⟩) (by first | assumption | trivial) ?_
      rotate_left
      · (intro w hSw; (try dsimp only at hSw); go_simp) <;> (with_reducible rfl)
      simp only [List.setIfInBounds_toArray, List.set_cons_zero, List.set_cons_succ]
      refine wpAnyT_take2 (i := 2) (v := ?_) rfl rfl (by kernel_rfl) (by kernel_rfl) (by kernel_rfl) (by kernel_rfl) (fun _ _ _ h => h) (Or.inl ⟨by rfl, ?_⟩) (by first | assumption | trivial) ?_
      rotate_left
      · (intro w hSw; (try dsimp only at hSw); go_simp) <;> (with_reducible rfl)
      simp only [List.setIfInBounds_toArray, List.set_cons_zero, List.set_cons_succ]
      refine wpAnyT_take2 (i := 3) (v := ?_) rfl rfl (by kernel_rfl) (by kernel_rfl) (by kernel_rfl) (by kernel_rfl) (fun _ _ _ h => h) (Or.inl ⟨by rfl, ?_⟩) (by first | assumption | trivial) ?_
      rotate_left
      · (intro w hSw; (try dsimp only at hSw); go_simp) <;> (with_reducible rfl)
      simp only [List.setIfInBounds_toArray, List.set_cons_zero, List.set_cons_succ]
      refine wpAnyT_take2 (i := 4) (v := ?_) rfl rfl (by kernel_rfl) (by kernel_rfl) (by kernel_rfl) (by kernel_rfl) (fun _ _ _ h => h) (Or.inl ⟨by rfl, ?_⟩) (by first | assumption | trivial) ?_
      rotate_left
      · (intro w hSw; (try dsimp only at hSw); go_simp) <;> (with_reducible rfl)
      simp only [List.setIfInBounds_toArray, List.set_cons_zero, List.set_cons_succ]
      refine wpAnyT_take2 (i := 5) (v := ?_) rfl rfl (by kernel_rfl) (by kernel_rfl) (by kernel_rfl) (by kernel_rfl) (fun _ _ _ h => h) (Or.inl ⟨by rfl, ?_⟩) (by first | assumption | trivial) ?_
      rotate_left
      · (intro w hSw; (try dsimp only at hSw); go_simp) <;> (with_reducible rfl)
      simp only [List.setIfInBounds_toArray, List.set_cons_zero, List.set_cons_succ]
      refine wpAnyT_take2 (i := 6) (v := ?_) rfl rfl (by kernel_rfl) (by kernel_rfl) (by kernel_rfl) (by kernel_rfl) (fun _ _ _ h => h) (Or.inl ⟨by rfl, ?_⟩) (by first | assumption | trivial) ?_
      rotate_left
      · (intro w hSw; (try dsimp only at hSw); go_simp) <;> (with_reducible rfl)
      simp only [List.setIfInBounds_toArray, List.set_cons_zero, List.set_cons_succ]
      refine wpAnyT_take2 (i := 7) (v := ?_) rfl rfl (by kernel_rfl) (by kernel_rfl) (by kernel_rfl) (by kernel_rfl) (fun _ _ _ h => h) (Or.inl ⟨by rfl, ?_⟩) (by first | assumption | trivial) ?_
      rotate_left
      · (intro w hSw; (try dsimp only at hSw); go_simp) <;> (with_reducible rfl)
      simp only [List.setIfInBounds_toArray, List.set_cons_zero, List.set_cons_succ]
      refine wpAnyT_take2 (i := 8) (v := ?_) rfl rfl (by kernel_rfl) (by kernel_rfl) (by kernel_rfl) (by kernel_rfl) (fun _ _ _ h => h) (Or.inl ⟨by rfl, ?_⟩) (by first | assumption | trivial) ?_
      rotate_left
      · (intro w hSw; (try dsimp only at hSw); go_simp) <;> (with_reducible rfl)
      simp only [List.setIfInBounds_toArray, List.set_cons_zero, List.set_cons_succ]
      refine wpAnyT_take2 (i := 9) (v := ?_) rfl rfl (by kernel_rfl) (by kernel_rfl) (by kernel_rfl) (by kernel_rfl) (fun _ _ _ h => h) (Or.inl ⟨by rfl, ?_⟩) (by first | assumption | trivial) ?_
      rotate_left
      · (intro w hSw; (try dsimp only at hSw); go_simp) <;> (with_reducible rfl)
      simp only [List.setIfInBounds_toArray, List.set_cons_zero, List.set_cons_succ]
      refine wpAnyT_take2 (i := 10) (v := ?_) rfl rfl (by kernel_rfl) (by kernel_rfl) (by kernel_rfl) (by kernel_rfl) (fun _ _ _ h => h) (Or.inl ⟨by rfl, ?_⟩) (by first | assumption | trivial) ?_
      rotate_left
      · (intro w hSw; (try dsimp only at hSw); go_simp) <;> (with_reducible rfl)
      simp only [List.setIfInBounds_toArray, List.set_cons_zero, List.set_cons_succ]
      refine wpAnyT_take2 (i := 11) (v := ?_) rfl rfl (by kernel_rfl) (by kernel_rfl) (by kernel_rfl) (by kernel_rfl) (fun _ _ _ h => h) (Or.inl ⟨by rfl, ?_⟩) (by first | assumption | trivial) ?_
      rotate_left
      · (intro w hSw; (try dsimp only at hSw); go_simp) <;> (with_reducible rfl)
      simp only [List.setIfInBounds_toArray, List.set_cons_zero, List.set_cons_succ]
      refine wpAnyT_take2 (i := 12) (v := ?_) rfl rfl (by kernel_rfl) (by kernel_rfl) (by kernel_rfl) (by kernel_rfl) (fun _ _ _ h => h) (Or.inl ⟨by rfl, ?_⟩) (by first | assumption | trivial) ?_
      rotate_left
      · (intro w hSw; (try dsimp only at hSw); go_simp) <;> (with_reducible rfl)
      simp only [List.setIfInBounds_toArray, List.set_cons_zero, List.set_cons_succ]
      refine wpAnyT_take2 (i := 13) (v := ?_) rfl rfl (by kernel_rfl) (by kernel_rfl) (by kernel_rfl) (by kernel_rfl) (fun _ _ _ h => h) (Or.inl ⟨by rfl, ?_⟩) (by first | assumption | trivial) ?_
      rotate_left
      · (intro w hSw; (try dsimp only at hSw); go_simp) <;> (with_reducible rfl)
      simp only [List.setIfInBounds_toArray, List.set_cons_zero, List.set_cons_succ]
      refine wpAnyT_done (by kernel_rfl) ?_ _
      clear hHeld
      go_wp2_with fail
      refine (phone_promise ⟨i2, c2, H2, N2, S2⟩ k n t nB _ (HR2.out.later (by repeat (first | (with_reducible exact h26) | (with_reducible exact Below.refl _ _) | ((with_reducible refine below_setr ?_ ?_); focus (first | (simp; done) | (simp; omega) | omega)) | ((with_reducible refine below_allocr ?_ ?_); focus (first | (simp; done) | (simp; omega) | omega)) | (with_reducible refine Below.drew ?_) | (with_reducible refine below_drewN ?_ _) | ((with_reducible apply below_via); focus (with_reducible assumption)))) (Nat.le_refl _))).mono ?_
      rintro e w7 ⟨⟨i7, c7, ⟨J7, jc, JL⟩, ⟨M7, mc, ML⟩, S7⟩, rfl, hd7, hr7, hb7⟩
      rw [HD2.out] at hd7
      rw [HD2.out]
      clear a0 a1 a2 a3 a4 af
      clear b0 b1 b2 b3 b4 bf
      have K_a : Blk _ (w.heap.size) 26 #[.int .i64 id, .bool cut, .slice (some ⟨bh, oh, none⟩) HL.length Hc, .slice (NA) NL.length Nc, .slice S.A S.l.length S.c] := blk_later hb7 (by simp [hp_past, hp_at, hp_other, hp_same, hp_drew, hp_drewN, B_a.out.eq, B_a.out.lt, hp_same B_a.out.eq])
      obtain ⟨a0, a1, a2, a3, a4, af, az⟩ := Blk.b5 K_a
      have B_a := Lib.hid K_a
      clear K_a
      have K_b : Blk _ (w2.heap.size) 33 #[.int .i64 i2, .bool c2, .slice H2.A H2.l.length H2.c, .slice N2.A N2.l.length N2.c, .slice S2.A S2.l.length S2.c] := blk_later hb7 (by simp [hp_past, hp_at, hp_other, hp_same, hp_drew, hp_drewN, B_b.out.eq, B_b.out.lt, hp_same B_b.out.eq])
      obtain ⟨b0, b1, b2, b3, b4, bf, bz⟩ := Blk.b5 K_b
      have B_b := Lib.hid K_b
      clear K_b
      have h27 : Below w2.heap.size w2 w7 := (by repeat (first | (with_reducible exact h26) | (with_reducible exact Below.refl _ _) | ((with_reducible refine below_setr ?_ ?_); focus (first | (simp; done) | (simp; omega) | omega)) | ((with_reducible refine below_allocr ?_ ?_); focus (first | (simp; done) | (simp; omega) | omega)) | (with_reducible refine Below.drew ?_) | (with_reducible refine below_drewN ?_ _) | ((with_reducible apply below_via); focus (with_reducible assumption))))
      have hB7 : Below w.heap.size w w7 := (by repeat (first | (with_reducible exact hB6) | (with_reducible exact Below.refl _ _) | ((with_reducible refine below_setr ?_ ?_); focus (first | (simp; done) | (simp; omega) | omega)) | ((with_reducible refine below_allocr ?_ ?_); focus (first | (simp; done) | (simp; omega) | omega)) | (with_reducible refine Below.drew ?_) | (with_reducible refine below_drewN ?_ _) | ((with_reducible apply below_via); focus (with_reducible assumption))))
      have HR7 := Lib.hid hr7
      have HD7 := Lib.hid hd7
      clear hb7 h26 hr7 hd7
      simp only [Phone.v]
      rcases HPS.out with ⟨p2, p1, pc⟩ | ⟨pn, pl, pe⟩
      · have HP1 := Lib.hid p1
        have HP2 := Lib.hid p2
        clear p1 p2
        have pc1 : x.u - x.s < n := by
          rcases pc with pc | pc
          · exact pc
          · have h1 : lateN (NL.map Note.d) t = true := pc
            rw [late_nil t (by omega)] at h1; cases h1
        clear pc
        have HDS : Hid (Phone.d ⟨i7, c7, ⟨J7, jc, JL⟩, ⟨M7, mc, ML⟩, S7⟩ = (⟨id, cut, HL, NL.map Note.d, S.l⟩ : PhoneD)) := Lib.hid (HD7.out.trans HP1.out)
        have her0 := HP2.out
        generalize (PhoneD.promise (⟨id, cut, HL, NL.map Note.d, S.l⟩ : PhoneD) k n t nB).2 = er at *
        have her : (er != 0) = true := by simp [her0]
        have her2 : (er == 0) = false := by simp [her0]
        clear her0
        go_wp2_with fail
        refine (lsame ⟨i7, c7, ⟨J7, jc, JL⟩, ⟨M7, mc, ML⟩, S7⟩ ⟨id, cut, ⟨some ⟨bh, oh, none⟩, Hc, HL⟩, ⟨NA, Nc, NL⟩, S⟩ _ (HR7.out.later (by repeat (first | (with_reducible exact Below.refl _ _) | ((with_reducible refine below_setr ?_ ?_); focus (first | (simp; done) | (simp; omega) | omega)) | ((with_reducible refine below_allocr ?_ ?_); focus (first | (simp; done) | (simp; omega) | omega)) | (with_reducible refine Below.drew ?_) | (with_reducible refine below_drewN ?_ _) | ((with_reducible apply below_via); focus (with_reducible assumption)))) (Nat.le_refl _)) (HP.out.later (by repeat (first | (with_reducible exact hB7) | (with_reducible exact Below.refl _ _) | ((with_reducible refine below_setr ?_ ?_); focus (first | (simp; done) | (simp; omega) | omega)) | ((with_reducible refine below_allocr ?_ ?_); focus (first | (simp; done) | (simp; omega) | omega)) | (with_reducible refine Below.drew ?_) | (with_reducible refine below_drewN ?_ _) | ((with_reducible apply below_via); focus (with_reducible assumption)))) (Nat.le_refl _)) HDS.out).mono ?_
        rintro e w8 ⟨rfl, hb8⟩
        have hB8 : Below w.heap.size w w8 := (by repeat (first | (with_reducible exact hB7) | (with_reducible exact Below.refl _ _) | ((with_reducible refine below_setr ?_ ?_); focus (first | (simp; done) | (simp; omega) | omega)) | ((with_reducible refine below_allocr ?_ ?_); focus (first | (simp; done) | (simp; omega) | omega)) | (with_reducible refine Below.drew ?_) | (with_reducible refine below_drewN ?_ _) | ((with_reducible apply below_via); focus (with_reducible assumption))))
        go_wp2_with fail
        go_ret
        exact ⟨rfl, hB8⟩
      · skip
        have hd7 := HD7.out
        rw [pe] at hd7
        rw [pe]
        have HD8 : Hid (Phone.d ⟨i7, c7, ⟨J7, jc, JL⟩, ⟨M7, mc, ML⟩, S7⟩ = after1 (⟨id, cut, HL, NL.map Note.d, S.l⟩ : PhoneD) i x n t) := Lib.hid hd7
        simp only [after1, Phone.d, PhoneD.mk.injEq] at hd7
        obtain ⟨e1, e2, e3, e4, e5⟩ := hd7
        replace e1 := e1.symm
        replace e2 := e2.symm
        subst e1
        subst e2
        have hlH : JL.length = HL.length := by rw [e3, List.length_set]
        have hlN : ML.length = NL.length + 1 := by
          have := congrArg List.length e4
          simpa using this
        obtain ⟨b7, o7, rfl, -, -⟩ := HR7.out.1.at1 (i := 0) (show 0 < JL.length by omega)
        obtain ⟨b9, o9, rfl, -, -⟩ := HR7.out.2.1.1.at1 (i := 0) (show 0 < ML.length by omega)
        have hlH2 : (JL.length : Int) = (HL.length : Int) := by omega
        have hlN2 : (ML.length : Int) = (NL.length : Int) + 1 := by omega
        have hrt : PhoneD.right (after1 (⟨id, cut, HL, NL.map Note.d, S.l⟩ : PhoneD) i x n t) = true := promise_right HRI.out hhN HX.out q1 pn q5 q6 pl
        have HRT := Lib.hid hrt
        have HE3 := Lib.hid e3
        have HE4 := Lib.hid e4
        have HLH := Lib.hid hlH
        have HLN := Lib.hid hlN
        have HTM := Lib.hid (HTW.out m q2 q4 pn pl)
        clear HD7 pe e3 e4 e5 hrt hlH hlN
        go_wp2_with fail
        refine (phone_right ⟨id, cut, ⟨some ⟨b7, o7, none⟩, jc, JL⟩, ⟨some ⟨b9, o9, none⟩, mc, ML⟩, S7⟩ _ (HR7.out.later (by repeat (first | (with_reducible exact Below.refl _ _) | ((with_reducible refine below_setr ?_ ?_); focus (first | (simp; done) | (simp; omega) | omega)) | ((with_reducible refine below_allocr ?_ ?_); focus (first | (simp; done) | (simp; omega) | omega)) | (with_reducible refine Below.drew ?_) | (with_reducible refine below_drewN ?_ _) | ((with_reducible apply below_via); focus (with_reducible assumption)))) (Nat.le_refl _))).mono ?_
        rintro e w8 ⟨rfl, hb8⟩
        rw [HD8.out, HRT.out]
        clear a0 a1 a2 a3 a4 af
        clear b0 b1 b2 b3 b4 bf
        have K_a : Blk _ (w.heap.size) 26 #[.int .i64 id, .bool cut, .slice (some ⟨bh, oh, none⟩) HL.length Hc, .slice (NA) NL.length Nc, .slice S.A S.l.length S.c] := blk_later hb8 (by simp [hp_past, hp_at, hp_other, hp_same, hp_drew, hp_drewN, B_a.out.eq, B_a.out.lt, hp_same B_a.out.eq])
        obtain ⟨a0, a1, a2, a3, a4, af, az⟩ := Blk.b5 K_a
        have B_a := Lib.hid K_a
        clear K_a
        have K_b : Blk _ (w2.heap.size) 33 #[.int .i64 i2, .bool c2, .slice H2.A H2.l.length H2.c, .slice N2.A N2.l.length N2.c, .slice S2.A S2.l.length S2.c] := blk_later hb8 (by simp [hp_past, hp_at, hp_other, hp_same, hp_drew, hp_drewN, B_b.out.eq, B_b.out.lt, hp_same B_b.out.eq])
        obtain ⟨b0, b1, b2, b3, b4, bf, bz⟩ := Blk.b5 K_b
        have B_b := Lib.hid K_b
        clear K_b
        have K_c : Blk _ (w7.heap.size) 33 #[.int .i64 id, .bool cut, .slice (some ⟨b7, o7, none⟩) JL.length jc, .slice (some ⟨b9, o9, none⟩) ML.length mc, .slice S7.A S7.l.length S7.c] := blk_later hb8 (by simp [hp_past, hp_at, hp_other, hp_same, hp_drew, hp_drewN])
        obtain ⟨c0, c1, c2, c3, c4, cf, cz⟩ := Blk.b5 K_c
        have B_c := Lib.hid K_c
        clear K_c
        have h28 : Below w2.heap.size w2 w8 := (by repeat (first | (with_reducible exact h27) | (with_reducible exact Below.refl _ _) | ((with_reducible refine below_setr ?_ ?_); focus (first | (simp; done) | (simp; omega) | omega)) | ((with_reducible refine below_allocr ?_ ?_); focus (first | (simp; done) | (simp; omega) | omega)) | (with_reducible refine Below.drew ?_) | (with_reducible refine below_drewN ?_ _) | ((with_reducible apply below_via); focus (with_reducible assumption))))
        have hB8 : Below w.heap.size w w8 := (by repeat (first | (with_reducible exact hB7) | (with_reducible exact Below.refl _ _) | ((with_reducible refine below_setr ?_ ?_); focus (first | (simp; done) | (simp; omega) | omega)) | ((with_reducible refine below_allocr ?_ ?_); focus (first | (simp; done) | (simp; omega) | omega)) | (with_reducible refine Below.drew ?_) | (with_reducible refine below_drewN ?_ _) | ((with_reducible apply below_via); focus (with_reducible assumption))))
        have h78 : Below w7.heap.size w7 w8 := Below.trans (Below.alloc (Below.refl _ _) (Nat.le_refl _) _) (hb8.mono (by simp))
        have HR8 := Lib.hid (HR7.out.later h78 (Nat.le_refl _))
        clear hb8 h27 HR7 h78
        go_wp2_with fail
        clear a0 a1 a2 a3 a4 af
        clear b0 b1 b2 b3 b4 bf
        clear c0 c1 c2 c3 c4 cf
        go_loopw [18] (fun vi wr => ∃ (q : Nat), q ≤ HL.length ∧ vi = .int .i64 q ∧ Below w8.heap.size w8 wr) (fun vi _ => HL.length - (intOf vi).toNat)
        case atStart => exact ⟨0, by omega, rfl, Below.refl _ _⟩
        case round =>
          obtain ⟨q, hq, rfl, hbw⟩ := hrel
          have hzw : w8.heap.size ≤ wr.heap.size := hbw.size
          have A1 := B_a.out.below hbw B_a.out.lt
          have C1 := B_c.out.below hbw B_c.out.lt
          obtain ⟨a0, a1, a2, a3, a4, af, az2⟩ := A1.b5
          obtain ⟨d0, d1, d2, d3, d4, df, dz2⟩ := C1.b5
          have BA1 := Lib.hid A1
          have BC1 := Lib.hid C1
          have hB9 : Below w.heap.size w wr := below_via hbw hB8
          clear A1 C1
          by_cases hql : q < HL.length
          · have hqj : q < JL.length := by have := HLH.out; omega
            obtain ⟨u1, u2, hA, hF, hcl⟩ := HP.out.1.at1 (i := q) hql
            simp only [Option.some.injEq, Addr.mk.injEq, and_true] at hA
            obtain ⟨rfl, rfl⟩ := hA
            obtain ⟨v1, v2, hA, hG, hcl2⟩ := HR8.out.1.at1 (i := q) hqj
            simp only [Option.some.injEq, Addr.mk.injEq, and_true] at hA
            obtain ⟨rfl, rfl⟩ := hA
            obtain ⟨_, m1, m2⟩ := Cells.c3 (hcl.keep (hB9.block _ hF))
            obtain ⟨_, n1, n2⟩ := Cells.c3 (hcl2.keep (hbw.block _ hG))
            have hJq : JL[q] = if q = i then { x with s := x.s + n } else HL[q] := by
              have h1 := HE3.out
              have h2 : (HL.set i { x with s := x.s + n })[q]? = some JL[q] := by rw [← h1]; exact List.getElem?_eq_getElem hqj
              rw [List.getElem?_set] at h2
              split at h2
              · rename_i hiq
                subst hiq
                rw [if_pos rfl]
                simp [hql] at h2
                exact h2.symm
              · rename_i hiq
                rw [if_neg (fun e => hiq e.symm)]
                rw [List.getElem?_eq_getElem hql] at h2
                injection h2 with h2
                exact h2.symm
            have hHq : q = i → HL[q] = x := fun e => by
              subst e
              have := HX.out
              rw [List.getElem?_eq_getElem hql] at this
              injection this
            simp only at m1 m2 n1 n2
            generalize HL[q] = hx at *
            generalize JL[q] = jx at *
            obtain ⟨hst, hu, hs⟩ := hx
            obtain ⟨jst, ju, js⟩ := jx
            simp only at m1 m2 n1 n2
            clear hcl hcl2 hqj
            have hq1 : (q : Int) < (HL.length : Int) := by omega
            have hq0 : (0 : Int) ≤ (q : Int) := by omega
            have hqj1 : (q : Int) < (JL.length : Int) := by omega
            by_cases hqi : q = i
            · rw [if_pos hqi] at hJq
              have hHq2 := hHq hqi
              obtain rfl : hu = x.u := by rw [← hHq2]
              obtain rfl : hs = x.s := by rw [← hHq2]
              obtain rfl : ju = x.u := congrArg Hold.u hJq
              obtain rfl : js = x.s + n := congrArg Hold.s hJq
              have hqe : ((q : Int) == (i : Int)) = true := by simp [hqi]
              clear hJq hHq hHq2 hqi
              go_wp2_with fail
              refine wp_region_T (fun w' => w'.cell? ⟨w.heap.size, 2, none⟩ = some (.slice (some ⟨bh, oh, none⟩) HL.length Hc) ∧ w'.cell? ⟨w7.heap.size, 2, none⟩ = some (.slice (some ⟨b7, o7, none⟩) JL.length jc) ∧ w'.cell? ⟨b7, o7 + q * 3 + 1, none⟩ = some (.int .i64 (x.u)) ∧ w'.cell? ⟨b7, o7 + q * 3 + 2, none⟩ = some (.int .i64 (x.s + n)) ∧ w'.cell? ⟨bh, oh + q * 3 + 1, none⟩ = some (.int .i64 (x.u))) (fun _ => false) (by kernel_rfl) ⟨a2, d2, n1, n2, m1⟩ (fun hHeld => ?_)
              refine wpAnyT_take2 (i := 0) (v := ?_) rfl rfl (by kernel_rfl) (by kernel_rfl) (by kernel_rfl) (by kernel_rfl) (fun _ _ _ h => h) (Or.inl ⟨by rfl, ?_⟩) (by first | assumption | trivial) ?_
              rotate_left
              · (intro w hSw; (try dsimp only at hSw); go_simp) <;> (with_reducible rfl)
              simp only [List.setIfInBounds_toArray, List.set_cons_zero, List.set_cons_succ]
              refine wpAnyT_take2 (i := 1) (v := ?_) rfl rfl (by kernel_rfl) (by kernel_rfl) (by kernel_rfl) (by kernel_rfl) (fun _ _ _ h => h) (Or.inl ⟨by rfl, ?_⟩) (by first | assumption | trivial) ?_
              rotate_left
              · (intro w hSw; (try dsimp only at hSw); go_simp) <;> (with_reducible rfl)
              simp only [List.setIfInBounds_toArray, List.set_cons_zero, List.set_cons_succ]
              refine wpAnyT_take2 (i := 2) (v := ?_) rfl rfl (by kernel_rfl) (by kernel_rfl) (by kernel_rfl) (by kernel_rfl) (fun _ _ _ h => h) (Or.inl ⟨by rfl, ?_⟩) (by first | assumption | trivial) ?_
              rotate_left
              · (intro w hSw; (try dsimp only at hSw); go_simp) <;> (with_reducible rfl)
              simp only [List.setIfInBounds_toArray, List.set_cons_zero, List.set_cons_succ]
              refine wpAnyT_take2 (i := 3) (v := ?_) rfl rfl (by kernel_rfl) (by kernel_rfl) (by kernel_rfl) (by kernel_rfl) (fun _ _ _ h => h) (Or.inl ⟨by rfl, ?_⟩) (by first | assumption | trivial) ?_
              rotate_left
              · (intro w hSw; (try dsimp only at hSw); go_simp) <;> (with_reducible rfl)
              simp only [List.setIfInBounds_toArray, List.set_cons_zero, List.set_cons_succ]
              refine wpAnyT_take2 (i := 4) (v := ?_) rfl rfl (by kernel_rfl) (by kernel_rfl) (by kernel_rfl) (by kernel_rfl) (fun _ _ _ h => h) (Or.inl ⟨by rfl, ?_⟩) (by first | assumption | trivial) ?_
              rotate_left
              · (intro w hSw; (try dsimp only at hSw); go_simp) <;> (with_reducible rfl)
              simp only [List.setIfInBounds_toArray, List.set_cons_zero, List.set_cons_succ]
              refine wpAnyT_take2 (i := 5) (v := ?_) rfl rfl (by kernel_rfl) (by kernel_rfl) (by kernel_rfl) (by kernel_rfl) (fun _ _ _ h => h) (Or.inl ⟨by rfl, ?_⟩) (by first | assumption | trivial) ?_
              rotate_left
              · (intro w hSw; (try dsimp only at hSw); go_simp) <;> (with_reducible rfl)
              simp only [List.setIfInBounds_toArray, List.set_cons_zero, List.set_cons_succ]
              refine wpAnyT_take2 (i := 6) (v := ?_) rfl rfl (by kernel_rfl) (by kernel_rfl) (by kernel_rfl) (by kernel_rfl) (fun _ _ _ h => h) (Or.inl ⟨by rfl, ?_⟩) (by first | assumption | trivial) ?_
              rotate_left
              · (intro w hSw; (try dsimp only at hSw); go_simp) <;> (with_reducible rfl)
              simp only [List.setIfInBounds_toArray, List.set_cons_zero, List.set_cons_succ]
              refine wpAnyT_take2 (i := 7) (v := ?_) rfl rfl (by kernel_rfl) (by kernel_rfl) (by kernel_rfl) (by kernel_rfl) (fun _ _ _ h => h) (Or.inl ⟨by rfl, ?_⟩) (by first | assumption | trivial) ?_
              rotate_left
              · (intro w hSw; (try dsimp only at hSw); go_simp) <;> (with_reducible rfl)
              simp only [List.setIfInBounds_toArray, List.set_cons_zero, List.set_cons_succ]
              refine wpAnyT_take2 (i := 8) (v := ?_) rfl rfl (by kernel_rfl) (by kernel_rfl) (by kernel_rfl) (by kernel_rfl) (fun _ _ _ h => h) (Or.inl ⟨by rfl, ?_⟩) (by first | assumption | trivial) ?_
              rotate_left
              · (intro w hSw; (try dsimp only at hSw); go_simp) <;> (with_reducible rfl)
              simp only [List.setIfInBounds_toArray, List.set_cons_zero, List.set_cons_succ]
              refine wpAnyT_take2 (i := 9) (v := ?_) rfl rfl (by kernel_rfl) (by kernel_rfl) (by kernel_rfl) (by kernel_rfl) (fun _ _ _ h => h) (Or.inl ⟨by rfl, ?_⟩) (by first | assumption | trivial) ?_
              rotate_left
              · (intro w hSw; (try dsimp only at hSw); go_simp) <;> (with_reducible rfl)
              simp only [List.setIfInBounds_toArray, List.set_cons_zero, List.set_cons_succ]
              refine wpAnyT_take2 (i := 10) (v := ?_) rfl rfl (by kernel_rfl) (by kernel_rfl) (by kernel_rfl) (by kernel_rfl) (fun _ _ _ h => h) (Or.inl ⟨by rfl, ?_⟩) (by first | assumption | trivial) ?_
              rotate_left
              · (intro w hSw; (try dsimp only at hSw); go_simp) <;> (with_reducible rfl)
              simp only [List.setIfInBounds_toArray, List.set_cons_zero, List.set_cons_succ]
              refine wpAnyT_take2 (i := 11) (v := ?_) rfl rfl (by kernel_rfl) (by kernel_rfl) (by kernel_rfl) (by kernel_rfl) (fun _ _ _ h => h) (Or.inl ⟨by rfl, ?_⟩) (by first | assumption | trivial) ?_
              rotate_left
              · (intro w hSw; (try dsimp only at hSw); go_simp) <;> (with_reducible rfl)
              simp only [List.setIfInBounds_toArray, List.set_cons_zero, List.set_cons_succ]
              refine wpAnyT_take2 (i := 12) (v := ?_) rfl rfl (by kernel_rfl) (by kernel_rfl) (by kernel_rfl) (by kernel_rfl) (fun _ _ _ h => h) (Or.inl ⟨by rfl, ?_⟩) (by first | assumption | trivial) ?_
              rotate_left
              · (intro w hSw; (try dsimp only at hSw); go_simp) <;> (with_reducible rfl)
              simp only [List.setIfInBounds_toArray, List.set_cons_zero, List.set_cons_succ]
              refine wpAnyT_take2 (i := 13) (v := ?_) rfl rfl (by kernel_rfl) (by kernel_rfl) (by kernel_rfl) (by kernel_rfl) (fun _ _ _ h => h) (Or.inl ⟨by rfl, ?_⟩) (by first | assumption | trivial) ?_
              rotate_left
              · (intro w hSw; (try dsimp only at hSw); go_simp) <;> (with_reducible rfl)
              simp only [List.setIfInBounds_toArray, List.set_cons_zero, List.set_cons_succ]
              refine wpAnyT_take2 (i := 14) (v := ?_) rfl rfl (by kernel_rfl) (by kernel_rfl) (by kernel_rfl) (by kernel_rfl) (fun _ _ _ h => h) (Or.inl ⟨by rfl, ?_⟩) (by first | assumption | trivial) ?_
              rotate_left
              · (intro w hSw; (try dsimp only at hSw); go_simp) <;> (with_reducible rfl)
              simp only [List.setIfInBounds_toArray, List.set_cons_zero, List.set_cons_succ]
              refine wpAnyT_take2 (i := 15) (v := ?_) rfl rfl (by kernel_rfl) (by kernel_rfl) (by kernel_rfl) (by kernel_rfl) (fun _ _ _ h => h) (Or.inl ⟨by rfl, ?_⟩) (by first | assumption | trivial) ?_
              rotate_left
              · (intro w hSw; (try dsimp only at hSw); go_simp) <;> (with_reducible rfl)
              simp only [List.setIfInBounds_toArray, List.set_cons_zero, List.set_cons_succ]
              refine wpAnyT_take2 (i := 16) (v := ?_) rfl rfl (by kernel_rfl) (by kernel_rfl) (by kernel_rfl) (by kernel_rfl) (fun _ _ _ h => h) (Or.inl ⟨by rfl, ?_⟩) (by first | assumption | trivial) ?_
              rotate_left
              · (intro w hSw; (try dsimp only at hSw); go_simp) <;> (with_reducible rfl)
              simp only [List.setIfInBounds_toArray, List.set_cons_zero, List.set_cons_succ]
              refine wpAnyT_take2 (i := 17) (v := ?_) rfl rfl (by kernel_rfl) (by kernel_rfl) (by kernel_rfl) (by kernel_rfl) (fun _ _ _ h => h) (Or.inl ⟨by rfl, ?_⟩) (by first | assumption | trivial) ?_
              rotate_left
              · (intro w hSw; (try dsimp only at hSw); go_simp) <;> (with_reducible rfl)
              simp only [List.setIfInBounds_toArray, List.set_cons_zero, List.set_cons_succ]
              refine wpAnyT_take2 (i := 18) (v := ?_) rfl rfl (by kernel_rfl) (by kernel_rfl) (by kernel_rfl) (by kernel_rfl) (fun _ _ _ h => h) (Or.inl ⟨by rfl, ?_⟩) (by first | assumption | trivial) ?_
              rotate_left
              · (intro w hSw; (try dsimp only at hSw); go_simp) <;> (with_reducible rfl)
              simp only [List.setIfInBounds_toArray, List.set_cons_zero, List.set_cons_succ]
              refine wpAnyT_take2 (i := 19) (v := ?_) rfl rfl (by kernel_rfl) (by kernel_rfl) (by kernel_rfl) (by kernel_rfl) (fun _ _ _ h => h) (Or.inl ⟨by rfl, ?_⟩) (by first | assumption | trivial) ?_
              rotate_left
              · (intro w hSw; (try dsimp only at hSw); go_simp) <;> (with_reducible rfl)
              simp only [List.setIfInBounds_toArray, List.set_cons_zero, List.set_cons_succ]
              refine wpAnyT_take2 (i := 20) (v := ?_) rfl rfl (by kernel_rfl) (by kernel_rfl) (by kernel_rfl) (by kernel_rfl) (fun _ _ _ h => h) (Or.inl ⟨by rfl, ?_⟩) (by first | assumption | trivial) ?_
              rotate_left
              · (intro w hSw; (try dsimp only at hSw); go_simp) <;> (with_reducible rfl)
              simp only [List.setIfInBounds_toArray, List.set_cons_zero, List.set_cons_succ]
              refine wpAnyT_take2 (i := 21) (v := ?_) rfl rfl (by kernel_rfl) (by kernel_rfl) (by kernel_rfl) (by kernel_rfl) (fun _ _ _ h => h) (Or.inl ⟨by rfl, ?_⟩) (by first | assumption | trivial) ?_
              rotate_left
              · (intro w hSw; (try dsimp only at hSw); go_simp) <;> (with_reducible rfl)
              simp only [List.setIfInBounds_toArray, List.set_cons_zero, List.set_cons_succ]
              refine wpAnyT_take2 (i := 22) (v := ?_) rfl rfl (by kernel_rfl) (by kernel_rfl) (by kernel_rfl) (by kernel_rfl) (fun _ _ _ h => h) (Or.inl ⟨by rfl, ?_⟩) (by first | assumption | trivial) ?_
              rotate_left
              · (intro w hSw; (try dsimp only at hSw); go_simp) <;> (with_reducible rfl)
              simp only [List.setIfInBounds_toArray, List.set_cons_zero, List.set_cons_succ]
              refine wpAnyT_done (by kernel_rfl) ?_ _
              clear hHeld
              go_wp2_with fail
              go_roundw
              case rel => exact ⟨q + 1, hql, by go_num, (by repeat (first | (with_reducible exact hbw) | (with_reducible exact Below.refl _ _) | ((with_reducible refine below_setr ?_ ?_); focus (first | (simp; done) | (simp; omega) | omega)) | ((with_reducible refine below_allocr ?_ ?_); focus (first | (simp; done) | (simp; omega) | omega)) | (with_reducible refine Below.drew ?_) | (with_reducible refine below_drewN ?_ _)))⟩
              case measure => simp [intOf]; omega
            · rw [if_neg hqi] at hJq
              obtain rfl : ju = hu := congrArg Hold.u hJq
              obtain rfl : js = hs := congrArg Hold.s hJq
              have hqe : ((q : Int) == (i : Int)) = false := by simp; omega
              clear hJq hHq hqi
              go_wp2_with fail
              refine wp_region_T (fun w' => w'.cell? ⟨w.heap.size, 2, none⟩ = some (.slice (some ⟨bh, oh, none⟩) HL.length Hc) ∧ w'.cell? ⟨w7.heap.size, 2, none⟩ = some (.slice (some ⟨b7, o7, none⟩) JL.length jc) ∧ w'.cell? ⟨b7, o7 + q * 3 + 1, none⟩ = some (.int .i64 (ju)) ∧ w'.cell? ⟨b7, o7 + q * 3 + 2, none⟩ = some (.int .i64 (js)) ∧ w'.cell? ⟨bh, oh + q * 3 + 1, none⟩ = some (.int .i64 (ju))) (fun _ => false) (by kernel_rfl) ⟨a2, d2, n1, n2, m1⟩ (fun hHeld => ?_)
              refine wpAnyT_take2 (i := 0) (v := ?_) rfl rfl (by kernel_rfl) (by kernel_rfl) (by kernel_rfl) (by kernel_rfl) (fun _ _ _ h => h) (Or.inl ⟨by rfl, ?_⟩) (by first | assumption | trivial) ?_
              rotate_left
              · (intro w hSw; (try dsimp only at hSw); go_simp) <;> (with_reducible rfl)
              simp only [List.setIfInBounds_toArray, List.set_cons_zero, List.set_cons_succ]
              refine wpAnyT_take2 (i := 1) (v := ?_) rfl rfl (by kernel_rfl) (by kernel_rfl) (by kernel_rfl) (by kernel_rfl) (fun _ _ _ h => h) (Or.inl ⟨by rfl, ?_⟩) (by first | assumption | trivial) ?_
              rotate_left
              · (intro w hSw; (try dsimp only at hSw); go_simp) <;> (with_reducible rfl)
              simp only [List.setIfInBounds_toArray, List.set_cons_zero, List.set_cons_succ]
              refine wpAnyT_take2 (i := 2) (v := ?_) rfl rfl (by kernel_rfl) (by kernel_rfl) (by kernel_rfl) (by kernel_rfl) (fun _ _ _ h => h) (Or.inl ⟨by rfl, ?_⟩) (by first | assumption | trivial) ?_
              rotate_left
              · (intro w hSw; (try dsimp only at hSw); go_simp) <;> (with_reducible rfl)
              simp only [List.setIfInBounds_toArray, List.set_cons_zero, List.set_cons_succ]
              refine wpAnyT_take2 (i := 3) (v := ?_) rfl rfl (by kernel_rfl) (by kernel_rfl) (by kernel_rfl) (by kernel_rfl) (fun _ _ _ h => h) (Or.inl ⟨by rfl, ?_⟩) (by first | assumption | trivial) ?_
              rotate_left
              · (intro w hSw; (try dsimp only at hSw); go_simp) <;> (with_reducible rfl)
              simp only [List.setIfInBounds_toArray, List.set_cons_zero, List.set_cons_succ]
              refine wpAnyT_take2 (i := 4) (v := ?_) rfl rfl (by kernel_rfl) (by kernel_rfl) (by kernel_rfl) (by kernel_rfl) (fun _ _ _ h => h) (Or.inl ⟨by rfl, ?_⟩) (by first | assumption | trivial) ?_
              rotate_left
              · (intro w hSw; (try dsimp only at hSw); go_simp) <;> (with_reducible rfl)
              simp only [List.setIfInBounds_toArray, List.set_cons_zero, List.set_cons_succ]
              refine wpAnyT_take2 (i := 5) (v := ?_) rfl rfl (by kernel_rfl) (by kernel_rfl) (by kernel_rfl) (by kernel_rfl) (fun _ _ _ h => h) (Or.inl ⟨by rfl, ?_⟩) (by first | assumption | trivial) ?_
              rotate_left
              · (intro w hSw; (try dsimp only at hSw); go_simp) <;> (with_reducible rfl)
              simp only [List.setIfInBounds_toArray, List.set_cons_zero, List.set_cons_succ]
              refine wpAnyT_take2 (i := 6) (v := ?_) rfl rfl (by kernel_rfl) (by kernel_rfl) (by kernel_rfl) (by kernel_rfl) (fun _ _ _ h => h) (Or.inl ⟨by rfl, ?_⟩) (by first | assumption | trivial) ?_
              rotate_left
              · (intro w hSw; (try dsimp only at hSw); go_simp) <;> (with_reducible rfl)
              simp only [List.setIfInBounds_toArray, List.set_cons_zero, List.set_cons_succ]
              refine wpAnyT_take2 (i := 7) (v := ?_) rfl rfl (by kernel_rfl) (by kernel_rfl) (by kernel_rfl) (by kernel_rfl) (fun _ _ _ h => h) (Or.inl ⟨by rfl, ?_⟩) (by first | assumption | trivial) ?_
              rotate_left
              · (intro w hSw; (try dsimp only at hSw); go_simp) <;> (with_reducible rfl)
              simp only [List.setIfInBounds_toArray, List.set_cons_zero, List.set_cons_succ]
              refine wpAnyT_take2 (i := 8) (v := ?_) rfl rfl (by kernel_rfl) (by kernel_rfl) (by kernel_rfl) (by kernel_rfl) (fun _ _ _ h => h) (Or.inl ⟨by rfl, ?_⟩) (by first | assumption | trivial) ?_
              rotate_left
              · (intro w hSw; (try dsimp only at hSw); go_simp) <;> (with_reducible rfl)
              simp only [List.setIfInBounds_toArray, List.set_cons_zero, List.set_cons_succ]
              refine wpAnyT_take2 (i := 9) (v := ?_) rfl rfl (by kernel_rfl) (by kernel_rfl) (by kernel_rfl) (by kernel_rfl) (fun _ _ _ h => h) (Or.inl ⟨by rfl, ?_⟩) (by first | assumption | trivial) ?_
              rotate_left
              · (intro w hSw; (try dsimp only at hSw); go_simp) <;> (with_reducible rfl)
              simp only [List.setIfInBounds_toArray, List.set_cons_zero, List.set_cons_succ]
              refine wpAnyT_take2 (i := 10) (v := ?_) rfl rfl (by kernel_rfl) (by kernel_rfl) (by kernel_rfl) (by kernel_rfl) (fun _ _ _ h => h) (Or.inl ⟨by rfl, ?_⟩) (by first | assumption | trivial) ?_
              rotate_left
              · (intro w hSw; (try dsimp only at hSw); go_simp) <;> (with_reducible rfl)
              simp only [List.setIfInBounds_toArray, List.set_cons_zero, List.set_cons_succ]
              refine wpAnyT_take2 (i := 11) (v := ?_) rfl rfl (by kernel_rfl) (by kernel_rfl) (by kernel_rfl) (by kernel_rfl) (fun _ _ _ h => h) (Or.inl ⟨by rfl, ?_⟩) (by first | assumption | trivial) ?_
              rotate_left
              · (intro w hSw; (try dsimp only at hSw); go_simp) <;> (with_reducible rfl)
              simp only [List.setIfInBounds_toArray, List.set_cons_zero, List.set_cons_succ]
              refine wpAnyT_take2 (i := 12) (v := ?_) rfl rfl (by kernel_rfl) (by kernel_rfl) (by kernel_rfl) (by kernel_rfl) (fun _ _ _ h => h) (Or.inl ⟨by rfl, ?_⟩) (by first | assumption | trivial) ?_
              rotate_left
              · (intro w hSw; (try dsimp only at hSw); go_simp) <;> (with_reducible rfl)
              simp only [List.setIfInBounds_toArray, List.set_cons_zero, List.set_cons_succ]
              refine wpAnyT_take2 (i := 13) (v := ?_) rfl rfl (by kernel_rfl) (by kernel_rfl) (by kernel_rfl) (by kernel_rfl) (fun _ _ _ h => h) (Or.inl ⟨by rfl, ?_⟩) (by first | assumption | trivial) ?_
              rotate_left
              · (intro w hSw; (try dsimp only at hSw); go_simp) <;> (with_reducible rfl)
              simp only [List.setIfInBounds_toArray, List.set_cons_zero, List.set_cons_succ]
              refine wpAnyT_take2 (i := 14) (v := ?_) rfl rfl (by kernel_rfl) (by kernel_rfl) (by kernel_rfl) (by kernel_rfl) (fun _ _ _ h => h) (Or.inl ⟨by rfl, ?_⟩) (by first | assumption | trivial) ?_
              rotate_left
              · (intro w hSw; (try dsimp only at hSw); go_simp) <;> (with_reducible rfl)
              simp only [List.setIfInBounds_toArray, List.set_cons_zero, List.set_cons_succ]
              refine wpAnyT_take2 (i := 15) (v := ?_) rfl rfl (by kernel_rfl) (by kernel_rfl) (by kernel_rfl) (by kernel_rfl) (fun _ _ _ h => h) (Or.inl ⟨by rfl, ?_⟩) (by first | assumption | trivial) ?_
              rotate_left
              · (intro w hSw; (try dsimp only at hSw); go_simp) <;> (with_reducible rfl)
              simp only [List.setIfInBounds_toArray, List.set_cons_zero, List.set_cons_succ]
              refine wpAnyT_take2 (i := 16) (v := ?_) rfl rfl (by kernel_rfl) (by kernel_rfl) (by kernel_rfl) (by kernel_rfl) (fun _ _ _ h => h) (Or.inl ⟨by rfl, ?_⟩) (by first | assumption | trivial) ?_
              rotate_left
              · (intro w hSw; (try dsimp only at hSw); go_simp) <;> (with_reducible rfl)
              simp only [List.setIfInBounds_toArray, List.set_cons_zero, List.set_cons_succ]
              refine wpAnyT_take2 (i := 17) (v := ?_) rfl rfl (by kernel_rfl) (by kernel_rfl) (by kernel_rfl) (by kernel_rfl) (fun _ _ _ h => h) (Or.inl ⟨by rfl, ?_⟩) (by first | assumption | trivial) ?_
              rotate_left
              · (intro w hSw; (try dsimp only at hSw); go_simp) <;> (with_reducible rfl)
              simp only [List.setIfInBounds_toArray, List.set_cons_zero, List.set_cons_succ]
              refine wpAnyT_take2 (i := 18) (v := ?_) rfl rfl (by kernel_rfl) (by kernel_rfl) (by kernel_rfl) (by kernel_rfl) (fun _ _ _ h => h) (Or.inl ⟨by rfl, ?_⟩) (by first | assumption | trivial) ?_
              rotate_left
              · (intro w hSw; (try dsimp only at hSw); go_simp) <;> (with_reducible rfl)
              simp only [List.setIfInBounds_toArray, List.set_cons_zero, List.set_cons_succ]
              refine wpAnyT_take2 (i := 19) (v := ?_) rfl rfl (by kernel_rfl) (by kernel_rfl) (by kernel_rfl) (by kernel_rfl) (fun _ _ _ h => h) (Or.inl ⟨by rfl, ?_⟩) (by first | assumption | trivial) ?_
              rotate_left
              · (intro w hSw; (try dsimp only at hSw); go_simp) <;> (with_reducible rfl)
              simp only [List.setIfInBounds_toArray, List.set_cons_zero, List.set_cons_succ]
              refine wpAnyT_take2 (i := 20) (v := ?_) rfl rfl (by kernel_rfl) (by kernel_rfl) (by kernel_rfl) (by kernel_rfl) (fun _ _ _ h => h) (Or.inl ⟨by rfl, ?_⟩) (by first | assumption | trivial) ?_
              rotate_left
              · (intro w hSw; (try dsimp only at hSw); go_simp) <;> (with_reducible rfl)
              simp only [List.setIfInBounds_toArray, List.set_cons_zero, List.set_cons_succ]
              refine wpAnyT_take2 (i := 21) (v := ?_) rfl rfl (by kernel_rfl) (by kernel_rfl) (by kernel_rfl) (by kernel_rfl) (fun _ _ _ h => h) (Or.inl ⟨by rfl, ?_⟩) (by first | assumption | trivial) ?_
              rotate_left
              · (intro w hSw; (try dsimp only at hSw); go_simp) <;> (with_reducible rfl)
              simp only [List.setIfInBounds_toArray, List.set_cons_zero, List.set_cons_succ]
              refine wpAnyT_take2 (i := 22) (v := ?_) rfl rfl (by kernel_rfl) (by kernel_rfl) (by kernel_rfl) (by kernel_rfl) (fun _ _ _ h => h) (Or.inl ⟨by rfl, ?_⟩) (by first | assumption | trivial) ?_
              rotate_left
              · (intro w hSw; (try dsimp only at hSw); go_simp) <;> (with_reducible rfl)
              simp only [List.setIfInBounds_toArray, List.set_cons_zero, List.set_cons_succ]
              refine wpAnyT_done (by kernel_rfl) ?_ _
              clear hHeld
              go_wp2_with fail
              go_roundw
              case rel => exact ⟨q + 1, hql, by go_num, (by repeat (first | (with_reducible exact hbw) | (with_reducible exact Below.refl _ _) | ((with_reducible refine below_setr ?_ ?_); focus (first | (simp; done) | (simp; omega) | omega)) | ((with_reducible refine below_allocr ?_ ?_); focus (first | (simp; done) | (simp; omega) | omega)) | (with_reducible refine Below.drew ?_) | (with_reducible refine below_drewN ?_ _)))⟩
              case measure => simp [intOf]; omega
          · have hqq : q = HL.length := by omega
            subst hqq
            have hif := HTM.out
            have heq : (((after1 (⟨id, cut, HL, NL.map Note.d, S.l⟩ : PhoneD) i x n t).promise k m t nB).2 == 0) = ((PhoneD.promise (⟨id, cut, HL, NL.map Note.d, S.l⟩ : PhoneD) k (n + m) t nB).2 == 0) := by
              rw [Bool.eq_iff_iff]
              simp only [beq_iff_eq]
              exact hif
            have BB1 := Lib.hid (B_b.out.below hbw B_b.out.lt)
            have h2w : Below w2.heap.size w2 wr := below_via hbw h28
            have HR9 := Lib.hid (HR8.out.later hbw (Nat.le_refl _))
            have HEQ := Lib.hid heq
            obtain ⟨b0, b1, b2, b3, b4, bf, bz2⟩ := BB1.out.b5
            clear heq hif
            go_wp2_with fail
            refine (phone_promise ⟨id, cut, ⟨some ⟨b7, o7, none⟩, jc, JL⟩, ⟨some ⟨b9, o9, none⟩, mc, ML⟩, S7⟩ k m t nB _ HR9.out).mono ?_
            rintro e w10 ⟨⟨i10, c10, H10, N10, S10⟩, rfl, -, -, hb10⟩
            rw [HD8.out]
            clear a0 a1 a2 a3 a4 af d0 d1 d2 d3 d4 df
            clear b0 b1 b2 b3 b4 bf
            have K_a : Blk _ (w.heap.size) 26 #[.int .i64 id, .bool cut, .slice (some ⟨bh, oh, none⟩) HL.length Hc, .slice (NA) NL.length Nc, .slice S.A S.l.length S.c] := blk_later hb10 (by simp [hp_past, hp_at, hp_other, hp_same, hp_drew, hp_drewN, BA1.out.eq, BA1.out.lt, hp_same BA1.out.eq])
            obtain ⟨a0, a1, a2, a3, a4, af, az⟩ := Blk.b5 K_a
            have B_a := Lib.hid K_a
            clear K_a
            have K_b : Blk _ (w2.heap.size) 33 #[.int .i64 i2, .bool c2, .slice H2.A H2.l.length H2.c, .slice N2.A N2.l.length N2.c, .slice S2.A S2.l.length S2.c] := blk_later hb10 (by simp [hp_past, hp_at, hp_other, hp_same, hp_drew, hp_drewN, BB1.out.eq, BB1.out.lt, hp_same BB1.out.eq])
            obtain ⟨b0, b1, b2, b3, b4, bf, bz⟩ := Blk.b5 K_b
            have B_b := Lib.hid K_b
            clear K_b
            have K_d : Blk _ (w7.heap.size) 33 #[.int .i64 id, .bool cut, .slice (some ⟨b7, o7, none⟩) JL.length jc, .slice (some ⟨b9, o9, none⟩) ML.length mc, .slice S7.A S7.l.length S7.c] := blk_later hb10 (by simp [hp_past, hp_at, hp_other, hp_same, hp_drew, hp_drewN, BC1.out.eq, BC1.out.lt, hp_same BC1.out.eq])
            obtain ⟨d0, d1, d2, d3, d4, df, dz⟩ := Blk.b5 K_d
            have B_d := Lib.hid K_d
            clear K_d
            have hB10 : Below w.heap.size w w10 := (by repeat (first | (with_reducible exact hB9) | (with_reducible exact Below.refl _ _) | ((with_reducible refine below_setr ?_ ?_); focus (first | (simp; done) | (simp; omega) | omega)) | ((with_reducible refine below_allocr ?_ ?_); focus (first | (simp; done) | (simp; omega) | omega)) | (with_reducible refine Below.drew ?_) | (with_reducible refine below_drewN ?_ _) | ((with_reducible apply below_via); focus (with_reducible assumption))))
            have h2A : Below w2.heap.size w2 w10 := below_via hb10 h2w
            have HRA := Lib.hid (HR9.out.later hb10 (Nat.le_refl _))
            clear hb10 h2w
            simp only [Phone.v]
            go_wp2_with fail
            refine (phone_promise ⟨i2, c2, H2, N2, S2⟩ k (n + m) t nB _ (HR2.out.later (by repeat (first | (with_reducible exact h2A) | (with_reducible exact Below.refl _ _) | ((with_reducible refine below_setr ?_ ?_); focus (first | (simp; done) | (simp; omega) | omega)) | ((with_reducible refine below_allocr ?_ ?_); focus (first | (simp; done) | (simp; omega) | omega)) | (with_reducible refine Below.drew ?_) | (with_reducible refine below_drewN ?_ _) | ((with_reducible apply below_via); focus (with_reducible assumption)))) (Nat.le_refl _))).mono ?_
            rintro e w11 ⟨⟨i11, c11, H11, N11, S11⟩, rfl, -, -, hb11⟩
            rw [HD2.out]
            clear a0 a1 a2 a3 a4 af d0 d1 d2 d3 d4 df
            clear b0 b1 b2 b3 b4 bf
            have K_a : Blk _ (w.heap.size) 26 #[.int .i64 id, .bool cut, .slice (some ⟨bh, oh, none⟩) HL.length Hc, .slice (NA) NL.length Nc, .slice S.A S.l.length S.c] := blk_later hb11 (by simp [hp_past, hp_at, hp_other, hp_same, hp_drew, hp_drewN, B_a.out.eq, B_a.out.lt, hp_same B_a.out.eq])
            obtain ⟨a0, a1, a2, a3, a4, af, az⟩ := Blk.b5 K_a
            have B_a := Lib.hid K_a
            clear K_a
            have K_d : Blk _ (w7.heap.size) 33 #[.int .i64 id, .bool cut, .slice (some ⟨b7, o7, none⟩) JL.length jc, .slice (some ⟨b9, o9, none⟩) ML.length mc, .slice S7.A S7.l.length S7.c] := blk_later hb11 (by simp [hp_past, hp_at, hp_other, hp_same, hp_drew, hp_drewN, B_d.out.eq, B_d.out.lt, hp_same B_d.out.eq])
            obtain ⟨d0, d1, d2, d3, d4, df, dz⟩ := Blk.b5 K_d
            have B_d := Lib.hid K_d
            clear K_d
            have hB11 : Below w.heap.size w w11 := (by repeat (first | (with_reducible exact hB10) | (with_reducible exact Below.refl _ _) | ((with_reducible refine below_setr ?_ ?_); focus (first | (simp; done) | (simp; omega) | omega)) | ((with_reducible refine below_allocr ?_ ?_); focus (first | (simp; done) | (simp; omega) | omega)) | (with_reducible refine Below.drew ?_) | (with_reducible refine below_drewN ?_ _) | ((with_reducible apply below_via); focus (with_reducible assumption))))
            have hAB : Below w10.heap.size w10 w11 := Below.trans (Below.alloc (Below.refl _ _) (Nat.le_refl _) _) (hb11.mono (by simp))
            have HRB := Lib.hid (HRA.out.later hAB (Nat.le_refl _))
            have heq := HEQ.out
            clear hb11 hAB HRA HR9 HEQ
            generalize ((after1 (⟨id, cut, HL, NL.map Note.d, S.l⟩ : PhoneD) i x n t).promise k m t nB).2 = er2 at *
            generalize (PhoneD.promise (⟨id, cut, HL, NL.map Note.d, S.l⟩ : PhoneD) k (n + m) t nB).2 = er3 at *
            have hT : (ML.take NL.length).length = NL.length := by rw [List.length_take, HLN.out]; omega
            have hTd : (ML.take NL.length).map Note.d = NL.map Note.d := by
              rw [List.map_take, HE4.out, List.take_append_of_le_length (by simp), List.take_of_length_le (by simp)]
            have hmc : (NL.length : Int) ≤ (mc : Int) := by
              have h1 := HRB.out.2.1.1.1
              simp only at h1
              have := HLN.out
              omega
            have hmc0 : (0 : Int) ≤ (NL.length : Int) := by omega
            have HTK := Lib.hid (HRB.out.2.1.take_ NL.length)
            simp only [Phone.v]
            go_wp2_with fail
            obtain ⟨W, hW⟩ : ∃ x, x = w11.alloc (.cells #[.int .i64 i11, .bool c11, .slice H11.A H11.l.length H11.c, .slice N11.A N11.l.length N11.c, .slice S11.A S11.l.length S11.c] 33) := ⟨_, rfl⟩
            rw [← hW]
            have hbW : Below w11.heap.size w11 W := by rw [hW]; exact Below.alloc (Below.refl _ _) (Nat.le_refl _) _
            have d3' := keep_cell hbW d3
            have a3' := keep_cell hbW a3
            have hBW : Below w.heap.size w W := below_via hbW hB11
            clear hW
            refine wp_region_T (fun w' => w'.cell? ⟨w7.heap.size, 3, none⟩ = some (.slice (some ⟨b9, o9, none⟩) ML.length mc) ∧ w'.cell? ⟨w.heap.size, 3, none⟩ = some (.slice (NA) NL.length Nc)) (fun _ => false) (by kernel_rfl) ⟨d3', a3'⟩ (fun hHeld => ?_)
            refine wpAnyT_take2 (i := 0) (v := ?_) rfl rfl (by kernel_rfl) (by kernel_rfl) (by kernel_rfl) (by kernel_rfl) (fun _ _ _ h => h) (Or.inl ⟨by rfl, ?_⟩) (by first | assumption | trivial) ?_
            rotate_left
            · (intro w hSw; (try dsimp only at hSw); go_simp) <;> (with_reducible rfl)
            simp only [List.setIfInBounds_toArray, List.set_cons_zero, List.set_cons_succ]
            refine wpAnyT_take2 (i := 1) (v := ?_) rfl rfl (by kernel_rfl) (by kernel_rfl) (by kernel_rfl) (by kernel_rfl) (fun _ _ _ h => h) (Or.inl ⟨by rfl, ?_⟩) (by first | assumption | trivial) ?_
            rotate_left
            · (intro w hSw; (try dsimp only at hSw); go_simp) <;> (with_reducible rfl)
            simp only [List.setIfInBounds_toArray, List.set_cons_zero, List.set_cons_succ]
            refine wpAnyT_take2 (i := 2) (v := ?_) rfl rfl (by kernel_rfl) (by kernel_rfl) (by kernel_rfl) (by kernel_rfl) (fun _ _ _ h => h) (Or.inl ⟨by rfl, ?_⟩) (by first | assumption | trivial) ?_
            rotate_left
            · (intro w hSw; (try dsimp only at hSw); go_simp) <;> (with_reducible rfl)
            simp only [List.setIfInBounds_toArray, List.set_cons_zero, List.set_cons_succ]
            refine wpAnyT_take2 (i := 3) (v := ?_) rfl rfl (by kernel_rfl) (by kernel_rfl) (by kernel_rfl) (by kernel_rfl) (fun _ _ _ h => h) (Or.inl ⟨by rfl, ?_⟩) (by first | assumption | trivial) ?_
            rotate_left
            · (intro w hSw; (try dsimp only at hSw); go_simp) <;> (with_reducible rfl)
            simp only [List.setIfInBounds_toArray, List.set_cons_zero, List.set_cons_succ]
            refine wpAnyT_take2 (i := 4) (v := ?_) rfl rfl (by kernel_rfl) (by kernel_rfl) (by kernel_rfl) (by kernel_rfl) (fun _ _ _ h => h) (Or.inl ⟨by rfl, ?_⟩) (by first | assumption | trivial) ?_
            rotate_left
            · (intro w hSw; (try dsimp only at hSw); go_simp) <;> (with_reducible rfl)
            simp only [List.setIfInBounds_toArray, List.set_cons_zero, List.set_cons_succ]
            refine wpAnyT_take2 (i := 5) (v := ?_) rfl rfl (by kernel_rfl) (by kernel_rfl) (by kernel_rfl) (by kernel_rfl) (fun _ _ _ h => h) (Or.inl ⟨by rfl, ?_⟩) (by first | assumption | trivial) ?_
            rotate_left
            · (intro w hSw; (try dsimp only at hSw); go_simp) <;> (with_reducible rfl)
            simp only [List.setIfInBounds_toArray, List.set_cons_zero, List.set_cons_succ]
            refine wpAnyT_take2 (i := 6) (v := .bool true) rfl rfl (by kernel_rfl) (by kernel_rfl) (by kernel_rfl) (by kernel_rfl) (fun _ _ _ h => h) (Or.inl ⟨by rfl, ?_⟩) (by first | assumption | trivial) ?_
            · (intro w hSw; (try dsimp only at hSw); go_simp) <;> (first | (with_reducible rfl) | assumption | (simp; done) | (simp [*]; done) | (simp; omega))
            simp only [List.setIfInBounds_toArray, List.set_cons_zero, List.set_cons_succ]
            refine wpAnyT_take2 (i := 7) (v := ?_) rfl rfl (by kernel_rfl) (by kernel_rfl) (by kernel_rfl) (by kernel_rfl) (fun _ _ _ h => h) (Or.inl ⟨by rfl, ?_⟩) (by first | assumption | trivial) ?_
            rotate_left
            · (intro w hSw; (try dsimp only at hSw); go_simp) <;> (with_reducible rfl)
            simp only [List.setIfInBounds_toArray, List.set_cons_zero, List.set_cons_succ]
            refine wpAnyT_take2 (i := 8) (v := ?_) rfl rfl (by kernel_rfl) (by kernel_rfl) (by kernel_rfl) (by kernel_rfl) (fun _ _ _ h => h) (Or.inl ⟨by rfl, ?_⟩) (by first | assumption | trivial) ?_
            rotate_left
            · (intro w hSw; (try dsimp only at hSw); go_simp) <;> (with_reducible rfl)
            simp only [List.setIfInBounds_toArray, List.set_cons_zero, List.set_cons_succ]
            refine wpAnyT_take2 (i := 9) (v := ?_) rfl rfl (by kernel_rfl) (by kernel_rfl) (by kernel_rfl) (by kernel_rfl) (fun _ _ _ h => h) (Or.inl ⟨by rfl, ?_⟩) (by first | assumption | trivial) ?_
            rotate_left
            · (intro w hSw; (try dsimp only at hSw); go_simp) <;> (with_reducible rfl)
            simp only [List.setIfInBounds_toArray, List.set_cons_zero, List.set_cons_succ]
            refine wpAnyT_take2 (i := 10) (v := ?_) rfl rfl (by kernel_rfl) (by kernel_rfl) (by kernel_rfl) (by kernel_rfl) (fun _ _ _ h => h) (Or.inl ⟨by rfl, ?_⟩) (by first | assumption | trivial) ?_
            rotate_left
            · (intro w hSw; (try dsimp only at hSw); go_simp) <;> (with_reducible rfl)
            simp only [List.setIfInBounds_toArray, List.set_cons_zero, List.set_cons_succ]
            refine wpAnyT_take2 (i := 11) (v := ?_) rfl rfl (by kernel_rfl) (by kernel_rfl) (by kernel_rfl) (by kernel_rfl) (fun _ _ _ h => h) (Or.inl ⟨by rfl, ?_⟩) (by first | assumption | trivial) ?_
            rotate_left
            · (intro w hSw; (try dsimp only at hSw); go_simp) <;> (with_reducible rfl)
            simp only [List.setIfInBounds_toArray, List.set_cons_zero, List.set_cons_succ]
            refine wpAnyT_take2 (i := 12) (v := ?_) rfl rfl (by kernel_rfl) (by kernel_rfl) (by kernel_rfl) (by kernel_rfl) (fun _ _ _ h => h) (Or.inl ⟨by rfl, ?_⟩) (by first | assumption | trivial) ?_
            rotate_left
            · (intro w hSw; (try dsimp only at hSw); go_simp) <;> (with_reducible rfl)
            simp only [List.setIfInBounds_toArray, List.set_cons_zero, List.set_cons_succ]
            refine wpAnyT_take2 (i := 13) (v := ?_) rfl rfl (by kernel_rfl) (by kernel_rfl) (by kernel_rfl) (by kernel_rfl) (fun _ _ _ h => h) (Or.inl ⟨by rfl, ?_⟩) (by first | assumption | trivial) ?_
            rotate_left
            · (intro w hSw; (try dsimp only at hSw); go_simp) <;> (with_reducible rfl)
            simp only [List.setIfInBounds_toArray, List.set_cons_zero, List.set_cons_succ]
            refine wpAnyT_take2 (i := 14) (v := .slice (some ⟨b9, o9, none⟩) NL.length mc) rfl rfl (by kernel_rfl) (by kernel_rfl) (by kernel_rfl) (by kernel_rfl) (fun _ _ _ h => h) (Or.inl ⟨by rfl, ?_⟩) (by first | assumption | trivial) ?_
            · (intro w hSw; (try dsimp only at hSw); go_simp) <;> (first | (with_reducible rfl) | assumption | (simp; done) | (simp [*]; done) | (simp; omega))
            simp only [List.setIfInBounds_toArray, List.set_cons_zero, List.set_cons_succ]
            refine wpAnyT_take2 (i := 15) (v := ?_) rfl rfl (by kernel_rfl) (by kernel_rfl) (by kernel_rfl) (by kernel_rfl) (fun _ _ _ h => h) (Or.inl ⟨by rfl, ?_⟩) (by first | assumption | trivial) ?_
            rotate_left
            · (intro w hSw; (try dsimp only at hSw); go_simp) <;> (with_reducible rfl)
            simp only [List.setIfInBounds_toArray, List.set_cons_zero, List.set_cons_succ]
            refine wpAnyT_take2 (i := 16) (v := ?_) rfl rfl (by kernel_rfl) (by kernel_rfl) (by kernel_rfl) (by kernel_rfl) (fun _ _ _ h => h) (Or.inl ⟨by rfl, ?_⟩) (by first | assumption | trivial) ?_
            rotate_left
            · (intro w hSw; (try dsimp only at hSw); go_simp) <;> (with_reducible rfl)
            simp only [List.setIfInBounds_toArray, List.set_cons_zero, List.set_cons_succ]
            have HHD := Lib.hid hHeld
            clear hHeld
            refine wpAnyT_next (i := 17) (by kernel_rfl) rfl ?_
            go_wp2_with fail
            have hrl := rlists ⟨some ⟨b9, o9, none⟩, mc, ML.take NL.length⟩ ⟨NA, Nc, NL⟩ W.drew (HTK.out.later (Below.drew hbW) (Nat.le_refl _)) (HP.out.2.1.later (Below.drew hBW) (Nat.le_refl _))
            simp only [hT, hTd, listsN_refl] at hrl
            refine hrl.mono ?_
            rintro e w12 ⟨rfl, hb12⟩
            have hB12 : Below w.heap.size w w12 := (by repeat (first | (with_reducible exact hBW) | (with_reducible exact Below.refl _ _) | ((with_reducible refine below_setr ?_ ?_); focus (first | (simp; done) | (simp; omega) | omega)) | ((with_reducible refine below_allocr ?_ ?_); focus (first | (simp; done) | (simp; omega) | omega)) | (with_reducible refine Below.drew ?_) | (with_reducible refine below_drewN ?_ _) | ((with_reducible apply below_via); focus (with_reducible assumption))))
            go_wp2_with fail
            have hHeld := And.intro (keep_cell hb12 HHD.out.1) (keep_cell hb12 HHD.out.2)
            clear HHD
            refine And.intro ?_ ?_
            · first
              | exact hHeld
              | exact fun _ => hHeld
            refine wpAnyT_take2 (i := 18) (v := ?_) rfl rfl (by kernel_rfl) (by kernel_rfl) (by kernel_rfl) (by kernel_rfl) (fun _ _ _ h => h) (Or.inl ⟨by rfl, ?_⟩) (by first | assumption | trivial) ?_
            rotate_left
            · (intro w hSw; (try dsimp only at hSw); go_simp) <;> (with_reducible rfl)
            simp only [List.setIfInBounds_toArray, List.set_cons_zero, List.set_cons_succ]
            refine wpAnyT_take2 (i := 19) (v := ?_) rfl rfl (by kernel_rfl) (by kernel_rfl) (by kernel_rfl) (by kernel_rfl) (fun _ _ _ h => h) (Or.inl ⟨by rfl, ?_⟩) (by first | assumption | trivial) ?_
            rotate_left
            · (intro w hSw; (try dsimp only at hSw); go_simp) <;> (with_reducible rfl)
            simp only [List.setIfInBounds_toArray, List.set_cons_zero, List.set_cons_succ]
            refine wpAnyT_done (by kernel_rfl) ?_ _
            clear hHeld
            go_wp2_with fail
            go_ret
            exact ⟨rfl, (by repeat (first | (with_reducible exact hB12) | (with_reducible exact Below.refl _ _) | ((with_reducible refine below_setr ?_ ?_); focus (first | (simp; done) | (simp; omega) | omega)) | ((with_reducible refine below_allocr ?_ ?_); focus (first | (simp; done) | (simp; omega) | omega)) | (with_reducible refine Below.drew ?_) | (with_reducible refine below_drewN ?_ _) | ((with_reducible apply below_via); focus (with_reducible assumption))))⟩
        done
end Go.Proofs.Ythnblhbdfpmolaa
