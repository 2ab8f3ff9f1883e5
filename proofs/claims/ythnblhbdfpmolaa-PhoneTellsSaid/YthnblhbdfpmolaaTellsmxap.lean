/- Walks of package phone: Promise. -/
import Derived.Test.YthnblhbdfpmolaaTellsmxao
namespace Go.Proofs.Ythnblhbdfpmolaa
open Go.RowKit
def lateN (l : List NoteD) (t : Int) : Bool := match l.getLast? with | some x => decide (t < x.tm) | none => false
def okPro (p : PhoneD) (n t : Int) (tx : ByteArray) : Bool := p.right && (rngB n 1 1000000000000000 && (rngB t 0 1048576 && decide (tx.size ≤ 20000)))
def PhoneD.promise (p : PhoneD) (k n t : Int) (tx : ByteArray) : PhoneD × Int :=
  if okPro p n t tx then
    (match p.H[hidx p.H k]? with
     | some h => if hhas p.H k then
          (if h.u - h.s < n then (p, 21) else if lateN p.N t then (p, 19) else if p.N.length = 10000 then (p, 6)
           else ({ p with H := p.H.set (hidx p.H k) { h with s := h.s + n }, N := p.N ++ [⟨p.id, p.N.length, p.S, t, tx⟩] }, 0))
        else (p, 4)
     | none => (p, 4))
  else (p, 1)
set_option maxHeartbeats 800000 in
theorem phone_promise_no (p : Phone) (k n t : Int) (tx : ByteArray) (w : World) (hr : RdPhone (· < w.heap.size) w p) (hf : okPro p.d n t tx = false) :
    Calls Try.prog 24 #[p.v, .int .i64 k, .int .i64 n, .int .i64 t, .string tx] w fun e w' => e = .returned (.tuple #[p.v, .int .i64 1]) ∧ Below w.heap.size w w' := by
  unfold okPro at hf
  rcases hF : p.d.right
  · have HF := Lib.hid hF
    clear hF hf
    obtain ⟨id, cut, H, N, S⟩ := p
    have HR := Lib.hid hr
    clear hr
    simp only [Phone.v]
    go_enter Try.func24, Try.ntmps24
    go_wp2_with fail
    refine (phone_right ⟨id, cut, H, N, S⟩ _ (HR.out.later qbl (Nat.le_refl _))).mono ?_
    rintro e w1 ⟨rfl, hb1⟩
    rw [HF.out]
    have K_a : Blk _ (w.heap.size) 33 #[.int .i64 id, .bool cut, .slice H.A H.l.length H.c, .slice N.A N.l.length N.c, .slice S.A S.l.length S.c] := qkb hb1
    obtain ⟨a0, a1, a2, a3, a4, af, az⟩ := Blk.b5 K_a
    have B_a := Lib.hid K_a
    clear K_a
    have K_b : Blk _ (w.heap.size + 1) 33 #[.int .i64 0, .bool false, .slice none 0 0, .slice none 0 0, .slice none 0 0] := qkb hb1
    obtain ⟨b0, b1, b2, b3, b4, bf, bz⟩ := Blk.b5 K_b
    have B_b := Lib.hid K_b
    clear K_b
    have hB1 : Below w.heap.size w w1 := qbv
    clear hb1
    go_wp2_with fail
    try simp only [Exit.inBlock, Exit.then]
    refine bodyPost_ret (v := .tuple #[.agg #[.int .i64 id, .bool cut, .slice H.A H.l.length H.c, .slice N.A N.l.length N.c, .slice S.A S.l.length S.c], .int .i64 1]) ?_ rfl ⟨rfl, qbh⟩
    simp [results, Try.results24, go_sem, a0, a1, a2, a3, a4, af, b0, b1, b2, b3, b4, bf, bz]
  · rw [hF, Bool.true_and] at hf
    have HF := Lib.hid hF
    clear hF
    rcases h1 : rngB n 1 1000000000000000
    · clear hf
      obtain ⟨id, cut, H, N, S⟩ := p
      have HR := Lib.hid hr
      clear hr
      simp only [Phone.v]
      go_enter Try.func24, Try.ntmps24
      go_wp2_with fail
      refine (phone_right ⟨id, cut, H, N, S⟩ _ (HR.out.later qbl (Nat.le_refl _))).mono ?_
      rintro e w1 ⟨rfl, hb1⟩
      rw [HF.out]
      have K_a : Blk _ (w.heap.size) 33 #[.int .i64 id, .bool cut, .slice H.A H.l.length H.c, .slice N.A N.l.length N.c, .slice S.A S.l.length S.c] := qkb hb1
      obtain ⟨a0, a1, a2, a3, a4, af, az⟩ := Blk.b5 K_a
      have B_a := Lib.hid K_a
      clear K_a
      have K_b : Blk _ (w.heap.size + 1) 33 #[.int .i64 0, .bool false, .slice none 0 0, .slice none 0 0, .slice none 0 0] := qkb hb1
      obtain ⟨b0, b1, b2, b3, b4, bf, bz⟩ := Blk.b5 K_b
      have B_b := Lib.hid K_b
      clear K_b
      have hB1 : Below w.heap.size w w1 := qbv
      clear hb1
      go_wp2_with (go_at_call 59; refine (pto_any _ _ _ _).mono ?_; rintro e w' ⟨rfl, rfl⟩)
      try simp only [Exit.inBlock, Exit.then]
      refine bodyPost_ret (v := .tuple #[.agg #[.int .i64 id, .bool cut, .slice H.A H.l.length H.c, .slice N.A N.l.length N.c, .slice S.A S.l.length S.c], .int .i64 1]) ?_ rfl ⟨rfl, qbh⟩
      simp [results, Try.results24, go_sem, a0, a1, a2, a3, a4, af, b0, b1, b2, b3, b4, bf, bz]
    · rcases h2 : rngB t 0 1048576
      · clear hf
        obtain ⟨id, cut, H, N, S⟩ := p
        have HR := Lib.hid hr
        clear hr
        simp only [Phone.v]
        go_enter Try.func24, Try.ntmps24
        go_wp2_with fail
        refine (phone_right ⟨id, cut, H, N, S⟩ _ (HR.out.later qbl (Nat.le_refl _))).mono ?_
        rintro e w1 ⟨rfl, hb1⟩
        rw [HF.out]
        have K_a : Blk _ (w.heap.size) 33 #[.int .i64 id, .bool cut, .slice H.A H.l.length H.c, .slice N.A N.l.length N.c, .slice S.A S.l.length S.c] := qkb hb1
        obtain ⟨a0, a1, a2, a3, a4, af, az⟩ := Blk.b5 K_a
        have B_a := Lib.hid K_a
        clear K_a
        have K_b : Blk _ (w.heap.size + 1) 33 #[.int .i64 0, .bool false, .slice none 0 0, .slice none 0 0, .slice none 0 0] := qkb hb1
        obtain ⟨b0, b1, b2, b3, b4, bf, bz⟩ := Blk.b5 K_b
        have B_b := Lib.hid K_b
        clear K_b
        have hB1 : Below w.heap.size w w1 := qbv
        clear hb1
        go_wp2_with (go_at_call 59; refine (pto_any _ _ _ _).mono ?_; rintro e w' ⟨rfl, rfl⟩)
        try simp only [Exit.inBlock, Exit.then]
        refine bodyPost_ret (v := .tuple #[.agg #[.int .i64 id, .bool cut, .slice H.A H.l.length H.c, .slice N.A N.l.length N.c, .slice S.A S.l.length S.c], .int .i64 1]) ?_ rfl ⟨rfl, qbh⟩
        simp [results, Try.results24, go_sem, a0, a1, a2, a3, a4, af, b0, b1, b2, b3, b4, bf, bz]
      · have h3 : 20000 < tx.size := by rw [h1, h2] at hf; simpa using hf
        clear hf
        obtain ⟨id, cut, H, N, S⟩ := p
        have HR := Lib.hid hr
        clear hr
        simp only [Phone.v]
        go_enter Try.func24, Try.ntmps24
        go_wp2_with fail
        refine (phone_right ⟨id, cut, H, N, S⟩ _ (HR.out.later qbl (Nat.le_refl _))).mono ?_
        rintro e w1 ⟨rfl, hb1⟩
        rw [HF.out]
        have K_a : Blk _ (w.heap.size) 33 #[.int .i64 id, .bool cut, .slice H.A H.l.length H.c, .slice N.A N.l.length N.c, .slice S.A S.l.length S.c] := qkb hb1
        obtain ⟨a0, a1, a2, a3, a4, af, az⟩ := Blk.b5 K_a
        have B_a := Lib.hid K_a
        clear K_a
        have K_b : Blk _ (w.heap.size + 1) 33 #[.int .i64 0, .bool false, .slice none 0 0, .slice none 0 0, .slice none 0 0] := qkb hb1
        obtain ⟨b0, b1, b2, b3, b4, bf, bz⟩ := Blk.b5 K_b
        have B_b := Lib.hid K_b
        clear K_b
        have hB1 : Below w.heap.size w w1 := qbv
        clear hb1
        go_wp2_with (go_at_call 59; refine (pto_any _ _ _ _).mono ?_; rintro e w' ⟨rfl, rfl⟩)
        try simp only [Exit.inBlock, Exit.then]
        refine bodyPost_ret (v := .tuple #[.agg #[.int .i64 id, .bool cut, .slice H.A H.l.length H.c, .slice N.A N.l.length N.c, .slice S.A S.l.length S.c], .int .i64 1]) ?_ rfl ⟨rfl, qbh⟩
        simp [results, Try.results24, go_sem, a0, a1, a2, a3, a4, af, b0, b1, b2, b3, b4, bf, bz]
set_option maxHeartbeats 800000 in
theorem phone_promise_none (p : Phone) (k n t : Int) (tx : ByteArray) (w : World) (hr : RdPhone (· < w.heap.size) w p) (HF : Hid (p.d.right = true)) (h1 : rngB n 1 1000000000000000 = true) (h2 : rngB t 0 1048576 = true) (h3 : tx.size ≤ 20000)
    (HH : Hid (hhas p.H.l k = false)) :
    Calls Try.prog 24 #[p.v, .int .i64 k, .int .i64 n, .int .i64 t, .string tx] w fun e w' => e = .returned (.tuple #[p.v, .int .i64 4]) ∧ Below w.heap.size w w' := by
  obtain ⟨id, cut, H, N, S⟩ := p
  have HR := Lib.hid hr
  clear hr
  simp only [Phone.v]
  go_enter Try.func24, Try.ntmps24
  go_wp2_with fail
  refine (phone_right ⟨id, cut, H, N, S⟩ _ (HR.out.later qbl (Nat.le_refl _))).mono ?_
  rintro e w1 ⟨rfl, hb1⟩
  rw [HF.out]
  have K_a : Blk _ (w.heap.size) 33 #[.int .i64 id, .bool cut, .slice H.A H.l.length H.c, .slice N.A N.l.length N.c, .slice S.A S.l.length S.c] := qkb hb1
  obtain ⟨a0, a1, a2, a3, a4, af, az⟩ := Blk.b5 K_a
  have B_a := Lib.hid K_a
  clear K_a
  have K_b : Blk _ (w.heap.size + 1) 33 #[.int .i64 0, .bool false, .slice none 0 0, .slice none 0 0, .slice none 0 0] := qkb hb1
  obtain ⟨b0, b1, b2, b3, b4, bf, bz⟩ := Blk.b5 K_b
  have B_b := Lib.hid K_b
  clear K_b
  have hB1 : Below w.heap.size w w1 := qbv
  clear hb1
  go_wp2_with (go_at_call 59; refine (pto_any _ _ _ _).mono ?_; rintro e w' ⟨rfl, rfl⟩)
  refine (phone_find ⟨id, cut, H, N, S⟩ k _ (HR.out.later hB1 (Nat.le_refl _)) (PhoneD.right_iff HF.out).H).mono ?_
  rintro e w2 ⟨rfl, hb2⟩
  rw [HH.out]
  clear a0 a1 a2 a3 a4 af b0 b1 b2 b3 b4 bf
  have K_a : Blk _ (w.heap.size) 33 #[.int .i64 id, .bool cut, .slice H.A H.l.length H.c, .slice N.A N.l.length N.c, .slice S.A S.l.length S.c] := qkc B_a hb2
  obtain ⟨a0, a1, a2, a3, a4, af, az⟩ := Blk.b5 K_a
  have B_a := Lib.hid K_a
  clear K_a
  have K_b : Blk _ (w.heap.size + 1) 33 #[.int .i64 0, .bool false, .slice none 0 0, .slice none 0 0, .slice none 0 0] := qkc B_b hb2
  obtain ⟨b0, b1, b2, b3, b4, bf, bz⟩ := Blk.b5 K_b
  have B_b := Lib.hid K_b
  clear K_b
  have hB2 : Below w.heap.size w w2 := qbv
  clear hb2
  go_wp2_with fail
  try simp only [Exit.inBlock, Exit.then]
  refine bodyPost_ret (v := .tuple #[.agg #[.int .i64 id, .bool cut, .slice H.A H.l.length H.c, .slice N.A N.l.length N.c, .slice S.A S.l.length S.c], .int .i64 4]) ?_ rfl ⟨rfl, qbh⟩
  simp [results, Try.results24, go_sem, a0, a1, a2, a3, a4, af, b0, b1, b2, b3, b4, bf, bz]
set_option maxHeartbeats 800000 in
theorem phone_promise_few (p : Phone) (k n t : Int) (tx : ByteArray) (i : Nat) (x : Hold) (w : World) (hr : RdPhone (· < w.heap.size) w p) (HF : Hid (p.d.right = true)) (h1 : rngB n 1 1000000000000000 = true) (h2 : rngB t 0 1048576 = true) (h3 : tx.size ≤ 20000)
    (HH : Hid (hhas p.H.l k = true)) (HI : Hid (hidx p.H.l k = i)) (HX : Hid (p.H.l[i]? = some x)) (hx1 : 0 ≤ x.u) (hx2 : x.u ≤ 1000000000000000) (hx3 : 0 ≤ x.s) (hx4 : x.s ≤ x.u) (hlt : x.u - x.s < n) :
    Calls Try.prog 24 #[p.v, .int .i64 k, .int .i64 n, .int .i64 t, .string tx] w fun e w' => e = .returned (.tuple #[p.v, .int .i64 21]) ∧ Below w.heap.size w w' := by
  obtain ⟨id, cut, H, N, S⟩ := p
  have HR := Lib.hid hr
  clear hr
  simp only [Phone.v]
  go_enter Try.func24, Try.ntmps24
  go_wp2_with fail
  refine (phone_right ⟨id, cut, H, N, S⟩ _ (HR.out.later qbl (Nat.le_refl _))).mono ?_
  rintro e w1 ⟨rfl, hb1⟩
  rw [HF.out]
  have K_a : Blk _ (w.heap.size) 33 #[.int .i64 id, .bool cut, .slice H.A H.l.length H.c, .slice N.A N.l.length N.c, .slice S.A S.l.length S.c] := qkb hb1
  obtain ⟨a0, a1, a2, a3, a4, af, az⟩ := Blk.b5 K_a
  have B_a := Lib.hid K_a
  clear K_a
  have K_b : Blk _ (w.heap.size + 1) 33 #[.int .i64 0, .bool false, .slice none 0 0, .slice none 0 0, .slice none 0 0] := qkb hb1
  obtain ⟨b0, b1, b2, b3, b4, bf, bz⟩ := Blk.b5 K_b
  have B_b := Lib.hid K_b
  clear K_b
  have hB1 : Below w.heap.size w w1 := qbv
  clear hb1
  go_wp2_with (go_at_call 59; refine (pto_any _ _ _ _).mono ?_; rintro e w' ⟨rfl, rfl⟩)
  refine (phone_find ⟨id, cut, H, N, S⟩ k _ (HR.out.later hB1 (Nat.le_refl _)) (PhoneD.right_iff HF.out).H).mono ?_
  rintro e w2 ⟨rfl, hb2⟩
  rw [HH.out]
  clear a0 a1 a2 a3 a4 af b0 b1 b2 b3 b4 bf
  have K_a : Blk _ (w.heap.size) 33 #[.int .i64 id, .bool cut, .slice H.A H.l.length H.c, .slice N.A N.l.length N.c, .slice S.A S.l.length S.c] := qkc B_a hb2
  obtain ⟨a0, a1, a2, a3, a4, af, az⟩ := Blk.b5 K_a
  have B_a := Lib.hid K_a
  clear K_a
  have K_b : Blk _ (w.heap.size + 1) 33 #[.int .i64 0, .bool false, .slice none 0 0, .slice none 0 0, .slice none 0 0] := qkc B_b hb2
  obtain ⟨b0, b1, b2, b3, b4, bf, bz⟩ := Blk.b5 K_b
  have B_b := Lib.hid K_b
  clear K_b
  have hB2 : Below w.heap.size w w2 := qbv
  clear hb2
  obtain ⟨b2', o2', hA2, hF2, hcl2⟩ := HR.out.1.2.2.2 _ x HX.out
  have hxi : i < H.l.length := (List.getElem?_eq_some_iff.1 HX.out).1
  simp only at hA2
  have hcl2 := hcl2.keep (hB2.block b2' hF2)
  obtain ⟨h0, h1', h2'⟩ := Cells.c3 hcl2
  clear hcl2
  try simp only at a2
  rw [hA2] at a2
  have HA2 := Lib.hid hA2
  clear hA2
  rw [HI.out]
  go_wp2_with fail
  go_quiet (fail)
  go_wp2_with fail
  try simp only [Exit.inBlock, Exit.then]
  refine bodyPost_ret (v := .tuple #[.agg #[.int .i64 id, .bool cut, .slice H.A H.l.length H.c, .slice N.A N.l.length N.c, .slice S.A S.l.length S.c], .int .i64 21]) ?_ rfl ⟨rfl, qbh⟩
  simp [results, Try.results24, go_sem, a0, a1, a2, a3, a4, af, b0, b1, b2, b3, b4, bf, HA2.out]
set_option maxHeartbeats 800000 in
theorem phone_promise_late (p : Phone) (k n t : Int) (tx : ByteArray) (i : Nat) (x : Hold) (w : World) (hr : RdPhone (· < w.heap.size) w p) (HF : Hid (p.d.right = true)) (h1 : rngB n 1 1000000000000000 = true) (h2 : rngB t 0 1048576 = true) (h3 : tx.size ≤ 20000)
    (HH : Hid (hhas p.H.l k = true)) (HI : Hid (hidx p.H.l k = i)) (HX : Hid (p.H.l[i]? = some x)) (hx1 : 0 ≤ x.u) (hx2 : x.u ≤ 1000000000000000) (hx3 : 0 ≤ x.s) (hx4 : x.s ≤ x.u) (hge : n ≤ x.u - x.s)
    (m : Nat) (y : Note) (HLEN : Hid (p.N.l.length = m + 1)) (HY : Hid (p.N.l[m]? = some y)) (hlate : t < y.tm) :
    Calls Try.prog 24 #[p.v, .int .i64 k, .int .i64 n, .int .i64 t, .string tx] w fun e w' => e = .returned (.tuple #[p.v, .int .i64 19]) ∧ Below w.heap.size w w' := by
  obtain ⟨id, cut, H, N, S⟩ := p
  have HR := Lib.hid hr
  clear hr
  simp only [Phone.v]
  go_enter Try.func24, Try.ntmps24
  go_wp2_with fail
  refine (phone_right ⟨id, cut, H, N, S⟩ _ (HR.out.later qbl (Nat.le_refl _))).mono ?_
  rintro e w1 ⟨rfl, hb1⟩
  rw [HF.out]
  have K_a : Blk _ (w.heap.size) 33 #[.int .i64 id, .bool cut, .slice H.A H.l.length H.c, .slice N.A N.l.length N.c, .slice S.A S.l.length S.c] := qkb hb1
  obtain ⟨a0, a1, a2, a3, a4, af, az⟩ := Blk.b5 K_a
  have B_a := Lib.hid K_a
  clear K_a
  have K_b : Blk _ (w.heap.size + 1) 33 #[.int .i64 0, .bool false, .slice none 0 0, .slice none 0 0, .slice none 0 0] := qkb hb1
  obtain ⟨b0, b1, b2, b3, b4, bf, bz⟩ := Blk.b5 K_b
  have B_b := Lib.hid K_b
  clear K_b
  have hB1 : Below w.heap.size w w1 := qbv
  clear hb1
  go_wp2_with (go_at_call 59; refine (pto_any _ _ _ _).mono ?_; rintro e w' ⟨rfl, rfl⟩)
  refine (phone_find ⟨id, cut, H, N, S⟩ k _ (HR.out.later hB1 (Nat.le_refl _)) (PhoneD.right_iff HF.out).H).mono ?_
  rintro e w2 ⟨rfl, hb2⟩
  rw [HH.out]
  clear a0 a1 a2 a3 a4 af b0 b1 b2 b3 b4 bf
  have K_a : Blk _ (w.heap.size) 33 #[.int .i64 id, .bool cut, .slice H.A H.l.length H.c, .slice N.A N.l.length N.c, .slice S.A S.l.length S.c] := qkc B_a hb2
  obtain ⟨a0, a1, a2, a3, a4, af, az⟩ := Blk.b5 K_a
  have B_a := Lib.hid K_a
  clear K_a
  have K_b : Blk _ (w.heap.size + 1) 33 #[.int .i64 0, .bool false, .slice none 0 0, .slice none 0 0, .slice none 0 0] := qkc B_b hb2
  obtain ⟨b0, b1, b2, b3, b4, bf, bz⟩ := Blk.b5 K_b
  have B_b := Lib.hid K_b
  clear K_b
  have hB2 : Below w.heap.size w w2 := qbv
  clear hb2
  have hlen' : (N.l.length : Int) - 1 = m := by have := HLEN.out; (try simp only at this); omega
  have hlen0 : 0 < N.l.length := by have := HLEN.out; (try simp only at this); omega
  have hlen1 : m < N.l.length := by have := HLEN.out; (try simp only at this); omega
  have hwm : wrap64 (m : Int) = m := by have := HR.out.2.1.1.len; (try simp only at this); unfold wrap64; omega
  obtain ⟨b3', o3', hA3, hF3, hcl3⟩ := HR.out.2.1.1.2.2.2 m y HY.out
  simp only at hA3
  have hcl3 := hcl3.keep (hB2.block b3' hF3)
  obtain ⟨j0, j1, j2, j3, j4⟩ := Cells.c5 hcl3
  clear hcl3 j0 j1 j2 j4
  try simp only at a3
  rw [hA3] at a3
  have HA3 := Lib.hid hA3
  clear hA3
  obtain ⟨b2', o2', hA2, hF2, hcl2⟩ := HR.out.1.2.2.2 _ x HX.out
  have hxi : i < H.l.length := (List.getElem?_eq_some_iff.1 HX.out).1
  simp only at hA2
  have hcl2 := hcl2.keep (hB2.block b2' hF2)
  obtain ⟨h0, h1', h2'⟩ := Cells.c3 hcl2
  clear hcl2
  try simp only at a2
  rw [hA2] at a2
  have HA2 := Lib.hid hA2
  clear hA2
  rw [HI.out]
  go_wp2_with fail
  go_quiet (fail)
  go_wp2_with fail
  try simp only [Exit.inBlock, Exit.then]
  refine bodyPost_ret (v := .tuple #[.agg #[.int .i64 id, .bool cut, .slice H.A H.l.length H.c, .slice N.A N.l.length N.c, .slice S.A S.l.length S.c], .int .i64 19]) ?_ rfl ⟨rfl, qbh⟩
  simp [results, Try.results24, go_sem, a0, a1, a2, a3, a4, af, b0, b1, b2, b3, b4, bf, HA2.out, HA3.out]
set_option maxHeartbeats 800000 in
theorem phone_promise_full (p : Phone) (k n t : Int) (tx : ByteArray) (i : Nat) (x : Hold) (w : World) (hr : RdPhone (· < w.heap.size) w p) (HF : Hid (p.d.right = true)) (h1 : rngB n 1 1000000000000000 = true) (h2 : rngB t 0 1048576 = true) (h3 : tx.size ≤ 20000)
    (HH : Hid (hhas p.H.l k = true)) (HI : Hid (hidx p.H.l k = i)) (HX : Hid (p.H.l[i]? = some x)) (hx1 : 0 ≤ x.u) (hx2 : x.u ≤ 1000000000000000) (hx3 : 0 ≤ x.s) (hx4 : x.s ≤ x.u) (hge : n ≤ x.u - x.s)
    (m : Nat) (y : Note) (HLEN : Hid (p.N.l.length = m + 1)) (HY : Hid (p.N.l[m]? = some y)) (hlate : y.tm ≤ t) (hfull : p.N.l.length = 10000) :
    Calls Try.prog 24 #[p.v, .int .i64 k, .int .i64 n, .int .i64 t, .string tx] w fun e w' => e = .returned (.tuple #[p.v, .int .i64 6]) ∧ Below w.heap.size w w' := by
  have hfull' : ((p.N.l.length : Int) == 10000) = true := by simp; omega
  have HFU := Lib.hid hfull
  clear hfull
  obtain ⟨id, cut, H, N, S⟩ := p
  have HR := Lib.hid hr
  clear hr
  simp only [Phone.v]
  go_enter Try.func24, Try.ntmps24
  go_wp2_with fail
  refine (phone_right ⟨id, cut, H, N, S⟩ _ (HR.out.later qbl (Nat.le_refl _))).mono ?_
  rintro e w1 ⟨rfl, hb1⟩
  rw [HF.out]
  have K_a : Blk _ (w.heap.size) 33 #[.int .i64 id, .bool cut, .slice H.A H.l.length H.c, .slice N.A N.l.length N.c, .slice S.A S.l.length S.c] := qkb hb1
  obtain ⟨a0, a1, a2, a3, a4, af, az⟩ := Blk.b5 K_a
  have B_a := Lib.hid K_a
  clear K_a
  have K_b : Blk _ (w.heap.size + 1) 33 #[.int .i64 0, .bool false, .slice none 0 0, .slice none 0 0, .slice none 0 0] := qkb hb1
  obtain ⟨b0, b1, b2, b3, b4, bf, bz⟩ := Blk.b5 K_b
  have B_b := Lib.hid K_b
  clear K_b
  have hB1 : Below w.heap.size w w1 := qbv
  clear hb1
  go_wp2_with (go_at_call 59; refine (pto_any _ _ _ _).mono ?_; rintro e w' ⟨rfl, rfl⟩)
  refine (phone_find ⟨id, cut, H, N, S⟩ k _ (HR.out.later hB1 (Nat.le_refl _)) (PhoneD.right_iff HF.out).H).mono ?_
  rintro e w2 ⟨rfl, hb2⟩
  rw [HH.out]
  clear a0 a1 a2 a3 a4 af b0 b1 b2 b3 b4 bf
  have K_a : Blk _ (w.heap.size) 33 #[.int .i64 id, .bool cut, .slice H.A H.l.length H.c, .slice N.A N.l.length N.c, .slice S.A S.l.length S.c] := qkc B_a hb2
  obtain ⟨a0, a1, a2, a3, a4, af, az⟩ := Blk.b5 K_a
  have B_a := Lib.hid K_a
  clear K_a
  have K_b : Blk _ (w.heap.size + 1) 33 #[.int .i64 0, .bool false, .slice none 0 0, .slice none 0 0, .slice none 0 0] := qkc B_b hb2
  obtain ⟨b0, b1, b2, b3, b4, bf, bz⟩ := Blk.b5 K_b
  have B_b := Lib.hid K_b
  clear K_b
  have hB2 : Below w.heap.size w w2 := qbv
  clear hb2
  try simp only at hfull'
  have hlen' : (N.l.length : Int) - 1 = m := by have := HLEN.out; (try simp only at this); omega
  have hlen0 : 0 < N.l.length := by have := HLEN.out; (try simp only at this); omega
  have hlen1 : m < N.l.length := by have := HLEN.out; (try simp only at this); omega
  have hwm : wrap64 (m : Int) = m := by have := HR.out.2.1.1.len; (try simp only at this); unfold wrap64; omega
  obtain ⟨b3', o3', hA3, hF3, hcl3⟩ := HR.out.2.1.1.2.2.2 m y HY.out
  simp only at hA3
  have hcl3 := hcl3.keep (hB2.block b3' hF3)
  obtain ⟨j0, j1, j2, j3, j4⟩ := Cells.c5 hcl3
  clear hcl3 j0 j1 j2 j4
  try simp only at a3
  rw [hA3] at a3
  have HA3 := Lib.hid hA3
  clear hA3
  obtain ⟨b2', o2', hA2, hF2, hcl2⟩ := HR.out.1.2.2.2 _ x HX.out
  have hxi : i < H.l.length := (List.getElem?_eq_some_iff.1 HX.out).1
  simp only at hA2
  have hcl2 := hcl2.keep (hB2.block b2' hF2)
  obtain ⟨h0, h1', h2'⟩ := Cells.c3 hcl2
  clear hcl2
  try simp only at a2
  rw [hA2] at a2
  have HA2 := Lib.hid hA2
  clear hA2
  rw [HI.out]
  go_wp2_with fail
  go_quiet (fail)
  go_wp2_with fail
  try simp only [Exit.inBlock, Exit.then]
  refine bodyPost_ret (v := .tuple #[.agg #[.int .i64 id, .bool cut, .slice H.A H.l.length H.c, .slice N.A N.l.length N.c, .slice S.A S.l.length S.c], .int .i64 6]) ?_ rfl ⟨rfl, qbh⟩
  simp [results, Try.results24, go_sem, a0, a1, a2, a3, a4, af, b0, b1, b2, b3, b4, bf, HA2.out, HA3.out]
end Go.Proofs.Ythnblhbdfpmolaa
