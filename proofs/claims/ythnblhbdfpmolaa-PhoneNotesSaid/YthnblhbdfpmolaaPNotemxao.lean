/- Walks of package phone: Lend, the ways back. -/
import Derived.Test.YthnblhbdfpmolaaPNotemxan
import Derived.Test.YthnblhbdfpmolaaPNotemxaj
namespace Go.Proofs.Ythnblhbdfpmolaa
open Go.RowKit
theorem fitGo_right (p : PhoneD) : ∀ (l : List StockD) (k c c' : Int), fitGo p k c l = some c' → ∀ s ∈ l, s.right = true
  | [], _, _, _, _ => by simp
  | s :: r, k, c, c', h => by
    intro x hx
    rcases hs : s.right
    · rw [fitGo_no hs] at h; cases h
    · rcases hi : fitIn p k c s.L with _ | c1
      · rw [fitGo_in hs hi] at h; cases h
      · rw [fitGo_go hs hi] at h
        rcases List.mem_cons.1 hx with rfl | hx
        · exact hs
        · exact fitGo_right p r _ _ _ h x hx
theorem PhoneD.fit_right {p : PhoneD} {l : List StockD} (h : p.fit l = true) : ∀ s ∈ l, s.right = true := by
  unfold PhoneD.fit at h
  split at h
  · rename_i c hc; exact fitGo_right p l _ _ _ hc
  · cases h
def addH (l : List Hold) (k n : Int) : List Hold :=
  if hhas l k then (match l[hidx l k]? with | some h => l.set (hidx l k) { h with u := h.u + n } | none => l) else l.take (hidx l k) ++ ⟨k, n, 0⟩ :: l.drop (hidx l k)
def okLend (p : PhoneD) (ss : List StockD) (k : Int) : Bool := p.right && (p.fit ss && rngB k 0 ((ss.length : Int) - 1))
def PhoneD.lend (p : PhoneD) (ss : List StockD) (k n : Int) : PhoneD × List StockD × Int :=
  if okLend p ss k then
    (if p.cut then (p, ss, 7) else if !hhas p.H k && decide (p.H.length = 100) then (p, ss, 6)
     else match ss[k.toNat]? with
       | none => (p, ss, 1)
       | some s => if (s.lend p.id n).2 = 0 then ({ p with H := addH p.H k n }, ss.set k.toNat (s.lend p.id n).1, 0) else (p, ss, (s.lend p.id n).2))
  else (p, ss, 1)
set_option maxHeartbeats 800000 in
theorem phone_lend_no (p : Phone) (ss : Sl Stock) (k n : Int) (w : World) (hr : RdPhone (· < w.heap.size) w p) (hs : RdStocks (· < w.heap.size) w ss) (hb : ss.l.length * 40 ≤ 140737488355328) (hf : okLend p.d (ss.l.map Stock.d) k = false) :
    Calls Try.prog 21 #[p.v, .slice ss.A ss.l.length ss.c, .int .i64 k, .int .i64 n] w fun e w' => e = .returned (.tuple #[p.v, .slice ss.A ss.l.length ss.c, .int .i64 1]) ∧ Below w.heap.size w w' := by
  obtain ⟨id, cut, H, N, S⟩ := p
  unfold okLend at hf
  rcases hF : (Phone.d ⟨id, cut, H, N, S⟩).right
  · have HF := Lib.hid hF
    clear hF hf
    have HR := Lib.hid hr
    have HS := Lib.hid hs
    clear hr hs
    simp only [Phone.v]
    go_enter Try.func21, Try.ntmps21
    go_wp2_with fail
    refine (phone_right ⟨id, cut, H, N, S⟩ _ (HR.out.later qbl (Nat.le_refl _))).mono ?_
    rintro e w1 ⟨rfl, hb1⟩
    rw [HF.out]
    have K_a : Blk _ (w.heap.size) 33 #[.int .i64 id, .bool cut, .slice H.A H.l.length H.c, .slice N.A N.l.length N.c, .slice S.A S.l.length S.c] := qkb hb1
    obtain ⟨a0, a1, a2, a3, a4, af, az⟩ := Blk.b5 K_a
    have B_a := Lib.hid K_a
    clear K_a
    have K_b : Blk _ (w.heap.size + 1) 33 #[.int .i64 0, .bool false, .slice none 0 0, .slice none 0 0, .slice none 0 0] := qkb hb1
    obtain ⟨b0, b1, b2, b3, b4, bf, bz⟩ := Blk.b5 K_b
    have B_b := Lib.hid K_b
    clear K_b
    have hB1 : Below w.heap.size w w1 := qbv
    clear hb1
    go_wp2_with fail
    try simp only [Exit.inBlock, Exit.then]
    refine bodyPost_ret (v := .tuple #[.agg #[.int .i64 id, .bool cut, .slice H.A H.l.length H.c, .slice N.A N.l.length N.c, .slice S.A S.l.length S.c], .slice ss.A ss.l.length ss.c, .int .i64 1]) ?_ rfl ⟨rfl, qbh⟩
    simp [results, Try.results21, go_sem, a0, a1, a2, a3, a4, af, b0, b1, b2, b3, b4, bf, bz]
  · rw [hF, Bool.true_and] at hf
    have HF := Lib.hid hF
    clear hF
    rcases hG : (Phone.d ⟨id, cut, H, N, S⟩).fit (ss.l.map Stock.d)
    · have HG := Lib.hid hG
      clear hG hf
      have HR := Lib.hid hr
      have HS := Lib.hid hs
      clear hr hs
      simp only [Phone.v]
      go_enter Try.func21, Try.ntmps21
      go_wp2_with fail
      refine (phone_right ⟨id, cut, H, N, S⟩ _ (HR.out.later qbl (Nat.le_refl _))).mono ?_
      rintro e w1 ⟨rfl, hb1⟩
      rw [HF.out]
      have K_a : Blk _ (w.heap.size) 33 #[.int .i64 id, .bool cut, .slice H.A H.l.length H.c, .slice N.A N.l.length N.c, .slice S.A S.l.length S.c] := qkb hb1
      obtain ⟨a0, a1, a2, a3, a4, af, az⟩ := Blk.b5 K_a
      have B_a := Lib.hid K_a
      clear K_a
      have K_b : Blk _ (w.heap.size + 1) 33 #[.int .i64 0, .bool false, .slice none 0 0, .slice none 0 0, .slice none 0 0] := qkb hb1
      obtain ⟨b0, b1, b2, b3, b4, bf, bz⟩ := Blk.b5 K_b
      have B_b := Lib.hid K_b
      clear K_b
      have hB1 : Below w.heap.size w w1 := qbv
      clear hb1
      go_wp2_with fail
      refine (phone_fit ⟨id, cut, H, N, S⟩ ss _ (HR.out.later hB1 (Nat.le_refl _)) (HS.out.later hB1 (Nat.le_refl _)) (PhoneD.right_iff HF.out).H hb).mono ?_
      rintro e w2 ⟨rfl, hb2⟩
      rw [HG.out]
      clear a0 a1 a2 a3 a4 af b0 b1 b2 b3 b4 bf
      have K_a : Blk _ (w.heap.size) 33 #[.int .i64 id, .bool cut, .slice H.A H.l.length H.c, .slice N.A N.l.length N.c, .slice S.A S.l.length S.c] := qkc B_a hb2
      obtain ⟨a0, a1, a2, a3, a4, af, az⟩ := Blk.b5 K_a
      have B_a := Lib.hid K_a
      clear K_a
      have K_b : Blk _ (w.heap.size + 1) 33 #[.int .i64 0, .bool false, .slice none 0 0, .slice none 0 0, .slice none 0 0] := qkc B_b hb2
      obtain ⟨b0, b1, b2, b3, b4, bf, bz⟩ := Blk.b5 K_b
      have B_b := Lib.hid K_b
      clear K_b
      have hB2 : Below w.heap.size w w2 := qbv
      clear hb2
      have hsl := HS.out.1.len
      go_wp2_with (go_at_call 59; refine (pto_any _ _ _ _).mono ?_; rintro e w' ⟨rfl, rfl⟩)
      try simp only [Exit.inBlock, Exit.then]
      refine bodyPost_ret (v := .tuple #[.agg #[.int .i64 id, .bool cut, .slice H.A H.l.length H.c, .slice N.A N.l.length N.c, .slice S.A S.l.length S.c], .slice ss.A ss.l.length ss.c, .int .i64 1]) ?_ rfl ⟨rfl, qbh⟩
      simp [results, Try.results21, go_sem, a0, a1, a2, a3, a4, af, b0, b1, b2, b3, b4, bf, bz]
    · have hk : rngB k 0 ((ss.l.length : Int) - 1) = false := by rw [hG, Bool.true_and, List.length_map] at hf; exact hf
      have HG := Lib.hid hG
      clear hG hf
      have HR := Lib.hid hr
      have HS := Lib.hid hs
      clear hr hs
      simp only [Phone.v]
      go_enter Try.func21, Try.ntmps21
      go_wp2_with fail
      refine (phone_right ⟨id, cut, H, N, S⟩ _ (HR.out.later qbl (Nat.le_refl _))).mono ?_
      rintro e w1 ⟨rfl, hb1⟩
      rw [HF.out]
      have K_a : Blk _ (w.heap.size) 33 #[.int .i64 id, .bool cut, .slice H.A H.l.length H.c, .slice N.A N.l.length N.c, .slice S.A S.l.length S.c] := qkb hb1
      obtain ⟨a0, a1, a2, a3, a4, af, az⟩ := Blk.b5 K_a
      have B_a := Lib.hid K_a
      clear K_a
      have K_b : Blk _ (w.heap.size + 1) 33 #[.int .i64 0, .bool false, .slice none 0 0, .slice none 0 0, .slice none 0 0] := qkb hb1
      obtain ⟨b0, b1, b2, b3, b4, bf, bz⟩ := Blk.b5 K_b
      have B_b := Lib.hid K_b
      clear K_b
      have hB1 : Below w.heap.size w w1 := qbv
      clear hb1
      go_wp2_with fail
      refine (phone_fit ⟨id, cut, H, N, S⟩ ss _ (HR.out.later hB1 (Nat.le_refl _)) (HS.out.later hB1 (Nat.le_refl _)) (PhoneD.right_iff HF.out).H hb).mono ?_
      rintro e w2 ⟨rfl, hb2⟩
      rw [HG.out]
      clear a0 a1 a2 a3 a4 af b0 b1 b2 b3 b4 bf
      have K_a : Blk _ (w.heap.size) 33 #[.int .i64 id, .bool cut, .slice H.A H.l.length H.c, .slice N.A N.l.length N.c, .slice S.A S.l.length S.c] := qkc B_a hb2
      obtain ⟨a0, a1, a2, a3, a4, af, az⟩ := Blk.b5 K_a
      have B_a := Lib.hid K_a
      clear K_a
      have K_b : Blk _ (w.heap.size + 1) 33 #[.int .i64 0, .bool false, .slice none 0 0, .slice none 0 0, .slice none 0 0] := qkc B_b hb2
      obtain ⟨b0, b1, b2, b3, b4, bf, bz⟩ := Blk.b5 K_b
      have B_b := Lib.hid K_b
      clear K_b
      have hB2 : Below w.heap.size w w2 := qbv
      clear hb2
      have hsl := HS.out.1.len
      go_wp2_with (go_at_call 59; refine (pto_any _ _ _ _).mono ?_; rintro e w' ⟨rfl, rfl⟩)
      try simp only [Exit.inBlock, Exit.then]
      refine bodyPost_ret (v := .tuple #[.agg #[.int .i64 id, .bool cut, .slice H.A H.l.length H.c, .slice N.A N.l.length N.c, .slice S.A S.l.length S.c], .slice ss.A ss.l.length ss.c, .int .i64 1]) ?_ rfl ⟨rfl, qbh⟩
      simp [results, Try.results21, go_sem, a0, a1, a2, a3, a4, af, b0, b1, b2, b3, b4, bf, bz]
set_option maxHeartbeats 800000 in
theorem phone_lend_cut (p : Phone) (ss : Sl Stock) (k n : Int) (w : World) (hr : RdPhone (· < w.heap.size) w p) (hs : RdStocks (· < w.heap.size) w ss) (hb : ss.l.length * 40 ≤ 140737488355328) (HF : Hid (p.d.right = true)) (HG : Hid (p.d.fit (ss.l.map Stock.d) = true)) (hk : rngB k 0 ((ss.l.length : Int) - 1) = true) (hc : p.cut = true) :
    Calls Try.prog 21 #[p.v, .slice ss.A ss.l.length ss.c, .int .i64 k, .int .i64 n] w fun e w' => e = .returned (.tuple #[p.v, .slice ss.A ss.l.length ss.c, .int .i64 7]) ∧ Below w.heap.size w w' := by
  obtain ⟨id, cut, H, N, S⟩ := p
  simp only at hc
  subst hc
  have HR := Lib.hid hr
  have HS := Lib.hid hs
  clear hr hs
  simp only [Phone.v]
  go_enter Try.func21, Try.ntmps21
  go_wp2_with fail
  refine (phone_right ⟨id, true, H, N, S⟩ _ (HR.out.later qbl (Nat.le_refl _))).mono ?_
  rintro e w1 ⟨rfl, hb1⟩
  rw [HF.out]
  have K_a : Blk _ (w.heap.size) 33 #[.int .i64 id, .bool true, .slice H.A H.l.length H.c, .slice N.A N.l.length N.c, .slice S.A S.l.length S.c] := qkb hb1
  obtain ⟨a0, a1, a2, a3, a4, af, az⟩ := Blk.b5 K_a
  have B_a := Lib.hid K_a
  clear K_a
  have K_b : Blk _ (w.heap.size + 1) 33 #[.int .i64 0, .bool false, .slice none 0 0, .slice none 0 0, .slice none 0 0] := qkb hb1
  obtain ⟨b0, b1, b2, b3, b4, bf, bz⟩ := Blk.b5 K_b
  have B_b := Lib.hid K_b
  clear K_b
  have hB1 : Below w.heap.size w w1 := qbv
  clear hb1
  go_wp2_with fail
  refine (phone_fit ⟨id, true, H, N, S⟩ ss _ (HR.out.later hB1 (Nat.le_refl _)) (HS.out.later hB1 (Nat.le_refl _)) (PhoneD.right_iff HF.out).H hb).mono ?_
  rintro e w2 ⟨rfl, hb2⟩
  rw [HG.out]
  clear a0 a1 a2 a3 a4 af b0 b1 b2 b3 b4 bf
  have K_a : Blk _ (w.heap.size) 33 #[.int .i64 id, .bool true, .slice H.A H.l.length H.c, .slice N.A N.l.length N.c, .slice S.A S.l.length S.c] := qkc B_a hb2
  obtain ⟨a0, a1, a2, a3, a4, af, az⟩ := Blk.b5 K_a
  have B_a := Lib.hid K_a
  clear K_a
  have K_b : Blk _ (w.heap.size + 1) 33 #[.int .i64 0, .bool false, .slice none 0 0, .slice none 0 0, .slice none 0 0] := qkc B_b hb2
  obtain ⟨b0, b1, b2, b3, b4, bf, bz⟩ := Blk.b5 K_b
  have B_b := Lib.hid K_b
  clear K_b
  have hB2 : Below w.heap.size w w2 := qbv
  clear hb2
  have hsl := HS.out.1.len
  go_wp2_with (go_at_call 59; refine (pto_any _ _ _ _).mono ?_; rintro e w' ⟨rfl, rfl⟩)
  try simp only [Exit.inBlock, Exit.then]
  refine bodyPost_ret (v := .tuple #[.agg #[.int .i64 id, .bool true, .slice H.A H.l.length H.c, .slice N.A N.l.length N.c, .slice S.A S.l.length S.c], .slice ss.A ss.l.length ss.c, .int .i64 7]) ?_ rfl ⟨rfl, qbh⟩
  simp [results, Try.results21, go_sem, a0, a1, a2, a3, a4, af, b0, b1, b2, b3, b4, bf, bz]
set_option maxHeartbeats 800000 in
theorem phone_lend_full (p : Phone) (ss : Sl Stock) (k n : Int) (w : World) (hr : RdPhone (· < w.heap.size) w p) (hs : RdStocks (· < w.heap.size) w ss) (hb : ss.l.length * 40 ≤ 140737488355328) (HF : Hid (p.d.right = true)) (HG : Hid (p.d.fit (ss.l.map Stock.d) = true)) (hk : rngB k 0 ((ss.l.length : Int) - 1) = true) (hc : p.cut = false)
    (HH : Hid (hhas p.H.l k = false)) (HL : Hid (p.H.l.length = 100)) :
    Calls Try.prog 21 #[p.v, .slice ss.A ss.l.length ss.c, .int .i64 k, .int .i64 n] w fun e w' => e = .returned (.tuple #[p.v, .slice ss.A ss.l.length ss.c, .int .i64 6]) ∧ Below w.heap.size w w' := by
  obtain ⟨id, cut, H, N, S⟩ := p
  simp only at hc
  subst hc
  have hfull : ((H.l.length : Int) == 100) = true := by have := HL.out; simp only at this; rw [this]; rfl
  have HR := Lib.hid hr
  have HS := Lib.hid hs
  clear hr hs
  simp only [Phone.v]
  go_enter Try.func21, Try.ntmps21
  go_wp2_with fail
  refine (phone_right ⟨id, false, H, N, S⟩ _ (HR.out.later qbl (Nat.le_refl _))).mono ?_
  rintro e w1 ⟨rfl, hb1⟩
  rw [HF.out]
  have K_a : Blk _ (w.heap.size) 33 #[.int .i64 id, .bool false, .slice H.A H.l.length H.c, .slice N.A N.l.length N.c, .slice S.A S.l.length S.c] := qkb hb1
  obtain ⟨a0, a1, a2, a3, a4, af, az⟩ := Blk.b5 K_a
  have B_a := Lib.hid K_a
  clear K_a
  have K_b : Blk _ (w.heap.size + 1) 33 #[.int .i64 0, .bool false, .slice none 0 0, .slice none 0 0, .slice none 0 0] := qkb hb1
  obtain ⟨b0, b1, b2, b3, b4, bf, bz⟩ := Blk.b5 K_b
  have B_b := Lib.hid K_b
  clear K_b
  have hB1 : Below w.heap.size w w1 := qbv
  clear hb1
  go_wp2_with fail
  refine (phone_fit ⟨id, false, H, N, S⟩ ss _ (HR.out.later hB1 (Nat.le_refl _)) (HS.out.later hB1 (Nat.le_refl _)) (PhoneD.right_iff HF.out).H hb).mono ?_
  rintro e w2 ⟨rfl, hb2⟩
  rw [HG.out]
  clear a0 a1 a2 a3 a4 af b0 b1 b2 b3 b4 bf
  have K_a : Blk _ (w.heap.size) 33 #[.int .i64 id, .bool false, .slice H.A H.l.length H.c, .slice N.A N.l.length N.c, .slice S.A S.l.length S.c] := qkc B_a hb2
  obtain ⟨a0, a1, a2, a3, a4, af, az⟩ := Blk.b5 K_a
  have B_a := Lib.hid K_a
  clear K_a
  have K_b : Blk _ (w.heap.size + 1) 33 #[.int .i64 0, .bool false, .slice none 0 0, .slice none 0 0, .slice none 0 0] := qkc B_b hb2
  obtain ⟨b0, b1, b2, b3, b4, bf, bz⟩ := Blk.b5 K_b
  have B_b := Lib.hid K_b
  clear K_b
  have hB2 : Below w.heap.size w w2 := qbv
  clear hb2
  have hsl := HS.out.1.len
  go_wp2_with (go_at_call 59; refine (pto_any _ _ _ _).mono ?_; rintro e w' ⟨rfl, rfl⟩)
  refine (phone_find ⟨id, false, H, N, S⟩ k _ (HR.out.later hB2 (Nat.le_refl _)) (PhoneD.right_iff HF.out).H).mono ?_
  rintro e w3 ⟨rfl, hb3⟩
  rw [HH.out]
  clear a0 a1 a2 a3 a4 af b0 b1 b2 b3 b4 bf
  have K_a : Blk _ (w.heap.size) 33 #[.int .i64 id, .bool false, .slice H.A H.l.length H.c, .slice N.A N.l.length N.c, .slice S.A S.l.length S.c] := qkc B_a hb3
  obtain ⟨a0, a1, a2, a3, a4, af, az⟩ := Blk.b5 K_a
  have B_a := Lib.hid K_a
  clear K_a
  have K_b : Blk _ (w.heap.size + 1) 33 #[.int .i64 0, .bool false, .slice none 0 0, .slice none 0 0, .slice none 0 0] := qkc B_b hb3
  obtain ⟨b0, b1, b2, b3, b4, bf, bz⟩ := Blk.b5 K_b
  have B_b := Lib.hid K_b
  clear K_b
  have hB3 : Below w.heap.size w w3 := qbv
  clear hb3
  go_wp2_with fail
  try simp only [Exit.inBlock, Exit.then]
  refine bodyPost_ret (v := .tuple #[.agg #[.int .i64 id, .bool false, .slice H.A H.l.length H.c, .slice N.A N.l.length N.c, .slice S.A S.l.length S.c], .slice ss.A ss.l.length ss.c, .int .i64 6]) ?_ rfl ⟨rfl, qbh⟩
  simp [results, Try.results21, go_sem, a0, a1, a2, a3, a4, af, b0, b1, b2, b3, b4, bf, bz]
end Go.Proofs.Ythnblhbdfpmolaa
/- A drawn region with two ways next. -/
namespace Go.Proofs.Ythnblhbdfpmolaa
open Go.RowKit
section
variable {P : Program} {ops : Array Oper} {Q : Exit → Act → World → Prop} {md : Region.Mode} {S : World → Prop} {T : Nat → Bool}
theorem wpAnyT_two {i j : Nat} {o o' : Oper} {fuel : Nat} {listed : Array Bool} {a : Act} {w : World} (hr : Region.ready md ops listed = [i, j]) (ho : ops[i]? = some o) (ho' : ops[j]? = some o')
    (h : wpList P ops (QT Q fun a' w' => (T i = false → S w') ∧ wpAnyT P md ops Q S T fuel (listed.setIfInBounds i true) a' w') [o] a w)
    (h' : wpList P ops (QT Q fun a' w' => (T j = false → S w') ∧ wpAnyT P md ops Q S T fuel (listed.setIfInBounds j true) a' w') [o'] a w) : wpAnyT P md ops Q S T (fuel + 1) listed a w := by
  refine ⟨fun h0 => ?_, fun k hk => ?_⟩
  · rw [hr] at h0; cases h0
  · rw [hr] at hk
    rcases List.mem_cons.1 hk with rfl | hk
    · exact wpOp_of_list ho h
    · rcases List.mem_singleton.1 hk with rfl
      exact wpOp_of_list ho' h'
end
end Go.Proofs.Ythnblhbdfpmolaa
