/- Walks of package phone: Join, the ways back. -/
import Derived.Test.YthnblhbdfpmolaaTellsmxbi
namespace Go.Proofs.Ythnblhbdfpmolaa
open Go.RowKit
def joinS (id : Int) (h : Hold) (s : StockD) : StockD := ((if 0 < h.s then (s.use id h.s).1 else s).give id).1
def joinGo (id : Int) : List Hold → List StockD → List StockD
  | [], ss => ss
  | h :: r, ss => joinGo id r (match ss[h.st.toNat]? with | some s => ss.set h.st.toNat (joinS id h s) | none => ss)
def seenJ (id : Int) : Nat → List Int → List Int → List Int
  | _, S, [] => S
  | k, S, n :: r => seenJ id (k + 1) (if (k : Int) = id then S else S.set k (max (S.getD k 0) n)) r
def okJoin (p : PhoneD) (ss : List StockD) (now : List Int) : Bool := p.right && (p.fit ss && seenR now)
def PhoneD.join (p : PhoneD) (ss : List StockD) (now : List Int) : PhoneD × List StockD × List NoteD × Int :=
  if okJoin p ss now then
    (if p.cut then ({ p with cut := false, H := [], S := seenJ p.id 0 p.S now }, joinGo p.id p.H ss, p.N, 0) else (p, ss, [], 7))
  else (p, ss, [], 1)
set_option maxHeartbeats 800000 in
theorem phone_join_no (p : Phone) (ss : Sl Stock) (now : Sl Int) (w : World) (hr : RdPhone (· < w.heap.size) w p) (hs : RdStocks (· < w.heap.size) w ss) (hw : Rd (· < w.heap.size) 1 ienc w now) (hb : ss.l.length * 40 ≤ 140737488355328) (hf : okJoin p.d (ss.l.map Stock.d) now.l = false) :
    Calls Try.prog 28 #[p.v, .slice ss.A ss.l.length ss.c, .slice now.A now.l.length now.c] w fun e w' => e = .returned (.tuple #[p.v, .slice ss.A ss.l.length ss.c, .slice none 0 0, .int .i64 1]) ∧ Below w.heap.size w w' := by
  obtain ⟨id, cut, H, N, S⟩ := p
  unfold okJoin at hf
  rcases hF : (Phone.d ⟨id, cut, H, N, S⟩).right
  · have HF := Lib.hid hF
    clear hF hf
    have HR := Lib.hid hr
    have HS := Lib.hid hs
    have HW := Lib.hid hw
    clear hr hs hw
    simp only [Phone.v]
    go_enter Try.func28, Try.ntmps28
    go_wp2_with fail
    refine (phone_right ⟨id, cut, H, N, S⟩ _ (HR.out.later qbl (Nat.le_refl _))).mono ?_
    rintro e w1 ⟨rfl, hb1⟩
    rw [HF.out]
    have K_a : Blk _ (w.heap.size) 33 #[.int .i64 id, .bool cut, .slice H.A H.l.length H.c, .slice N.A N.l.length N.c, .slice S.A S.l.length S.c] := qkb hb1
    obtain ⟨a0, a1, a2, a3, a4, af, az⟩ := Blk.b5 K_a
    have B_a := Lib.hid K_a
    clear K_a
    have K_b : Blk _ (w.heap.size + 1) 33 #[.int .i64 0, .bool false, .slice none 0 0, .slice none 0 0, .slice none 0 0] := qkb hb1
    obtain ⟨b0, b1, b2, b3, b4, bf, bz⟩ := Blk.b5 K_b
    have B_b := Lib.hid K_b
    clear K_b
    have hB1 : Below w.heap.size w w1 := qbv
    clear hb1
    go_wp2_with fail
    try simp only [Exit.inBlock, Exit.then]
    refine bodyPost_ret (v := .tuple #[.agg #[.int .i64 id, .bool cut, .slice H.A H.l.length H.c, .slice N.A N.l.length N.c, .slice S.A S.l.length S.c], .slice ss.A ss.l.length ss.c, .slice none 0 0, .int .i64 1]) ?_ rfl ⟨rfl, qbh⟩
    simp [results, Try.results28, go_sem, a0, a1, a2, a3, a4, af, b0, b1, b2, b3, b4, bf, bz]
  · rw [hF, Bool.true_and] at hf
    have HF := Lib.hid hF
    clear hF
    rcases hG : (Phone.d ⟨id, cut, H, N, S⟩).fit (ss.l.map Stock.d)
    · have HG := Lib.hid hG
      clear hG hf
      have HR := Lib.hid hr
      have HS := Lib.hid hs
      have HW := Lib.hid hw
      clear hr hs hw
      simp only [Phone.v]
      go_enter Try.func28, Try.ntmps28
      go_wp2_with fail
      refine (phone_right ⟨id, cut, H, N, S⟩ _ (HR.out.later qbl (Nat.le_refl _))).mono ?_
      rintro e w1 ⟨rfl, hb1⟩
      rw [HF.out]
      have K_a : Blk _ (w.heap.size) 33 #[.int .i64 id, .bool cut, .slice H.A H.l.length H.c, .slice N.A N.l.length N.c, .slice S.A S.l.length S.c] := qkb hb1
      obtain ⟨a0, a1, a2, a3, a4, af, az⟩ := Blk.b5 K_a
      have B_a := Lib.hid K_a
      clear K_a
      have K_b : Blk _ (w.heap.size + 1) 33 #[.int .i64 0, .bool false, .slice none 0 0, .slice none 0 0, .slice none 0 0] := qkb hb1
      obtain ⟨b0, b1, b2, b3, b4, bf, bz⟩ := Blk.b5 K_b
      have B_b := Lib.hid K_b
      clear K_b
      have hB1 : Below w.heap.size w w1 := qbv
      clear hb1
      go_wp2_with fail
      refine (phone_fit ⟨id, cut, H, N, S⟩ ss _ (HR.out.later hB1 (Nat.le_refl _)) (HS.out.later hB1 (Nat.le_refl _)) (PhoneD.right_iff HF.out).H hb).mono ?_
      rintro e w2 ⟨rfl, hb2⟩
      rw [HG.out]
      clear a0 a1 a2 a3 a4 af b0 b1 b2 b3 b4 bf
      have K_a : Blk _ (w.heap.size) 33 #[.int .i64 id, .bool cut, .slice H.A H.l.length H.c, .slice N.A N.l.length N.c, .slice S.A S.l.length S.c] := qkc B_a hb2
      obtain ⟨a0, a1, a2, a3, a4, af, az⟩ := Blk.b5 K_a
      have B_a := Lib.hid K_a
      clear K_a
      have K_b : Blk _ (w.heap.size + 1) 33 #[.int .i64 0, .bool false, .slice none 0 0, .slice none 0 0, .slice none 0 0] := qkc B_b hb2
      obtain ⟨b0, b1, b2, b3, b4, bf, bz⟩ := Blk.b5 K_b
      have B_b := Lib.hid K_b
      clear K_b
      have hB2 : Below w.heap.size w w2 := qbv
      clear hb2
      go_wp2_with fail
      try simp only [Exit.inBlock, Exit.then]
      refine bodyPost_ret (v := .tuple #[.agg #[.int .i64 id, .bool cut, .slice H.A H.l.length H.c, .slice N.A N.l.length N.c, .slice S.A S.l.length S.c], .slice ss.A ss.l.length ss.c, .slice none 0 0, .int .i64 1]) ?_ rfl ⟨rfl, qbh⟩
      simp [results, Try.results28, go_sem, a0, a1, a2, a3, a4, af, b0, b1, b2, b3, b4, bf, bz]
    · rw [hG, Bool.true_and] at hf
      have HG := Lib.hid hG
      have HK := Lib.hid hf
      clear hG hf
      have HR := Lib.hid hr
      have HS := Lib.hid hs
      have HW := Lib.hid hw
      clear hr hs hw
      simp only [Phone.v]
      go_enter Try.func28, Try.ntmps28
      go_wp2_with fail
      refine (phone_right ⟨id, cut, H, N, S⟩ _ (HR.out.later qbl (Nat.le_refl _))).mono ?_
      rintro e w1 ⟨rfl, hb1⟩
      rw [HF.out]
      have K_a : Blk _ (w.heap.size) 33 #[.int .i64 id, .bool cut, .slice H.A H.l.length H.c, .slice N.A N.l.length N.c, .slice S.A S.l.length S.c] := qkb hb1
      obtain ⟨a0, a1, a2, a3, a4, af, az⟩ := Blk.b5 K_a
      have B_a := Lib.hid K_a
      clear K_a
      have K_b : Blk _ (w.heap.size + 1) 33 #[.int .i64 0, .bool false, .slice none 0 0, .slice none 0 0, .slice none 0 0] := qkb hb1
      obtain ⟨b0, b1, b2, b3, b4, bf, bz⟩ := Blk.b5 K_b
      have B_b := Lib.hid K_b
      clear K_b
      have hB1 : Below w.heap.size w w1 := qbv
      clear hb1
      go_wp2_with fail
      refine (phone_fit ⟨id, cut, H, N, S⟩ ss _ (HR.out.later hB1 (Nat.le_refl _)) (HS.out.later hB1 (Nat.le_refl _)) (PhoneD.right_iff HF.out).H hb).mono ?_
      rintro e w2 ⟨rfl, hb2⟩
      rw [HG.out]
      clear a0 a1 a2 a3 a4 af b0 b1 b2 b3 b4 bf
      have K_a : Blk _ (w.heap.size) 33 #[.int .i64 id, .bool cut, .slice H.A H.l.length H.c, .slice N.A N.l.length N.c, .slice S.A S.l.length S.c] := qkc B_a hb2
      obtain ⟨a0, a1, a2, a3, a4, af, az⟩ := Blk.b5 K_a
      have B_a := Lib.hid K_a
      clear K_a
      have K_b : Blk _ (w.heap.size + 1) 33 #[.int .i64 0, .bool false, .slice none 0 0, .slice none 0 0, .slice none 0 0] := qkc B_b hb2
      obtain ⟨b0, b1, b2, b3, b4, bf, bz⟩ := Blk.b5 K_b
      have B_b := Lib.hid K_b
      clear K_b
      have hB2 : Below w.heap.size w w2 := qbv
      clear hb2
      go_wp2_with fail
      refine (phone_seen now _ (HW.out.below' hB2 (Nat.le_refl _))).mono ?_
      rintro e w3 ⟨rfl, hb3⟩
      rw [HK.out]
      clear a0 a1 a2 a3 a4 af b0 b1 b2 b3 b4 bf
      have K_a : Blk _ (w.heap.size) 33 #[.int .i64 id, .bool cut, .slice H.A H.l.length H.c, .slice N.A N.l.length N.c, .slice S.A S.l.length S.c] := qkc B_a hb3
      obtain ⟨a0, a1, a2, a3, a4, af, az⟩ := Blk.b5 K_a
      have B_a := Lib.hid K_a
      clear K_a
      have K_b : Blk _ (w.heap.size + 1) 33 #[.int .i64 0, .bool false, .slice none 0 0, .slice none 0 0, .slice none 0 0] := qkc B_b hb3
      obtain ⟨b0, b1, b2, b3, b4, bf, bz⟩ := Blk.b5 K_b
      have B_b := Lib.hid K_b
      clear K_b
      have hB3 : Below w.heap.size w w3 := qbv
      clear hb3
      go_wp2_with fail
      try simp only [Exit.inBlock, Exit.then]
      refine bodyPost_ret (v := .tuple #[.agg #[.int .i64 id, .bool cut, .slice H.A H.l.length H.c, .slice N.A N.l.length N.c, .slice S.A S.l.length S.c], .slice ss.A ss.l.length ss.c, .slice none 0 0, .int .i64 1]) ?_ rfl ⟨rfl, qbh⟩
      simp [results, Try.results28, go_sem, a0, a1, a2, a3, a4, af, b0, b1, b2, b3, b4, bf, bz]
set_option maxHeartbeats 800000 in
theorem phone_join_on (p : Phone) (ss : Sl Stock) (now : Sl Int) (w : World) (hr : RdPhone (· < w.heap.size) w p) (hs : RdStocks (· < w.heap.size) w ss) (hw : Rd (· < w.heap.size) 1 ienc w now) (hb : ss.l.length * 40 ≤ 140737488355328) (HF : Hid (p.d.right = true)) (HG : Hid (p.d.fit (ss.l.map Stock.d) = true)) (HK : Hid (seenR now.l = true)) (hc : p.cut = false) :
    Calls Try.prog 28 #[p.v, .slice ss.A ss.l.length ss.c, .slice now.A now.l.length now.c] w fun e w' => e = .returned (.tuple #[p.v, .slice ss.A ss.l.length ss.c, .slice none 0 0, .int .i64 7]) ∧ Below w.heap.size w w' := by
  obtain ⟨id, cut, H, N, S⟩ := p
  simp only at hc
  subst hc
  have HR := Lib.hid hr
  have HS := Lib.hid hs
  have HW := Lib.hid hw
  clear hr hs hw
  simp only [Phone.v]
  go_enter Try.func28, Try.ntmps28
  go_wp2_with fail
  refine (phone_right ⟨id, false, H, N, S⟩ _ (HR.out.later qbl (Nat.le_refl _))).mono ?_
  rintro e w1 ⟨rfl, hb1⟩
  rw [HF.out]
  have K_a : Blk _ (w.heap.size) 33 #[.int .i64 id, .bool false, .slice H.A H.l.length H.c, .slice N.A N.l.length N.c, .slice S.A S.l.length S.c] := qkb hb1
  obtain ⟨a0, a1, a2, a3, a4, af, az⟩ := Blk.b5 K_a
  have B_a := Lib.hid K_a
  clear K_a
  have K_b : Blk _ (w.heap.size + 1) 33 #[.int .i64 0, .bool false, .slice none 0 0, .slice none 0 0, .slice none 0 0] := qkb hb1
  obtain ⟨b0, b1, b2, b3, b4, bf, bz⟩ := Blk.b5 K_b
  have B_b := Lib.hid K_b
  clear K_b
  have hB1 : Below w.heap.size w w1 := qbv
  clear hb1
  go_wp2_with fail
  refine (phone_fit ⟨id, false, H, N, S⟩ ss _ (HR.out.later hB1 (Nat.le_refl _)) (HS.out.later hB1 (Nat.le_refl _)) (PhoneD.right_iff HF.out).H hb).mono ?_
  rintro e w2 ⟨rfl, hb2⟩
  rw [HG.out]
  clear a0 a1 a2 a3 a4 af b0 b1 b2 b3 b4 bf
  have K_a : Blk _ (w.heap.size) 33 #[.int .i64 id, .bool false, .slice H.A H.l.length H.c, .slice N.A N.l.length N.c, .slice S.A S.l.length S.c] := qkc B_a hb2
  obtain ⟨a0, a1, a2, a3, a4, af, az⟩ := Blk.b5 K_a
  have B_a := Lib.hid K_a
  clear K_a
  have K_b : Blk _ (w.heap.size + 1) 33 #[.int .i64 0, .bool false, .slice none 0 0, .slice none 0 0, .slice none 0 0] := qkc B_b hb2
  obtain ⟨b0, b1, b2, b3, b4, bf, bz⟩ := Blk.b5 K_b
  have B_b := Lib.hid K_b
  clear K_b
  have hB2 : Below w.heap.size w w2 := qbv
  clear hb2
  go_wp2_with fail
  refine (phone_seen now _ (HW.out.below' hB2 (Nat.le_refl _))).mono ?_
  rintro e w3 ⟨rfl, hb3⟩
  rw [HK.out]
  clear a0 a1 a2 a3 a4 af b0 b1 b2 b3 b4 bf
  have K_a : Blk _ (w.heap.size) 33 #[.int .i64 id, .bool false, .slice H.A H.l.length H.c, .slice N.A N.l.length N.c, .slice S.A S.l.length S.c] := qkc B_a hb3
  obtain ⟨a0, a1, a2, a3, a4, af, az⟩ := Blk.b5 K_a
  have B_a := Lib.hid K_a
  clear K_a
  have K_b : Blk _ (w.heap.size + 1) 33 #[.int .i64 0, .bool false, .slice none 0 0, .slice none 0 0, .slice none 0 0] := qkc B_b hb3
  obtain ⟨b0, b1, b2, b3, b4, bf, bz⟩ := Blk.b5 K_b
  have B_b := Lib.hid K_b
  clear K_b
  have hB3 : Below w.heap.size w w3 := qbv
  clear hb3
  go_wp2_with fail
  try simp only [Exit.inBlock, Exit.then]
  refine bodyPost_ret (v := .tuple #[.agg #[.int .i64 id, .bool false, .slice H.A H.l.length H.c, .slice N.A N.l.length N.c, .slice S.A S.l.length S.c], .slice ss.A ss.l.length ss.c, .slice none 0 0, .int .i64 7]) ?_ rfl ⟨rfl, qbh⟩
  simp [results, Try.results28, go_sem, a0, a1, a2, a3, a4, af, b0, b1, b2, b3, b4, bf, bz]
end Go.Proofs.Ythnblhbdfpmolaa
