/- Walks of the reference of layer 43: Join, whole. -/
import Derived.Test.YthnblhbdfpmolaaTellsmxbr
import Derived.Test.YthnblhbdfpmolaaTellsmxbb
import Derived.Test.YthnblhbdfpmolaaTellsmxaz
import Derived.Test.YthnblhbdfpmolaaTellsmxaq
namespace Go.Proofs.Ythnblhbdfpmolaa
open Go.RowKit
theorem rjoin (p : Phone) (ss : Sl Stock) (now : Sl Int) (w : World) (hr : RdPhone (· < w.heap.size) w p) (hs : RdStocks (· < w.heap.size) w ss) (hw : Rd (· < w.heap.size) 1 ienc w now) (hb : ss.l.length * 40 ≤ 140737488355328) (B : Nat) (hBB : B ≤ w.heap.size) (hFN : ∀ y ∈ p.N.l, Rd (· < B) 1 ienc w y.af) (hGS : ∀ y ∈ ss.l, Rd (· < B) 3 Loan.enc w y.L) :
    Calls Try.prog 29 #[p.v, .slice ss.A ss.l.length ss.c, .slice now.A now.l.length now.c] w fun e w' => ∃ (p' : Phone) (s' : Sl Stock) (n' : Sl Note), e = .returned (.tuple #[p'.v, .slice s'.A s'.l.length s'.c, .slice n'.A n'.l.length n'.c, .int .i64 (p.d.join (ss.l.map Stock.d) now.l).2.2.2]) ∧ p'.d = (p.d.join (ss.l.map Stock.d) now.l).1 ∧ s'.l.map Stock.d = (p.d.join (ss.l.map Stock.d) now.l).2.1 ∧ n'.l.map Note.d = (p.d.join (ss.l.map Stock.d) now.l).2.2.1 ∧
      Hid ((p' = p ∧ s' = ss ∧ n' = ⟨none, 0, []⟩) ∨ (RdPhone (fun b => b < B ∨ (w.heap.size ≤ b ∧ b < w'.heap.size)) w' p' ∧ RdStocks (fun b => b < B ∨ (w.heap.size ≤ b ∧ b < w'.heap.size)) w' s' ∧ RdNotes (fun b => b < B ∨ (w.heap.size ≤ b ∧ b < w'.heap.size)) w' n')) ∧ Below w.heap.size w w' := by
  rcases hf : okJoin p.d (ss.l.map Stock.d) now.l
  · refine (rjoin_no p ss now w hr hs hw hf).mono ?_
    rintro e w' ⟨rfl, hbw⟩
    have hj : p.d.join (ss.l.map Stock.d) now.l = (p.d, ss.l.map Stock.d, [], 1) := by unfold PhoneD.join; rw [hf]; rfl
    rw [hj]
    exact ⟨p, ss, ⟨none, 0, []⟩, rfl, rfl, rfl, rfl, .inl ⟨rfl, rfl, rfl⟩, hbw⟩
  · have hf' := hf
    simp only [okJoin, Bool.and_eq_true] at hf'
    obtain ⟨hF, hG, hK⟩ := hf'
    rcases hc : p.cut
    · refine (rjoin_on p ss now w hr hs hw hF hG hK hc).mono ?_
      rintro e w' ⟨rfl, hbw⟩
      have hc' : p.d.cut = false := hc
      have hj : p.d.join (ss.l.map Stock.d) now.l = (p.d, ss.l.map Stock.d, [], 7) := by unfold PhoneD.join; rw [hf, if_pos rfl, if_neg (by rw [hc']; simp)]
      rw [hj]
      exact ⟨p, ss, ⟨none, 0, []⟩, rfl, rfl, rfl, rfl, .inl ⟨rfl, rfl, rfl⟩, hbw⟩
    · have hc' : p.d.cut = true := hc
      have hj : p.d.join (ss.l.map Stock.d) now.l = ({ p.d with cut := false, H := [], S := seenJ p.id 0 p.S.l now.l }, joinGo p.id p.H.l (ss.l.map Stock.d), p.N.l.map Note.d, 0) := by unfold PhoneD.join; rw [hf, if_pos rfl, if_pos hc']; rfl
      rw [hj]
      refine (rjoin_ok p ss now w hr hs hw hb hF hG hK hc B hBB hFN hGS).mono ?_
      rintro e w' ⟨p', s', n', rfl, h1, h2, h3, h4, h5, h6, hbw⟩
      exact ⟨p', s', n', rfl, h1, h2, h3, .inr ⟨h4, h5, h6⟩, hbw⟩
end Go.Proofs.Ythnblhbdfpmolaa
/- Walks of the reference of layer 43: Promise, the ways back. -/
namespace Go.Proofs.Ythnblhbdfpmolaa
open Go.RowKit
set_option maxHeartbeats 800000 in
theorem rpromise_no (p : Phone) (k n t : Int) (tx : ByteArray) (w : World) (hr : RdPhone (· < w.heap.size) w p) (hf : okPro p.d n t tx = false) :
    Calls Try.prog 25 #[p.v, .int .i64 k, .int .i64 n, .int .i64 t, .string tx] w fun e w' => e = .returned (.tuple #[p.v, .int .i64 1]) ∧ Below w.heap.size w w' := by
  unfold okPro at hf
  rcases hF : p.d.right
  · have HF := Lib.hid hF
    clear hF hf
    obtain ⟨id, cut, H, N, S⟩ := p
    have HR := Lib.hid hr
    clear hr
    simp only [Phone.v]
    go_enter Try.func25, Try.ntmps25
    go_wp2_with fail
    refine (rright43 ⟨id, cut, H, N, S⟩ _ (HR.out.later qbl (Nat.le_refl _))).mono ?_
    rintro e w1 ⟨rfl, hb1⟩
    rw [HF.out]
    have K_a : Blk _ (w.heap.size) 26 #[.int .i64 id, .bool cut, .slice H.A H.l.length H.c, .slice N.A N.l.length N.c, .slice S.A S.l.length S.c] := qkb hb1
    obtain ⟨a0, a1, a2, a3, a4, af, az⟩ := Blk.b5 K_a
    have B_a := Lib.hid K_a
    clear K_a
    have K_b : Blk _ (w.heap.size + 1) 26 #[.int .i64 0, .bool false, .slice none 0 0, .slice none 0 0, .slice none 0 0] := qkb hb1
    obtain ⟨b0, b1, b2, b3, b4, bf, bz⟩ := Blk.b5 K_b
    have B_b := Lib.hid K_b
    clear K_b
    have hB1 : Below w.heap.size w w1 := qbv
    clear hb1
    go_wp2_with fail
    try simp only [Exit.inBlock, Exit.then]
    refine bodyPost_ret (v := .tuple #[.agg #[.int .i64 id, .bool cut, .slice H.A H.l.length H.c, .slice N.A N.l.length N.c, .slice S.A S.l.length S.c], .int .i64 1]) ?_ rfl ⟨rfl, qbh⟩
    simp [results, Try.results25, go_sem, a0, a1, a2, a3, a4, af, b0, b1, b2, b3, b4, bf, bz]
  · rw [hF, Bool.true_and] at hf
    have HF := Lib.hid hF
    clear hF
    rcases h1 : rngB n 1 1000000000000000
    · clear hf
      obtain ⟨id, cut, H, N, S⟩ := p
      have HR := Lib.hid hr
      clear hr
      simp only [Phone.v]
      go_enter Try.func25, Try.ntmps25
      go_wp2_with fail
      refine (rright43 ⟨id, cut, H, N, S⟩ _ (HR.out.later qbl (Nat.le_refl _))).mono ?_
      rintro e w1 ⟨rfl, hb1⟩
      rw [HF.out]
      have K_a : Blk _ (w.heap.size) 26 #[.int .i64 id, .bool cut, .slice H.A H.l.length H.c, .slice N.A N.l.length N.c, .slice S.A S.l.length S.c] := qkb hb1
      obtain ⟨a0, a1, a2, a3, a4, af, az⟩ := Blk.b5 K_a
      have B_a := Lib.hid K_a
      clear K_a
      have K_b : Blk _ (w.heap.size + 1) 26 #[.int .i64 0, .bool false, .slice none 0 0, .slice none 0 0, .slice none 0 0] := qkb hb1
      obtain ⟨b0, b1, b2, b3, b4, bf, bz⟩ := Blk.b5 K_b
      have B_b := Lib.hid K_b
      clear K_b
      have hB1 : Below w.heap.size w w1 := qbv
      clear hb1
      go_wp2_with (go_at_call 54; refine (in43_any _ _ _ _).mono ?_; rintro e w' ⟨rfl, rfl⟩)
      try simp only [Exit.inBlock, Exit.then]
      refine bodyPost_ret (v := .tuple #[.agg #[.int .i64 id, .bool cut, .slice H.A H.l.length H.c, .slice N.A N.l.length N.c, .slice S.A S.l.length S.c], .int .i64 1]) ?_ rfl ⟨rfl, qbh⟩
      simp [results, Try.results25, go_sem, a0, a1, a2, a3, a4, af, b0, b1, b2, b3, b4, bf, bz]
    · rcases h2 : rngB t 0 1048576
      · clear hf
        obtain ⟨id, cut, H, N, S⟩ := p
        have HR := Lib.hid hr
        clear hr
        simp only [Phone.v]
        go_enter Try.func25, Try.ntmps25
        go_wp2_with fail
        refine (rright43 ⟨id, cut, H, N, S⟩ _ (HR.out.later qbl (Nat.le_refl _))).mono ?_
        rintro e w1 ⟨rfl, hb1⟩
        rw [HF.out]
        have K_a : Blk _ (w.heap.size) 26 #[.int .i64 id, .bool cut, .slice H.A H.l.length H.c, .slice N.A N.l.length N.c, .slice S.A S.l.length S.c] := qkb hb1
        obtain ⟨a0, a1, a2, a3, a4, af, az⟩ := Blk.b5 K_a
        have B_a := Lib.hid K_a
        clear K_a
        have K_b : Blk _ (w.heap.size + 1) 26 #[.int .i64 0, .bool false, .slice none 0 0, .slice none 0 0, .slice none 0 0] := qkb hb1
        obtain ⟨b0, b1, b2, b3, b4, bf, bz⟩ := Blk.b5 K_b
        have B_b := Lib.hid K_b
        clear K_b
        have hB1 : Below w.heap.size w w1 := qbv
        clear hb1
        go_wp2_with (go_at_call 54; refine (in43_any _ _ _ _).mono ?_; rintro e w' ⟨rfl, rfl⟩)
        try simp only [Exit.inBlock, Exit.then]
        refine bodyPost_ret (v := .tuple #[.agg #[.int .i64 id, .bool cut, .slice H.A H.l.length H.c, .slice N.A N.l.length N.c, .slice S.A S.l.length S.c], .int .i64 1]) ?_ rfl ⟨rfl, qbh⟩
        simp [results, Try.results25, go_sem, a0, a1, a2, a3, a4, af, b0, b1, b2, b3, b4, bf, bz]
      · have h3 : 20000 < tx.size := by rw [h1, h2] at hf; simpa using hf
        clear hf
        obtain ⟨id, cut, H, N, S⟩ := p
        have HR := Lib.hid hr
        clear hr
        simp only [Phone.v]
        go_enter Try.func25, Try.ntmps25
        go_wp2_with fail
        refine (rright43 ⟨id, cut, H, N, S⟩ _ (HR.out.later qbl (Nat.le_refl _))).mono ?_
        rintro e w1 ⟨rfl, hb1⟩
        rw [HF.out]
        have K_a : Blk _ (w.heap.size) 26 #[.int .i64 id, .bool cut, .slice H.A H.l.length H.c, .slice N.A N.l.length N.c, .slice S.A S.l.length S.c] := qkb hb1
        obtain ⟨a0, a1, a2, a3, a4, af, az⟩ := Blk.b5 K_a
        have B_a := Lib.hid K_a
        clear K_a
        have K_b : Blk _ (w.heap.size + 1) 26 #[.int .i64 0, .bool false, .slice none 0 0, .slice none 0 0, .slice none 0 0] := qkb hb1
        obtain ⟨b0, b1, b2, b3, b4, bf, bz⟩ := Blk.b5 K_b
        have B_b := Lib.hid K_b
        clear K_b
        have hB1 : Below w.heap.size w w1 := qbv
        clear hb1
        go_wp2_with (go_at_call 54; refine (in43_any _ _ _ _).mono ?_; rintro e w' ⟨rfl, rfl⟩)
        try simp only [Exit.inBlock, Exit.then]
        refine bodyPost_ret (v := .tuple #[.agg #[.int .i64 id, .bool cut, .slice H.A H.l.length H.c, .slice N.A N.l.length N.c, .slice S.A S.l.length S.c], .int .i64 1]) ?_ rfl ⟨rfl, qbh⟩
        simp [results, Try.results25, go_sem, a0, a1, a2, a3, a4, af, b0, b1, b2, b3, b4, bf, bz]
set_option maxHeartbeats 800000 in
theorem rpromise_none (p : Phone) (k n t : Int) (tx : ByteArray) (w : World) (hr : RdPhone (· < w.heap.size) w p) (HF : Hid (p.d.right = true)) (h1 : rngB n 1 1000000000000000 = true) (h2 : rngB t 0 1048576 = true) (h3 : tx.size ≤ 20000)
    (HFK : Hid (findK Hold.st k 0 p.H.l = -1)) :
    Calls Try.prog 25 #[p.v, .int .i64 k, .int .i64 n, .int .i64 t, .string tx] w fun e w' => e = .returned (.tuple #[p.v, .int .i64 4]) ∧ Below w.heap.size w w' := by
  obtain ⟨id, cut, H, N, S⟩ := p
  have HR := Lib.hid hr
  clear hr
  simp only [Phone.v]
  go_enter Try.func25, Try.ntmps25
  go_wp2_with fail
  refine (rright43 ⟨id, cut, H, N, S⟩ _ (HR.out.later qbl (Nat.le_refl _))).mono ?_
  rintro e w1 ⟨rfl, hb1⟩
  rw [HF.out]
  have K_a : Blk _ (w.heap.size) 26 #[.int .i64 id, .bool cut, .slice H.A H.l.length H.c, .slice N.A N.l.length N.c, .slice S.A S.l.length S.c] := qkb hb1
  obtain ⟨a0, a1, a2, a3, a4, af, az⟩ := Blk.b5 K_a
  have B_a := Lib.hid K_a
  clear K_a
  have K_b : Blk _ (w.heap.size + 1) 26 #[.int .i64 0, .bool false, .slice none 0 0, .slice none 0 0, .slice none 0 0] := qkb hb1
  obtain ⟨b0, b1, b2, b3, b4, bf, bz⟩ := Blk.b5 K_b
  have B_b := Lib.hid K_b
  clear K_b
  have hB1 : Below w.heap.size w w1 := qbv
  clear hb1
  go_wp2_with (go_at_call 54; refine (in43_any _ _ _ _).mono ?_; rintro e w' ⟨rfl, rfl⟩)
  refine (rat43 ⟨id, cut, H, N, S⟩ k _ (HR.out.later hB1 (Nat.le_refl _)).1).mono ?_
  rintro e w2 ⟨rfl, hb2⟩
  simp only
  rw [HFK.out]
  clear a0 a1 a2 a3 a4 af b0 b1 b2 b3 b4 bf
  have K_a : Blk _ (w.heap.size) 26 #[.int .i64 id, .bool cut, .slice H.A H.l.length H.c, .slice N.A N.l.length N.c, .slice S.A S.l.length S.c] := qkc B_a hb2
  obtain ⟨a0, a1, a2, a3, a4, af, az⟩ := Blk.b5 K_a
  have B_a := Lib.hid K_a
  clear K_a
  have K_b : Blk _ (w.heap.size + 1) 26 #[.int .i64 0, .bool false, .slice none 0 0, .slice none 0 0, .slice none 0 0] := qkc B_b hb2
  obtain ⟨b0, b1, b2, b3, b4, bf, bz⟩ := Blk.b5 K_b
  have B_b := Lib.hid K_b
  clear K_b
  have hB2 : Below w.heap.size w w2 := qbv
  clear hb2
  go_wp2_with fail
  try simp only [Exit.inBlock, Exit.then]
  refine bodyPost_ret (v := .tuple #[.agg #[.int .i64 id, .bool cut, .slice H.A H.l.length H.c, .slice N.A N.l.length N.c, .slice S.A S.l.length S.c], .int .i64 4]) ?_ rfl ⟨rfl, qbh⟩
  simp [results, Try.results25, go_sem, a0, a1, a2, a3, a4, af, b0, b1, b2, b3, b4, bf, bz]
set_option maxHeartbeats 800000 in
theorem rpromise_few (p : Phone) (k n t : Int) (tx : ByteArray) (i : Nat) (x : Hold) (w : World) (hr : RdPhone (· < w.heap.size) w p) (HF : Hid (p.d.right = true)) (h1 : rngB n 1 1000000000000000 = true) (h2 : rngB t 0 1048576 = true) (h3 : tx.size ≤ 20000)
    (HFK : Hid (findK Hold.st k 0 p.H.l = (i : Int))) (HX : Hid (p.H.l[i]? = some x)) (hx1 : 0 ≤ x.u) (hx2 : x.u ≤ 1000000000000000) (hx3 : 0 ≤ x.s) (hx4 : x.s ≤ x.u) (hlt : x.u - x.s < n) :
    Calls Try.prog 25 #[p.v, .int .i64 k, .int .i64 n, .int .i64 t, .string tx] w fun e w' => e = .returned (.tuple #[p.v, .int .i64 21]) ∧ Below w.heap.size w w' := by
  obtain ⟨id, cut, H, N, S⟩ := p
  have HR := Lib.hid hr
  clear hr
  simp only [Phone.v]
  go_enter Try.func25, Try.ntmps25
  go_wp2_with fail
  refine (rright43 ⟨id, cut, H, N, S⟩ _ (HR.out.later qbl (Nat.le_refl _))).mono ?_
  rintro e w1 ⟨rfl, hb1⟩
  rw [HF.out]
  have K_a : Blk _ (w.heap.size) 26 #[.int .i64 id, .bool cut, .slice H.A H.l.length H.c, .slice N.A N.l.length N.c, .slice S.A S.l.length S.c] := qkb hb1
  obtain ⟨a0, a1, a2, a3, a4, af, az⟩ := Blk.b5 K_a
  have B_a := Lib.hid K_a
  clear K_a
  have K_b : Blk _ (w.heap.size + 1) 26 #[.int .i64 0, .bool false, .slice none 0 0, .slice none 0 0, .slice none 0 0] := qkb hb1
  obtain ⟨b0, b1, b2, b3, b4, bf, bz⟩ := Blk.b5 K_b
  have B_b := Lib.hid K_b
  clear K_b
  have hB1 : Below w.heap.size w w1 := qbv
  clear hb1
  go_wp2_with (go_at_call 54; refine (in43_any _ _ _ _).mono ?_; rintro e w' ⟨rfl, rfl⟩)
  refine (rat43 ⟨id, cut, H, N, S⟩ k _ (HR.out.later hB1 (Nat.le_refl _)).1).mono ?_
  rintro e w2 ⟨rfl, hb2⟩
  simp only
  rw [HFK.out]
  clear a0 a1 a2 a3 a4 af b0 b1 b2 b3 b4 bf
  have K_a : Blk _ (w.heap.size) 26 #[.int .i64 id, .bool cut, .slice H.A H.l.length H.c, .slice N.A N.l.length N.c, .slice S.A S.l.length S.c] := qkc B_a hb2
  obtain ⟨a0, a1, a2, a3, a4, af, az⟩ := Blk.b5 K_a
  have B_a := Lib.hid K_a
  clear K_a
  have K_b : Blk _ (w.heap.size + 1) 26 #[.int .i64 0, .bool false, .slice none 0 0, .slice none 0 0, .slice none 0 0] := qkc B_b hb2
  obtain ⟨b0, b1, b2, b3, b4, bf, bz⟩ := Blk.b5 K_b
  have B_b := Lib.hid K_b
  clear K_b
  have hB2 : Below w.heap.size w w2 := qbv
  clear hb2
  obtain ⟨b2', o2', hA2, hF2, hcl2⟩ := HR.out.1.2.2.2 _ x HX.out
  have hxi : i < H.l.length := (List.getElem?_eq_some_iff.1 HX.out).1
  simp only at hA2
  have hcl2 := hcl2.keep (hB2.block b2' hF2)
  obtain ⟨h0, h1', h2'⟩ := Cells.c3 hcl2
  clear hcl2
  try simp only at a2
  rw [hA2] at a2
  have HA2 := Lib.hid hA2
  clear hA2
  go_wp2_with fail
  go_quiet (fail)
  go_wp2_with fail
  try simp only [Exit.inBlock, Exit.then]
  refine bodyPost_ret (v := .tuple #[.agg #[.int .i64 id, .bool cut, .slice H.A H.l.length H.c, .slice N.A N.l.length N.c, .slice S.A S.l.length S.c], .int .i64 21]) ?_ rfl ⟨rfl, qbh⟩
  simp [results, Try.results25, go_sem, a0, a1, a2, a3, a4, af, b0, b1, b2, b3, b4, bf, HA2.out]
set_option maxHeartbeats 800000 in
theorem rpromise_late (p : Phone) (k n t : Int) (tx : ByteArray) (i : Nat) (x : Hold) (w : World) (hr : RdPhone (· < w.heap.size) w p) (HF : Hid (p.d.right = true)) (h1 : rngB n 1 1000000000000000 = true) (h2 : rngB t 0 1048576 = true) (h3 : tx.size ≤ 20000)
    (HFK : Hid (findK Hold.st k 0 p.H.l = (i : Int))) (HX : Hid (p.H.l[i]? = some x)) (hx1 : 0 ≤ x.u) (hx2 : x.u ≤ 1000000000000000) (hx3 : 0 ≤ x.s) (hx4 : x.s ≤ x.u) (hge : n ≤ x.u - x.s)
    (m : Nat) (y : Note) (HLEN : Hid (p.N.l.length = m + 1)) (HY : Hid (p.N.l[m]? = some y)) (hlate : t < y.tm) :
    Calls Try.prog 25 #[p.v, .int .i64 k, .int .i64 n, .int .i64 t, .string tx] w fun e w' => e = .returned (.tuple #[p.v, .int .i64 19]) ∧ Below w.heap.size w w' := by
  obtain ⟨id, cut, H, N, S⟩ := p
  have HR := Lib.hid hr
  clear hr
  simp only [Phone.v]
  go_enter Try.func25, Try.ntmps25
  go_wp2_with fail
  refine (rright43 ⟨id, cut, H, N, S⟩ _ (HR.out.later qbl (Nat.le_refl _))).mono ?_
  rintro e w1 ⟨rfl, hb1⟩
  rw [HF.out]
  have K_a : Blk _ (w.heap.size) 26 #[.int .i64 id, .bool cut, .slice H.A H.l.length H.c, .slice N.A N.l.length N.c, .slice S.A S.l.length S.c] := qkb hb1
  obtain ⟨a0, a1, a2, a3, a4, af, az⟩ := Blk.b5 K_a
  have B_a := Lib.hid K_a
  clear K_a
  have K_b : Blk _ (w.heap.size + 1) 26 #[.int .i64 0, .bool false, .slice none 0 0, .slice none 0 0, .slice none 0 0] := qkb hb1
  obtain ⟨b0, b1, b2, b3, b4, bf, bz⟩ := Blk.b5 K_b
  have B_b := Lib.hid K_b
  clear K_b
  have hB1 : Below w.heap.size w w1 := qbv
  clear hb1
  go_wp2_with (go_at_call 54; refine (in43_any _ _ _ _).mono ?_; rintro e w' ⟨rfl, rfl⟩)
  refine (rat43 ⟨id, cut, H, N, S⟩ k _ (HR.out.later hB1 (Nat.le_refl _)).1).mono ?_
  rintro e w2 ⟨rfl, hb2⟩
  simp only
  rw [HFK.out]
  clear a0 a1 a2 a3 a4 af b0 b1 b2 b3 b4 bf
  have K_a : Blk _ (w.heap.size) 26 #[.int .i64 id, .bool cut, .slice H.A H.l.length H.c, .slice N.A N.l.length N.c, .slice S.A S.l.length S.c] := qkc B_a hb2
  obtain ⟨a0, a1, a2, a3, a4, af, az⟩ := Blk.b5 K_a
  have B_a := Lib.hid K_a
  clear K_a
  have K_b : Blk _ (w.heap.size + 1) 26 #[.int .i64 0, .bool false, .slice none 0 0, .slice none 0 0, .slice none 0 0] := qkc B_b hb2
  obtain ⟨b0, b1, b2, b3, b4, bf, bz⟩ := Blk.b5 K_b
  have B_b := Lib.hid K_b
  clear K_b
  have hB2 : Below w.heap.size w w2 := qbv
  clear hb2
  have hlen' : (N.l.length : Int) - 1 = m := by have := HLEN.out; (try simp only at this); omega
  have hlen0 : 0 < N.l.length := by have := HLEN.out; (try simp only at this); omega
  have hlen1 : m < N.l.length := by have := HLEN.out; (try simp only at this); omega
  have hwm : wrap64 (m : Int) = m := by have := HR.out.2.1.1.len; (try simp only at this); unfold wrap64; omega
  obtain ⟨b3', o3', hA3, hF3, hcl3⟩ := HR.out.2.1.1.2.2.2 m y HY.out
  simp only at hA3
  have hcl3 := hcl3.keep (hB2.block b3' hF3)
  obtain ⟨j0, j1, j2, j3, j4⟩ := Cells.c5 hcl3
  clear hcl3 j0 j1 j2 j4
  try simp only at a3
  rw [hA3] at a3
  have HA3 := Lib.hid hA3
  clear hA3
  obtain ⟨b2', o2', hA2, hF2, hcl2⟩ := HR.out.1.2.2.2 _ x HX.out
  have hxi : i < H.l.length := (List.getElem?_eq_some_iff.1 HX.out).1
  simp only at hA2
  have hcl2 := hcl2.keep (hB2.block b2' hF2)
  obtain ⟨h0, h1', h2'⟩ := Cells.c3 hcl2
  clear hcl2
  try simp only at a2
  rw [hA2] at a2
  have HA2 := Lib.hid hA2
  clear hA2
  go_wp2_with fail
  go_quiet (fail)
  go_wp2_with fail
  try simp only [Exit.inBlock, Exit.then]
  refine bodyPost_ret (v := .tuple #[.agg #[.int .i64 id, .bool cut, .slice H.A H.l.length H.c, .slice N.A N.l.length N.c, .slice S.A S.l.length S.c], .int .i64 19]) ?_ rfl ⟨rfl, qbh⟩
  simp [results, Try.results25, go_sem, a0, a1, a2, a3, a4, af, b0, b1, b2, b3, b4, bf, HA2.out, HA3.out]
set_option maxHeartbeats 800000 in
theorem rpromise_full (p : Phone) (k n t : Int) (tx : ByteArray) (i : Nat) (x : Hold) (w : World) (hr : RdPhone (· < w.heap.size) w p) (HF : Hid (p.d.right = true)) (h1 : rngB n 1 1000000000000000 = true) (h2 : rngB t 0 1048576 = true) (h3 : tx.size ≤ 20000)
    (HFK : Hid (findK Hold.st k 0 p.H.l = (i : Int))) (HX : Hid (p.H.l[i]? = some x)) (hx1 : 0 ≤ x.u) (hx2 : x.u ≤ 1000000000000000) (hx3 : 0 ≤ x.s) (hx4 : x.s ≤ x.u) (hge : n ≤ x.u - x.s)
    (m : Nat) (y : Note) (HLEN : Hid (p.N.l.length = m + 1)) (HY : Hid (p.N.l[m]? = some y)) (hlate : y.tm ≤ t) (hfull : p.N.l.length = 10000) :
    Calls Try.prog 25 #[p.v, .int .i64 k, .int .i64 n, .int .i64 t, .string tx] w fun e w' => e = .returned (.tuple #[p.v, .int .i64 6]) ∧ Below w.heap.size w w' := by
  have hfull' : (10000 : Int) ≤ (p.N.l.length : Int) := by omega
  have HFU := Lib.hid hfull
  clear hfull
  obtain ⟨id, cut, H, N, S⟩ := p
  have HR := Lib.hid hr
  clear hr
  simp only [Phone.v]
  go_enter Try.func25, Try.ntmps25
  go_wp2_with fail
  refine (rright43 ⟨id, cut, H, N, S⟩ _ (HR.out.later qbl (Nat.le_refl _))).mono ?_
  rintro e w1 ⟨rfl, hb1⟩
  rw [HF.out]
  have K_a : Blk _ (w.heap.size) 26 #[.int .i64 id, .bool cut, .slice H.A H.l.length H.c, .slice N.A N.l.length N.c, .slice S.A S.l.length S.c] := qkb hb1
  obtain ⟨a0, a1, a2, a3, a4, af, az⟩ := Blk.b5 K_a
  have B_a := Lib.hid K_a
  clear K_a
  have K_b : Blk _ (w.heap.size + 1) 26 #[.int .i64 0, .bool false, .slice none 0 0, .slice none 0 0, .slice none 0 0] := qkb hb1
  obtain ⟨b0, b1, b2, b3, b4, bf, bz⟩ := Blk.b5 K_b
  have B_b := Lib.hid K_b
  clear K_b
  have hB1 : Below w.heap.size w w1 := qbv
  clear hb1
  go_wp2_with (go_at_call 54; refine (in43_any _ _ _ _).mono ?_; rintro e w' ⟨rfl, rfl⟩)
  refine (rat43 ⟨id, cut, H, N, S⟩ k _ (HR.out.later hB1 (Nat.le_refl _)).1).mono ?_
  rintro e w2 ⟨rfl, hb2⟩
  simp only
  rw [HFK.out]
  clear a0 a1 a2 a3 a4 af b0 b1 b2 b3 b4 bf
  have K_a : Blk _ (w.heap.size) 26 #[.int .i64 id, .bool cut, .slice H.A H.l.length H.c, .slice N.A N.l.length N.c, .slice S.A S.l.length S.c] := qkc B_a hb2
  obtain ⟨a0, a1, a2, a3, a4, af, az⟩ := Blk.b5 K_a
  have B_a := Lib.hid K_a
  clear K_a
  have K_b : Blk _ (w.heap.size + 1) 26 #[.int .i64 0, .bool false, .slice none 0 0, .slice none 0 0, .slice none 0 0] := qkc B_b hb2
  obtain ⟨b0, b1, b2, b3, b4, bf, bz⟩ := Blk.b5 K_b
  have B_b := Lib.hid K_b
  clear K_b
  have hB2 : Below w.heap.size w w2 := qbv
  clear hb2
  try simp only at hfull'
  have hlen' : (N.l.length : Int) - 1 = m := by have := HLEN.out; (try simp only at this); omega
  have hlen0 : 0 < N.l.length := by have := HLEN.out; (try simp only at this); omega
  have hlen1 : m < N.l.length := by have := HLEN.out; (try simp only at this); omega
  have hwm : wrap64 (m : Int) = m := by have := HR.out.2.1.1.len; (try simp only at this); unfold wrap64; omega
  obtain ⟨b3', o3', hA3, hF3, hcl3⟩ := HR.out.2.1.1.2.2.2 m y HY.out
  simp only at hA3
  have hcl3 := hcl3.keep (hB2.block b3' hF3)
  obtain ⟨j0, j1, j2, j3, j4⟩ := Cells.c5 hcl3
  clear hcl3 j0 j1 j2 j4
  try simp only at a3
  rw [hA3] at a3
  have HA3 := Lib.hid hA3
  clear hA3
  obtain ⟨b2', o2', hA2, hF2, hcl2⟩ := HR.out.1.2.2.2 _ x HX.out
  have hxi : i < H.l.length := (List.getElem?_eq_some_iff.1 HX.out).1
  simp only at hA2
  have hcl2 := hcl2.keep (hB2.block b2' hF2)
  obtain ⟨h0, h1', h2'⟩ := Cells.c3 hcl2
  clear hcl2
  try simp only at a2
  rw [hA2] at a2
  have HA2 := Lib.hid hA2
  clear hA2
  go_wp2_with fail
  go_quiet (fail)
  go_wp2_with fail
  try simp only [Exit.inBlock, Exit.then]
  refine bodyPost_ret (v := .tuple #[.agg #[.int .i64 id, .bool cut, .slice H.A H.l.length H.c, .slice N.A N.l.length N.c, .slice S.A S.l.length S.c], .int .i64 6]) ?_ rfl ⟨rfl, qbh⟩
  simp [results, Try.results25, go_sem, a0, a1, a2, a3, a4, af, b0, b1, b2, b3, b4, bf, HA2.out, HA3.out]
end Go.Proofs.Ythnblhbdfpmolaa
