/- Walks of package phone: Right, find. -/
import Derived.Test.YthnblhbdfpmolaaPNotemxac
import Derived.Test.YthnblhbdfpmolaaPNotemxab
namespace Go.Proofs.Ythnblhbdfpmolaa
open Go.RowKit
set_option maxHeartbeats 1000000 in
theorem phone_right1 (p : Phone) (w : World) (hr : RdPhone (· < w.heap.size) w p) (h1 : rngB p.id 0 11 = false) :
    Calls Try.prog 19 #[p.v] w fun e w' => e = .returned (.bool false) ∧ Below w.heap.size w w' := by
  obtain ⟨id, cut, H, N, S⟩ := p
  have HR := Lib.hid hr
  clear hr
  simp only [Phone.v]
  go_enter Try.func19, Try.ntmps19
  go_wp2_with (go_at_call 53; refine (phone_device _ _).mono ?_; rintro e w' ⟨rfl, rfl⟩)
  go_ret
  exact ⟨rfl, qbl⟩
set_option maxHeartbeats 1000000 in
theorem phone_right2 (p : Phone) (w : World) (hr : RdPhone (· < w.heap.size) w p) (h1 : rngB p.id 0 11 = true) (H2 : Hid (holdsR p.H.l = false)) :
    Calls Try.prog 19 #[p.v] w fun e w' => e = .returned (.bool false) ∧ Below w.heap.size w w' := by
  obtain ⟨id, cut, H, N, S⟩ := p
  have HR := Lib.hid hr
  clear hr
  simp only [Phone.v]
  go_enter Try.func19, Try.ntmps19
  go_wp2_with (go_at_call 53; refine (phone_device _ _).mono ?_; rintro e w' ⟨rfl, rfl⟩)
  refine (phone_holds H _ (HR.out.1.lt_alloc _)).mono ?_
  rintro e w1 ⟨rfl, hb1⟩
  have K_a : Blk _ (w.heap.size) 33 #[.int .i64 id, .bool cut, .slice H.A H.l.length H.c, .slice N.A N.l.length N.c, .slice S.A S.l.length S.c] := qkb hb1
  obtain ⟨a0, a1, a2, a3, a4, af, az⟩ := Blk.b5 K_a
  have B_a := Lib.hid K_a
  clear K_a
  have hB1 : Below w.heap.size w w1 := Below.trans qbl (hb1.mono (by first | omega | (simp; done) | (simp; omega)))
  clear hb1
  rw [H2.out]
  go_wp2_with fail
  go_ret
  exact ⟨rfl, hB1⟩
set_option maxHeartbeats 1000000 in
theorem phone_right3 (p : Phone) (w : World) (hr : RdPhone (· < w.heap.size) w p) (h1 : rngB p.id 0 11 = true) (H2 : Hid (holdsR p.H.l = true)) (H3 : Hid (notesR (p.N.l.map Note.d) = false)) :
    Calls Try.prog 19 #[p.v] w fun e w' => e = .returned (.bool false) ∧ Below w.heap.size w w' := by
  obtain ⟨id, cut, H, N, S⟩ := p
  have HR := Lib.hid hr
  clear hr
  simp only [Phone.v]
  go_enter Try.func19, Try.ntmps19
  go_wp2_with (go_at_call 53; refine (phone_device _ _).mono ?_; rintro e w' ⟨rfl, rfl⟩)
  refine (phone_holds H _ (HR.out.1.lt_alloc _)).mono ?_
  rintro e w1 ⟨rfl, hb1⟩
  have K_a : Blk _ (w.heap.size) 33 #[.int .i64 id, .bool cut, .slice H.A H.l.length H.c, .slice N.A N.l.length N.c, .slice S.A S.l.length S.c] := qkb hb1
  obtain ⟨a0, a1, a2, a3, a4, af, az⟩ := Blk.b5 K_a
  have B_a := Lib.hid K_a
  clear K_a
  have hB1 : Below w.heap.size w w1 := Below.trans qbl (hb1.mono (by first | omega | (simp; done) | (simp; omega)))
  clear hb1
  rw [H2.out]
  go_wp2_with fail
  refine (merge_right N _ (HR.out.2.1.later hB1 (Nat.le_refl _))).mono ?_
  rintro e w2 ⟨rfl, hb2⟩
  clear a0 a1 a2 a3 a4 af
  have K_a : Blk _ (w.heap.size) 33 #[.int .i64 id, .bool cut, .slice H.A H.l.length H.c, .slice N.A N.l.length N.c, .slice S.A S.l.length S.c] := qkc B_a hb2
  obtain ⟨a0, a1, a2, a3, a4, af, az⟩ := Blk.b5 K_a
  have B_a := Lib.hid K_a
  clear K_a
  have hB2 : Below w.heap.size w w2 := Below.trans qbh (hb2.mono (by first | omega | (simp; done) | (simp; omega)))
  clear hb2
  rw [H3.out]
  go_wp2_with fail
  go_ret
  exact ⟨rfl, hB2⟩
set_option maxHeartbeats 1000000 in
theorem phone_right4 (p : Phone) (w : World) (hr : RdPhone (· < w.heap.size) w p) (h1 : rngB p.id 0 11 = true) (H2 : Hid (holdsR p.H.l = true)) (H3 : Hid (notesR (p.N.l.map Note.d) = true)) (H4 : Hid (seenR p.S.l = false)) :
    Calls Try.prog 19 #[p.v] w fun e w' => e = .returned (.bool false) ∧ Below w.heap.size w w' := by
  obtain ⟨id, cut, H, N, S⟩ := p
  have HR := Lib.hid hr
  clear hr
  simp only [Phone.v]
  go_enter Try.func19, Try.ntmps19
  go_wp2_with (go_at_call 53; refine (phone_device _ _).mono ?_; rintro e w' ⟨rfl, rfl⟩)
  refine (phone_holds H _ (HR.out.1.lt_alloc _)).mono ?_
  rintro e w1 ⟨rfl, hb1⟩
  have K_a : Blk _ (w.heap.size) 33 #[.int .i64 id, .bool cut, .slice H.A H.l.length H.c, .slice N.A N.l.length N.c, .slice S.A S.l.length S.c] := qkb hb1
  obtain ⟨a0, a1, a2, a3, a4, af, az⟩ := Blk.b5 K_a
  have B_a := Lib.hid K_a
  clear K_a
  have hB1 : Below w.heap.size w w1 := Below.trans qbl (hb1.mono (by first | omega | (simp; done) | (simp; omega)))
  clear hb1
  rw [H2.out]
  go_wp2_with fail
  refine (merge_right N _ (HR.out.2.1.later hB1 (Nat.le_refl _))).mono ?_
  rintro e w2 ⟨rfl, hb2⟩
  clear a0 a1 a2 a3 a4 af
  have K_a : Blk _ (w.heap.size) 33 #[.int .i64 id, .bool cut, .slice H.A H.l.length H.c, .slice N.A N.l.length N.c, .slice S.A S.l.length S.c] := qkc B_a hb2
  obtain ⟨a0, a1, a2, a3, a4, af, az⟩ := Blk.b5 K_a
  have B_a := Lib.hid K_a
  clear K_a
  have hB2 : Below w.heap.size w w2 := Below.trans qbh (hb2.mono (by first | omega | (simp; done) | (simp; omega)))
  clear hb2
  rw [H3.out]
  go_wp2_with fail
  refine (phone_seen S _ (HR.out.2.2.below' hB2 (Nat.le_refl _))).mono ?_
  rintro e w3 ⟨rfl, hb3⟩
  clear a0 a1 a2 a3 a4 af
  have K_a : Blk _ (w.heap.size) 33 #[.int .i64 id, .bool cut, .slice H.A H.l.length H.c, .slice N.A N.l.length N.c, .slice S.A S.l.length S.c] := qkc B_a hb3
  obtain ⟨a0, a1, a2, a3, a4, af, az⟩ := Blk.b5 K_a
  have B_a := Lib.hid K_a
  clear K_a
  have hB3 : Below w.heap.size w w3 := Below.trans qbh (hb3.mono (by first | omega | (simp; done) | (simp; omega)))
  clear hb3
  rw [H4.out]
  go_wp2_with fail
  go_ret
  exact ⟨rfl, hB3⟩
set_option maxHeartbeats 1000000 in
set_option maxRecDepth 100000 in
theorem phone_right5 (p : Phone) (w : World) (hr : RdPhone (· < w.heap.size) w p) (h1 : rngB p.id 0 11 = true) (H2 : Hid (holdsR p.H.l = true)) (H3 : Hid (notesR (p.N.l.map Note.d) = true)) (H4 : Hid (seenR p.S.l = true))
    (H5 : Hid (p.S.l[p.id.toNat]? ≠ some 0)) :
    Calls Try.prog 19 #[p.v] w fun e w' => e = .returned (.bool false) ∧ Below w.heap.size w w' := by
  obtain ⟨id, cut, H, N, S⟩ := p
  have h1' := rngB_iff.1 h1
  obtain ⟨h11, h12⟩ := h1'
  try simp only at h1 h11 h12
  obtain ⟨j, hj⟩ := Int.eq_ofNat_of_zero_le h11
  subst hj
  have hsl : S.l.length = 12 := by have := H4.out; simp only [seenR, Bool.and_eq_true] at this; exact of_decide_eq_true this.1
  have hjl : j < S.l.length := by omega
  have HSL := Lib.hid hsl
  clear hsl
  have HR := Lib.hid hr
  clear hr
  simp only [Phone.v]
  go_enter Try.func19, Try.ntmps19
  go_wp2_with (go_at_call 53; refine (phone_device _ _).mono ?_; rintro e w' ⟨rfl, rfl⟩)
  try simp only at hjl H5 h11 h12
  refine (phone_holds H _ (HR.out.1.lt_alloc _)).mono ?_
  rintro e w1 ⟨rfl, hb1⟩
  have K_a : Blk _ (w.heap.size) 33 #[.int .i64 ((j : Nat) : Int), .bool cut, .slice H.A H.l.length H.c, .slice N.A N.l.length N.c, .slice S.A S.l.length S.c] := qkb hb1
  obtain ⟨a0, a1, a2, a3, a4, af, az⟩ := Blk.b5 K_a
  have B_a := Lib.hid K_a
  clear K_a
  have hB1 : Below w.heap.size w w1 := Below.trans qbl (hb1.mono (by first | omega | (simp; done) | (simp; omega)))
  clear hb1
  rw [H2.out]
  go_wp2_with fail
  refine (merge_right N _ (HR.out.2.1.later hB1 (Nat.le_refl _))).mono ?_
  rintro e w2 ⟨rfl, hb2⟩
  clear a0 a1 a2 a3 a4 af
  have K_a : Blk _ (w.heap.size) 33 #[.int .i64 ((j : Nat) : Int), .bool cut, .slice H.A H.l.length H.c, .slice N.A N.l.length N.c, .slice S.A S.l.length S.c] := qkc B_a hb2
  obtain ⟨a0, a1, a2, a3, a4, af, az⟩ := Blk.b5 K_a
  have B_a := Lib.hid K_a
  clear K_a
  have hB2 : Below w.heap.size w w2 := Below.trans qbh (hb2.mono (by first | omega | (simp; done) | (simp; omega)))
  clear hb2
  rw [H3.out]
  go_wp2_with fail
  refine (phone_seen S _ (HR.out.2.2.below' hB2 (Nat.le_refl _))).mono ?_
  rintro e w3 ⟨rfl, hb3⟩
  clear a0 a1 a2 a3 a4 af
  have K_a : Blk _ (w.heap.size) 33 #[.int .i64 ((j : Nat) : Int), .bool cut, .slice H.A H.l.length H.c, .slice N.A N.l.length N.c, .slice S.A S.l.length S.c] := qkc B_a hb3
  obtain ⟨a0, a1, a2, a3, a4, af, az⟩ := Blk.b5 K_a
  have B_a := Lib.hid K_a
  clear K_a
  have hB3 : Below w.heap.size w w3 := Below.trans qbh (hb3.mono (by first | omega | (simp; done) | (simp; omega)))
  clear hb3
  rw [H4.out]
  obtain ⟨SA, SC, SL⟩ := S
  try simp only at hjl H5
  obtain ⟨b, o, rfl, hb, hcl⟩ := HR.out.2.2.at1 hjl
  have g0 := (hcl.keep (hB3.block b hb)).c1
  simp only [Nat.mul_one] at g0
  clear hcl
  have hne : (SL[j] != 0) = true := by
    have := H5.out; rw [Int.toNat_natCast, List.getElem?_eq_getElem hjl] at this
    simp at this ⊢; exact this
  generalize SL[j] = v0 at *
  go_wp2_with fail
  go_ret
  exact ⟨rfl, hB3⟩
set_option maxHeartbeats 1000000 in
set_option maxRecDepth 100000 in
theorem phone_right6 (p : Phone) (w : World) (hr : RdPhone (· < w.heap.size) w p) (h1 : rngB p.id 0 11 = true) (H2 : Hid (holdsR p.H.l = true)) (H3 : Hid (notesR (p.N.l.map Note.d) = true)) (H4 : Hid (seenR p.S.l = true))
    (H5 : Hid (p.S.l[p.id.toNat]? = some 0)) :
    Calls Try.prog 19 #[p.v] w fun e w' => e = .returned (.bool (notesGo p.id 0 0 (p.N.l.map Note.d))) ∧ Below w.heap.size w w' := by
  obtain ⟨id, cut, H, N, S⟩ := p
  have h1' := rngB_iff.1 h1
  obtain ⟨h11, h12⟩ := h1'
  try simp only at h1 h11 h12
  obtain ⟨j, hj⟩ := Int.eq_ofNat_of_zero_le h11
  subst hj
  have hsl : S.l.length = 12 := by have := H4.out; simp only [seenR, Bool.and_eq_true] at this; exact of_decide_eq_true this.1
  have hjl : j < S.l.length := by omega
  have HSL := Lib.hid hsl
  clear hsl
  have HR := Lib.hid hr
  clear hr
  simp only [Phone.v]
  go_enter Try.func19, Try.ntmps19
  go_wp2_with (go_at_call 53; refine (phone_device _ _).mono ?_; rintro e w' ⟨rfl, rfl⟩)
  try simp only at hjl H5 h11 h12
  refine (phone_holds H _ (HR.out.1.lt_alloc _)).mono ?_
  rintro e w1 ⟨rfl, hb1⟩
  have K_a : Blk _ (w.heap.size) 33 #[.int .i64 ((j : Nat) : Int), .bool cut, .slice H.A H.l.length H.c, .slice N.A N.l.length N.c, .slice S.A S.l.length S.c] := qkb hb1
  obtain ⟨a0, a1, a2, a3, a4, af, az⟩ := Blk.b5 K_a
  have B_a := Lib.hid K_a
  clear K_a
  have hB1 : Below w.heap.size w w1 := Below.trans qbl (hb1.mono (by first | omega | (simp; done) | (simp; omega)))
  clear hb1
  rw [H2.out]
  go_wp2_with fail
  refine (merge_right N _ (HR.out.2.1.later hB1 (Nat.le_refl _))).mono ?_
  rintro e w2 ⟨rfl, hb2⟩
  clear a0 a1 a2 a3 a4 af
  have K_a : Blk _ (w.heap.size) 33 #[.int .i64 ((j : Nat) : Int), .bool cut, .slice H.A H.l.length H.c, .slice N.A N.l.length N.c, .slice S.A S.l.length S.c] := qkc B_a hb2
  obtain ⟨a0, a1, a2, a3, a4, af, az⟩ := Blk.b5 K_a
  have B_a := Lib.hid K_a
  clear K_a
  have hB2 : Below w.heap.size w w2 := Below.trans qbh (hb2.mono (by first | omega | (simp; done) | (simp; omega)))
  clear hb2
  rw [H3.out]
  go_wp2_with fail
  refine (phone_seen S _ (HR.out.2.2.below' hB2 (Nat.le_refl _))).mono ?_
  rintro e w3 ⟨rfl, hb3⟩
  clear a0 a1 a2 a3 a4 af
  have K_a : Blk _ (w.heap.size) 33 #[.int .i64 ((j : Nat) : Int), .bool cut, .slice H.A H.l.length H.c, .slice N.A N.l.length N.c, .slice S.A S.l.length S.c] := qkc B_a hb3
  obtain ⟨a0, a1, a2, a3, a4, af, az⟩ := Blk.b5 K_a
  have B_a := Lib.hid K_a
  clear K_a
  have hB3 : Below w.heap.size w w3 := Below.trans qbh (hb3.mono (by first | omega | (simp; done) | (simp; omega)))
  clear hb3
  rw [H4.out]
  obtain ⟨SA, SC, SL⟩ := S
  try simp only at hjl H5
  obtain ⟨b, o, rfl, hb, hcl⟩ := HR.out.2.2.at1 hjl
  have g0 := (hcl.keep (hB3.block b hb)).c1
  simp only [Nat.mul_one] at g0
  clear hcl
  have hne : SL[j] = 0 := by
    have := H5.out; rw [Int.toNat_natCast, List.getElem?_eq_getElem hjl] at this
    simpa using this
  rw [hne] at g0
  clear hne
  obtain ⟨NA, NC, NL⟩ := N
  have hnn := HR.out.2.1.1.len
  simp only at hnn
  go_wp2_with fail
  go_loopw [3, 40] (fun la i wr => ∃ (k : Nat) (q : Int), k ≤ NL.length ∧ la = .int .i64 q ∧ i = .int .i64 k ∧ Blk wr w.heap.size 33 #[.int .i64 ((j : Nat) : Int), .bool cut, .slice H.A H.l.length H.c, .slice NA NL.length NC, .slice (some ⟨b, o, none⟩) SL.length SC] ∧ Below w.heap.size w wr ∧ notesGo j 0 0 (NL.map Note.d) = notesGo j k q ((NL.drop k).map Note.d)) (fun _ i _ => NL.length - (intOf i).toNat)
  case atStart => exact ⟨0, 0, by omega, rfl, rfl, B_a.out, hB3, by simp⟩
  case round =>
    clear a0 a1 a2 a3 a4 af g0
    obtain ⟨k, q, hk, rfl, rfl, hblk, hbel, heq⟩ := hrel
    obtain ⟨a0, a1, a2, a3, a4, af, az'⟩ := hblk.b5
    have HB := Lib.hid hblk
    clear hblk
    have hhe : w.heap.size ≤ wr.heap.size := hbel.size
    by_cases hlt : k < NL.length
    · obtain ⟨b', o', rfl, hb', hcl'⟩ := HR.out.2.1.1.at1 hlt
      obtain ⟨g0, g1, g2, g3, g4⟩ := Cells.c5 (hcl'.keep (hbel.block b' hb'))
      have hd : NL.drop k = NL[k] :: NL.drop (k + 1) := List.drop_eq_getElem_cons hlt
      rw [hd, List.map_cons] at heq
      have HE := Lib.hid heq
      clear hd heq hcl' HR
      generalize NL[k] = y at *
      by_cases h1 : y.dev = (j : Int)
      · by_cases h2 : y.seq = (k : Int)
        · by_cases h3 : q ≤ y.tm
          · have e1 : (y.dev != (j : Int)) = false := by simp [h1]
            have e2 : (y.seq != (k : Int)) = false := by simp [h2]
            have E1 := Lib.hid h1
            have E2 := Lib.hid h2
            clear h1 h2
            go_wp2_with fail
            go_roundw
            case rel => exact ⟨k + 1, y.tm, by omega, rfl, by go_num, HB.out.alloc _, qbh, by rw [HE.out, notesGo_go E1.out E2.out h3]; simp [Note.d]⟩
            case measure => simp [intOf]; omega
          · have h3' : y.tm < q := by omega
            have e1 : (y.dev != (j : Int)) = false := by simp [h1]
            have e2 : (y.seq != (k : Int)) = false := by simp [h2]
            have E1 := Lib.hid h1
            have E2 := Lib.hid h2
            clear h1 h2
            go_wp2_with fail
            go_ret
            exact ⟨ret_bool (by rw [HE.out, notesGo_no (.inr (.inr h3'))]), qbh⟩
        · have e1 : (y.dev != (j : Int)) = false := by simp [h1]
          have e2 : (y.seq != (k : Int)) = true := by simp [h2]
          have E1 := Lib.hid h1
          have E2 := Lib.hid h2
          clear h1 h2
          go_wp2_with fail
          go_ret
          exact ⟨ret_bool (by rw [HE.out, notesGo_no (.inr (.inl E2.out))]), qbh⟩
      · have e1 : (y.dev != (j : Int)) = true := by simp [h1]
        have E1 := Lib.hid h1
        clear h1
        go_wp2_with fail
        go_ret
        exact ⟨ret_bool (by rw [HE.out, notesGo_no (.inl E1.out)]), qbh⟩
    · have hkl : NL.drop k = [] := List.drop_eq_nil_of_le (by omega)
      rw [hkl] at heq
      have HE := Lib.hid heq
      clear hkl heq HR
      go_wp2_with fail
      go_ret
      exact ⟨ret_bool (by rw [HE.out]; rfl), hbel⟩
theorem phone_right (p : Phone) (w : World) (hr : RdPhone (· < w.heap.size) w p) :
    Calls Try.prog 19 #[p.v] w fun e w' => e = .returned (.bool p.d.right) ∧ Below w.heap.size w w' := by
  unfold PhoneD.right
  simp only [Phone.d]
  rcases h1 : rngB p.id 0 11
  · exact phone_right1 p w hr h1
  · rcases h2 : holdsR p.H.l
    · exact phone_right2 p w hr h1 h2
    · rcases h3 : notesR (p.N.l.map Note.d)
      · exact phone_right3 p w hr h1 h2 h3
      · rcases h4 : seenR p.S.l
        · exact phone_right4 p w hr h1 h2 h3 h4
        · by_cases h5 : p.S.l[p.id.toNat]? = some 0
          · simp only [h5, decide_true, Bool.true_and]; exact phone_right6 p w hr h1 h2 h3 h4 h5
          · simp only [h5, decide_false, Bool.false_and, Bool.and_false]; exact phone_right5 p w hr h1 h2 h3 h4 h5
end Go.Proofs.Ythnblhbdfpmolaa
/- Walks of package stock: Right, copied, Free, fits. -/
namespace Go.Proofs.Ythnblhbdfpmolaa
open Go.RowKit

def rightGo (free last : Int) : List Loan → Bool
  | [] => true
  | l :: r => if l.p ≤ last ∨ 12 ≤ l.p ∨ l.u < 1 ∨ free < l.u ∨ l.s < 0 ∨ l.u < l.s then false else rightGo (free - l.u) l.p r
theorem rightGo_nil (f l : Int) : rightGo f l [] = true := rfl
theorem rightGo_no {f l : Int} {x : Loan} {r : List Loan} (h : x.p ≤ l ∨ 12 ≤ x.p ∨ x.u < 1 ∨ f < x.u ∨ x.s < 0 ∨ x.u < x.s) : rightGo f l (x :: r) = false := by
  simp only [rightGo, if_pos h]
theorem rightGo_go {f l : Int} {x : Loan} {r : List Loan} (h : ¬ (x.p ≤ l ∨ 12 ≤ x.p ∨ x.u < 1 ∨ f < x.u ∨ x.s < 0 ∨ x.u < x.s)) : rightGo f l (x :: r) = rightGo (f - x.u) x.p r := by
  simp only [rightGo, if_neg h]
def StockD.ok0 (x : StockD) : Prop := 0 ≤ x.T ∧ x.T ≤ 1000000000000000 ∧ 0 ≤ x.U ∧ x.U ≤ x.T
instance (x : StockD) : Decidable x.ok0 := by unfold StockD.ok0; infer_instance
def StockD.right (x : StockD) : Bool := if x.ok0 then rightGo (x.T - x.U) (-1) x.L else false
def Stock.v (x : Stock) : Value := .agg #[.int .i64 x.T, .int .i64 x.U, .slice x.L.A x.L.l.length x.L.c]

set_option maxHeartbeats 1000000 in
theorem stock_right_yes (s : Stock) (w : World) (hr : Rd (· < w.heap.size) 3 Loan.enc w s.L) (h0 : s.d.ok0) :
    Calls Try.prog 96 #[s.v] w fun e w' => e = .returned (.bool (rightGo (s.T - s.U) (-1) s.L.l)) ∧ Below w.heap.size w w' := by
  obtain ⟨T, U, A, c, L⟩ := s
  obtain ⟨h11, h12, h21, h22⟩ := h0
  simp only [Stock.d] at h11 h12 h21 h22
  have hn := hr.len
  simp only at hn
  have HR := Lib.hid hr
  clear hr
  simp only [Stock.v]
  go_enter Try.func96, Try.ntmps96
  go_wp2_with fail
  go_loopw [3, 4, 35] (fun fr la i wr => ∃ (k : Nat) (f l : Int), k ≤ L.length ∧ fr = .int .i64 f ∧ la = .int .i64 l ∧ i = .int .i64 k ∧ Below w.heap.size w wr ∧ w.heap.size < wr.heap.size ∧ 0 ≤ f ∧ f ≤ 1000000000000000 ∧
     rightGo (T - U) (-1) L = rightGo f l (L.drop k)) (fun _ _ i _ => L.length - (intOf i).toNat)
  case atStart => exact ⟨0, T - U, -1, by omega, rfl, rfl, rfl, (Below.refl _ _).alloc (Nat.le_refl _) _, by simp, by omega, by omega, by simp⟩
  case round =>
    obtain ⟨k, f, l, hk, rfl, rfl, rfl, hbel, hsz, hf1, hf2, heq⟩ := hrel
    have hhe : w.heap.size ≤ wr.heap.size := hbel.size
    by_cases hlt : k < L.length
    · obtain ⟨b, o, rfl, hb, hcl⟩ := HR.out.at1 hlt
      have hcl := hcl.keep (hbel.block b hb)
      obtain ⟨g0, g1, g2⟩ := Cells.c3 hcl
      have hd : L.drop k = L[k] :: L.drop (k + 1) := List.drop_eq_getElem_cons hlt
      rw [hd] at heq
      have HE := Lib.hid heq
      clear hd heq hcl HR
      generalize L[k] = x at *
      go_wp2_with fail
      all_goals first
        | (go_ret
           refine ⟨ret_bool ?_, hbel.alloc hhe _⟩
           rw [HE.out, rightGo_no (by omega)]
           done)
        | (go_roundw
           case rel => exact ⟨k + 1, f - x.u, x.p, by omega, rfl, rfl, by go_num, hbel.alloc hhe _, by simp; omega, by omega, by omega, by rw [HE.out, rightGo_go (by omega)]⟩
           case measure => simp [intOf]; omega)
    · have hkl : L.drop k = [] := List.drop_eq_nil_of_le (by omega)
      rw [hkl] at heq
      have HE := Lib.hid heq
      clear hkl heq HR
      go_wp2_with fail
      go_ret
      exact ⟨ret_bool (by rw [HE.out, rightGo_nil]), hbel⟩
set_option maxHeartbeats 1000000 in
theorem stock_right_no (s : Stock) (w : World) (h0 : ¬ s.d.ok0) :
    Calls Try.prog 96 #[s.v] w fun e w' => e = .returned (.bool false) ∧ Below w.heap.size w w' := by
  obtain ⟨T, U, A, c, L⟩ := s
  simp only [StockD.ok0, Stock.d] at h0
  have h3 : T < 0 ∨ 1000000000000000 < T ∨ U < 0 ∨ T < U := by omega
  clear h0
  simp only [Stock.v]
  rcases Int.lt_or_le T 0 with h | h
  rotate_left
  rcases Int.lt_or_le 1000000000000000 T with h | h
  rotate_left
  rcases Int.lt_or_le U 0 with h | h
  rotate_left
  have h4 : T < U := by omega
  clear h3
  all_goals
    go_enter Try.func96, Try.ntmps96
    go_wp2_with fail
    go_ret
    exact ⟨rfl, (Below.refl _ _).alloc (Nat.le_refl _) _⟩
theorem stock_right (s : Stock) (w : World) (hr : Rd (· < w.heap.size) 3 Loan.enc w s.L) :
    Calls Try.prog 96 #[s.v] w fun e w' => e = .returned (.bool s.d.right) ∧ Below w.heap.size w w' := by
  by_cases h0 : s.d.ok0
  · unfold StockD.right; rw [if_pos h0]; exact stock_right_yes s w hr h0
  · unfold StockD.right; rw [if_neg h0]; exact stock_right_no s w h0

set_option maxHeartbeats 400000 in
theorem stock_copied (s : Stock) (w : World) (hr : Rd (· < w.heap.size) 3 Loan.enc w s.L) (hb : s.L.l.length * 24 ≤ 140737488355328) :
    Calls Try.prog 98 #[s.v] w fun e w' => ∃ A c, e = .returned (.agg #[.int .i64 s.T, .int .i64 s.U, .slice A s.L.l.length c]) ∧ Own w.heap.size 136 3 Loan.enc w' ⟨A, c, s.L.l⟩ ∧ Below w.heap.size w w' := by
  obtain ⟨T, U, L⟩ := s
  have HR := Lib.hid hr
  clear hr
  simp only [Stock.v]
  go_enter Try.func98, Try.ntmps98
  go_wp2_with fail
  refine (clone_loan L _ ((HR.out.lt_alloc _).lt_alloc _) hb).mono ?_
  rintro e w1 ⟨A, c, rfl, hown, hb1⟩
  have K_a : Blk _ (w.heap.size) 66 #[.int .i64 T, .int .i64 U, .slice L.A L.l.length L.c] := qkb hb1
  obtain ⟨a0, a1, a2, af, az⟩ := Blk.b3 K_a
  have B_a := Lib.hid K_a
  clear K_a
  have K_b : Blk _ (w.heap.size + 1) 66 #[.int .i64 0, .int .i64 0, .slice none 0 0] := qkb hb1
  obtain ⟨b0, b1, b2, bf, bz⟩ := Blk.b3 K_b
  have B_b := Lib.hid K_b
  clear K_b
  have hB : Below w.heap.size w w1 := Below.trans qbl (hb1.mono (by simp; omega))
  have HO := Lib.hid (hown.mono (base' := w.heap.size + 2) (by simp))
  clear hown hb1
  go_wp2_with fail
  try simp only [Exit.inBlock, Exit.then]
  refine bodyPost_ret (v := .agg #[.int .i64 T, .int .i64 U, .slice A L.l.length c]) ?_ rfl ⟨A, c, rfl, Own.mono (base := w.heap.size + 2) (by repeat (first | (with_reducible exact HO.out) | ((with_reducible refine Own.farr ?_ ?_); focus (first | (simp; done) | (simp; omega) | omega)) | (with_reducible refine Own.alloc ?_ _) | (with_reducible refine Own.drew ?_) | (with_reducible refine Own.drewN ?_ _))) (by omega), qbh⟩
  simp [results, Try.results98, go_sem, a0, a1, a2, af, b0, b1, b2, bf]

def sumU (l : List Loan) : Int := (l.map Loan.u).sum
theorem sumU_cons (x : Loan) (l : List Loan) : sumU (x :: l) = x.u + sumU l := by simp [sumU]
def StockD.free (x : StockD) : Int := if x.right then x.T - x.U - sumU x.L else 0
theorem rightGo_sum : ∀ (l : List Loan) (f la : Int), rightGo f la l = true → 0 ≤ f → 0 ≤ sumU l ∧ sumU l ≤ f
  | [], _, _, _, h => by simp [sumU]; exact h
  | x :: l, f, la, h, h0 => by
    by_cases hx : x.p ≤ la ∨ 12 ≤ x.p ∨ x.u < 1 ∨ f < x.u ∨ x.s < 0 ∨ x.u < x.s
    · rw [rightGo_no hx] at h; cases h
    · rw [rightGo_go hx] at h
      have := rightGo_sum l _ _ h (by omega)
      rw [sumU_cons]; omega
theorem rightGo_mem : ∀ (l : List Loan) (f la : Int), rightGo f la l = true → ∀ x ∈ l, 1 ≤ x.u ∧ x.u ≤ f ∧ 0 ≤ x.s ∧ x.s ≤ x.u ∧ la < x.p ∧ x.p < 12
  | [], _, _, _, x, hx => by simp at hx
  | y :: l, f, la, h, x, hx => by
    by_cases hy : y.p ≤ la ∨ 12 ≤ y.p ∨ y.u < 1 ∨ f < y.u ∨ y.s < 0 ∨ y.u < y.s
    · rw [rightGo_no hy] at h; cases h
    · rw [rightGo_go hy] at h
      rcases List.mem_cons.1 hx with rfl | hx
      · omega
      · have := rightGo_mem l _ _ h x hx; omega
/-- What a right stock says. -/
theorem StockD.right_iff {x : StockD} (h : x.right = true) : x.ok0 ∧ rightGo (x.T - x.U) (-1) x.L = true := by
  unfold StockD.right at h
  split at h
  · exact ⟨‹_›, h⟩
  · cases h
set_option maxHeartbeats 1000000 in
theorem stock_free_yes (s : Stock) (w : World) (hr : Rd (· < w.heap.size) 3 Loan.enc w s.L) (h0 : s.d.right = true) :
    Calls Try.prog 52 #[s.v] w fun e w' => e = .returned (.int .i64 (s.d.T - s.d.U - sumU s.d.L)) ∧ Below w.heap.size w w' := by
  obtain ⟨T, U, L⟩ := s
  obtain ⟨⟨h11, h12, h21, h22⟩, hgo⟩ := StockD.right_iff h0
  simp only [Stock.d] at h11 h12 h21 h22 hgo
  have hn := hr.len
  have HG := Lib.hid hgo
  have HR := Lib.hid hr
  have H0 := Lib.hid h0
  clear hr h0 hgo
  simp only [Stock.v]
  go_enter Try.func52, Try.ntmps52
  go_wp2_with fail
  refine (stock_right ⟨T, U, L⟩ _ (HR.out.lt_alloc _)).mono ?_
  rintro e w1 ⟨rfl, hb1⟩
  rw [H0.out]
  have K_a : Blk _ (w.heap.size) 66 #[.int .i64 T, .int .i64 U, .slice L.A L.l.length L.c] := qkb hb1
  obtain ⟨a0, a1, a2, af, az⟩ := Blk.b3 K_a
  have B_a := Lib.hid K_a
  clear K_a
  have hB : Below w.heap.size w w1 := Below.trans qbl (hb1.mono (by simp))
  clear hb1
  go_wp2_with fail
  obtain ⟨A, c, L⟩ := L
  simp only at hn HG HR H0 ⊢
  go_loopw [3, 17] (fun fr i wr => ∃ (k : Nat) (f : Int), k ≤ L.length ∧ fr = .int .i64 f ∧ i = .int .i64 k ∧ Below w.heap.size w wr ∧ w1.heap.size ≤ wr.heap.size ∧ 0 ≤ f ∧ f ≤ 1000000000000000 ∧
     f - sumU (L.drop k) = T - U - sumU L ∧ sumU (L.drop k) ≤ f) (fun _ i _ => L.length - (intOf i).toNat)
  case atStart => exact ⟨0, T - U, by omega, rfl, rfl, hB, by omega, by omega, by omega, by simp, by simpa using (rightGo_sum _ _ _ HG.out (by omega)).2⟩
  case round =>
    obtain ⟨k, f, hk, rfl, rfl, hbel, hsz, hf1, hf2, heq, hle⟩ := hrel
    have hhe : w.heap.size ≤ wr.heap.size := hbel.size
    by_cases hlt : k < L.length
    · obtain ⟨b, o, rfl, hb, hcl⟩ := HR.out.at1 hlt
      have hcl := hcl.keep (hbel.block b hb)
      obtain ⟨g0, g1, g2⟩ := Cells.c3 hcl
      have hd : L.drop k = L[k] :: L.drop (k + 1) := List.drop_eq_getElem_cons hlt
      have hm := rightGo_mem _ _ _ HG.out L[k] (List.getElem_mem hlt)
      obtain ⟨m1, m2, -⟩ := hm
      have hm2 : 0 ≤ sumU (L.drop (k + 1)) := by
        have : ∀ x ∈ L.drop (k + 1), 1 ≤ x.u := fun x hx => (rightGo_mem _ _ _ HG.out x (List.mem_of_mem_drop hx)).1
        generalize L.drop (k + 1) = r at this
        induction r with
        | nil => simp [sumU]
        | cons y r ih => rw [sumU_cons]; have := this y (by simp); have := ih (fun x hx => by rename_i h; exact h x (by simp [hx])); omega
      rw [hd, sumU_cons] at heq hle
      have HE := Lib.hid heq
      have HD := Lib.hid hle
      have HM := Lib.hid hm2
      have hle' : L[k].u ≤ f := by omega
      clear hd heq hcl HR hle hm2
      generalize L[k] = x at *
      go_wp2_with fail
      go_roundw
      case rel => exact ⟨k + 1, f - x.u, by omega, rfl, by go_num, hbel.alloc hhe _, by simp; omega, by omega, by omega, by have := HE.out; omega, by have := HD.out; omega⟩
      case measure => simp [intOf]; omega
    · have hkl : L.drop k = [] := List.drop_eq_nil_of_le (by omega)
      rw [hkl] at heq
      have HE := Lib.hid heq
      clear hkl heq HR hle
      go_wp2_with fail
      go_ret
      exact ⟨ret_int (by have := HE.out; simp only [sumU, List.map_nil, List.sum_nil] at this ⊢; simpa [Stock.d, sumU] using this), hbel⟩

set_option maxHeartbeats 1000000 in
theorem stock_free (s : Stock) (w : World) (hr : Rd (· < w.heap.size) 3 Loan.enc w s.L) :
    Calls Try.prog 52 #[s.v] w fun e w' => e = .returned (.int .i64 s.d.free) ∧ Below w.heap.size w w' := by
  by_cases h0 : s.d.right = true
  · unfold StockD.free; rw [if_pos h0]; exact stock_free_yes s w hr h0
  · unfold StockD.free; rw [if_neg h0]
    obtain ⟨T, U, L⟩ := s
    have HR := Lib.hid hr
    have H0 := Lib.hid (Bool.eq_false_iff.2 h0)
    clear hr h0
    simp only [Stock.v]
    go_enter Try.func52, Try.ntmps52
    go_wp2_with fail
    refine (stock_right ⟨T, U, L⟩ _ (HR.out.lt_alloc _)).mono ?_
    rintro e w1 ⟨rfl, hb1⟩
    rw [H0.out]
    have hB : Below w.heap.size w w1 := Below.trans qbl (hb1.mono (by simp))
    clear hb1
    go_wp2_with fail
    go_ret
    exact ⟨rfl, hB⟩
def StockD.fits (x : StockD) (p n : Int) : Bool := x.right && (decide (0 ≤ p) && decide (p < 12) && decide (1 ≤ n) && decide (n ≤ 1000000000000000))
set_option maxHeartbeats 1000000 in
theorem stock_fits (s : Stock) (p n : Int) (w : World) (hr : Rd (· < w.heap.size) 3 Loan.enc w s.L) :
    Calls Try.prog 99 #[s.v, .int .i64 p, .int .i64 n] w fun e w' => e = .returned (.bool (s.d.fits p n)) ∧ Below w.heap.size w w' := by
  obtain ⟨T, U, L⟩ := s
  have HR := Lib.hid hr
  clear hr
  simp only [Stock.v]
  rcases hq : (Stock.d ⟨T, U, L⟩).right
  all_goals
    have H0 := Lib.hid hq
    clear hq
    go_enter Try.func99, Try.ntmps99
    go_wp2_with fail
    refine (stock_right ⟨T, U, L⟩ _ (HR.out.lt_alloc _)).mono ?_
    rintro e w1 ⟨rfl, hb1⟩
    rw [H0.out]
    have hB : Below w.heap.size w w1 := Below.trans qbl (hb1.mono (by simp))
    clear hb1
    go_wp2_with fail
    all_goals
      go_ret
      refine ⟨ret_bool ?_, hB⟩
      unfold StockD.fits
      rw [H0.out]
      simp <;> omega
end Go.Proofs.Ythnblhbdfpmolaa
