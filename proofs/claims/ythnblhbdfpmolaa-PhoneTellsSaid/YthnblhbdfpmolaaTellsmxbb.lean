/- Walks of the reference of layer 43: New, Cut. -/
import Derived.Test.YthnblhbdfpmolaaTellsmxaz
import Derived.Test.YthnblhbdfpmolaaTellsmxba
namespace Go.Proofs.Ythnblhbdfpmolaa
open Go.RowKit
theorem RdPhone.finM {A B C : Nat} {w : World} {s : Phone} (h : RdPhone (fun b => b < A ∨ (B ≤ b ∧ b < C)) w s) (hA : A ≤ w.heap.size) (hC : C ≤ w.heap.size) : RdPhone (· < w.heap.size) w s := h.mono fun b hb => by rcases hb with hb | hb <;> omega
theorem RdPhone.finB {A B C D : Nat} {w : World} {s : Phone} (h : RdPhone (fun b => b < A ∨ (B ≤ b ∧ b < C)) w s) (hD : D ≤ B) (hC : C ≤ w.heap.size) : RdPhone (fun b => b < A ∨ (D ≤ b ∧ b < w.heap.size)) w s := h.mono fun b hb => by rcases hb with hb | hb <;> omega
theorem RdNotes.finM {A B C : Nat} {w : World} {s : (Sl Note)} (h : RdNotes (fun b => b < A ∨ (B ≤ b ∧ b < C)) w s) (hA : A ≤ w.heap.size) (hC : C ≤ w.heap.size) : RdNotes (· < w.heap.size) w s := h.mono fun b hb => by rcases hb with hb | hb <;> omega
theorem RdNotes.finB {A B C D : Nat} {w : World} {s : (Sl Note)} (h : RdNotes (fun b => b < A ∨ (B ≤ b ∧ b < C)) w s) (hD : D ≤ B) (hC : C ≤ w.heap.size) : RdNotes (fun b => b < A ∨ (D ≤ b ∧ b < w.heap.size)) w s := h.mono fun b hb => by rcases hb with hb | hb <;> omega
theorem RdStocks.finM {A B C : Nat} {w : World} {s : (Sl Stock)} (h : RdStocks (fun b => b < A ∨ (B ≤ b ∧ b < C)) w s) (hA : A ≤ w.heap.size) (hC : C ≤ w.heap.size) : RdStocks (· < w.heap.size) w s := h.mono fun b hb => by rcases hb with hb | hb <;> omega
theorem RdStocks.finB {A B C D : Nat} {w : World} {s : (Sl Stock)} (h : RdStocks (fun b => b < A ∨ (B ≤ b ∧ b < C)) w s) (hD : D ≤ B) (hC : C ≤ w.heap.size) : RdStocks (fun b => b < A ∨ (D ≤ b ∧ b < w.heap.size)) w s := h.mono fun b hb => by rcases hb with hb | hb <;> omega
set_option maxHeartbeats 1000000 in
theorem rnew43 (n : Int) (w : World) :
    Calls Try.prog 17 #[.int .i64 n] w fun e w' => ∃ p : Phone, e = .returned (.tuple #[p.v, .int .i64 (newP n).2]) ∧ p.d = (newP n).1 ∧ RdPhone (· < w'.heap.size) w' p ∧ Below w.heap.size w w' := by
  have hmk : ∀ w, (Instr.makeSlice 24 (.int .i64 12) (.int .i64 12)).run Try.prog w = .ok (.slice (some ⟨w.heap.size, 0, none⟩) 12 12) (w.alloc (.cells (Array.replicate 12 (.int .i64 0)) 3)) := fun _ => by kernel_rfl
  unfold newP
  rcases hq : rngB n 0 11
  · go_enter Try.func17, Try.ntmps17
    go_wp2_with (go_at_call 54; refine (in43_any _ _ _ _).mono ?_; rintro e w' ⟨rfl, rfl⟩)
    try simp only [Exit.inBlock, Exit.then]
    refine bodyPost_ret (v := .tuple #[.agg #[.int .i64 0, .bool false, .slice none 0 0, .slice none 0 0, .slice none 0 0], .int .i64 1]) ?_ rfl ⟨⟨0, false, ⟨none, 0, []⟩, ⟨none, 0, []⟩, ⟨none, 0, []⟩⟩, rfl, rfl, ⟨Rd.nil _ _ _ _, ⟨Rd.nil _ _ _ _, by simp⟩, Rd.nil _ _ _ _⟩, qbl⟩
    simp [results, Try.results17, go_sem]
  · go_enter Try.func17, Try.ntmps17
    go_wp2_with (go_at_call 54; refine (in43_any _ _ _ _).mono ?_; rintro e w' ⟨rfl, rfl⟩)
    try simp only [Exit.inBlock, Exit.then]
    have HN := fun W : World => Lib.hid (Own.lit (base := 0) (e := 3) (k := 1) (enc := ienc) W (Array.replicate 12 (.int .i64 0)) (List.replicate 12 (0 : Int)) (Nat.zero_le _) (by simp [maxLen]) rfl ienc_k)
    refine bodyPost_ret (v := .tuple #[.agg #[.int .i64 n, .bool false, .slice none 0 0, .slice none 0 0, .slice (some ⟨w.heap.size + 1, 0, none⟩) 12 12], .int .i64 0]) ?_ rfl ⟨⟨n, false, ⟨none, 0, []⟩, ⟨none, 0, []⟩, ⟨some ⟨w.heap.size + 1, 0, none⟩, 12, List.replicate 12 (0:Int)⟩⟩, rfl, rfl, ⟨Rd.nil _ _ _ _, ⟨Rd.nil _ _ _ _, by simp⟩, ?_⟩, qbl⟩
    · simp [results, Try.results17, go_sem]
    · have := (HN (w.alloc (.cells #[.int .i64 n, .bool false, .slice none 0 0, .slice none 0 0, .slice (some ⟨w.heap.size + 1, 0, none⟩) 12 12] 26))).out
      rw [show (w.alloc (.cells #[.int .i64 n, .bool false, .slice none 0 0, .slice none 0 0, .slice (some ⟨w.heap.size + 1, 0, none⟩) 12 12] 26)).heap.size = w.heap.size + 1 from by simp] at this
      exact (this.rd ienc_k).mono fun b hb => hb.2
theorem rcopied43_r (p : Phone) (w : World) (hr : RdPhone (· < w.heap.size) w p) (h : p.d.right = true) :
    Calls Try.prog 67 #[p.v] w fun e w' => ∃ HA Hc NA Nc SA Sc, e = .returned (Phone.v ⟨p.id, p.cut, ⟨HA, Hc, p.H.l⟩, ⟨NA, Nc, p.N.l⟩, ⟨SA, Sc, p.S.l⟩⟩) ∧
      Own w.heap.size 59 3 Hold.enc w' ⟨HA, Hc, p.H.l⟩ ∧ Own w.heap.size 61 5 Note.enc w' ⟨NA, Nc, p.N.l⟩ ∧ Own w.heap.size 3 1 ienc w' ⟨SA, Sc, p.S.l⟩ ∧ Apart HA NA ∧ Apart HA SA ∧ Apart NA SA ∧ Below w.heap.size w w' := by
  have hr' := PhoneD.right_iff h
  have h1 := (holdsR_iff hr'.H).1
  have h2 := hr'.N
  have h3 := hr'.S
  simp only [Phone.d, List.length_map] at h1 h2 h3
  exact rcopied43 p w hr (by omega) (by omega) (by omega)
/-- What Copied gives, read. -/
theorem rcopied_rd {B : Nat} {w1 w2 : World} {id : Int} {cut : Bool} {H : List Hold} {N : Sl Note} {S : List Int} {HA : Option Addr} {Hc : Nat} {NA : Option Addr} {Nc : Nat} {SA : Option Addr} {Sc : Nat} (hn : ∀ n ∈ N.l, Rd (· < B) 1 ienc w1 n.af) (hb : Below w1.heap.size w1 w2) (h01 : B ≤ w1.heap.size)
    (hH : Own w1.heap.size 59 3 Hold.enc w2 ⟨HA, Hc, H⟩) (hN : Own w1.heap.size 61 5 Note.enc w2 ⟨NA, Nc, N.l⟩) (hS : Own w1.heap.size 3 1 ienc w2 ⟨SA, Sc, S⟩) :
    RdPhone (fun b => b < B ∨ (w1.heap.size ≤ b ∧ b < w2.heap.size)) w2 ⟨id, cut, ⟨HA, Hc, H⟩, ⟨NA, Nc, N.l⟩, ⟨SA, Sc, S⟩⟩ :=
  ⟨(hH.rd Hold.k).mono fun _ h => .inr h, ⟨(hN.rd Note.k).mono fun _ h => .inr h, fun n h => ((hn n h).keep fun b h => hb.block b (Nat.lt_of_lt_of_le h h01)).mono fun _ h => .inl h⟩, (hS.rd ienc_k).mono fun _ h => .inr h⟩
set_option maxHeartbeats 800000 in
theorem rcut_no (p : Phone) (w : World) (hr : RdPhone (· < w.heap.size) w p) (HF : Hid (p.d.right = false)) :
    Calls Try.prog 27 #[p.v] w fun e w' => e = .returned (.tuple #[p.v, .int .i64 1]) ∧ Below w.heap.size w w' := by
  obtain ⟨id, cut, H, N, S⟩ := p
  have HR := Lib.hid hr
  clear hr
  simp only [Phone.v]
  go_enter Try.func27, Try.ntmps27
  go_wp2_with fail
  refine (rright43 ⟨id, cut, H, N, S⟩ _ (HR.out.later qbl (Nat.le_refl _))).mono ?_
  rintro e w1 ⟨rfl, hb1⟩
  rw [HF.out]
  have K_a : Blk _ (w.heap.size) 26 #[.int .i64 id, .bool cut, .slice H.A H.l.length H.c, .slice N.A N.l.length N.c, .slice S.A S.l.length S.c] := qkb hb1
  obtain ⟨a0, a1, a2, a3, a4, af, az⟩ := Blk.b5 K_a
  have B_a := Lib.hid K_a
  clear K_a
  have K_b : Blk _ (w.heap.size + 1) 26 #[.int .i64 0, .bool false, .slice none 0 0, .slice none 0 0, .slice none 0 0] := qkb hb1
  obtain ⟨b0, b1, b2, b3, b4, bf, bz⟩ := Blk.b5 K_b
  have B_b := Lib.hid K_b
  clear K_b
  have hB1 : Below w.heap.size w w1 := qbv
  clear hb1
  go_wp2_with fail
  try simp only [Exit.inBlock, Exit.then]
  refine bodyPost_ret (v := .tuple #[.agg #[.int .i64 id, .bool cut, .slice H.A H.l.length H.c, .slice N.A N.l.length N.c, .slice S.A S.l.length S.c], .int .i64 1]) ?_ rfl ⟨rfl, qbh⟩
  simp [results, Try.results27, go_sem, a0, a1, a2, a3, a4, af, b0, b1, b2, b3, b4, bf]
set_option maxHeartbeats 800000 in
theorem rcut_cut (p : Phone) (w : World) (hr : RdPhone (· < w.heap.size) w p) (HF : Hid (p.d.right = true)) (hc : p.cut = true) :
    Calls Try.prog 27 #[p.v] w fun e w' => e = .returned (.tuple #[p.v, .int .i64 7]) ∧ Below w.heap.size w w' := by
  obtain ⟨id, cut, H, N, S⟩ := p
  simp only at hc
  subst hc
  have HR := Lib.hid hr
  clear hr
  simp only [Phone.v]
  go_enter Try.func27, Try.ntmps27
  go_wp2_with fail
  refine (rright43 ⟨id, true, H, N, S⟩ _ (HR.out.later qbl (Nat.le_refl _))).mono ?_
  rintro e w1 ⟨rfl, hb1⟩
  rw [HF.out]
  have K_a : Blk _ (w.heap.size) 26 #[.int .i64 id, .bool true, .slice H.A H.l.length H.c, .slice N.A N.l.length N.c, .slice S.A S.l.length S.c] := qkb hb1
  obtain ⟨a0, a1, a2, a3, a4, af, az⟩ := Blk.b5 K_a
  have B_a := Lib.hid K_a
  clear K_a
  have K_b : Blk _ (w.heap.size + 1) 26 #[.int .i64 0, .bool false, .slice none 0 0, .slice none 0 0, .slice none 0 0] := qkb hb1
  obtain ⟨b0, b1, b2, b3, b4, bf, bz⟩ := Blk.b5 K_b
  have B_b := Lib.hid K_b
  clear K_b
  have hB1 : Below w.heap.size w w1 := qbv
  clear hb1
  go_wp2_with fail
  try simp only [Exit.inBlock, Exit.then]
  refine bodyPost_ret (v := .tuple #[.agg #[.int .i64 id, .bool true, .slice H.A H.l.length H.c, .slice N.A N.l.length N.c, .slice S.A S.l.length S.c], .int .i64 7]) ?_ rfl ⟨rfl, qbh⟩
  simp [results, Try.results27, go_sem, a0, a1, a2, a3, a4, af, b0, b1, b2, b3, b4, bf]
set_option maxHeartbeats 800000 in
theorem rcut_ok (p : Phone) (w : World) (hr : RdPhone (· < w.heap.size) w p) (HF : Hid (p.d.right = true)) (hc : p.cut = false) (B : Nat) (hBB : B ≤ w.heap.size) (hFN : ∀ y ∈ p.N.l, Rd (· < B) 1 ienc w y.af) :
    Calls Try.prog 27 #[p.v] w fun e w' => ∃ p' : Phone, e = .returned (.tuple #[p'.v, .int .i64 0]) ∧ p'.d = { p.d with cut := true } ∧ RdPhone (fun b => b < B ∨ (w.heap.size ≤ b ∧ b < w'.heap.size)) w' p' ∧ Below w.heap.size w w' := by
  obtain ⟨id, cut, ⟨HA, Hc, HL⟩, ⟨NA, Nc, NL⟩, ⟨SA, Sc, SL⟩⟩ := p
  simp only at hc
  subst hc
  simp only at hFN
  have HFN := Lib.hid hFN
  clear hFN
  generalize hHd : (⟨HA, Hc, HL⟩ : Sl Hold) = H at *
  have HFN2 : Hid (∀ y ∈ (⟨NA, Nc, NL⟩ : Sl Note).l, Rd (· < B) 1 ienc w y.af) := HFN
  clear HFN
  generalize hNd : (⟨NA, Nc, NL⟩ : Sl Note) = N at *
  generalize hSd : (⟨SA, Sc, SL⟩ : Sl Int) = S at *
  clear hHd hNd hSd
  have HR := Lib.hid hr
  clear hr
  simp only [Phone.v]
  go_enter Try.func27, Try.ntmps27
  go_wp2_with fail
  refine (rright43 ⟨id, false, H, N, S⟩ _ (HR.out.later qbl (Nat.le_refl _))).mono ?_
  rintro e w1 ⟨rfl, hb1⟩
  rw [HF.out]
  have K_a : Blk _ (w.heap.size) 26 #[.int .i64 id, .bool false, .slice H.A H.l.length H.c, .slice N.A N.l.length N.c, .slice S.A S.l.length S.c] := qkb hb1
  obtain ⟨a0, a1, a2, a3, a4, af, az⟩ := Blk.b5 K_a
  have B_a := Lib.hid K_a
  clear K_a
  have K_b : Blk _ (w.heap.size + 1) 26 #[.int .i64 0, .bool false, .slice none 0 0, .slice none 0 0, .slice none 0 0] := qkb hb1
  obtain ⟨b0, b1, b2, b3, b4, bf, bz⟩ := Blk.b5 K_b
  have B_b := Lib.hid K_b
  clear K_b
  have hB1 : Below w.heap.size w w1 := qbv
  clear hb1
  go_wp2_with fail
  refine (rcopied43_r ⟨id, false, H, N, S⟩ _ (HR.out.later qbh (Nat.le_refl _)) HF.out).mono ?_
  rintro e w2 ⟨HA, Hc, NA, Nc, SA, Sc, rfl, oH, oN, oS, -, -, -, hb2⟩
  clear a0 a1 a2 a3 a4 af b0 b1 b2 b3 b4 bf
  have K_a : Blk _ (w.heap.size) 26 #[.int .i64 id, .bool false, .slice H.A H.l.length H.c, .slice N.A N.l.length N.c, .slice S.A S.l.length S.c] := qkc B_a hb2
  obtain ⟨a0, a1, a2, a3, a4, af, az⟩ := Blk.b5 K_a
  have B_a := Lib.hid K_a
  clear K_a
  have K_b : Blk _ (w.heap.size + 1) 26 #[.int .i64 0, .bool false, .slice none 0 0, .slice none 0 0, .slice none 0 0] := qkc B_b hb2
  obtain ⟨b0, b1, b2, b3, b4, bf, bz⟩ := Blk.b5 K_b
  have B_b := Lib.hid K_b
  clear K_b
  have hB2 : Below w.heap.size w w2 := qbv
  have HP2 : Hid (RdPhone (fun b => b < B ∨ (w1.heap.size ≤ b ∧ b < w2.heap.size)) w2 ⟨id, true, ⟨HA, Hc, H.l⟩, ⟨NA, Nc, N.l⟩, ⟨SA, Sc, S.l⟩⟩) := Lib.hid (rcopied_rd (fun y hy => (HFN2.out y hy).keep fun b hb => hB1.block b (by omega)) hb2 (Nat.le_trans hBB hB1.size) oH oN oS)
  clear hb2 oH oN oS
  simp only [Phone.v]
  go_wp2_with fail
  try simp only [Exit.inBlock, Exit.then]
  refine bodyPost_ret (v := .tuple #[.agg #[.int .i64 id, .bool true, .slice HA H.l.length Hc, .slice NA N.l.length Nc, .slice SA S.l.length Sc], .int .i64 0]) ?_ rfl ⟨⟨id, true, ⟨HA, Hc, H.l⟩, ⟨NA, Nc, N.l⟩, ⟨SA, Sc, S.l⟩⟩, rfl, rfl, ?_, qbv⟩
  simp [results, Try.results27, go_sem, a0, a1, a2, a3, a4, af, b0, b1, b2, b3, b4, bf, az, bz]
  exact (by refine RdPhone.finB (A := B) (D := w.heap.size) (B := w1.heap.size) (C := w2.heap.size) ?_ (by omega) (by first | omega | (simp; done) | (simp; omega)); repeat (first | (with_reducible exact HP2.out) | ((with_reducible refine RdPhone.setr ?_ ?_); focus (first | (simp; done) | (simp; omega))) | ((with_reducible refine RdPhone.allocr ?_ ?_); focus (intro b hb; (try simp); omega)) | (with_reducible refine RdPhone.drewr ?_) | (with_reducible refine RdPhone.drewNr ?_ _)))
theorem rcut (p : Phone) (w : World) (hr : RdPhone (· < w.heap.size) w p) (B : Nat) (hBB : B ≤ w.heap.size) (hFN : ∀ y ∈ p.N.l, Rd (· < B) 1 ienc w y.af) :
    Calls Try.prog 27 #[p.v] w fun e w' => ∃ p' : Phone, e = .returned (.tuple #[p'.v, .int .i64 p.d.cutS.2]) ∧ p'.d = p.d.cutS.1 ∧ Hid (p' = p ∨ RdPhone (fun b => b < B ∨ (w.heap.size ≤ b ∧ b < w'.heap.size)) w' p') ∧ Below w.heap.size w w' := by
  unfold PhoneD.cutS
  rcases hF : p.d.right
  · refine (rcut_no p w hr hF).mono ?_
    rintro e w' ⟨rfl, hb⟩
    exact ⟨p, rfl, rfl, .inl rfl, hb⟩
  · rcases hc : p.cut
    · have hc' : p.d.cut = false := hc
      simp only [hc', Bool.false_eq_true, if_false, if_true]
      refine (rcut_ok p w hr hF hc B hBB hFN).mono ?_
      rintro e w' ⟨p', h1, h2, h3, h4⟩
      exact ⟨p', h1, h2, .inr h3, h4⟩
    · have hc' : p.d.cut = true := hc
      simp only [hc', if_true]
      refine (rcut_cut p w hr hF hc).mono ?_
      rintro e w' ⟨rfl, hb⟩
      exact ⟨p, rfl, rfl, .inl rfl, hb⟩
end Go.Proofs.Ythnblhbdfpmolaa
