/- Walks of package phone: Cut. -/
import Derived.Test.YthnblhbdfpmolaaPNotemxal
namespace Go.Proofs.Ythnblhbdfpmolaa
open Go.RowKit
structure RightP (p : PhoneD) : Prop where
  id0 : 0 ≤ p.id
  id1 : p.id ≤ 11
  H : holdsR p.H = true
  N : p.N.length ≤ 10000
  NR : ∀ n ∈ p.N, n.right = true
  S : p.S.length = 12
  SR : ∀ n ∈ p.S, 0 ≤ n ∧ n ≤ 10000
  S0 : p.S[p.id.toNat]? = some 0
  G : notesGo p.id 0 0 p.N = true
theorem PhoneD.right_iff {p : PhoneD} (h : p.right = true) : RightP p := by
  unfold PhoneD.right at h
  simp only [Bool.and_eq_true, notesR, seenR, decide_eq_true_eq, List.all_eq_true] at h
  obtain ⟨h1, h2, ⟨h3, h4⟩, ⟨h5, h6⟩, h7, h8⟩ := h
  have := rngB_iff.1 h1
  exact ⟨this.1, this.2, h2, h3, h4, h5, fun n hn => rngB_iff.1 (h6 n hn), h7, h8⟩
theorem NoteD.right_ok {n : NoteD} (h : n.right = true) : 0 ≤ n.dev ∧ n.dev ≤ 11 ∧ 0 ≤ n.seq ∧ n.seq ≤ 9999 ∧ 0 ≤ n.tm ∧ n.tm ≤ 1048576 ∧ n.af.length ≤ 12 ∧ n.tx.size ≤ 20000 := by
  unfold NoteD.right at h
  split at h
  · rename_i h0
    simp only [NoteD.ok0, Bool.and_eq_true, decide_eq_true_eq, rngB_iff] at h0
    omega
  · cases h
theorem phone_copied_r (p : Phone) (w : World) (hr : RdPhone (· < w.heap.size) w p) (h : p.d.right = true) :
    Calls Try.prog 62 #[p.v] w fun e w' => ∃ p' : Phone, e = .returned p'.v ∧ p'.d = p.d ∧ (∃ m, OwnPhone w.heap.size m w' p') ∧ Below w.heap.size w w' := by
  have hr' := PhoneD.right_iff h
  have h1 := (holdsR_iff hr'.H).1
  have h2 := hr'.N
  have h3 := hr'.S
  simp only [Phone.d, List.length_map] at h1 h2 h3
  refine phone_copied p w hr (by omega) (by omega) (by omega) fun n hn => ?_
  have := (NoteD.right_ok (hr'.NR n.d (List.mem_map_of_mem (f := Note.d) hn))).2.2.2.2.2.2.1
  simp only [Note.d] at this
  omega
theorem OwnPhone.rd' {base m : Nat} {w : World} {p : Phone} (h : OwnPhone base m w p) : RdPhone (fun b => base ≤ b ∧ b < w.heap.size) w p :=
  ⟨h.H.rd Hold.k, ⟨h.N.rd Note.k, fun n hn => (h.af n hn).mono fun _ hb => ⟨Nat.le_trans h.mb hb.1, hb.2⟩⟩, h.S.rd ienc_k⟩
theorem OwnPhone.rd {base m : Nat} {w : World} {p : Phone} (h : OwnPhone base m w p) : RdPhone (· < w.heap.size) w p :=
  ⟨(h.H.rd Hold.k).mono fun _ hb => hb.2, ⟨(h.N.rd Note.k).mono fun _ hb => hb.2, fun n hn => (h.af n hn).mono fun _ hb => hb.2⟩, (h.S.rd ienc_k).mono fun _ hb => hb.2⟩
def PhoneD.cutS (p : PhoneD) : PhoneD × Int := if p.right then (if p.cut then (p, 7) else ({ p with cut := true }, 0)) else (p, 1)
theorem RdPhone.setr {F : Nat → Prop} {w : World} {s : Phone} {p : Addr} {u : Value} (hp : ¬ F p.block) (h : RdPhone F w s) : RdPhone F (w.setCell p u) s := h.keep fun b hb => Below.heap_setCell w p u b (fun e => hp (e ▸ hb))
theorem RdPhone.allocr {F : Nat → Prop} {w : World} {s : Phone} {o : Obj} (hF : ∀ b, F b → b < w.heap.size) (h : RdPhone F w s) : RdPhone F (w.alloc o) s := h.keep fun b hb => Below.heap_alloc w o b (hF b hb)
theorem RdPhone.fin2 {A B C : Nat} {w : World} {s : Phone} (h : RdPhone (fun b => B ≤ b ∧ b < C) w s) (hA : A ≤ B) (hC : C ≤ w.heap.size) : RdPhone (fun b => A ≤ b ∧ b < w.heap.size) w s := h.mono fun b hb => ⟨Nat.le_trans hA hb.1, Nat.lt_of_lt_of_le hb.2 hC⟩
theorem RdPhone.fin {B C : Nat} {w : World} {s : Phone} (h : RdPhone (fun b => B ≤ b ∧ b < C) w s) (hC : C ≤ w.heap.size) : RdPhone (· < w.heap.size) w s := h.mono fun _ hb => Nat.lt_of_lt_of_le hb.2 hC
theorem RdPhone.drewr {F : Nat → Prop} {w : World} {s : Phone} (h : RdPhone F w s) : RdPhone F w.drew s := h
theorem RdPhone.drewNr {F : Nat → Prop} {w : World} {s : Phone} (h : RdPhone F w s) (n : Nat) : RdPhone F (w.drewN n) s := h
theorem RdNotes.setr {F : Nat → Prop} {w : World} {s : (Sl Note)} {p : Addr} {u : Value} (hp : ¬ F p.block) (h : RdNotes F w s) : RdNotes F (w.setCell p u) s := h.keep fun b hb => Below.heap_setCell w p u b (fun e => hp (e ▸ hb))
theorem RdNotes.allocr {F : Nat → Prop} {w : World} {s : (Sl Note)} {o : Obj} (hF : ∀ b, F b → b < w.heap.size) (h : RdNotes F w s) : RdNotes F (w.alloc o) s := h.keep fun b hb => Below.heap_alloc w o b (hF b hb)
theorem RdNotes.fin2 {A B C : Nat} {w : World} {s : (Sl Note)} (h : RdNotes (fun b => B ≤ b ∧ b < C) w s) (hA : A ≤ B) (hC : C ≤ w.heap.size) : RdNotes (fun b => A ≤ b ∧ b < w.heap.size) w s := h.mono fun b hb => ⟨Nat.le_trans hA hb.1, Nat.lt_of_lt_of_le hb.2 hC⟩
theorem RdNotes.fin {B C : Nat} {w : World} {s : (Sl Note)} (h : RdNotes (fun b => B ≤ b ∧ b < C) w s) (hC : C ≤ w.heap.size) : RdNotes (· < w.heap.size) w s := h.mono fun _ hb => Nat.lt_of_lt_of_le hb.2 hC
theorem RdNotes.drewr {F : Nat → Prop} {w : World} {s : (Sl Note)} (h : RdNotes F w s) : RdNotes F w.drew s := h
theorem RdNotes.drewNr {F : Nat → Prop} {w : World} {s : (Sl Note)} (h : RdNotes F w s) (n : Nat) : RdNotes F (w.drewN n) s := h
theorem RdStocks.setr {F : Nat → Prop} {w : World} {s : (Sl Stock)} {p : Addr} {u : Value} (hp : ¬ F p.block) (h : RdStocks F w s) : RdStocks F (w.setCell p u) s := h.keep fun b hb => Below.heap_setCell w p u b (fun e => hp (e ▸ hb))
theorem RdStocks.allocr {F : Nat → Prop} {w : World} {s : (Sl Stock)} {o : Obj} (hF : ∀ b, F b → b < w.heap.size) (h : RdStocks F w s) : RdStocks F (w.alloc o) s := h.keep fun b hb => Below.heap_alloc w o b (hF b hb)
theorem RdStocks.fin2 {A B C : Nat} {w : World} {s : (Sl Stock)} (h : RdStocks (fun b => B ≤ b ∧ b < C) w s) (hA : A ≤ B) (hC : C ≤ w.heap.size) : RdStocks (fun b => A ≤ b ∧ b < w.heap.size) w s := h.mono fun b hb => ⟨Nat.le_trans hA hb.1, Nat.lt_of_lt_of_le hb.2 hC⟩
theorem RdStocks.fin {B C : Nat} {w : World} {s : (Sl Stock)} (h : RdStocks (fun b => B ≤ b ∧ b < C) w s) (hC : C ≤ w.heap.size) : RdStocks (· < w.heap.size) w s := h.mono fun _ hb => Nat.lt_of_lt_of_le hb.2 hC
theorem RdStocks.drewr {F : Nat → Prop} {w : World} {s : (Sl Stock)} (h : RdStocks F w s) : RdStocks F w.drew s := h
theorem RdStocks.drewNr {F : Nat → Prop} {w : World} {s : (Sl Stock)} (h : RdStocks F w s) (n : Nat) : RdStocks F (w.drewN n) s := h
set_option maxHeartbeats 800000 in
theorem phone_cut_no (p : Phone) (w : World) (hr : RdPhone (· < w.heap.size) w p) (HF : Hid (p.d.right = false)) :
    Calls Try.prog 26 #[p.v] w fun e w' => e = .returned (.tuple #[p.v, .int .i64 1]) ∧ Below w.heap.size w w' := by
  obtain ⟨id, cut, H, N, S⟩ := p
  have HR := Lib.hid hr
  clear hr
  simp only [Phone.v]
  go_enter Try.func26, Try.ntmps26
  go_wp2_with fail
  refine (phone_right ⟨id, cut, H, N, S⟩ _ (HR.out.later qbl (Nat.le_refl _))).mono ?_
  rintro e w1 ⟨rfl, hb1⟩
  rw [HF.out]
  have K_a : Blk _ (w.heap.size) 33 #[.int .i64 id, .bool cut, .slice H.A H.l.length H.c, .slice N.A N.l.length N.c, .slice S.A S.l.length S.c] := qkb hb1
  obtain ⟨a0, a1, a2, a3, a4, af, az⟩ := Blk.b5 K_a
  have B_a := Lib.hid K_a
  clear K_a
  have K_b : Blk _ (w.heap.size + 1) 33 #[.int .i64 0, .bool false, .slice none 0 0, .slice none 0 0, .slice none 0 0] := qkb hb1
  obtain ⟨b0, b1, b2, b3, b4, bf, bz⟩ := Blk.b5 K_b
  have B_b := Lib.hid K_b
  clear K_b
  have hB1 : Below w.heap.size w w1 := qbv
  clear hb1
  go_wp2_with fail
  try simp only [Exit.inBlock, Exit.then]
  refine bodyPost_ret (v := .tuple #[.agg #[.int .i64 id, .bool cut, .slice H.A H.l.length H.c, .slice N.A N.l.length N.c, .slice S.A S.l.length S.c], .int .i64 1]) ?_ rfl ⟨rfl, qbh⟩
  simp [results, Try.results26, go_sem, a0, a1, a2, a3, a4, af, b0, b1, b2, b3, b4, bf]
set_option maxHeartbeats 800000 in
theorem phone_cut_cut (p : Phone) (w : World) (hr : RdPhone (· < w.heap.size) w p) (HF : Hid (p.d.right = true)) (hc : p.cut = true) :
    Calls Try.prog 26 #[p.v] w fun e w' => e = .returned (.tuple #[p.v, .int .i64 7]) ∧ Below w.heap.size w w' := by
  obtain ⟨id, cut, H, N, S⟩ := p
  simp only at hc
  subst hc
  have HR := Lib.hid hr
  clear hr
  simp only [Phone.v]
  go_enter Try.func26, Try.ntmps26
  go_wp2_with fail
  refine (phone_right ⟨id, true, H, N, S⟩ _ (HR.out.later qbl (Nat.le_refl _))).mono ?_
  rintro e w1 ⟨rfl, hb1⟩
  rw [HF.out]
  have K_a : Blk _ (w.heap.size) 33 #[.int .i64 id, .bool true, .slice H.A H.l.length H.c, .slice N.A N.l.length N.c, .slice S.A S.l.length S.c] := qkb hb1
  obtain ⟨a0, a1, a2, a3, a4, af, az⟩ := Blk.b5 K_a
  have B_a := Lib.hid K_a
  clear K_a
  have K_b : Blk _ (w.heap.size + 1) 33 #[.int .i64 0, .bool false, .slice none 0 0, .slice none 0 0, .slice none 0 0] := qkb hb1
  obtain ⟨b0, b1, b2, b3, b4, bf, bz⟩ := Blk.b5 K_b
  have B_b := Lib.hid K_b
  clear K_b
  have hB1 : Below w.heap.size w w1 := qbv
  clear hb1
  go_wp2_with fail
  try simp only [Exit.inBlock, Exit.then]
  refine bodyPost_ret (v := .tuple #[.agg #[.int .i64 id, .bool true, .slice H.A H.l.length H.c, .slice N.A N.l.length N.c, .slice S.A S.l.length S.c], .int .i64 7]) ?_ rfl ⟨rfl, qbh⟩
  simp [results, Try.results26, go_sem, a0, a1, a2, a3, a4, af, b0, b1, b2, b3, b4, bf]
set_option maxHeartbeats 800000 in
theorem phone_cut_ok (p : Phone) (w : World) (hr : RdPhone (· < w.heap.size) w p) (HF : Hid (p.d.right = true)) (hc : p.cut = false) :
    Calls Try.prog 26 #[p.v] w fun e w' => ∃ p' : Phone, e = .returned (.tuple #[p'.v, .int .i64 0]) ∧ p'.d = { p.d with cut := true } ∧ RdPhone (fun b => w.heap.size ≤ b ∧ b < w'.heap.size) w' p' ∧ Below w.heap.size w w' := by
  obtain ⟨id, cut, H, N, S⟩ := p
  simp only at hc
  subst hc
  have HR := Lib.hid hr
  clear hr
  simp only [Phone.v]
  go_enter Try.func26, Try.ntmps26
  go_wp2_with fail
  refine (phone_right ⟨id, false, H, N, S⟩ _ (HR.out.later qbl (Nat.le_refl _))).mono ?_
  rintro e w1 ⟨rfl, hb1⟩
  rw [HF.out]
  have K_a : Blk _ (w.heap.size) 33 #[.int .i64 id, .bool false, .slice H.A H.l.length H.c, .slice N.A N.l.length N.c, .slice S.A S.l.length S.c] := qkb hb1
  obtain ⟨a0, a1, a2, a3, a4, af, az⟩ := Blk.b5 K_a
  have B_a := Lib.hid K_a
  clear K_a
  have K_b : Blk _ (w.heap.size + 1) 33 #[.int .i64 0, .bool false, .slice none 0 0, .slice none 0 0, .slice none 0 0] := qkb hb1
  obtain ⟨b0, b1, b2, b3, b4, bf, bz⟩ := Blk.b5 K_b
  have B_b := Lib.hid K_b
  clear K_b
  have hB1 : Below w.heap.size w w1 := qbv
  clear hb1
  go_wp2_with fail
  refine (phone_copied_r ⟨id, false, H, N, S⟩ _ (HR.out.later qbh (Nat.le_refl _)) HF.out).mono ?_
  rintro e w2 ⟨⟨id', cut', H', N', S'⟩, rfl, hd, ⟨m, hO⟩, hb2⟩
  clear a0 a1 a2 a3 a4 af b0 b1 b2 b3 b4 bf
  have K_a : Blk _ (w.heap.size) 33 #[.int .i64 id, .bool false, .slice H.A H.l.length H.c, .slice N.A N.l.length N.c, .slice S.A S.l.length S.c] := qkc B_a hb2
  obtain ⟨a0, a1, a2, a3, a4, af, az⟩ := Blk.b5 K_a
  have B_a := Lib.hid K_a
  clear K_a
  have K_b : Blk _ (w.heap.size + 1) 33 #[.int .i64 0, .bool false, .slice none 0 0, .slice none 0 0, .slice none 0 0] := qkc B_b hb2
  obtain ⟨b0, b1, b2, b3, b4, bf, bz⟩ := Blk.b5 K_b
  have B_b := Lib.hid K_b
  clear K_b
  have hB2 : Below w.heap.size w w2 := qbv
  have HO := Lib.hid hO.rd'
  have HD := Lib.hid hd
  clear hb2 hO hd
  simp only [Phone.v]
  go_wp2_with fail
  have HD2 : Hid (Phone.d ⟨id', true, H', N', S'⟩ = { Phone.d ⟨id, false, H, N, S⟩ with cut := true }) := Lib.hid (by have := HD.out; simp only [Phone.d, PhoneD.mk.injEq] at this ⊢; simp [this])
  have HO2 : Hid (RdPhone (fun b => w1.heap.size ≤ b ∧ b < w2.heap.size) w2 ⟨id', true, H', N', S'⟩) := Lib.hid HO.out
  try simp only [Exit.inBlock, Exit.then]
  refine bodyPost_ret (v := .tuple #[.agg #[.int .i64 id', .bool true, .slice H'.A H'.l.length H'.c, .slice N'.A N'.l.length N'.c, .slice S'.A S'.l.length S'.c], .int .i64 0]) ?_ rfl ⟨⟨id', true, H', N', S'⟩, rfl, HD2.out, ?_, qbv⟩
  simp [results, Try.results26, go_sem, a0, a1, a2, a3, a4, af, b0, b1, b2, b3, b4, bf, az, bz]
  exact (by refine RdPhone.fin2 (A := w.heap.size) (B := w1.heap.size) (C := w2.heap.size) ?_ (by first | omega | (simp; omega)) (by first | omega | (simp; done) | (simp; omega)); repeat (first | (with_reducible exact HO2.out) | ((with_reducible refine RdPhone.setr ?_ ?_); focus (first | (simp; done) | (simp; omega))) | ((with_reducible refine RdPhone.allocr ?_ ?_); focus (intro b hb; have hb2 := hb.2; first | omega | (simp; omega))) | (with_reducible refine RdPhone.drewr ?_) | (with_reducible refine RdPhone.drewNr ?_ _)))
theorem phone_cut_s (p : Phone) (w : World) (hr : RdPhone (· < w.heap.size) w p) :
    Calls Try.prog 26 #[p.v] w fun e w' => ∃ p' : Phone, e = .returned (.tuple #[p'.v, .int .i64 p.d.cutS.2]) ∧ p'.d = p.d.cutS.1 ∧ Hid (p' = p ∨ RdPhone (fun b => w.heap.size ≤ b ∧ b < w'.heap.size) w' p') ∧ Below w.heap.size w w' := by
  unfold PhoneD.cutS
  rcases hF : p.d.right
  · refine (phone_cut_no p w hr hF).mono ?_
    rintro e w' ⟨rfl, hb⟩
    exact ⟨p, rfl, rfl, .inl rfl, hb⟩
  · rcases hc : p.cut
    · have hc' : p.d.cut = false := hc
      simp only [hc', Bool.false_eq_true, if_false, if_true]
      refine (phone_cut_ok p w hr hF hc).mono ?_
      rintro e w' ⟨p', h1, h2, h3, h4⟩
      exact ⟨p', h1, h2, .inr h3, h4⟩
    · have hc' : p.d.cut = true := hc
      simp only [hc', if_true]
      refine (phone_cut_cut p w hr hF hc).mono ?_
      rintro e w' ⟨rfl, hb⟩
      exact ⟨p, rfl, rfl, .inl rfl, hb⟩
theorem phone_cut (p : Phone) (w : World) (hr : RdPhone (· < w.heap.size) w p) :
    Calls Try.prog 26 #[p.v] w fun e w' => ∃ p' : Phone, e = .returned (.tuple #[p'.v, .int .i64 p.d.cutS.2]) ∧ p'.d = p.d.cutS.1 ∧ RdPhone (· < w'.heap.size) w' p' ∧ Below w.heap.size w w' := by
  refine (phone_cut_s p w hr).mono ?_
  rintro e w' ⟨p', h1, h2, h3, h4⟩
  refine ⟨p', h1, h2, ?_, h4⟩
  rcases h3.out with rfl | h3
  · exact hr.later h4 (Nat.le_refl _)
  · exact h3.mono fun b hb => hb.2
end Go.Proofs.Ythnblhbdfpmolaa
/- Walks of package phone: Promise. -/
namespace Go.Proofs.Ythnblhbdfpmolaa
open Go.RowKit
def lateN (l : List NoteD) (t : Int) : Bool := match l.getLast? with | some x => decide (t < x.tm) | none => false
def okPro (p : PhoneD) (n t : Int) (tx : ByteArray) : Bool := p.right && (rngB n 1 1000000000000000 && (rngB t 0 1048576 && decide (tx.size ≤ 20000)))
def PhoneD.promise (p : PhoneD) (k n t : Int) (tx : ByteArray) : PhoneD × Int :=
  if okPro p n t tx then
    (match p.H[hidx p.H k]? with
     | some h => if hhas p.H k then
          (if h.u - h.s < n then (p, 21) else if lateN p.N t then (p, 19) else if p.N.length = 10000 then (p, 6)
           else ({ p with H := p.H.set (hidx p.H k) { h with s := h.s + n }, N := p.N ++ [⟨p.id, p.N.length, p.S, t, tx⟩] }, 0))
        else (p, 4)
     | none => (p, 4))
  else (p, 1)
set_option maxHeartbeats 800000 in
theorem phone_promise_no (p : Phone) (k n t : Int) (tx : ByteArray) (w : World) (hr : RdPhone (· < w.heap.size) w p) (hf : okPro p.d n t tx = false) :
    Calls Try.prog 24 #[p.v, .int .i64 k, .int .i64 n, .int .i64 t, .string tx] w fun e w' => e = .returned (.tuple #[p.v, .int .i64 1]) ∧ Below w.heap.size w w' := by
  unfold okPro at hf
  rcases hF : p.d.right
  · have HF := Lib.hid hF
    clear hF hf
    obtain ⟨id, cut, H, N, S⟩ := p
    have HR := Lib.hid hr
    clear hr
    simp only [Phone.v]
    go_enter Try.func24, Try.ntmps24
    go_wp2_with fail
    refine (phone_right ⟨id, cut, H, N, S⟩ _ (HR.out.later qbl (Nat.le_refl _))).mono ?_
    rintro e w1 ⟨rfl, hb1⟩
    rw [HF.out]
    have K_a : Blk _ (w.heap.size) 33 #[.int .i64 id, .bool cut, .slice H.A H.l.length H.c, .slice N.A N.l.length N.c, .slice S.A S.l.length S.c] := qkb hb1
    obtain ⟨a0, a1, a2, a3, a4, af, az⟩ := Blk.b5 K_a
    have B_a := Lib.hid K_a
    clear K_a
    have K_b : Blk _ (w.heap.size + 1) 33 #[.int .i64 0, .bool false, .slice none 0 0, .slice none 0 0, .slice none 0 0] := qkb hb1
    obtain ⟨b0, b1, b2, b3, b4, bf, bz⟩ := Blk.b5 K_b
    have B_b := Lib.hid K_b
    clear K_b
    have hB1 : Below w.heap.size w w1 := qbv
    clear hb1
    go_wp2_with fail
    try simp only [Exit.inBlock, Exit.then]
    refine bodyPost_ret (v := .tuple #[.agg #[.int .i64 id, .bool cut, .slice H.A H.l.length H.c, .slice N.A N.l.length N.c, .slice S.A S.l.length S.c], .int .i64 1]) ?_ rfl ⟨rfl, qbh⟩
    simp [results, Try.results24, go_sem, a0, a1, a2, a3, a4, af, b0, b1, b2, b3, b4, bf, bz]
  · rw [hF, Bool.true_and] at hf
    have HF := Lib.hid hF
    clear hF
    rcases h1 : rngB n 1 1000000000000000
    · clear hf
      obtain ⟨id, cut, H, N, S⟩ := p
      have HR := Lib.hid hr
      clear hr
      simp only [Phone.v]
      go_enter Try.func24, Try.ntmps24
      go_wp2_with fail
      refine (phone_right ⟨id, cut, H, N, S⟩ _ (HR.out.later qbl (Nat.le_refl _))).mono ?_
      rintro e w1 ⟨rfl, hb1⟩
      rw [HF.out]
      have K_a : Blk _ (w.heap.size) 33 #[.int .i64 id, .bool cut, .slice H.A H.l.length H.c, .slice N.A N.l.length N.c, .slice S.A S.l.length S.c] := qkb hb1
      obtain ⟨a0, a1, a2, a3, a4, af, az⟩ := Blk.b5 K_a
      have B_a := Lib.hid K_a
      clear K_a
      have K_b : Blk _ (w.heap.size + 1) 33 #[.int .i64 0, .bool false, .slice none 0 0, .slice none 0 0, .slice none 0 0] := qkb hb1
      obtain ⟨b0, b1, b2, b3, b4, bf, bz⟩ := Blk.b5 K_b
      have B_b := Lib.hid K_b
      clear K_b
      have hB1 : Below w.heap.size w w1 := qbv
      clear hb1
      go_wp2_with (go_at_call 59; refine (pto_any _ _ _ _).mono ?_; rintro e w' ⟨rfl, rfl⟩)
      try simp only [Exit.inBlock, Exit.then]
      refine bodyPost_ret (v := .tuple #[.agg #[.int .i64 id, .bool cut, .slice H.A H.l.length H.c, .slice N.A N.l.length N.c, .slice S.A S.l.length S.c], .int .i64 1]) ?_ rfl ⟨rfl, qbh⟩
      simp [results, Try.results24, go_sem, a0, a1, a2, a3, a4, af, b0, b1, b2, b3, b4, bf, bz]
    · rcases h2 : rngB t 0 1048576
      · clear hf
        obtain ⟨id, cut, H, N, S⟩ := p
        have HR := Lib.hid hr
        clear hr
        simp only [Phone.v]
        go_enter Try.func24, Try.ntmps24
        go_wp2_with fail
        refine (phone_right ⟨id, cut, H, N, S⟩ _ (HR.out.later qbl (Nat.le_refl _))).mono ?_
        rintro e w1 ⟨rfl, hb1⟩
        rw [HF.out]
        have K_a : Blk _ (w.heap.size) 33 #[.int .i64 id, .bool cut, .slice H.A H.l.length H.c, .slice N.A N.l.length N.c, .slice S.A S.l.length S.c] := qkb hb1
        obtain ⟨a0, a1, a2, a3, a4, af, az⟩ := Blk.b5 K_a
        have B_a := Lib.hid K_a
        clear K_a
        have K_b : Blk _ (w.heap.size + 1) 33 #[.int .i64 0, .bool false, .slice none 0 0, .slice none 0 0, .slice none 0 0] := qkb hb1
        obtain ⟨b0, b1, b2, b3, b4, bf, bz⟩ := Blk.b5 K_b
        have B_b := Lib.hid K_b
        clear K_b
        have hB1 : Below w.heap.size w w1 := qbv
        clear hb1
        go_wp2_with (go_at_call 59; refine (pto_any _ _ _ _).mono ?_; rintro e w' ⟨rfl, rfl⟩)
        try simp only [Exit.inBlock, Exit.then]
        refine bodyPost_ret (v := .tuple #[.agg #[.int .i64 id, .bool cut, .slice H.A H.l.length H.c, .slice N.A N.l.length N.c, .slice S.A S.l.length S.c], .int .i64 1]) ?_ rfl ⟨rfl, qbh⟩
        simp [results, Try.results24, go_sem, a0, a1, a2, a3, a4, af, b0, b1, b2, b3, b4, bf, bz]
      · have h3 : 20000 < tx.size := by rw [h1, h2] at hf; simpa using hf
        clear hf
        obtain ⟨id, cut, H, N, S⟩ := p
        have HR := Lib.hid hr
        clear hr
        simp only [Phone.v]
        go_enter Try.func24, Try.ntmps24
        go_wp2_with fail
        refine (phone_right ⟨id, cut, H, N, S⟩ _ (HR.out.later qbl (Nat.le_refl _))).mono ?_
        rintro e w1 ⟨rfl, hb1⟩
        rw [HF.out]
        have K_a : Blk _ (w.heap.size) 33 #[.int .i64 id, .bool cut, .slice H.A H.l.length H.c, .slice N.A N.l.length N.c, .slice S.A S.l.length S.c] := qkb hb1
        obtain ⟨a0, a1, a2, a3, a4, af, az⟩ := Blk.b5 K_a
        have B_a := Lib.hid K_a
        clear K_a
        have K_b : Blk _ (w.heap.size + 1) 33 #[.int .i64 0, .bool false, .slice none 0 0, .slice none 0 0, .slice none 0 0] := qkb hb1
        obtain ⟨b0, b1, b2, b3, b4, bf, bz⟩ := Blk.b5 K_b
        have B_b := Lib.hid K_b
        clear K_b
        have hB1 : Below w.heap.size w w1 := qbv
        clear hb1
        go_wp2_with (go_at_call 59; refine (pto_any _ _ _ _).mono ?_; rintro e w' ⟨rfl, rfl⟩)
        try simp only [Exit.inBlock, Exit.then]
        refine bodyPost_ret (v := .tuple #[.agg #[.int .i64 id, .bool cut, .slice H.A H.l.length H.c, .slice N.A N.l.length N.c, .slice S.A S.l.length S.c], .int .i64 1]) ?_ rfl ⟨rfl, qbh⟩
        simp [results, Try.results24, go_sem, a0, a1, a2, a3, a4, af, b0, b1, b2, b3, b4, bf, bz]
set_option maxHeartbeats 800000 in
theorem phone_promise_none (p : Phone) (k n t : Int) (tx : ByteArray) (w : World) (hr : RdPhone (· < w.heap.size) w p) (HF : Hid (p.d.right = true)) (h1 : rngB n 1 1000000000000000 = true) (h2 : rngB t 0 1048576 = true) (h3 : tx.size ≤ 20000)
    (HH : Hid (hhas p.H.l k = false)) :
    Calls Try.prog 24 #[p.v, .int .i64 k, .int .i64 n, .int .i64 t, .string tx] w fun e w' => e = .returned (.tuple #[p.v, .int .i64 4]) ∧ Below w.heap.size w w' := by
  obtain ⟨id, cut, H, N, S⟩ := p
  have HR := Lib.hid hr
  clear hr
  simp only [Phone.v]
  go_enter Try.func24, Try.ntmps24
  go_wp2_with fail
  refine (phone_right ⟨id, cut, H, N, S⟩ _ (HR.out.later qbl (Nat.le_refl _))).mono ?_
  rintro e w1 ⟨rfl, hb1⟩
  rw [HF.out]
  have K_a : Blk _ (w.heap.size) 33 #[.int .i64 id, .bool cut, .slice H.A H.l.length H.c, .slice N.A N.l.length N.c, .slice S.A S.l.length S.c] := qkb hb1
  obtain ⟨a0, a1, a2, a3, a4, af, az⟩ := Blk.b5 K_a
  have B_a := Lib.hid K_a
  clear K_a
  have K_b : Blk _ (w.heap.size + 1) 33 #[.int .i64 0, .bool false, .slice none 0 0, .slice none 0 0, .slice none 0 0] := qkb hb1
  obtain ⟨b0, b1, b2, b3, b4, bf, bz⟩ := Blk.b5 K_b
  have B_b := Lib.hid K_b
  clear K_b
  have hB1 : Below w.heap.size w w1 := qbv
  clear hb1
  go_wp2_with (go_at_call 59; refine (pto_any _ _ _ _).mono ?_; rintro e w' ⟨rfl, rfl⟩)
  refine (phone_find ⟨id, cut, H, N, S⟩ k _ (HR.out.later hB1 (Nat.le_refl _)) (PhoneD.right_iff HF.out).H).mono ?_
  rintro e w2 ⟨rfl, hb2⟩
  rw [HH.out]
  clear a0 a1 a2 a3 a4 af b0 b1 b2 b3 b4 bf
  have K_a : Blk _ (w.heap.size) 33 #[.int .i64 id, .bool cut, .slice H.A H.l.length H.c, .slice N.A N.l.length N.c, .slice S.A S.l.length S.c] := qkc B_a hb2
  obtain ⟨a0, a1, a2, a3, a4, af, az⟩ := Blk.b5 K_a
  have B_a := Lib.hid K_a
  clear K_a
  have K_b : Blk _ (w.heap.size + 1) 33 #[.int .i64 0, .bool false, .slice none 0 0, .slice none 0 0, .slice none 0 0] := qkc B_b hb2
  obtain ⟨b0, b1, b2, b3, b4, bf, bz⟩ := Blk.b5 K_b
  have B_b := Lib.hid K_b
  clear K_b
  have hB2 : Below w.heap.size w w2 := qbv
  clear hb2
  go_wp2_with fail
  try simp only [Exit.inBlock, Exit.then]
  refine bodyPost_ret (v := .tuple #[.agg #[.int .i64 id, .bool cut, .slice H.A H.l.length H.c, .slice N.A N.l.length N.c, .slice S.A S.l.length S.c], .int .i64 4]) ?_ rfl ⟨rfl, qbh⟩
  simp [results, Try.results24, go_sem, a0, a1, a2, a3, a4, af, b0, b1, b2, b3, b4, bf, bz]
set_option maxHeartbeats 800000 in
theorem phone_promise_few (p : Phone) (k n t : Int) (tx : ByteArray) (i : Nat) (x : Hold) (w : World) (hr : RdPhone (· < w.heap.size) w p) (HF : Hid (p.d.right = true)) (h1 : rngB n 1 1000000000000000 = true) (h2 : rngB t 0 1048576 = true) (h3 : tx.size ≤ 20000)
    (HH : Hid (hhas p.H.l k = true)) (HI : Hid (hidx p.H.l k = i)) (HX : Hid (p.H.l[i]? = some x)) (hx1 : 0 ≤ x.u) (hx2 : x.u ≤ 1000000000000000) (hx3 : 0 ≤ x.s) (hx4 : x.s ≤ x.u) (hlt : x.u - x.s < n) :
    Calls Try.prog 24 #[p.v, .int .i64 k, .int .i64 n, .int .i64 t, .string tx] w fun e w' => e = .returned (.tuple #[p.v, .int .i64 21]) ∧ Below w.heap.size w w' := by
  obtain ⟨id, cut, H, N, S⟩ := p
  have HR := Lib.hid hr
  clear hr
  simp only [Phone.v]
  go_enter Try.func24, Try.ntmps24
  go_wp2_with fail
  refine (phone_right ⟨id, cut, H, N, S⟩ _ (HR.out.later qbl (Nat.le_refl _))).mono ?_
  rintro e w1 ⟨rfl, hb1⟩
  rw [HF.out]
  have K_a : Blk _ (w.heap.size) 33 #[.int .i64 id, .bool cut, .slice H.A H.l.length H.c, .slice N.A N.l.length N.c, .slice S.A S.l.length S.c] := qkb hb1
  obtain ⟨a0, a1, a2, a3, a4, af, az⟩ := Blk.b5 K_a
  have B_a := Lib.hid K_a
  clear K_a
  have K_b : Blk _ (w.heap.size + 1) 33 #[.int .i64 0, .bool false, .slice none 0 0, .slice none 0 0, .slice none 0 0] := qkb hb1
  obtain ⟨b0, b1, b2, b3, b4, bf, bz⟩ := Blk.b5 K_b
  have B_b := Lib.hid K_b
  clear K_b
  have hB1 : Below w.heap.size w w1 := qbv
  clear hb1
  go_wp2_with (go_at_call 59; refine (pto_any _ _ _ _).mono ?_; rintro e w' ⟨rfl, rfl⟩)
  refine (phone_find ⟨id, cut, H, N, S⟩ k _ (HR.out.later hB1 (Nat.le_refl _)) (PhoneD.right_iff HF.out).H).mono ?_
  rintro e w2 ⟨rfl, hb2⟩
  rw [HH.out]
  clear a0 a1 a2 a3 a4 af b0 b1 b2 b3 b4 bf
  have K_a : Blk _ (w.heap.size) 33 #[.int .i64 id, .bool cut, .slice H.A H.l.length H.c, .slice N.A N.l.length N.c, .slice S.A S.l.length S.c] := qkc B_a hb2
  obtain ⟨a0, a1, a2, a3, a4, af, az⟩ := Blk.b5 K_a
  have B_a := Lib.hid K_a
  clear K_a
  have K_b : Blk _ (w.heap.size + 1) 33 #[.int .i64 0, .bool false, .slice none 0 0, .slice none 0 0, .slice none 0 0] := qkc B_b hb2
  obtain ⟨b0, b1, b2, b3, b4, bf, bz⟩ := Blk.b5 K_b
  have B_b := Lib.hid K_b
  clear K_b
  have hB2 : Below w.heap.size w w2 := qbv
  clear hb2
  obtain ⟨b2', o2', hA2, hF2, hcl2⟩ := HR.out.1.2.2.2 _ x HX.out
  have hxi : i < H.l.length := (List.getElem?_eq_some_iff.1 HX.out).1
  simp only at hA2
  have hcl2 := hcl2.keep (hB2.block b2' hF2)
  obtain ⟨h0, h1', h2'⟩ := Cells.c3 hcl2
  clear hcl2
  try simp only at a2
  rw [hA2] at a2
  have HA2 := Lib.hid hA2
  clear hA2
  rw [HI.out]
  go_wp2_with fail
  go_quiet (fail)
  go_wp2_with fail
  try simp only [Exit.inBlock, Exit.then]
  refine bodyPost_ret (v := .tuple #[.agg #[.int .i64 id, .bool cut, .slice H.A H.l.length H.c, .slice N.A N.l.length N.c, .slice S.A S.l.length S.c], .int .i64 21]) ?_ rfl ⟨rfl, qbh⟩
  simp [results, Try.results24, go_sem, a0, a1, a2, a3, a4, af, b0, b1, b2, b3, b4, bf, HA2.out]
set_option maxHeartbeats 800000 in
theorem phone_promise_late (p : Phone) (k n t : Int) (tx : ByteArray) (i : Nat) (x : Hold) (w : World) (hr : RdPhone (· < w.heap.size) w p) (HF : Hid (p.d.right = true)) (h1 : rngB n 1 1000000000000000 = true) (h2 : rngB t 0 1048576 = true) (h3 : tx.size ≤ 20000)
    (HH : Hid (hhas p.H.l k = true)) (HI : Hid (hidx p.H.l k = i)) (HX : Hid (p.H.l[i]? = some x)) (hx1 : 0 ≤ x.u) (hx2 : x.u ≤ 1000000000000000) (hx3 : 0 ≤ x.s) (hx4 : x.s ≤ x.u) (hge : n ≤ x.u - x.s)
    (m : Nat) (y : Note) (HLEN : Hid (p.N.l.length = m + 1)) (HY : Hid (p.N.l[m]? = some y)) (hlate : t < y.tm) :
    Calls Try.prog 24 #[p.v, .int .i64 k, .int .i64 n, .int .i64 t, .string tx] w fun e w' => e = .returned (.tuple #[p.v, .int .i64 19]) ∧ Below w.heap.size w w' := by
  obtain ⟨id, cut, H, N, S⟩ := p
  have HR := Lib.hid hr
  clear hr
  simp only [Phone.v]
  go_enter Try.func24, Try.ntmps24
  go_wp2_with fail
  refine (phone_right ⟨id, cut, H, N, S⟩ _ (HR.out.later qbl (Nat.le_refl _))).mono ?_
  rintro e w1 ⟨rfl, hb1⟩
  rw [HF.out]
  have K_a : Blk _ (w.heap.size) 33 #[.int .i64 id, .bool cut, .slice H.A H.l.length H.c, .slice N.A N.l.length N.c, .slice S.A S.l.length S.c] := qkb hb1
  obtain ⟨a0, a1, a2, a3, a4, af, az⟩ := Blk.b5 K_a
  have B_a := Lib.hid K_a
  clear K_a
  have K_b : Blk _ (w.heap.size + 1) 33 #[.int .i64 0, .bool false, .slice none 0 0, .slice none 0 0, .slice none 0 0] := qkb hb1
  obtain ⟨b0, b1, b2, b3, b4, bf, bz⟩ := Blk.b5 K_b
  have B_b := Lib.hid K_b
  clear K_b
  have hB1 : Below w.heap.size w w1 := qbv
  clear hb1
  go_wp2_with (go_at_call 59; refine (pto_any _ _ _ _).mono ?_; rintro e w' ⟨rfl, rfl⟩)
  refine (phone_find ⟨id, cut, H, N, S⟩ k _ (HR.out.later hB1 (Nat.le_refl _)) (PhoneD.right_iff HF.out).H).mono ?_
  rintro e w2 ⟨rfl, hb2⟩
  rw [HH.out]
  clear a0 a1 a2 a3 a4 af b0 b1 b2 b3 b4 bf
  have K_a : Blk _ (w.heap.size) 33 #[.int .i64 id, .bool cut, .slice H.A H.l.length H.c, .slice N.A N.l.length N.c, .slice S.A S.l.length S.c] := qkc B_a hb2
  obtain ⟨a0, a1, a2, a3, a4, af, az⟩ := Blk.b5 K_a
  have B_a := Lib.hid K_a
  clear K_a
  have K_b : Blk _ (w.heap.size + 1) 33 #[.int .i64 0, .bool false, .slice none 0 0, .slice none 0 0, .slice none 0 0] := qkc B_b hb2
  obtain ⟨b0, b1, b2, b3, b4, bf, bz⟩ := Blk.b5 K_b
  have B_b := Lib.hid K_b
  clear K_b
  have hB2 : Below w.heap.size w w2 := qbv
  clear hb2
  have hlen' : (N.l.length : Int) - 1 = m := by have := HLEN.out; (try simp only at this); omega
  have hlen0 : 0 < N.l.length := by have := HLEN.out; (try simp only at this); omega
  have hlen1 : m < N.l.length := by have := HLEN.out; (try simp only at this); omega
  have hwm : wrap64 (m : Int) = m := by have := HR.out.2.1.1.len; (try simp only at this); unfold wrap64; omega
  obtain ⟨b3', o3', hA3, hF3, hcl3⟩ := HR.out.2.1.1.2.2.2 m y HY.out
  simp only at hA3
  have hcl3 := hcl3.keep (hB2.block b3' hF3)
  obtain ⟨j0, j1, j2, j3, j4⟩ := Cells.c5 hcl3
  clear hcl3 j0 j1 j2 j4
  try simp only at a3
  rw [hA3] at a3
  have HA3 := Lib.hid hA3
  clear hA3
  obtain ⟨b2', o2', hA2, hF2, hcl2⟩ := HR.out.1.2.2.2 _ x HX.out
  have hxi : i < H.l.length := (List.getElem?_eq_some_iff.1 HX.out).1
  simp only at hA2
  have hcl2 := hcl2.keep (hB2.block b2' hF2)
  obtain ⟨h0, h1', h2'⟩ := Cells.c3 hcl2
  clear hcl2
  try simp only at a2
  rw [hA2] at a2
  have HA2 := Lib.hid hA2
  clear hA2
  rw [HI.out]
  go_wp2_with fail
  go_quiet (fail)
  go_wp2_with fail
  try simp only [Exit.inBlock, Exit.then]
  refine bodyPost_ret (v := .tuple #[.agg #[.int .i64 id, .bool cut, .slice H.A H.l.length H.c, .slice N.A N.l.length N.c, .slice S.A S.l.length S.c], .int .i64 19]) ?_ rfl ⟨rfl, qbh⟩
  simp [results, Try.results24, go_sem, a0, a1, a2, a3, a4, af, b0, b1, b2, b3, b4, bf, HA2.out, HA3.out]
set_option maxHeartbeats 800000 in
theorem phone_promise_full (p : Phone) (k n t : Int) (tx : ByteArray) (i : Nat) (x : Hold) (w : World) (hr : RdPhone (· < w.heap.size) w p) (HF : Hid (p.d.right = true)) (h1 : rngB n 1 1000000000000000 = true) (h2 : rngB t 0 1048576 = true) (h3 : tx.size ≤ 20000)
    (HH : Hid (hhas p.H.l k = true)) (HI : Hid (hidx p.H.l k = i)) (HX : Hid (p.H.l[i]? = some x)) (hx1 : 0 ≤ x.u) (hx2 : x.u ≤ 1000000000000000) (hx3 : 0 ≤ x.s) (hx4 : x.s ≤ x.u) (hge : n ≤ x.u - x.s)
    (m : Nat) (y : Note) (HLEN : Hid (p.N.l.length = m + 1)) (HY : Hid (p.N.l[m]? = some y)) (hlate : y.tm ≤ t) (hfull : p.N.l.length = 10000) :
    Calls Try.prog 24 #[p.v, .int .i64 k, .int .i64 n, .int .i64 t, .string tx] w fun e w' => e = .returned (.tuple #[p.v, .int .i64 6]) ∧ Below w.heap.size w w' := by
  have hfull' : ((p.N.l.length : Int) == 10000) = true := by simp; omega
  have HFU := Lib.hid hfull
  clear hfull
  obtain ⟨id, cut, H, N, S⟩ := p
  have HR := Lib.hid hr
  clear hr
  simp only [Phone.v]
  go_enter Try.func24, Try.ntmps24
  go_wp2_with fail
  refine (phone_right ⟨id, cut, H, N, S⟩ _ (HR.out.later qbl (Nat.le_refl _))).mono ?_
  rintro e w1 ⟨rfl, hb1⟩
  rw [HF.out]
  have K_a : Blk _ (w.heap.size) 33 #[.int .i64 id, .bool cut, .slice H.A H.l.length H.c, .slice N.A N.l.length N.c, .slice S.A S.l.length S.c] := qkb hb1
  obtain ⟨a0, a1, a2, a3, a4, af, az⟩ := Blk.b5 K_a
  have B_a := Lib.hid K_a
  clear K_a
  have K_b : Blk _ (w.heap.size + 1) 33 #[.int .i64 0, .bool false, .slice none 0 0, .slice none 0 0, .slice none 0 0] := qkb hb1
  obtain ⟨b0, b1, b2, b3, b4, bf, bz⟩ := Blk.b5 K_b
  have B_b := Lib.hid K_b
  clear K_b
  have hB1 : Below w.heap.size w w1 := qbv
  clear hb1
  go_wp2_with (go_at_call 59; refine (pto_any _ _ _ _).mono ?_; rintro e w' ⟨rfl, rfl⟩)
  refine (phone_find ⟨id, cut, H, N, S⟩ k _ (HR.out.later hB1 (Nat.le_refl _)) (PhoneD.right_iff HF.out).H).mono ?_
  rintro e w2 ⟨rfl, hb2⟩
  rw [HH.out]
  clear a0 a1 a2 a3 a4 af b0 b1 b2 b3 b4 bf
  have K_a : Blk _ (w.heap.size) 33 #[.int .i64 id, .bool cut, .slice H.A H.l.length H.c, .slice N.A N.l.length N.c, .slice S.A S.l.length S.c] := qkc B_a hb2
  obtain ⟨a0, a1, a2, a3, a4, af, az⟩ := Blk.b5 K_a
  have B_a := Lib.hid K_a
  clear K_a
  have K_b : Blk _ (w.heap.size + 1) 33 #[.int .i64 0, .bool false, .slice none 0 0, .slice none 0 0, .slice none 0 0] := qkc B_b hb2
  obtain ⟨b0, b1, b2, b3, b4, bf, bz⟩ := Blk.b5 K_b
  have B_b := Lib.hid K_b
  clear K_b
  have hB2 : Below w.heap.size w w2 := qbv
  clear hb2
  try simp only at hfull'
  have hlen' : (N.l.length : Int) - 1 = m := by have := HLEN.out; (try simp only at this); omega
  have hlen0 : 0 < N.l.length := by have := HLEN.out; (try simp only at this); omega
  have hlen1 : m < N.l.length := by have := HLEN.out; (try simp only at this); omega
  have hwm : wrap64 (m : Int) = m := by have := HR.out.2.1.1.len; (try simp only at this); unfold wrap64; omega
  obtain ⟨b3', o3', hA3, hF3, hcl3⟩ := HR.out.2.1.1.2.2.2 m y HY.out
  simp only at hA3
  have hcl3 := hcl3.keep (hB2.block b3' hF3)
  obtain ⟨j0, j1, j2, j3, j4⟩ := Cells.c5 hcl3
  clear hcl3 j0 j1 j2 j4
  try simp only at a3
  rw [hA3] at a3
  have HA3 := Lib.hid hA3
  clear hA3
  obtain ⟨b2', o2', hA2, hF2, hcl2⟩ := HR.out.1.2.2.2 _ x HX.out
  have hxi : i < H.l.length := (List.getElem?_eq_some_iff.1 HX.out).1
  simp only at hA2
  have hcl2 := hcl2.keep (hB2.block b2' hF2)
  obtain ⟨h0, h1', h2'⟩ := Cells.c3 hcl2
  clear hcl2
  try simp only at a2
  rw [hA2] at a2
  have HA2 := Lib.hid hA2
  clear hA2
  rw [HI.out]
  go_wp2_with fail
  go_quiet (fail)
  go_wp2_with fail
  try simp only [Exit.inBlock, Exit.then]
  refine bodyPost_ret (v := .tuple #[.agg #[.int .i64 id, .bool cut, .slice H.A H.l.length H.c, .slice N.A N.l.length N.c, .slice S.A S.l.length S.c], .int .i64 6]) ?_ rfl ⟨rfl, qbh⟩
  simp [results, Try.results24, go_sem, a0, a1, a2, a3, a4, af, b0, b1, b2, b3, b4, bf, HA2.out, HA3.out]
end Go.Proofs.Ythnblhbdfpmolaa
