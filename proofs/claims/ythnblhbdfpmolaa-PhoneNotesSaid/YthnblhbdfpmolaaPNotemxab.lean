/- The data of stocks, notes and phones: how they lie in cells. -/
import Derived.Test.YthnblhbdfpmolaaPNotemxaa
namespace Go.Proofs.Ythnblhbdfpmolaa
open Go.RowKit
def ienc (n : Int) : List Value := [.int .i64 n]
theorem ienc_k (n : Int) : (ienc n).length = 1 := rfl
theorem ienc_one (n : Int) : ∀ u ∈ ienc n, u.oneCell' = true := by intro u hu; simp [ienc] at hu; subst hu; rfl
structure Loan where
  p : Int
  u : Int
  s : Int
deriving DecidableEq
def Loan.enc (x : Loan) : List Value := [.int .i64 x.p, .int .i64 x.u, .int .i64 x.s]
structure Stock where
  T : Int
  U : Int
  L : Sl Loan
def Stock.enc (x : Stock) : List Value := [.int .i64 x.T, .int .i64 x.U, .slice x.L.A x.L.l.length x.L.c]
structure StockD where
  T : Int
  U : Int
  L : List Loan
deriving DecidableEq
def Stock.d (x : Stock) : StockD := ⟨x.T, x.U, x.L.l⟩
structure Note where
  dev : Int
  seq : Int
  af : Sl Int
  tm : Int
  tx : ByteArray
def Note.enc (x : Note) : List Value := [.int .i64 x.dev, .int .i64 x.seq, .slice x.af.A x.af.l.length x.af.c, .int .i64 x.tm, .string x.tx]
structure NoteD where
  dev : Int
  seq : Int
  af : List Int
  tm : Int
  tx : ByteArray
def Note.d (x : Note) : NoteD := ⟨x.dev, x.seq, x.af.l, x.tm, x.tx⟩
structure Hold where
  st : Int
  u : Int
  s : Int
deriving DecidableEq
def Hold.enc (x : Hold) : List Value := [.int .i64 x.st, .int .i64 x.u, .int .i64 x.s]
structure Phone where
  id : Int
  cut : Bool
  H : Sl Hold
  N : Sl Note
  S : Sl Int
structure PhoneD where
  id : Int
  cut : Bool
  H : List Hold
  N : List NoteD
  S : List Int
def Phone.d (x : Phone) : PhoneD := ⟨x.id, x.cut, x.H.l, x.N.l.map Note.d, x.S.l⟩
theorem Loan.k (x : Loan) : x.enc.length = 3 := rfl
theorem Loan.one (x : Loan) : ∀ u ∈ x.enc, u.oneCell' = true := by intro u hu; simp [Loan.enc] at hu; rcases hu with rfl | rfl | rfl <;> rfl
theorem Hold.k (x : Hold) : x.enc.length = 3 := rfl
theorem Hold.one (x : Hold) : ∀ u ∈ x.enc, u.oneCell' = true := by intro u hu; simp [Hold.enc] at hu; rcases hu with rfl | rfl | rfl <;> rfl
theorem Stock.k (x : Stock) : x.enc.length = 3 := rfl
theorem Stock.one (x : Stock) : ∀ u ∈ x.enc, u.oneCell' = true := by intro u hu; simp [Stock.enc] at hu; rcases hu with rfl | rfl | rfl <;> rfl
theorem Note.k (x : Note) : x.enc.length = 5 := rfl
theorem Note.one (x : Note) : ∀ u ∈ x.enc, u.oneCell' = true := by intro u hu; simp [Note.enc] at hu; rcases hu with rfl | rfl | rfl | rfl | rfl <;> rfl
theorem infoInt : Info Try.prog 3 (.int .i64 0) 1 8 := info_mk (by kernel_rfl) rfl
theorem infoLoan : Info Try.prog 136 (.agg #[.int .i64 0, .int .i64 0, .int .i64 0]) 3 24 := info_mk (by kernel_rfl) rfl
theorem infoHold : Info Try.prog 62 (.agg #[.int .i64 0, .int .i64 0, .int .i64 0]) 3 24 := info_mk (by kernel_rfl) rfl
theorem infoStock : Info Try.prog 66 (.agg #[.int .i64 0, .int .i64 0, .slice none 0 0]) 3 40 := info_mk (by kernel_rfl) rfl
theorem infoNote : Info Try.prog 61 (.agg #[.int .i64 0, .int .i64 0, .slice none 0 0, .int .i64 0, .string ByteArray.empty]) 5 64 := info_mk (by kernel_rfl) rfl
def RdNotes (F : Nat → Prop) (w : World) (s : Sl Note) : Prop := Rd F 5 Note.enc w s ∧ ∀ n, n ∈ s.l → Rd F 1 ienc w n.af
def RdStocks (F : Nat → Prop) (w : World) (s : Sl Stock) : Prop := Rd F 3 Stock.enc w s ∧ ∀ x, x ∈ s.l → Rd F 3 Loan.enc w x.L
def RdPhone (F : Nat → Prop) (w : World) (p : Phone) : Prop := Rd F 3 Hold.enc w p.H ∧ RdNotes F w p.N ∧ Rd F 1 ienc w p.S
section
variable {F G : Nat → Prop} {w w' : World}
theorem RdNotes.keep {s : Sl Note} (h : RdNotes F w s) (hk : ∀ b, F b → w'.heap[b]? = w.heap[b]?) : RdNotes F w' s := ⟨h.1.keep hk, fun n hn => (h.2 n hn).keep hk⟩
theorem RdNotes.mono {s : Sl Note} (h : RdNotes F w s) (hk : ∀ b, F b → G b) : RdNotes G w s := ⟨h.1.mono hk, fun n hn => (h.2 n hn).mono hk⟩
theorem RdStocks.keep {s : Sl Stock} (h : RdStocks F w s) (hk : ∀ b, F b → w'.heap[b]? = w.heap[b]?) : RdStocks F w' s := ⟨h.1.keep hk, fun n hn => (h.2 n hn).keep hk⟩
theorem RdStocks.mono {s : Sl Stock} (h : RdStocks F w s) (hk : ∀ b, F b → G b) : RdStocks G w s := ⟨h.1.mono hk, fun n hn => (h.2 n hn).mono hk⟩
theorem RdPhone.keep {s : Phone} (h : RdPhone F w s) (hk : ∀ b, F b → w'.heap[b]? = w.heap[b]?) : RdPhone F w' s := ⟨h.1.keep hk, h.2.1.keep hk, h.2.2.keep hk⟩
theorem RdPhone.mono {s : Phone} (h : RdPhone F w s) (hk : ∀ b, F b → G b) : RdPhone G w s := ⟨h.1.mono hk, h.2.1.mono hk, h.2.2.mono hk⟩
end
/-- 'reads below the world's own end' goes over into any later world. -/
theorem RdNotes.later {B : Nat} {w w' : World} {s : Sl Note} (h : RdNotes (· < B) w s) (hb : Below B w w') (hB : B ≤ w.heap.size) : RdNotes (· < w'.heap.size) w' s :=
  (h.keep fun b hb' => hb.block b hb').mono fun _ hb' => Nat.lt_of_lt_of_le hb' (Nat.le_trans hB hb.size)
theorem RdStocks.later {B : Nat} {w w' : World} {s : Sl Stock} (h : RdStocks (· < B) w s) (hb : Below B w w') (hB : B ≤ w.heap.size) : RdStocks (· < w'.heap.size) w' s :=
  (h.keep fun b hb' => hb.block b hb').mono fun _ hb' => Nat.lt_of_lt_of_le hb' (Nat.le_trans hB hb.size)
theorem RdPhone.later {B : Nat} {w w' : World} {s : Phone} (h : RdPhone (· < B) w s) (hb : Below B w w') (hB : B ≤ w.heap.size) : RdPhone (· < w'.heap.size) w' s :=
  (h.keep fun b hb' => hb.block b hb').mono fun _ hb' => Nat.lt_of_lt_of_le hb' (Nat.le_trans hB hb.size)
end Go.Proofs.Ythnblhbdfpmolaa
/- slices.Clone at five element types: the copy is a row of the call's own. -/
namespace Go.Proofs.Ythnblhbdfpmolaa
open Go.RowKit
set_option maxHeartbeats 400000 in
theorem clone_loan (s : Sl Loan) (w : World) (hr : Rd (· < w.heap.size) 3 Loan.enc w s) (hb : s.l.length * 24 ≤ 140737488355328) :
    Calls Try.prog 109 #[.slice s.A s.l.length s.c] w fun e w' => ∃ A c, e = .returned (.slice A s.l.length c) ∧ Own w.heap.size 136 3 Loan.enc w' ⟨A, c, s.l⟩ ∧ Below w.heap.size w w' := by
  obtain ⟨A, c, l⟩ := s
  have hcap := hr.cap
  have hlc := hr.lecap
  simp only at hcap hlc hb
  rcases A with _ | ad
  · obtain ⟨hl, hc⟩ := hr.none_ rfl
    simp only at hl hc
    subst hl; subst hc
    have hnil := fun W => Lib.run_eql_slice_nil (P := Try.prog) W 64 136 none 0 0 0 0 Try.underlying64
    go_enter Try.func109, Try.ntmps109
    go_wp2_with fail
    go_ret
    exact ⟨none, 0, rfl, Own.nil _ _ _ _ _, Below.refl _ _⟩
  · have HR := Lib.hid hr
    clear hr
    have hnil := fun W => Lib.run_eql_slice_nil (P := Try.prog) W 64 136 (some ad) l.length c 0 0 Try.underlying64
    go_enter Try.func109, Try.ntmps109
    go_wp2_with (at_builtin
                 go_must (refine wpl_append_sl _ rfl (.tmp 5) (.tmp 6) _ rfl Try.underlying64 infoLoan (by omega) Loan.k Loan.one ⟨some ⟨w.heap.size, 0, none⟩, 0, []⟩ ⟨some ad, c, l⟩ rfl rfl (Own.lit w #[] [] (Nat.le_refl _) (Nat.zero_le _) rfl Loan.k) (HR.out.lt_alloc _) (by simp [maxLen]; omega) (by simp; omega) (by simp) ?_)
                 intro A' c' w1 hown hg _)
    go_ret
    exact ⟨A', c', rfl, hown, ((Below.refl _ _).alloc (Nat.le_refl _) _).grown hg (by simp) (by simp [Value.ownBlock])⟩
set_option maxHeartbeats 400000 in
theorem clone_hold (s : Sl Hold) (w : World) (hr : Rd (· < w.heap.size) 3 Hold.enc w s) (hb : s.l.length * 24 ≤ 140737488355328) :
    Calls Try.prog 106 #[.slice s.A s.l.length s.c] w fun e w' => ∃ A c, e = .returned (.slice A s.l.length c) ∧ Own w.heap.size 62 3 Hold.enc w' ⟨A, c, s.l⟩ ∧ Below w.heap.size w w' := by
  obtain ⟨A, c, l⟩ := s
  have hcap := hr.cap
  have hlc := hr.lecap
  simp only at hcap hlc hb
  rcases A with _ | ad
  · obtain ⟨hl, hc⟩ := hr.none_ rfl
    simp only at hl hc
    subst hl; subst hc
    have hnil := fun W => Lib.run_eql_slice_nil (P := Try.prog) W 31 62 none 0 0 0 0 Try.underlying31
    go_enter Try.func106, Try.ntmps106
    go_wp2_with fail
    go_ret
    exact ⟨none, 0, rfl, Own.nil _ _ _ _ _, Below.refl _ _⟩
  · have HR := Lib.hid hr
    clear hr
    have hnil := fun W => Lib.run_eql_slice_nil (P := Try.prog) W 31 62 (some ad) l.length c 0 0 Try.underlying31
    go_enter Try.func106, Try.ntmps106
    go_wp2_with (at_builtin
                 go_must (refine wpl_append_sl _ rfl (.tmp 5) (.tmp 6) _ rfl Try.underlying31 infoHold (by omega) Hold.k Hold.one ⟨some ⟨w.heap.size, 0, none⟩, 0, []⟩ ⟨some ad, c, l⟩ rfl rfl (Own.lit w #[] [] (Nat.le_refl _) (Nat.zero_le _) rfl Hold.k) (HR.out.lt_alloc _) (by simp [maxLen]; omega) (by simp; omega) (by simp) ?_)
                 intro A' c' w1 hown hg _)
    go_ret
    exact ⟨A', c', rfl, hown, ((Below.refl _ _).alloc (Nat.le_refl _) _).grown hg (by simp) (by simp [Value.ownBlock])⟩
set_option maxHeartbeats 400000 in
theorem clone_stock (s : Sl Stock) (w : World) (hr : Rd (· < w.heap.size) 3 Stock.enc w s) (hb : s.l.length * 40 ≤ 140737488355328) :
    Calls Try.prog 108 #[.slice s.A s.l.length s.c] w fun e w' => ∃ A c, e = .returned (.slice A s.l.length c) ∧ Own w.heap.size 66 3 Stock.enc w' ⟨A, c, s.l⟩ ∧ Below w.heap.size w w' := by
  obtain ⟨A, c, l⟩ := s
  have hcap := hr.cap
  have hlc := hr.lecap
  simp only at hcap hlc hb
  rcases A with _ | ad
  · obtain ⟨hl, hc⟩ := hr.none_ rfl
    simp only at hl hc
    subst hl; subst hc
    have hnil := fun W => Lib.run_eql_slice_nil (P := Try.prog) W 27 66 none 0 0 0 0 Try.underlying27
    go_enter Try.func108, Try.ntmps108
    go_wp2_with fail
    go_ret
    exact ⟨none, 0, rfl, Own.nil _ _ _ _ _, Below.refl _ _⟩
  · have HR := Lib.hid hr
    clear hr
    have hnil := fun W => Lib.run_eql_slice_nil (P := Try.prog) W 27 66 (some ad) l.length c 0 0 Try.underlying27
    go_enter Try.func108, Try.ntmps108
    go_wp2_with (at_builtin
                 go_must (refine wpl_append_sl _ rfl (.tmp 5) (.tmp 6) _ rfl Try.underlying27 infoStock (by omega) Stock.k Stock.one ⟨some ⟨w.heap.size, 0, none⟩, 0, []⟩ ⟨some ad, c, l⟩ rfl rfl (Own.lit w #[] [] (Nat.le_refl _) (Nat.zero_le _) rfl Stock.k) (HR.out.lt_alloc _) (by simp [maxLen]; omega) (by simp; omega) (by simp) ?_)
                 intro A' c' w1 hown hg _)
    go_ret
    exact ⟨A', c', rfl, hown, ((Below.refl _ _).alloc (Nat.le_refl _) _).grown hg (by simp) (by simp [Value.ownBlock])⟩
set_option maxHeartbeats 400000 in
theorem clone_note (s : Sl Note) (w : World) (hr : Rd (· < w.heap.size) 5 Note.enc w s) (hb : s.l.length * 64 ≤ 140737488355328) :
    Calls Try.prog 107 #[.slice s.A s.l.length s.c] w fun e w' => ∃ A c, e = .returned (.slice A s.l.length c) ∧ Own w.heap.size 61 5 Note.enc w' ⟨A, c, s.l⟩ ∧ Below w.heap.size w w' := by
  obtain ⟨A, c, l⟩ := s
  have hcap := hr.cap
  have hlc := hr.lecap
  simp only at hcap hlc hb
  rcases A with _ | ad
  · obtain ⟨hl, hc⟩ := hr.none_ rfl
    simp only at hl hc
    subst hl; subst hc
    have hnil := fun W => Lib.run_eql_slice_nil (P := Try.prog) W 23 61 none 0 0 0 0 Try.underlying23
    go_enter Try.func107, Try.ntmps107
    go_wp2_with fail
    go_ret
    exact ⟨none, 0, rfl, Own.nil _ _ _ _ _, Below.refl _ _⟩
  · have HR := Lib.hid hr
    clear hr
    have hnil := fun W => Lib.run_eql_slice_nil (P := Try.prog) W 23 61 (some ad) l.length c 0 0 Try.underlying23
    go_enter Try.func107, Try.ntmps107
    go_wp2_with (at_builtin
                 go_must (refine wpl_append_sl _ rfl (.tmp 5) (.tmp 6) _ rfl Try.underlying23 infoNote (by omega) Note.k Note.one ⟨some ⟨w.heap.size, 0, none⟩, 0, []⟩ ⟨some ad, c, l⟩ rfl rfl (Own.lit w #[] [] (Nat.le_refl _) (Nat.zero_le _) rfl Note.k) (HR.out.lt_alloc _) (by simp [maxLen]; omega) (by simp; omega) (by simp) ?_)
                 intro A' c' w1 hown hg _)
    go_ret
    exact ⟨A', c', rfl, hown, ((Below.refl _ _).alloc (Nat.le_refl _) _).grown hg (by simp) (by simp [Value.ownBlock])⟩
set_option maxHeartbeats 400000 in
theorem clone_int (s : Sl Int) (w : World) (hr : Rd (· < w.heap.size) 1 ienc w s) (hb : s.l.length * 8 ≤ 140737488355328) :
    Calls Try.prog 69 #[.slice s.A s.l.length s.c] w fun e w' => ∃ A c, e = .returned (.slice A s.l.length c) ∧ Own w.heap.size 3 1 ienc w' ⟨A, c, s.l⟩ ∧ Below w.heap.size w w' := by
  obtain ⟨A, c, l⟩ := s
  have hcap := hr.cap
  have hlc := hr.lecap
  simp only at hcap hlc hb
  rcases A with _ | ad
  · obtain ⟨hl, hc⟩ := hr.none_ rfl
    simp only at hl hc
    subst hl; subst hc
    have hnil := fun W => Lib.run_eql_slice_nil (P := Try.prog) W 24 3 none 0 0 0 0 Try.underlying24
    go_enter Try.func69, Try.ntmps69
    go_wp2_with fail
    go_ret
    exact ⟨none, 0, rfl, Own.nil _ _ _ _ _, Below.refl _ _⟩
  · have HR := Lib.hid hr
    clear hr
    have hnil := fun W => Lib.run_eql_slice_nil (P := Try.prog) W 24 3 (some ad) l.length c 0 0 Try.underlying24
    go_enter Try.func69, Try.ntmps69
    go_wp2_with (at_builtin
                 go_must (refine wpl_append_sl _ rfl (.tmp 5) (.tmp 6) _ rfl Try.underlying24 infoInt (by omega) ienc_k ienc_one ⟨some ⟨w.heap.size, 0, none⟩, 0, []⟩ ⟨some ad, c, l⟩ rfl rfl (Own.lit w #[] [] (Nat.le_refl _) (Nat.zero_le _) rfl ienc_k) (HR.out.lt_alloc _) (by simp [maxLen]; omega) (by simp; omega) (by simp) ?_)
                 intro A' c' w1 hown hg _)
    go_ret
    exact ⟨A', c', rfl, hown, ((Below.refl _ _).alloc (Nat.le_refl _) _).grown hg (by simp) (by simp [Value.ownBlock])⟩
end Go.Proofs.Ythnblhbdfpmolaa
/- Walks of merge.Right and what it calls. -/
namespace Go.Proofs.Ythnblhbdfpmolaa
open Go.RowKit
def rngB (n a b : Int) : Bool := decide (a ≤ n) && decide (n ≤ b)
theorem rngB_iff {n a b : Int} : rngB n a b = true ↔ a ≤ n ∧ n ≤ b := by simp [rngB]
theorem rngB_not {n a b : Int} : rngB n a b = false ↔ n < a ∨ b < n := by simp [rngB]; omega
set_option maxHeartbeats 400000 in
theorem within_any (n a b : Int) (w : World) : Calls Try.prog 124 #[.int .i64 n, .int .i64 a, .int .i64 b] w fun e w' => e = .returned (.bool (rngB n a b)) ∧ w = w' := by
  go_enter Try.func124, Try.ntmps124
  go_wp2
  all_goals
    go_ret
    exact ⟨ret_bool (by simp only [rngB]; simp; try omega), rfl⟩
set_option maxHeartbeats 400000 in
theorem pto_any (n a b : Int) (w : World) : Calls Try.prog 59 #[.int .i64 n, .int .i64 a, .int .i64 b] w fun e w' => e = .returned (.bool (rngB n a b)) ∧ w = w' := by
  go_enter Try.func59, Try.ntmps59
  go_wp2
  all_goals
    go_ret
    exact ⟨ret_bool (by simp only [rngB]; simp; try omega), rfl⟩
def afOk (dev k : Int) : List Int → Bool
  | [] => true
  | x :: l => if rngB x 0 10000 = false ∨ (k = dev ∧ x ≠ 0) then false else afOk dev (k + 1) l
theorem afOk_no {d k x : Int} {l : List Int} (h : rngB x 0 10000 = false ∨ (k = d ∧ x ≠ 0)) : afOk d k (x :: l) = false := by simp only [afOk, if_pos h]
theorem afOk_go {d k x : Int} {l : List Int} (h : ¬ (rngB x 0 10000 = false ∨ (k = d ∧ x ≠ 0))) : afOk d k (x :: l) = afOk d (k + 1) l := by simp only [afOk, if_neg h]
theorem afOk_go2 {d k x : Int} {l : List Int} (hy : rngB x 0 10000 = true) (h : ¬ (k = d ∧ x ≠ 0)) : afOk d k (x :: l) = afOk d (k + 1) l := afOk_go (fun hc => by
  rcases hc with hc | hc
  · rw [hy] at hc; cases hc
  · exact h hc)
def NoteD.ok0 (n : NoteD) : Bool := rngB n.dev 0 11 && (rngB n.seq 0 9999 && (rngB n.tm 0 1048576 && (decide (n.af.length ≤ 12) && decide (n.tx.size ≤ 20000))))
def NoteD.right (n : NoteD) : Bool := if n.ok0 then afOk n.dev 0 n.af else false
def Note.v (x : Note) : Value := .agg #[.int .i64 x.dev, .int .i64 x.seq, .slice x.af.A x.af.l.length x.af.c, .int .i64 x.tm, .string x.tx]
set_option maxHeartbeats 1000000 in
theorem mright_no (n : Note) (w : World) (h0 : n.d.ok0 = false) :
    Calls Try.prog 92 #[n.v] w fun e w' => e = .returned (.bool false) ∧ Below w.heap.size w w' := by
  obtain ⟨d, s, ⟨A, c, l⟩, t, x⟩ := n
  simp only [Note.d, NoteD.ok0] at h0
  simp only [Note.v]
  rcases h1 : rngB d 0 11
  rotate_left
  rcases h2 : rngB s 0 9999
  rotate_left
  rcases h3 : rngB t 0 1048576
  rotate_left
  rcases Nat.lt_or_ge 12 l.length with h4 | h4
  rotate_left
  have h5 : 20000 < x.size := Nat.lt_of_not_le (fun hc => by simp [h1, h2, h3, h4, hc] at h0)
  all_goals
    clear h0
    go_enter Try.func92, Try.ntmps92
    go_wp2_with (go_at_call 124; refine (within_any _ _ _ _).mono ?_; rintro e w' ⟨rfl, rfl⟩)
    go_ret
    exact ⟨rfl, qbl⟩
set_option maxHeartbeats 1000000 in
theorem mright_yes (n : Note) (w : World) (hr : Rd (· < w.heap.size) 1 ienc w n.af) (h0 : n.d.ok0 = true) :
    Calls Try.prog 92 #[n.v] w fun e w' => e = .returned (.bool (afOk n.dev 0 n.af.l)) ∧ Below w.heap.size w w' := by
  obtain ⟨d, s, ⟨A, c, l⟩, t, x⟩ := n
  simp only [Note.d, NoteD.ok0, Bool.and_eq_true, decide_eq_true_eq] at h0
  obtain ⟨h1, h2, h3, h4, h5⟩ := h0
  have h4' : l.length ≤ 12 := of_decide_eq_true h4
  have h5' : x.size ≤ 20000 := of_decide_eq_true h5
  clear h4 h5
  have h4 : (l.length : Int) ≤ 12 := by omega
  have h5 : (x.size : Int) ≤ 20000 := by omega
  have HR := Lib.hid hr
  clear hr
  simp only [Note.v]
  go_enter Try.func92, Try.ntmps92
  go_wp2_with (go_at_call 124; refine (within_any _ _ _ _).mono ?_; rintro e w' ⟨rfl, rfl⟩)
  go_loopw [36] (fun i wr => ∃ (k : Nat), k ≤ l.length ∧ i = .int .i64 k ∧ Blk wr w.heap.size 61 #[.int .i64 d, .int .i64 s, .slice A l.length c, .int .i64 t, .string x] ∧ Below w.heap.size w wr ∧ afOk d 0 l = afOk d k (l.drop k)) (fun i _ => l.length - (intOf i).toNat)
  case atStart => exact ⟨0, by omega, rfl, Blk.new _ _ _, qbl, by simp⟩
  case round =>
    obtain ⟨k, hk, rfl, hblk, hbel, heq⟩ := hrel
    obtain ⟨a0, a1, a2, a3, a4, af, az⟩ := hblk.b5
    have HB := Lib.hid hblk
    clear hblk
    by_cases hlt : k < l.length
    · obtain ⟨b, o, rfl, hb, hcl⟩ := HR.out.at1 hlt
      have g0 := (hcl.keep (hbel.block b hb)).c1
      have hd : l.drop k = l[k] :: l.drop (k + 1) := List.drop_eq_getElem_cons hlt
      rw [hd] at heq
      have HE := Lib.hid heq
      clear hd heq hcl HR
      simp only [Nat.mul_one] at g0
      generalize l[k] = y at *
      rcases hy : rngB y 0 10000
      · have HY := Lib.hid hy
        go_wp2_with (go_at_call 124; refine (within_any _ _ _ _).mono ?_; rintro e w' ⟨rfl, rfl⟩)
        go_ret
        exact ⟨ret_bool (by rw [HE.out, afOk_no (.inl HY.out)]), hbel⟩
      · have HY := Lib.hid hy
        by_cases hkd : (k : Int) = d
        · by_cases hy0 : y = 0
          · have e1 : ((k : Int) == d) = true := by simp [hkd]
            have e2 : (y != 0) = false := by simp [hy0]
            have H1 := Lib.hid hkd
            have H2 := Lib.hid hy0
            clear hkd hy0
            go_wp2_with (go_at_call 124; refine (within_any _ _ _ _).mono ?_; rintro e w' ⟨rfl, rfl⟩)
            go_roundw
            case rel => exact ⟨k + 1, by omega, by go_num, HB.out, hbel, by rw [HE.out, afOk_go2 HY.out (fun hc => hc.2 H2.out)]; simp⟩
            case measure => simp [intOf]; omega
          · have e1 : ((k : Int) == d) = true := by simp [hkd]
            have e2 : (y != 0) = true := by simp [hy0]
            have H1 := Lib.hid hkd
            have H2 := Lib.hid hy0
            clear hkd hy0
            go_wp2_with (go_at_call 124; refine (within_any _ _ _ _).mono ?_; rintro e w' ⟨rfl, rfl⟩)
            go_ret
            exact ⟨ret_bool (by rw [HE.out, afOk_no (.inr ⟨H1.out, H2.out⟩)]), hbel⟩
        · have e1 : ((k : Int) == d) = false := by simp [hkd]
          have H1 := Lib.hid hkd
          clear hkd
          go_wp2_with (go_at_call 124; refine (within_any _ _ _ _).mono ?_; rintro e w' ⟨rfl, rfl⟩)
          go_roundw
          case rel => exact ⟨k + 1, by omega, by go_num, HB.out, hbel, by rw [HE.out, afOk_go2 HY.out (fun hc => H1.out hc.1)]; simp⟩
          case measure => simp [intOf]; omega
    · have hkl : l.drop k = [] := List.drop_eq_nil_of_le (by omega)
      rw [hkl] at heq
      have HE := Lib.hid heq
      clear hkl heq HR
      go_wp2_with fail
      go_ret
      exact ⟨ret_bool (by rw [HE.out]; rfl), hbel⟩
theorem mright (n : Note) (w : World) (hr : Rd (· < w.heap.size) 1 ienc w n.af) :
    Calls Try.prog 92 #[n.v] w fun e w' => e = .returned (.bool n.d.right) ∧ Below w.heap.size w w' := by
  unfold NoteD.right
  rcases h : n.d.ok0
  · exact mright_no n w h
  · exact mright_yes n w hr h
end Go.Proofs.Ythnblhbdfpmolaa
/- Walks of merge.Right, phone.seen, phone.holds. -/
namespace Go.Proofs.Ythnblhbdfpmolaa
open Go.RowKit
def idxF {α : Type} (p : α → Bool) (k : Int) : List α → Int
  | [] => -1
  | x :: l => if p x then k else idxF p (k + 1) l
theorem idxF_yes {α : Type} {p : α → Bool} {k : Int} {x : α} {l : List α} (h : p x = true) : idxF p k (x :: l) = k := by simp [idxF, h]
theorem idxF_no {α : Type} {p : α → Bool} {k : Int} {x : α} {l : List α} (h : p x = false) : idxF p k (x :: l) = idxF p (k + 1) l := by simp [idxF, h]
theorem idxF_any {α : Type} {p : α → Bool} : ∀ (l : List α) (k : Int), 0 ≤ k → decide (0 ≤ idxF p k l) = l.any p
  | [], k, _ => by simp [idxF]
  | x :: l, k, hk => by
    rcases h : p x
    · rw [idxF_no h, idxF_any l (k + 1) (by omega)]; simp [h]
    · rw [idxF_yes h]; simp [h, hk]
set_option maxHeartbeats 400000 in
theorem clo_note (n : Note) (w : World) (hr : Rd (· < w.heap.size) 1 ienc w n.af) :
    Calls Try.prog 91 #[n.v] w fun e w' => e = .returned (.bool (!n.d.right)) ∧ Below w.heap.size w w' := by
  obtain ⟨d, s, af, t, x⟩ := n
  have HR := Lib.hid hr
  clear hr
  simp only [Note.v]
  go_enter Try.func91, Try.ntmps91
  go_wp2_with fail
  refine (mright ⟨d, s, af, t, x⟩ _ (HR.out.lt_alloc _)).mono ?_
  rintro e w1 ⟨rfl, hb1⟩
  have hB : Below w.heap.size w w1 := Below.trans qbl (hb1.mono (by first | omega | (simp; done) | (simp; omega)))
  clear hb1
  generalize hq : (Note.d ⟨d, s, af, t, x⟩).right = r
  have HQ := Lib.hid hq
  clear hq
  go_wp2_with fail
  go_ret
  exact ⟨ret_bool (by rw [HQ.out]), hB⟩
set_option maxHeartbeats 400000 in
theorem clo_seen (n : Int) (w : World) :
    Calls Try.prog 101 #[.int .i64 n] w fun e w' => e = .returned (.bool (!rngB n 0 10000)) ∧ Below w.heap.size w w' := by
  go_enter Try.func101, Try.ntmps101
  go_wp2_with (go_at_call 59; refine (pto_any _ _ _ _).mono ?_; rintro e w' ⟨rfl, rfl⟩)
  go_ret
  exact ⟨rfl, Below.refl _ _⟩
set_option maxHeartbeats 1000000 in
theorem idxF_note (s : Sl Note) (w : World) (hr : RdNotes (· < w.heap.size) w s) :
    Calls Try.prog 123 #[.slice s.A s.l.length s.c, .func (.func 91) #[] #[]] w fun e w' => e = .returned (.int .i64 (idxF (fun n : Note => !n.d.right) 0 s.l)) ∧ Below w.heap.size w w' := by
  obtain ⟨A, c, l⟩ := s
  have hn := hr.1.len
  simp only at hn
  have HR := Lib.hid hr
  clear hr
  simp only
  go_enter Try.func123, Try.ntmps123
  go_wp2_with fail
  go_loopw [8] (fun i wr => ∃ (k : Nat), k ≤ l.length ∧ i = .int .i64 k ∧ Below w.heap.size w wr ∧ idxF (fun n : Note => !n.d.right) 0 l = idxF (fun n : Note => !n.d.right) k (l.drop k)) (fun i _ => l.length - (intOf i).toNat)
  case atStart => exact ⟨0, by omega, rfl, Below.refl _ _, by simp⟩
  case round =>
    obtain ⟨k, hk, rfl, hbel, heq⟩ := hrel
    have hhe : w.heap.size ≤ wr.heap.size := hbel.size
    by_cases hlt : k < l.length
    · obtain ⟨b, o, rfl, hb, hcl⟩ := HR.out.1.at1 hlt
      obtain ⟨g0, g1, g2, g3, g4⟩ := Cells.c5 (hcl.keep (hbel.block b hb))
      have hra := (HR.out.2 l[k] (List.getElem_mem hlt)).below' hbel (Nat.le_refl _)
      have hd : l.drop k = l[k] :: l.drop (k + 1) := List.drop_eq_getElem_cons hlt
      rw [hd] at heq
      have HE := Lib.hid heq
      have HA := Lib.hid hra
      clear hd heq hcl HR hra
      generalize l[k] = y at *
      rcases hy : y.d.right
      · have HY := Lib.hid hy
        clear hy
        go_wp2_with (go_at_call 91; refine (clo_note y wr HA.out).mono ?_; rintro e w1 ⟨rfl, hb1⟩; rw [HY.out])
        go_ret
        exact ⟨ret_int (by rw [HE.out, idxF_yes (by simp [HY.out])]), hbel.trans (hb1.mono hhe)⟩
      · have HY := Lib.hid hy
        clear hy
        go_wp2_with (go_at_call 91; refine (clo_note y wr HA.out).mono ?_; rintro e w1 ⟨rfl, hb1⟩; rw [HY.out])
        go_roundw
        case rel => exact ⟨k + 1, by omega, by go_num, hbel.trans (hb1.mono hhe), by rw [HE.out, idxF_no (by simp [HY.out])]; simp⟩
        case measure => simp [intOf]; omega
    · have hkl : l.drop k = [] := List.drop_eq_nil_of_le (by omega)
      rw [hkl] at heq
      have HE := Lib.hid heq
      clear hkl heq HR
      go_wp2_with fail
      go_ret
      exact ⟨ret_int (by rw [HE.out]; rfl), hbel⟩
set_option maxHeartbeats 1000000 in
theorem idxF_int (s : Sl Int) (w : World) (hr : Rd (· < w.heap.size) 1 ienc w s) :
    Calls Try.prog 126 #[.slice s.A s.l.length s.c, .func (.func 101) #[] #[]] w fun e w' => e = .returned (.int .i64 (idxF (fun n => !rngB n 0 10000) 0 s.l)) ∧ Below w.heap.size w w' := by
  obtain ⟨A, c, l⟩ := s
  have hn := hr.len
  simp only at hn
  have HR := Lib.hid hr
  clear hr
  simp only
  go_enter Try.func126, Try.ntmps126
  go_wp2_with fail
  go_loopw [8] (fun i wr => ∃ (k : Nat), k ≤ l.length ∧ i = .int .i64 k ∧ Below w.heap.size w wr ∧ idxF (fun n => !rngB n 0 10000) 0 l = idxF (fun n => !rngB n 0 10000) k (l.drop k)) (fun i _ => l.length - (intOf i).toNat)
  case atStart => exact ⟨0, by omega, rfl, Below.refl _ _, by simp⟩
  case round =>
    obtain ⟨k, hk, rfl, hbel, heq⟩ := hrel
    have hhe : w.heap.size ≤ wr.heap.size := hbel.size
    by_cases hlt : k < l.length
    · obtain ⟨b, o, rfl, hb, hcl⟩ := HR.out.at1 hlt
      have g0 := (hcl.keep (hbel.block b hb)).c1
      have hd : l.drop k = l[k] :: l.drop (k + 1) := List.drop_eq_getElem_cons hlt
      rw [hd] at heq
      have HE := Lib.hid heq
      clear hd heq hcl HR
      simp only [Nat.mul_one] at g0
      generalize l[k] = y at *
      rcases hy : rngB y 0 10000
      · have HY := Lib.hid hy
        clear hy
        go_wp2_with (go_at_call 101; refine (clo_seen y wr).mono ?_; rintro e w1 ⟨rfl, hb1⟩; rw [HY.out])
        go_ret
        exact ⟨ret_int (by rw [HE.out, idxF_yes (by simp [HY.out])]), hbel.trans (hb1.mono hhe)⟩
      · have HY := Lib.hid hy
        clear hy
        go_wp2_with (go_at_call 101; refine (clo_seen y wr).mono ?_; rintro e w1 ⟨rfl, hb1⟩; rw [HY.out])
        go_roundw
        case rel => exact ⟨k + 1, by omega, by go_num, hbel.trans (hb1.mono hhe), by rw [HE.out, idxF_no (by simp [HY.out])]; simp⟩
        case measure => simp [intOf]; omega
    · have hkl : l.drop k = [] := List.drop_eq_nil_of_le (by omega)
      rw [hkl] at heq
      have HE := Lib.hid heq
      clear hkl heq HR
      go_wp2_with fail
      go_ret
      exact ⟨ret_int (by rw [HE.out]; rfl), hbel⟩
set_option maxHeartbeats 400000 in
theorem contains_note (s : Sl Note) (w : World) (hr : RdNotes (· < w.heap.size) w s) :
    Calls Try.prog 90 #[.slice s.A s.l.length s.c, .func (.func 91) #[] #[]] w fun e w' => e = .returned (.bool (s.l.any (fun n : Note => !n.d.right))) ∧ Below w.heap.size w w' := by
  rw [← idxF_any s.l 0 (Int.le_refl _)]
  go_enter Try.func90, Try.ntmps90
  go_wp2_with (go_at_call 123; refine (idxF_note s w hr).mono ?_; rintro e w1 ⟨rfl, hb1⟩; generalize hq : idxF (fun n : Note => !n.d.right) 0 s.l = r; have HQ := Lib.hid hq; clear hq)
  go_ret
  exact ⟨ret_bool (by rw [HQ.out]), hb1⟩
set_option maxHeartbeats 400000 in
theorem contains_int (s : Sl Int) (w : World) (hr : Rd (· < w.heap.size) 1 ienc w s) :
    Calls Try.prog 100 #[.slice s.A s.l.length s.c, .func (.func 101) #[] #[]] w fun e w' => e = .returned (.bool (s.l.any (fun n => !rngB n 0 10000))) ∧ Below w.heap.size w w' := by
  rw [← idxF_any s.l 0 (Int.le_refl _)]
  go_enter Try.func100, Try.ntmps100
  go_wp2_with (go_at_call 126; refine (idxF_int s w hr).mono ?_; rintro e w1 ⟨rfl, hb1⟩; generalize hq : idxF (fun n => !rngB n 0 10000) 0 s.l = r; have HQ := Lib.hid hq; clear hq)
  go_ret
  exact ⟨ret_bool (by rw [HQ.out]), hb1⟩
end Go.Proofs.Ythnblhbdfpmolaa
