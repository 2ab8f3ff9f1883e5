/- Walks of package phone: find, New, copied, copies. -/
import Derived.Test.YthnblhbdfpmolaaMLatmxai
import Derived.Test.YthnblhbdfpmolaaMLatmxap
namespace Go.Proofs.Ythnblhbdfpmolaa
open Go.RowKit
theorem holdsGo_sorted : ∀ (l : List Hold) (la : Int), holdsGo la l = true → l.Pairwise (fun a b => a.st < b.st) ∧ ∀ x ∈ l, la < x.st ∧ 1 ≤ x.u ∧ x.u ≤ 1000000000000000 ∧ 0 ≤ x.s ∧ x.s ≤ x.u
  | [], _, _ => ⟨.nil, fun _ hx => by simp at hx⟩
  | x :: l, la, h => by
    by_cases hx : x.st ≤ la ∨ rngB x.u 1 1000000000000000 = false ∨ rngB x.s 0 x.u = false
    · rw [holdsGo_no hx] at h; cases h
    · have h1 : la < x.st := by omega
      have h2 : rngB x.u 1 1000000000000000 = true := by
        rcases h2 : rngB x.u 1 1000000000000000
        · exact absurd (.inr (.inl h2)) hx
        · rfl
      have h3 : rngB x.s 0 x.u = true := by
        rcases h3 : rngB x.s 0 x.u
        · exact absurd (.inr (.inr h3)) hx
        · rfl
      rw [holdsGo_go h1 h2 h3] at h
      obtain ⟨a, b⟩ := holdsGo_sorted l _ h
      have h2 := rngB_iff.1 h2
      have h3 := rngB_iff.1 h3
      refine ⟨List.pairwise_cons.2 ⟨fun y hy => (b y hy).1, a⟩, fun y hy => ?_⟩
      rcases List.mem_cons.1 hy with rfl | hy
      · omega
      · have := b y hy; omega
theorem holdsR_iff {l : List Hold} (h : holdsR l = true) : l.length ≤ 100 ∧ l.Pairwise (fun a b => a.st < b.st) ∧ ∀ x ∈ l, -1 < x.st ∧ 1 ≤ x.u ∧ x.u ≤ 1000000000000000 ∧ 0 ≤ x.s ∧ x.s ≤ x.u := by
  simp only [holdsR, Bool.and_eq_true] at h
  exact ⟨of_decide_eq_true h.2, holdsGo_sorted _ _ h.1⟩
def hidx (l : List Hold) (p : Int) : Nat := l.countP (fun x => decide (x.st < p))
def hhas (l : List Hold) (p : Int) : Bool := l.any (fun x => decide (x.st = p))
theorem hidx_le (l : List Hold) (p : Int) : hidx l p ≤ l.length := List.countP_le_length
theorem hidx_at : ∀ {l : List Hold} {p : Int}, l.Pairwise (fun a b => a.st < b.st) → hhas l p = true → ∃ x, l[hidx l p]? = some x ∧ x.st = p
  | [], p, _, h => by simp [hhas] at h
  | x :: l, p, hs, h => by
    obtain ⟨h1, h2⟩ := List.pairwise_cons.1 hs
    by_cases hx : x.st < p
    · have : hidx (x :: l) p = hidx l p + 1 := by simp [hidx, hx]
      rw [this]
      have h' : hhas l p = true := by
        simp [hhas] at h ⊢
        rcases h with h | h
        · omega
        · exact h
      simpa using hidx_at h2 h'
    · have hz : hidx l p = 0 := by
        simp only [hidx, List.countP_eq_zero]
        intro y hy; have := h1 y hy; simp; omega
      have : hidx (x :: l) p = 0 := by simp [hidx, hx] at hz ⊢; exact hz
      rw [this]
      refine ⟨x, rfl, ?_⟩
      simp [hhas] at h
      rcases h with h | ⟨y, hy, h⟩
      · exact h
      · have := h1 y hy; omega
set_option maxHeartbeats 1000000 in
theorem phone_find (p : Phone) (n : Int) (w : World) (hr : RdPhone (· < w.heap.size) w p) (h0 : holdsR p.H.l = true) :
    Calls Try.prog 60 #[p.v, .int .i64 n] w fun e w' => e = .returned (.tuple #[.int .i64 (hidx p.H.l n : Nat), .bool (hhas p.H.l n)]) ∧ Below w.heap.size w w' := by
  obtain ⟨id, cut, H, N, S⟩ := p
  obtain ⟨hl, hs, _⟩ := holdsR_iff h0
  simp only at hl hs
  have HS := Lib.hid hs
  have HR := Lib.hid hr
  clear hr h0 hs
  simp only [Phone.v]
  go_enter Try.func60, Try.ntmps60
  go_wp2_with fail
  refine (bs_hold H n _ (HR.out.1.lt_alloc _) (by omega) HS.out).mono ?_
  rintro e w1 ⟨rfl, hb1⟩
  have hB : Below w.heap.size w w1 := Below.trans (by repeat (first | (with_reducible exact Below.refl _ _) | ((with_reducible refine below_setr ?_ ?_); focus (first | (simp; done) | (simp; omega) | omega)) | ((with_reducible refine below_allocr ?_ ?_); focus (first | (simp; done) | (simp; omega) | omega)) | (with_reducible refine Below.drew ?_) | (with_reducible refine below_drewN ?_ _))) (hb1.mono (by first | omega | (simp; done) | (simp; omega)))
  clear hb1
  go_wp2_with fail
  go_ret2
  exact ⟨rfl, hB⟩
def newP (n : Int) : PhoneD × Int := if rngB n 0 11 then (⟨n, false, [], [], List.replicate 12 0⟩, 0) else (⟨0, false, [], [], []⟩, 1)
set_option maxHeartbeats 1000000 in
theorem phone_new (n : Int) (w : World) :
    Calls Try.prog 16 #[.int .i64 n] w fun e w' => ∃ p : Phone, e = .returned (.tuple #[p.v, .int .i64 (newP n).2]) ∧ p.d = (newP n).1 ∧ RdPhone (· < w'.heap.size) w' p ∧ Below w.heap.size w w' := by
  have hmk : ∀ w, (Instr.makeSlice 24 (.int .i64 12) (.int .i64 12)).run Try.prog w = .ok (.slice (some ⟨w.heap.size, 0, none⟩) 12 12) (w.alloc (.cells (Array.replicate 12 (.int .i64 0)) 3)) := fun _ => by kernel_rfl
  unfold newP
  rcases hq : rngB n 0 11
  · go_enter Try.func16, Try.ntmps16
    go_wp2_with (go_at_call 53; refine (phone_device _ _).mono ?_; rintro e w' ⟨rfl, rfl⟩)
    try simp only [Exit.inBlock, Exit.then]
    refine bodyPost_ret (v := .tuple #[.agg #[.int .i64 0, .bool false, .slice none 0 0, .slice none 0 0, .slice none 0 0], .int .i64 1]) ?_ rfl ⟨⟨0, false, ⟨none, 0, []⟩, ⟨none, 0, []⟩, ⟨none, 0, []⟩⟩, rfl, rfl, ⟨Rd.nil _ _ _ _, ⟨Rd.nil _ _ _ _, by simp⟩, Rd.nil _ _ _ _⟩, (by repeat (first | (with_reducible exact Below.refl _ _) | ((with_reducible refine below_setr ?_ ?_); focus (first | (simp; done) | (simp; omega) | omega)) | ((with_reducible refine below_allocr ?_ ?_); focus (first | (simp; done) | (simp; omega) | omega)) | (with_reducible refine Below.drew ?_) | (with_reducible refine below_drewN ?_ _)))⟩
    simp [results, Try.results16, go_sem]
  · go_enter Try.func16, Try.ntmps16
    go_wp2_with (go_at_call 53; refine (phone_device _ _).mono ?_; rintro e w' ⟨rfl, rfl⟩)
    try simp only [Exit.inBlock, Exit.then]
    have HN := fun W : World => Lib.hid (Own.lit (base := 0) (e := 3) (k := 1) (enc := ienc) W (Array.replicate 12 (.int .i64 0)) (List.replicate 12 (0 : Int)) (Nat.zero_le _) (by simp [maxLen]) rfl ienc_k)
    refine bodyPost_ret (v := .tuple #[.agg #[.int .i64 n, .bool false, .slice none 0 0, .slice none 0 0, .slice (some ⟨w.heap.size + 1, 0, none⟩) 12 12], .int .i64 0]) ?_ rfl ⟨⟨n, false, ⟨none, 0, []⟩, ⟨none, 0, []⟩, ⟨some ⟨w.heap.size + 1, 0, none⟩, 12, List.replicate 12 (0:Int)⟩⟩, rfl, rfl, ⟨Rd.nil _ _ _ _, ⟨Rd.nil _ _ _ _, by simp⟩, ?_⟩, (by repeat (first | (with_reducible exact Below.refl _ _) | ((with_reducible refine below_setr ?_ ?_); focus (first | (simp; done) | (simp; omega) | omega)) | ((with_reducible refine below_allocr ?_ ?_); focus (first | (simp; done) | (simp; omega) | omega)) | (with_reducible refine Below.drew ?_) | (with_reducible refine below_drewN ?_ _)))⟩
    · simp [results, Try.results16, go_sem]
    · have := (HN (w.alloc (.cells #[.int .i64 n, .bool false, .slice none 0 0, .slice none 0 0, .slice (some ⟨w.heap.size + 1, 0, none⟩) 12 12] 33))).out
      rw [show (w.alloc (.cells #[.int .i64 n, .bool false, .slice none 0 0, .slice none 0 0, .slice (some ⟨w.heap.size + 1, 0, none⟩) 12 12] 33)).heap.size = w.heap.size + 1 from by simp] at this
      exact (this.rd ienc_k).mono fun b hb => hb.2
end Go.Proofs.Ythnblhbdfpmolaa
