/- slices.Clone at five element types: the copy is a row of the call's own. -/
import Derived.Test.YthnblhbdfpmolaaMLatmxac
namespace Go.Proofs.Ythnblhbdfpmolaa
open Go.RowKit
set_option maxHeartbeats 400000 in
theorem clone_loan (s : Sl Loan) (w : World) (hr : Rd (· < w.heap.size) 3 Loan.enc w s) (hb : s.l.length * 24 ≤ 140737488355328) :
    Calls Try.prog 109 #[.slice s.A s.l.length s.c] w fun e w' => ∃ A c, e = .returned (.slice A s.l.length c) ∧ Own w.heap.size 136 3 Loan.enc w' ⟨A, c, s.l⟩ ∧ Below w.heap.size w w' := by
  obtain ⟨A, c, l⟩ := s
  have hcap := hr.cap
  have hlc := hr.lecap
  simp only at hcap hlc hb
  rcases A with _ | ad
  · obtain ⟨hl, hc⟩ := hr.none_ rfl
    simp only at hl hc
    subst hl; subst hc
    have hnil := fun W => Lib.run_eql_slice_nil (P := Try.prog) W 64 136 none 0 0 0 0 Try.underlying64
    go_enter Try.func109, Try.ntmps109
    go_wp2_with fail
    go_ret
    exact ⟨none, 0, rfl, Own.nil _ _ _ _ _, Below.refl _ _⟩
  · have HR := Lib.hid hr
    clear hr
    have hnil := fun W => Lib.run_eql_slice_nil (P := Try.prog) W 64 136 (some ad) l.length c 0 0 Try.underlying64
    go_enter Try.func109, Try.ntmps109
    go_wp2_with (at_builtin
                 go_must (refine wpl_append_sl _ rfl (.tmp 5) (.tmp 6) _ rfl Try.underlying64 infoLoan (by omega) Loan.k Loan.one ⟨some ⟨w.heap.size, 0, none⟩, 0, []⟩ ⟨some ad, c, l⟩ rfl rfl (Own.lit w #[] [] (Nat.le_refl _) (Nat.zero_le _) rfl Loan.k) (HR.out.lt_alloc _) (by simp [maxLen]; omega) (by simp; omega) (by simp) ?_)
                 intro A' c' w1 hown hg _)
    go_ret
    exact ⟨A', c', rfl, hown, ((Below.refl _ _).alloc (Nat.le_refl _) _).grown hg (by simp) (by simp [Value.ownBlock])⟩
set_option maxHeartbeats 400000 in
theorem clone_hold (s : Sl Hold) (w : World) (hr : Rd (· < w.heap.size) 3 Hold.enc w s) (hb : s.l.length * 24 ≤ 140737488355328) :
    Calls Try.prog 106 #[.slice s.A s.l.length s.c] w fun e w' => ∃ A c, e = .returned (.slice A s.l.length c) ∧ Own w.heap.size 62 3 Hold.enc w' ⟨A, c, s.l⟩ ∧ Below w.heap.size w w' := by
  obtain ⟨A, c, l⟩ := s
  have hcap := hr.cap
  have hlc := hr.lecap
  simp only at hcap hlc hb
  rcases A with _ | ad
  · obtain ⟨hl, hc⟩ := hr.none_ rfl
    simp only at hl hc
    subst hl; subst hc
    have hnil := fun W => Lib.run_eql_slice_nil (P := Try.prog) W 31 62 none 0 0 0 0 Try.underlying31
    go_enter Try.func106, Try.ntmps106
    go_wp2_with fail
    go_ret
    exact ⟨none, 0, rfl, Own.nil _ _ _ _ _, Below.refl _ _⟩
  · have HR := Lib.hid hr
    clear hr
    have hnil := fun W => Lib.run_eql_slice_nil (P := Try.prog) W 31 62 (some ad) l.length c 0 0 Try.underlying31
    go_enter Try.func106, Try.ntmps106
    go_wp2_with (at_builtin
                 go_must (refine wpl_append_sl _ rfl (.tmp 5) (.tmp 6) _ rfl Try.underlying31 infoHold (by omega) Hold.k Hold.one ⟨some ⟨w.heap.size, 0, none⟩, 0, []⟩ ⟨some ad, c, l⟩ rfl rfl (Own.lit w #[] [] (Nat.le_refl _) (Nat.zero_le _) rfl Hold.k) (HR.out.lt_alloc _) (by simp [maxLen]; omega) (by simp; omega) (by simp) ?_)
                 intro A' c' w1 hown hg _)
    go_ret
    exact ⟨A', c', rfl, hown, ((Below.refl _ _).alloc (Nat.le_refl _) _).grown hg (by simp) (by simp [Value.ownBlock])⟩
set_option maxHeartbeats 400000 in
theorem clone_stock (s : Sl Stock) (w : World) (hr : Rd (· < w.heap.size) 3 Stock.enc w s) (hb : s.l.length * 40 ≤ 140737488355328) :
    Calls Try.prog 108 #[.slice s.A s.l.length s.c] w fun e w' => ∃ A c, e = .returned (.slice A s.l.length c) ∧ Own w.heap.size 66 3 Stock.enc w' ⟨A, c, s.l⟩ ∧ Below w.heap.size w w' := by
  obtain ⟨A, c, l⟩ := s
  have hcap := hr.cap
  have hlc := hr.lecap
  simp only at hcap hlc hb
  rcases A with _ | ad
  · obtain ⟨hl, hc⟩ := hr.none_ rfl
    simp only at hl hc
    subst hl; subst hc
    have hnil := fun W => Lib.run_eql_slice_nil (P := Try.prog) W 27 66 none 0 0 0 0 Try.underlying27
    go_enter Try.func108, Try.ntmps108
    go_wp2_with fail
    go_ret
    exact ⟨none, 0, rfl, Own.nil _ _ _ _ _, Below.refl _ _⟩
  · have HR := Lib.hid hr
    clear hr
    have hnil := fun W => Lib.run_eql_slice_nil (P := Try.prog) W 27 66 (some ad) l.length c 0 0 Try.underlying27
    go_enter Try.func108, Try.ntmps108
    go_wp2_with (at_builtin
                 go_must (refine wpl_append_sl _ rfl (.tmp 5) (.tmp 6) _ rfl Try.underlying27 infoStock (by omega) Stock.k Stock.one ⟨some ⟨w.heap.size, 0, none⟩, 0, []⟩ ⟨some ad, c, l⟩ rfl rfl (Own.lit w #[] [] (Nat.le_refl _) (Nat.zero_le _) rfl Stock.k) (HR.out.lt_alloc _) (by simp [maxLen]; omega) (by simp; omega) (by simp) ?_)
                 intro A' c' w1 hown hg _)
    go_ret
    exact ⟨A', c', rfl, hown, ((Below.refl _ _).alloc (Nat.le_refl _) _).grown hg (by simp) (by simp [Value.ownBlock])⟩
set_option maxHeartbeats 400000 in
theorem clone_note (s : Sl Note) (w : World) (hr : Rd (· < w.heap.size) 5 Note.enc w s) (hb : s.l.length * 64 ≤ 140737488355328) :
    Calls Try.prog 107 #[.slice s.A s.l.length s.c] w fun e w' => ∃ A c, e = .returned (.slice A s.l.length c) ∧ Own w.heap.size 61 5 Note.enc w' ⟨A, c, s.l⟩ ∧ Below w.heap.size w w' := by
  obtain ⟨A, c, l⟩ := s
  have hcap := hr.cap
  have hlc := hr.lecap
  simp only at hcap hlc hb
  rcases A with _ | ad
  · obtain ⟨hl, hc⟩ := hr.none_ rfl
    simp only at hl hc
    subst hl; subst hc
    have hnil := fun W => Lib.run_eql_slice_nil (P := Try.prog) W 23 61 none 0 0 0 0 Try.underlying23
    go_enter Try.func107, Try.ntmps107
    go_wp2_with fail
    go_ret
    exact ⟨none, 0, rfl, Own.nil _ _ _ _ _, Below.refl _ _⟩
  · have HR := Lib.hid hr
    clear hr
    have hnil := fun W => Lib.run_eql_slice_nil (P := Try.prog) W 23 61 (some ad) l.length c 0 0 Try.underlying23
    go_enter Try.func107, Try.ntmps107
    go_wp2_with (at_builtin
                 go_must (refine wpl_append_sl _ rfl (.tmp 5) (.tmp 6) _ rfl Try.underlying23 infoNote (by omega) Note.k Note.one ⟨some ⟨w.heap.size, 0, none⟩, 0, []⟩ ⟨some ad, c, l⟩ rfl rfl (Own.lit w #[] [] (Nat.le_refl _) (Nat.zero_le _) rfl Note.k) (HR.out.lt_alloc _) (by simp [maxLen]; omega) (by simp; omega) (by simp) ?_)
                 intro A' c' w1 hown hg _)
    go_ret
    exact ⟨A', c', rfl, hown, ((Below.refl _ _).alloc (Nat.le_refl _) _).grown hg (by simp) (by simp [Value.ownBlock])⟩
set_option maxHeartbeats 400000 in
theorem clone_int (s : Sl Int) (w : World) (hr : Rd (· < w.heap.size) 1 ienc w s) (hb : s.l.length * 8 ≤ 140737488355328) :
    Calls Try.prog 69 #[.slice s.A s.l.length s.c] w fun e w' => ∃ A c, e = .returned (.slice A s.l.length c) ∧ Own w.heap.size 3 1 ienc w' ⟨A, c, s.l⟩ ∧ Below w.heap.size w w' := by
  obtain ⟨A, c, l⟩ := s
  have hcap := hr.cap
  have hlc := hr.lecap
  simp only at hcap hlc hb
  rcases A with _ | ad
  · obtain ⟨hl, hc⟩ := hr.none_ rfl
    simp only at hl hc
    subst hl; subst hc
    have hnil := fun W => Lib.run_eql_slice_nil (P := Try.prog) W 24 3 none 0 0 0 0 Try.underlying24
    go_enter Try.func69, Try.ntmps69
    go_wp2_with fail
    go_ret
    exact ⟨none, 0, rfl, Own.nil _ _ _ _ _, Below.refl _ _⟩
  · have HR := Lib.hid hr
    clear hr
    have hnil := fun W => Lib.run_eql_slice_nil (P := Try.prog) W 24 3 (some ad) l.length c 0 0 Try.underlying24
    go_enter Try.func69, Try.ntmps69
    go_wp2_with (at_builtin
                 go_must (refine wpl_append_sl _ rfl (.tmp 5) (.tmp 6) _ rfl Try.underlying24 infoInt (by omega) ienc_k ienc_one ⟨some ⟨w.heap.size, 0, none⟩, 0, []⟩ ⟨some ad, c, l⟩ rfl rfl (Own.lit w #[] [] (Nat.le_refl _) (Nat.zero_le _) rfl ienc_k) (HR.out.lt_alloc _) (by simp [maxLen]; omega) (by simp; omega) (by simp) ?_)
                 intro A' c' w1 hown hg _)
    go_ret
    exact ⟨A', c', rfl, hown, ((Below.refl _ _).alloc (Nat.le_refl _) _).grown hg (by simp) (by simp [Value.ownBlock])⟩
end Go.Proofs.Ythnblhbdfpmolaa
