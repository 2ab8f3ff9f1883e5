/- slices.Clone at two element types: the copy is a row of the call's own. -/
import Derived.Test.YtjbdjlgddjmkbaaFvD
namespace Go.Proofs.Ytjbdjlgddjmkbaa
open Go.RowKit
set_option maxHeartbeats 400000 in
theorem clone_bal (s : Sl Bal) (w : World) (hr : Rd (· < w.heap.size) 2 Bal.enc w s) (hb : s.l.length * 16 ≤ 140737488355328) :
    Calls Try.prog 31 #[.slice s.A s.l.length s.c] w fun e w' => ∃ A c, e = .returned (.slice A s.l.length c) ∧ Own w.heap.size 39 2 Bal.enc w' ⟨A, c, s.l⟩ ∧ Below w.heap.size w w' := by
  obtain ⟨A, c, l⟩ := s
  have hcap := hr.cap
  have hlc := hr.lecap
  simp only at hcap hlc hb
  rcases A with _ | ad
  · obtain ⟨hl, hc⟩ := hr.none_ rfl
    simp only at hl hc
    subst hl; subst hc
    have hnil := fun W => Lib.run_eql_slice_nil (P := Try.prog) W 22 39 none 0 0 0 0 Try.underlying22
    go_enter Try.func31, Try.ntmps31
    go_wp2_with fail
    go_ret
    exact ⟨none, 0, rfl, Own.nil _ _ _ _ _, Below.refl _ _⟩
  · have HR := Lib.hid hr
    clear hr
    have hnil := fun W => Lib.run_eql_slice_nil (P := Try.prog) W 22 39 (some ad) l.length c 0 0 Try.underlying22
    go_enter Try.func31, Try.ntmps31
    go_wp2_with (at_builtin
                 go_must (refine wpl_append_sl _ rfl (.tmp 5) (.tmp 6) _ rfl Try.underlying22 infoBal (by omega) Bal.k Bal.one ⟨some ⟨w.heap.size, 0, none⟩, 0, []⟩ ⟨some ad, c, l⟩ rfl rfl (Own.lit w #[] [] (Nat.le_refl _) (Nat.zero_le _) rfl Bal.k) (HR.out.lt_alloc _) (by simp [maxLen]; omega) (by simp; omega) (by simp) ?_)
                 intro A' c' w1 hown hg _)
    go_ret
    exact ⟨A', c', rfl, hown, ((Below.refl _ _).alloc (Nat.le_refl _) _).grown hg (by simp) (by simp [Value.ownBlock])⟩
set_option maxHeartbeats 400000 in
theorem clone_int (s : Sl Int) (w : World) (hr : Rd (· < w.heap.size) 1 ienc w s) (hb : s.l.length * 8 ≤ 140737488355328) :
    Calls Try.prog 23 #[.slice s.A s.l.length s.c] w fun e w' => ∃ A c, e = .returned (.slice A s.l.length c) ∧ Own w.heap.size 3 1 ienc w' ⟨A, c, s.l⟩ ∧ Below w.heap.size w w' := by
  obtain ⟨A, c, l⟩ := s
  have hcap := hr.cap
  have hlc := hr.lecap
  simp only at hcap hlc hb
  rcases A with _ | ad
  · obtain ⟨hl, hc⟩ := hr.none_ rfl
    simp only at hl hc
    subst hl; subst hc
    have hnil := fun W => Lib.run_eql_slice_nil (P := Try.prog) W 23 3 none 0 0 0 0 Try.underlying23
    go_enter Try.func23, Try.ntmps23
    go_wp2_with fail
    go_ret
    exact ⟨none, 0, rfl, Own.nil _ _ _ _ _, Below.refl _ _⟩
  · have HR := Lib.hid hr
    clear hr
    have hnil := fun W => Lib.run_eql_slice_nil (P := Try.prog) W 23 3 (some ad) l.length c 0 0 Try.underlying23
    go_enter Try.func23, Try.ntmps23
    go_wp2_with (at_builtin
                 go_must (refine wpl_append_sl _ rfl (.tmp 5) (.tmp 6) _ rfl Try.underlying23 infoInt (by omega) ienc_k ienc_one ⟨some ⟨w.heap.size, 0, none⟩, 0, []⟩ ⟨some ad, c, l⟩ rfl rfl (Own.lit w #[] [] (Nat.le_refl _) (Nat.zero_le _) rfl ienc_k) (HR.out.lt_alloc _) (by simp [maxLen]; omega) (by simp; omega) (by simp) ?_)
                 intro A' c' w1 hown hg _)
    go_ret
    exact ⟨A', c', rfl, hown, ((Below.refl _ _).alloc (Nat.le_refl _) _).grown hg (by simp) (by simp [Value.ownBlock])⟩
end Go.Proofs.Ytjbdjlgddjmkbaa
