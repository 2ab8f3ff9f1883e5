/- Walks of the reference: Of, before, Right, riders. -/
import Derived.Test.YtjbdjlgddjmkbaaFvH
import Derived.Test.YtjbdjlgddjmkbaaFvBs
namespace Go.Proofs.Ytjbdjlgddjmkbaa
open Go.RowKit
set_option maxHeartbeats 1000000 in
theorem rof_any (s : Sl Bal) (q : Int) (w : World) (hr : Rd (· < w.heap.size) 2 Bal.enc w s) :
    Calls Try.prog 15 #[.slice s.A s.l.length s.c, .int .i64 q] w fun e w' => e = .returned (.int .i64 (ofL q s.l)) ∧ w = w' := by
  obtain ⟨A, c, l⟩ := s
  have hn := hr.len
  simp only at hn
  have HR := Lib.hid hr
  clear hr
  simp only
  go_enter Try.func15, Try.ntmps15
  go_wp2_with fail
  go_loopw [5] (fun i wr => ∃ (k : Nat), k ≤ l.length ∧ i = .int .i64 k ∧ w = wr ∧ Hid (ofL q l = ofL q (l.drop k))) (fun i _ => l.length - (intOf i).toNat)
  case atStart => exact ⟨0, by omega, rfl, rfl, Lib.hid (by simp)⟩
  case round =>
    obtain ⟨k, hk, rfl, rfl, HG⟩ := hrel
    by_cases hlt : k < l.length
    · obtain ⟨b, o, rfl, hb, hcl⟩ := HR.out.at1 hlt
      have hd : l.drop k = l[k] :: l.drop (k + 1) := List.drop_eq_getElem_cons hlt
      have hgo := HG.out
      rw [hd] at hgo
      obtain ⟨g0, g1⟩ := Cells.c2 hcl
      simp only at g0 g1
      simp only [ofL] at hgo
      generalize l[k] = x at *
      obtain ⟨xm, xn⟩ := x
      simp only at g0 g1 hgo
      have HGO := Lib.hid hgo
      clear hd hgo hcl HG
      rcases hb0 : (xm == q)
      · have HB0 : Hid (ofL q l = ofL q (l.drop (k + 1))) := Lib.hid (by rw [HGO.out, if_neg (by simpa using hb0)])
        go_wp2_with fail
        go_roundw
        case rel => exact ⟨k + 1, by omega, by go_num, trivial, HB0⟩
        case measure => simp [intOf]; omega
      · have HB0 : Hid (ofL q l = xn) := Lib.hid (by rw [HGO.out, if_pos (by simpa using hb0)])
        go_wp2_with fail
        go_ret
        exact ⟨ret_int HB0.out.symm, rfl⟩
    · have hkl : l.drop k = [] := List.drop_eq_nil_of_le (by omega)
      have hgo := HG.out
      rw [hkl] at hgo
      have HGO := Lib.hid hgo
      clear hkl hgo HG
      go_wp2_with fail
      go_ret
      exact ⟨ret_int (by rw [HGO.out]; rfl), rfl⟩
set_option maxHeartbeats 400000 in
theorem before_low (s : Sl Bal) (a b : Int) (w : World) (hr : Rd (· < w.heap.size) 2 Bal.enc w s) :
    Calls Try.prog 37 #[.slice s.A s.l.length s.c, .int .i64 a, .int .i64 b, .bool true] w fun e w' => e = .returned (.bool (lowB s.l a b)) ∧ w = w' := by
  have h1 := rof_any s a w hr
  have h2 := rof_any s b w hr
  have hv : lowB s.l a b = lowB s.l a b := rfl
  unfold lowB at hv ⊢
  clear hv
  generalize ofL a s.l = x at *
  generalize ofL b s.l = y at *
  rcases hxy : (x != y)
  · have hxe : x = y := by simpa using hxy
    subst hxe
    clear hxy
    go_enter Try.func37, Try.ntmps37
    go_wp2_with fail
    refine h1.mono ?_
    rintro e w1 ⟨rfl, rfl⟩
    go_wp2_with fail
    refine h2.mono ?_
    rintro e w1 ⟨rfl, rfl⟩
    go_wp2_with fail
    go_ret
    exact ⟨ret_bool (by simp), rfl⟩
  · have hxe : x ≠ y := by simpa using hxy
    have HXE := Lib.hid hxe
    clear hxe
    go_enter Try.func37, Try.ntmps37
    go_wp2_with fail
    refine h1.mono ?_
    rintro e w1 ⟨rfl, rfl⟩
    go_wp2_with fail
    refine h2.mono ?_
    rintro e w1 ⟨rfl, rfl⟩
    go_wp2_with fail
    go_ret
    have hne := HXE.out
    exact ⟨ret_bool (by rcases Int.lt_trichotomy x y with h | h | h <;> simp [h, hne] <;> omega), rfl⟩
set_option maxHeartbeats 400000 in
theorem before_bef (s : Sl Bal) (a b : Int) (w : World) (hr : Rd (· < w.heap.size) 2 Bal.enc w s) :
    Calls Try.prog 37 #[.slice s.A s.l.length s.c, .int .i64 a, .int .i64 b, .bool false] w fun e w' => e = .returned (.bool (befB s.l a b)) ∧ w = w' := by
  have h1 := rof_any s a w hr
  have h2 := rof_any s b w hr
  have hv : befB s.l a b = befB s.l a b := rfl
  unfold befB at hv ⊢
  clear hv
  generalize ofL a s.l = x at *
  generalize ofL b s.l = y at *
  rcases hxy : (x != y)
  · have hxe : x = y := by simpa using hxy
    subst hxe
    clear hxy
    go_enter Try.func37, Try.ntmps37
    go_wp2_with fail
    refine h1.mono ?_
    rintro e w1 ⟨rfl, rfl⟩
    go_wp2_with fail
    refine h2.mono ?_
    rintro e w1 ⟨rfl, rfl⟩
    go_wp2_with fail
    go_ret
    exact ⟨ret_bool (by simp), rfl⟩
  · have hxe : x ≠ y := by simpa using hxy
    have HXE := Lib.hid hxe
    clear hxe
    go_enter Try.func37, Try.ntmps37
    go_wp2_with fail
    refine h1.mono ?_
    rintro e w1 ⟨rfl, rfl⟩
    go_wp2_with fail
    refine h2.mono ?_
    rintro e w1 ⟨rfl, rfl⟩
    go_wp2_with fail
    go_ret
    have hne := HXE.out
    exact ⟨ret_bool (by rcases Int.lt_trichotomy x y with h | h | h <;> simp [h, hne] <;> omega), rfl⟩
end Go.Proofs.Ytjbdjlgddjmkbaa
