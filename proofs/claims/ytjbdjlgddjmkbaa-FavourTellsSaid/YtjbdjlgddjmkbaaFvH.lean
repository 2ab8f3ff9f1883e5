/- Walks of the reference's in, Few, Same, and of the law's has, apart. -/
import Derived.Test.YtjbdjlgddjmkbaaFvLr
namespace Go.Proofs.Ytjbdjlgddjmkbaa
open Go.RowKit
def FewP (l : List Bal) (e : Ending) : Prop := ∃ b, e = .returned (.bool b) ∧ (b = true → l.length ≤ 20 ∧ ∀ x ∈ l, -2199023255552 ≤ x.n ∧ x.n ≤ 2199023255552)
set_option maxHeartbeats 400000 in
theorem in_any (n a b : Int) (w : World) : Calls Try.prog 21 #[.int .i64 n, .int .i64 a, .int .i64 b] w fun e w' => e = .returned (.bool (rngB n a b)) ∧ w = w' := by
  go_enter Try.func21, Try.ntmps21
  go_wp2
  all_goals
    go_ret
    exact ⟨ret_bool (by simp [rngB, *] <;> omega), rfl⟩
set_option maxHeartbeats 1000000 in
theorem few_any (s : Sl Bal) (w : World) (hr : Rd (· < w.heap.size) 2 Bal.enc w s) :
    Calls Try.prog 9 #[.slice s.A s.l.length s.c] w fun e w' => FewP s.l e ∧ w = w' := by
  obtain ⟨A, c, l⟩ := s
  have hn := hr.len
  simp only at hn
  have HR := Lib.hid hr
  clear hr
  simp only
  go_enter Try.func9, Try.ntmps9
  go_wp2_with fail
  go_loopw [3] (fun i wr => ∃ (k : Nat), k ≤ l.length ∧ k ≤ 21 ∧ i = .int .i64 k ∧ w = wr ∧ Hid (∀ x ∈ l.take k, -2199023255552 ≤ x.n ∧ x.n ≤ 2199023255552)) (fun i _ => l.length - (intOf i).toNat)
  case atStart => exact ⟨0, by omega, by omega, rfl, rfl, Lib.hid (by simp)⟩
  case round =>
    obtain ⟨k, hk, hk2, rfl, rfl, HB⟩ := hrel
    by_cases hlt : k < l.length ∧ k ≤ 20
    · obtain ⟨hlt, h20⟩ := hlt
      obtain ⟨b, o, rfl, hb, hcl⟩ := HR.out.at1 hlt
      have htk : l.take (k + 1) = l.take k ++ [l[k]] := (List.take_append_getElem hlt).symm
      obtain ⟨g0, g1⟩ := Cells.c2 hcl
      simp only at g0 g1
      generalize l[k] = x at *
      have HTK := Lib.hid htk
      obtain ⟨xm, xn⟩ := x
      simp only at g0 g1
      have h20' : (k : Int) ≤ 20 := by omega
      clear hcl htk
      rcases hin : rngB xn (-2199023255552) 2199023255552
      · have HIN := Lib.hid hin
        clear hin
        go_wp2_with fail
        refine (in_any _ _ _ _).mono ?_
        rintro e w1 ⟨rfl, rfl⟩
        rw [HIN.out]
        go_wp2_with fail
        go_ret
        exact ⟨⟨false, rfl, fun h => by cases h⟩, rfl⟩
      · have HIN := Lib.hid hin
        clear hin
        go_wp2_with fail
        refine (in_any _ _ _ _).mono ?_
        rintro e w1 ⟨rfl, rfl⟩
        rw [HIN.out]
        go_wp2_with fail
        go_roundw
        case rel =>
          refine ⟨k + 1, by omega, by omega, by go_num, trivial, Lib.hid ?_⟩
          rw [HTK.out]
          intro y hy
          rcases List.mem_append.1 hy with hy | hy
          · exact HB.out y hy
          · simp at hy; subst hy; exact rngB_iff.1 HIN.out
        case measure => simp [intOf]; omega
    · by_cases h20 : l.length ≤ 20
      · have hkk : ¬ k < l.length := fun h => hlt ⟨h, by omega⟩
        have hbb := HB.out
        rw [List.take_of_length_le (by omega)] at hbb
        have HBB := Lib.hid hbb
        have h20' : (l.length : Int) ≤ 20 := by omega
        clear hbb HB hlt
        go_wp2_with fail
        go_ret
        exact ⟨⟨_, rfl, fun _ => ⟨h20, HBB.out⟩⟩, rfl⟩
      · have h20' : (20 : Int) < (l.length : Int) := by omega
        have hk21 : k = 21 := by
          refine Decidable.byContradiction fun h => hlt ⟨by omega, by omega⟩
        subst hk21
        clear hlt
        go_wp2_with fail
        all_goals
          go_ret
          exact ⟨⟨_, rfl, fun h => by simp at h; omega⟩, rfl⟩
set_option maxHeartbeats 1000000 in
theorem has_any (s : Sl Int) (q : Int) (w : World) (hr : Rd (· < w.heap.size) 1 ienc w s) :
    Calls Try.prog 20 #[.slice s.A s.l.length s.c, .int .i64 q] w fun e w' => e = .returned (.bool (decide (q ∈ s.l))) ∧ w = w' := by
  obtain ⟨A, c, l⟩ := s
  have hn := hr.len
  simp only at hn
  have HR := Lib.hid hr
  clear hr
  simp only
  go_enter Try.func20, Try.ntmps20
  go_wp2_with fail
  go_loopw [5] (fun i wr => ∃ (k : Nat), k ≤ l.length ∧ i = .int .i64 k ∧ w = wr ∧ Hid (q ∉ l.take k)) (fun i _ => l.length - (intOf i).toNat)
  case atStart => exact ⟨0, by omega, rfl, rfl, Lib.hid (by simp)⟩
  case round =>
    obtain ⟨k, hk, rfl, rfl, HB⟩ := hrel
    by_cases hlt : k < l.length
    · obtain ⟨b, o, rfl, hb, hcl⟩ := HR.out.at1 hlt
      have htk : l.take (k + 1) = l.take k ++ [l[k]] := (List.take_append_getElem hlt).symm
      have hm : l[k] ∈ l := List.getElem_mem hlt
      have g0 := hcl.c1
      simp only [Nat.mul_one] at g0
      generalize l[k] = x at *
      have HTK := Lib.hid htk
      have HM := Lib.hid hm
      clear hcl htk hm
      rcases hxq : (x == q)
      · have HXQ := Lib.hid hxq
        go_wp2_with fail
        go_roundw
        case rel =>
          refine ⟨k + 1, by omega, by go_num, trivial, Lib.hid ?_⟩
          rw [HTK.out]
          intro hy
          rcases List.mem_append.1 hy with hy | hy
          · exact HB.out hy
          · have := HXQ.out
            simp at hy; subst hy; simp at this
        case measure => simp [intOf]; omega
      · have HXQ := Lib.hid hxq
        go_wp2_with fail
        go_ret
        exact ⟨ret_bool (by have := HXQ.out; simp at this; subst this; exact (decide_eq_true HM.out).symm), rfl⟩
    · have hb := HB.out
      rw [List.take_of_length_le (by omega)] at hb
      have HBB := Lib.hid hb
      clear hb HB
      go_wp2_with fail
      go_ret
      exact ⟨ret_bool (decide_eq_false HBB.out).symm, rfl⟩
set_option maxHeartbeats 1000000 in
theorem same_any (s r : Sl Bal) (w : World) (hs : Rd (· < w.heap.size) 2 Bal.enc w s) (hr : Rd (· < w.heap.size) 2 Bal.enc w r) :
    Calls Try.prog 18 #[.slice s.A s.l.length s.c, .slice r.A r.l.length r.c] w fun e w' => e = .returned (.bool (decide (s.l = r.l))) ∧ Below w.heap.size w w' := by
  obtain ⟨A, c, l⟩ := s
  obtain ⟨A', c', l'⟩ := r
  have hn := hs.len
  have hn' := hr.len
  simp only at hn hn'
  have HS := Lib.hid hs
  have HR := Lib.hid hr
  clear hs hr
  simp only
  by_cases hll : l.length = l'.length
  · have he1 : ((l.length : Int) != (l'.length : Int)) = false := by simp; omega
    have HLL := Lib.hid hll
    clear hll
    go_enter Try.func18, Try.ntmps18
    go_wp2_with fail
    go_loopw [5] (fun i wr => ∃ (k : Nat), k ≤ l.length ∧ i = .int .i64 k ∧ Below w.heap.size w wr ∧ Hid (l.take k = l'.take k)) (fun i _ => l.length - (intOf i).toNat)
    case atStart => exact ⟨0, by omega, rfl, (by repeat (first | (with_reducible exact Below.refl _ _) | ((with_reducible refine below_setr ?_ ?_); focus (first | (simp; done) | (simp; omega) | omega)) | ((with_reducible refine below_allocr ?_ ?_); focus (first | (simp; done) | (simp; omega) | omega)) | (with_reducible refine Below.drew ?_) | (with_reducible refine below_drewN ?_ _))), Lib.hid (by simp)⟩
    case round =>
      obtain ⟨k, hk, rfl, hbel, HB⟩ := hrel
      have hhe : w.heap.size ≤ wr.heap.size := hbel.size
      by_cases hlt : k < l.length
      · have hlt' : k < l'.length := by have := HLL.out; omega
        obtain ⟨b, o, rfl, hb, hcl⟩ := HS.out.at1 hlt
        obtain ⟨b', o', rfl, hb', hcl'⟩ := HR.out.at1 hlt'
        have htk : l.take (k + 1) = l.take k ++ [l[k]] := (List.take_append_getElem hlt).symm
        have htk' : l'.take (k + 1) = l'.take k ++ [l'[k]] := (List.take_append_getElem hlt').symm
        have hm : l[k]? = some l[k] := List.getElem?_eq_getElem hlt
        have hm' : l'[k]? = some l'[k] := List.getElem?_eq_getElem hlt'
        obtain ⟨g0, g1⟩ := Cells.c2 (hcl.keep (hbel.block b hb))
        obtain ⟨j0, j1⟩ := Cells.c2 (hcl'.keep (hbel.block b' hb'))
        simp only at g0 g1 j0 j1
        generalize l[k] = x at *
        generalize l'[k] = y at *
        have HTK := Lib.hid htk
        have HTK' := Lib.hid htk'
        have HM := Lib.hid hm
        have HM' := Lib.hid hm'
        obtain ⟨xm, xn⟩ := x
        obtain ⟨ym, yn⟩ := y
        simp only at g0 g1 j0 j1
        clear hcl hcl' htk htk' hm hm'
        by_cases hxy : xm = ym ∧ xn = yn
        · obtain ⟨rfl, rfl⟩ := hxy
          go_wp2_with fail
          refine wp_region_T (fun w' => w'.cell? ⟨b, o + k * 2, none⟩ = some (.int .i64 xm) ∧ w'.cell? ⟨b, o + k * 2 + 1, none⟩ = some (.int .i64 xn) ∧ w'.cell? ⟨b', o' + k * 2, none⟩ = some (.int .i64 xm) ∧ w'.cell? ⟨b', o' + k * 2 + 1, none⟩ = some (.int .i64 xn)) (fun _ => false) (by kernel_rfl) ⟨g0, g1, j0, j1⟩ (fun hHeld => ?_)
          refine wpAnyT_take2 (i := 0) (v := ?_) rfl rfl (by kernel_rfl) (by kernel_rfl) (by kernel_rfl) (by kernel_rfl) (fun _ _ _ h => h) (Or.inl ⟨by rfl, ?_⟩) (by first | assumption | trivial) ?_
          rotate_left
          · (intro w hSw; (try dsimp only at hSw); go_simp) <;> (with_reducible rfl)
          simp only [List.setIfInBounds_toArray, List.set_cons_zero, List.set_cons_succ]
          refine wpAnyT_take2 (i := 1) (v := ?_) rfl rfl (by kernel_rfl) (by kernel_rfl) (by kernel_rfl) (by kernel_rfl) (fun _ _ _ h => h) (Or.inl ⟨by rfl, ?_⟩) (by first | assumption | trivial) ?_
          rotate_left
          · (intro w hSw; (try dsimp only at hSw); go_simp) <;> (with_reducible rfl)
          simp only [List.setIfInBounds_toArray, List.set_cons_zero, List.set_cons_succ]
          refine wpAnyT_take2 (i := 2) (v := ?_) rfl rfl (by kernel_rfl) (by kernel_rfl) (by kernel_rfl) (by kernel_rfl) (fun _ _ _ h => h) (Or.inl ⟨by rfl, ?_⟩) (by first | assumption | trivial) ?_
          rotate_left
          · (intro w hSw; (try dsimp only at hSw); go_simp) <;> (with_reducible rfl)
          simp only [List.setIfInBounds_toArray, List.set_cons_zero, List.set_cons_succ]
          refine wpAnyT_take2 (i := 3) (v := ?_) rfl rfl (by kernel_rfl) (by kernel_rfl) (by kernel_rfl) (by kernel_rfl) (fun _ _ _ h => h) (Or.inl ⟨by rfl, ?_⟩) (by first | assumption | trivial) ?_
          rotate_left
          · (intro w hSw; (try dsimp only at hSw); go_simp) <;> (with_reducible rfl)
          simp only [List.setIfInBounds_toArray, List.set_cons_zero, List.set_cons_succ]
          refine wpAnyT_take2 (i := 4) (v := ?_) rfl rfl (by kernel_rfl) (by kernel_rfl) (by kernel_rfl) (by kernel_rfl) (fun _ _ _ h => h) (Or.inl ⟨by rfl, ?_⟩) (by first | assumption | trivial) ?_
          rotate_left
          · (intro w hSw; (try dsimp only at hSw); go_simp) <;> (with_reducible rfl)
          simp only [List.setIfInBounds_toArray, List.set_cons_zero, List.set_cons_succ]
          refine wpAnyT_take2 (i := 5) (v := ?_) rfl rfl (by kernel_rfl) (by kernel_rfl) (by kernel_rfl) (by kernel_rfl) (fun _ _ _ h => h) (Or.inl ⟨by rfl, ?_⟩) (by first | assumption | trivial) ?_
          rotate_left
          · (intro w hSw; (try dsimp only at hSw); go_simp) <;> (with_reducible rfl)
          simp only [List.setIfInBounds_toArray, List.set_cons_zero, List.set_cons_succ]
          refine wpAnyT_take2 (i := 6) (v := ?_) rfl rfl (by kernel_rfl) (by kernel_rfl) (by kernel_rfl) (by kernel_rfl) (fun _ _ _ h => h) (Or.inl ⟨by rfl, ?_⟩) (by first | assumption | trivial) ?_
          rotate_left
          · (intro w hSw; (try dsimp only at hSw); go_simp) <;> (with_reducible rfl)
          simp only [List.setIfInBounds_toArray, List.set_cons_zero, List.set_cons_succ]
          refine wpAnyT_take2 (i := 7) (v := ?_) rfl rfl (by kernel_rfl) (by kernel_rfl) (by kernel_rfl) (by kernel_rfl) (fun _ _ _ h => h) (Or.inl ⟨by rfl, ?_⟩) (by first | assumption | trivial) ?_
          rotate_left
          · (intro w hSw; (try dsimp only at hSw); go_simp) <;> (with_reducible rfl)
          simp only [List.setIfInBounds_toArray, List.set_cons_zero, List.set_cons_succ]
          refine wpAnyT_take2 (i := 8) (v := .bool false) rfl rfl (by kernel_rfl) (by kernel_rfl) (by kernel_rfl) (by kernel_rfl) (fun _ _ _ h => h) (Or.inl ⟨by rfl, ?_⟩) (by first | assumption | trivial) ?_
          · (intro w hSw; (try dsimp only at hSw); go_simp) <;> (first | (with_reducible rfl) | assumption | (simp; done) | (simp [*]; done) | (simp; omega))
          simp only [List.setIfInBounds_toArray, List.set_cons_zero, List.set_cons_succ]
          refine wpAnyT_done (by kernel_rfl) ?_ _
          clear hHeld
          go_wp2_with fail
          go_roundw
          case rel => exact ⟨k + 1, by omega, by go_num, (by repeat (first | (with_reducible exact hbel) | (with_reducible exact Below.refl _ _) | ((with_reducible refine below_setr ?_ ?_); focus (first | (simp; done) | (simp; omega) | omega)) | ((with_reducible refine below_allocr ?_ ?_); focus (first | (simp; done) | (simp; omega) | omega)) | (with_reducible refine Below.drew ?_) | (with_reducible refine below_drewN ?_ _))), Lib.hid (by rw [HTK.out, HTK'.out, HB.out])⟩
          case measure => simp [intOf]; omega
        · have hv : decide (l = l') = false := decide_eq_false (fun e => by
            have h1 := HM.out
            rw [e, HM'.out] at h1
            injection h1 with h1
            injection h1 with h1 h2
            exact hxy ⟨h1.symm, h2.symm⟩)
          have HV := Lib.hid hv
          clear hv
          go_wp2_with fail
          refine wp_region_T (fun w' => w'.cell? ⟨b, o + k * 2, none⟩ = some (.int .i64 xm) ∧ w'.cell? ⟨b, o + k * 2 + 1, none⟩ = some (.int .i64 xn) ∧ w'.cell? ⟨b', o' + k * 2, none⟩ = some (.int .i64 ym) ∧ w'.cell? ⟨b', o' + k * 2 + 1, none⟩ = some (.int .i64 yn)) (fun _ => false) (by kernel_rfl) ⟨g0, g1, j0, j1⟩ (fun hHeld => ?_)
          refine wpAnyT_take2 (i := 0) (v := ?_) rfl rfl (by kernel_rfl) (by kernel_rfl) (by kernel_rfl) (by kernel_rfl) (fun _ _ _ h => h) (Or.inl ⟨by rfl, ?_⟩) (by first | assumption | trivial) ?_
          rotate_left
          · (intro w hSw; (try dsimp only at hSw); go_simp) <;> (with_reducible rfl)
          simp only [List.setIfInBounds_toArray, List.set_cons_zero, List.set_cons_succ]
          refine wpAnyT_take2 (i := 1) (v := ?_) rfl rfl (by kernel_rfl) (by kernel_rfl) (by kernel_rfl) (by kernel_rfl) (fun _ _ _ h => h) (Or.inl ⟨by rfl, ?_⟩) (by first | assumption | trivial) ?_
          rotate_left
          · (intro w hSw; (try dsimp only at hSw); go_simp) <;> (with_reducible rfl)
          simp only [List.setIfInBounds_toArray, List.set_cons_zero, List.set_cons_succ]
          refine wpAnyT_take2 (i := 2) (v := ?_) rfl rfl (by kernel_rfl) (by kernel_rfl) (by kernel_rfl) (by kernel_rfl) (fun _ _ _ h => h) (Or.inl ⟨by rfl, ?_⟩) (by first | assumption | trivial) ?_
          rotate_left
          · (intro w hSw; (try dsimp only at hSw); go_simp) <;> (with_reducible rfl)
          simp only [List.setIfInBounds_toArray, List.set_cons_zero, List.set_cons_succ]
          refine wpAnyT_take2 (i := 3) (v := ?_) rfl rfl (by kernel_rfl) (by kernel_rfl) (by kernel_rfl) (by kernel_rfl) (fun _ _ _ h => h) (Or.inl ⟨by rfl, ?_⟩) (by first | assumption | trivial) ?_
          rotate_left
          · (intro w hSw; (try dsimp only at hSw); go_simp) <;> (with_reducible rfl)
          simp only [List.setIfInBounds_toArray, List.set_cons_zero, List.set_cons_succ]
          refine wpAnyT_take2 (i := 4) (v := ?_) rfl rfl (by kernel_rfl) (by kernel_rfl) (by kernel_rfl) (by kernel_rfl) (fun _ _ _ h => h) (Or.inl ⟨by rfl, ?_⟩) (by first | assumption | trivial) ?_
          rotate_left
          · (intro w hSw; (try dsimp only at hSw); go_simp) <;> (with_reducible rfl)
          simp only [List.setIfInBounds_toArray, List.set_cons_zero, List.set_cons_succ]
          refine wpAnyT_take2 (i := 5) (v := ?_) rfl rfl (by kernel_rfl) (by kernel_rfl) (by kernel_rfl) (by kernel_rfl) (fun _ _ _ h => h) (Or.inl ⟨by rfl, ?_⟩) (by first | assumption | trivial) ?_
          rotate_left
          · (intro w hSw; (try dsimp only at hSw); go_simp) <;> (with_reducible rfl)
          simp only [List.setIfInBounds_toArray, List.set_cons_zero, List.set_cons_succ]
          refine wpAnyT_take2 (i := 6) (v := ?_) rfl rfl (by kernel_rfl) (by kernel_rfl) (by kernel_rfl) (by kernel_rfl) (fun _ _ _ h => h) (Or.inl ⟨by rfl, ?_⟩) (by first | assumption | trivial) ?_
          rotate_left
          · (intro w hSw; (try dsimp only at hSw); go_simp) <;> (with_reducible rfl)
          simp only [List.setIfInBounds_toArray, List.set_cons_zero, List.set_cons_succ]
          refine wpAnyT_take2 (i := 7) (v := ?_) rfl rfl (by kernel_rfl) (by kernel_rfl) (by kernel_rfl) (by kernel_rfl) (fun _ _ _ h => h) (Or.inl ⟨by rfl, ?_⟩) (by first | assumption | trivial) ?_
          rotate_left
          · (intro w hSw; (try dsimp only at hSw); go_simp) <;> (with_reducible rfl)
          simp only [List.setIfInBounds_toArray, List.set_cons_zero, List.set_cons_succ]
          refine wpAnyT_take2 (i := 8) (v := .bool true) rfl rfl (by kernel_rfl) (by kernel_rfl) (by kernel_rfl) (by kernel_rfl) (fun _ _ _ h => h) (Or.inl ⟨by rfl, ?_⟩) (by first | assumption | trivial) ?_
          · intro w hSw
            go_simp
            first
            | exact fun h1 h2 => hxy ⟨h1, h2⟩
            | exact fun h1 h2 => absurd ⟨h1, h2⟩ hxy
          simp only [List.setIfInBounds_toArray, List.set_cons_zero, List.set_cons_succ]
          refine wpAnyT_done (by kernel_rfl) ?_ _
          clear hHeld
          go_wp2_with fail
          go_ret
          exact ⟨ret_bool HV.out.symm, (by repeat (first | (with_reducible exact hbel) | (with_reducible exact Below.refl _ _) | ((with_reducible refine below_setr ?_ ?_); focus (first | (simp; done) | (simp; omega) | omega)) | ((with_reducible refine below_allocr ?_ ?_); focus (first | (simp; done) | (simp; omega) | omega)) | (with_reducible refine Below.drew ?_) | (with_reducible refine below_drewN ?_ _)))⟩
      · have hv : decide (l = l') = true := decide_eq_true (by
          have h1 := HB.out
          have h2 := HLL.out
          rw [List.take_of_length_le (by omega), List.take_of_length_le (by omega)] at h1
          exact h1)
        have HV := Lib.hid hv
        clear hv
        go_wp2_with fail
        go_ret
        exact ⟨ret_bool HV.out.symm, hbel⟩
  · have he1 : ((l.length : Int) != (l'.length : Int)) = true := by simp; omega
    have hv : decide (l = l') = false := decide_eq_false (fun e => hll (by rw [e]))
    have HV := Lib.hid hv
    clear hv hll
    go_enter Try.func18, Try.ntmps18
    go_wp2_with fail
    go_ret
    exact ⟨ret_bool HV.out.symm, (by repeat (first | (with_reducible exact Below.refl _ _) | ((with_reducible refine below_setr ?_ ?_); focus (first | (simp; done) | (simp; omega) | omega)) | ((with_reducible refine below_allocr ?_ ?_); focus (first | (simp; done) | (simp; omega) | omega)) | (with_reducible refine Below.drew ?_) | (with_reducible refine below_drewN ?_ _)))⟩
set_option maxRecDepth 20000 in
set_option maxHeartbeats 2000000 in
theorem apart_any (s : Sl Int) (w : World) (hr : Rd (· < w.heap.size) 1 ienc w s) :
    Calls Try.prog 19 #[.slice s.A s.l.length s.c] w fun e w' => e = .returned (.bool (ridesGo s.l)) ∧ Below w.heap.size w w' := by
  obtain ⟨A, c, l⟩ := s
  have hn := hr.len
  simp only at hn
  have HR := Lib.hid hr
  clear hr
  simp only
  go_enter Try.func19, Try.ntmps19
  go_wp2_with fail
  go_loopw [3, 4] (fun i u wr => ∃ (k : Nat), k ≤ l.length ∧ i = .int .i64 k ∧ Below w.heap.size w wr ∧ Hid ((l.take k).Nodup) ∧ Hid (∀ x ∈ l.take k, 0 ≤ x ∧ x ≤ 3999)) (fun i _ _ => l.length - (intOf i).toNat)
  case atStart => exact ⟨0, by omega, rfl, (by repeat (first | (with_reducible exact Below.refl _ _) | ((with_reducible refine below_setr ?_ ?_); focus (first | (simp; done) | (simp; omega) | omega)) | ((with_reducible refine below_allocr ?_ ?_); focus (first | (simp; done) | (simp; omega) | omega)) | (with_reducible refine Below.drew ?_) | (with_reducible refine below_drewN ?_ _))), Lib.hid (by simp), Lib.hid (by simp)⟩
  case round =>
    obtain ⟨k, hk, rfl, hbel, HN, HV⟩ := hrel
    have hhe : w.heap.size ≤ wr.heap.size := hbel.size
    by_cases hlt : k < l.length
    · obtain ⟨b, o, rfl, hb, hcl⟩ := HR.out.at1 hlt
      have htk : l.take (k + 1) = l.take k ++ [l[k]] := (List.take_append_getElem hlt).symm
      have hmem : l[k] ∈ l := List.getElem_mem hlt
      have hpre : l.take k ++ [l[k]] <+: l := by rw [← htk]; exact List.take_prefix _ _
      have g0 := (hcl.keep (hbel.block b hb)).c1
      simp only [Nat.mul_one] at g0
      have hgk : l[k]? = some l[k] := List.getElem?_eq_getElem hlt
      generalize l[k] = x at *
      have HTK := Lib.hid htk
      have HM := Lib.hid hmem
      have HPRE := Lib.hid hpre
      have HGK := Lib.hid hgk
      clear htk hcl hmem hpre hgk
      by_cases hx : 0 ≤ x ∧ x ≤ 3999
      · obtain ⟨hx0, hx1⟩ := hx
        have hx2 : x < 4000 := by omega
        go_wp2_with fail
        go_loopw [4] (fun u wr2 => ∃ (j : Nat), j ≤ k ∧ u = .int .i64 j ∧ Below w.heap.size w wr2 ∧ Hid (x ∉ l.take j)) (fun u _ => k - (intOf u).toNat)
        case atStart => exact ⟨0, by omega, rfl, hbel, Lib.hid (by simp)⟩
        case round =>
          obtain ⟨j, hjk, rfl, hbel2, HX⟩ := hrel
          have hhe2 : w.heap.size ≤ wr.heap.size := hbel2.size
          by_cases hj : j < k
          · have hjl : j < l.length := by omega
            obtain ⟨b2, o2, hA, hb2, hcl2⟩ := HR.out.at1 hjl
            simp only [Option.some.injEq, Addr.mk.injEq, and_true] at hA
            obtain ⟨rfl, rfl⟩ := hA
            have j0 := (hcl2.keep (hbel2.block b hb2)).c1
            simp only [Nat.mul_one] at j0
            obtain ⟨b3, o3, hA, hb3, hcl3⟩ := HR.out.at1 hlt
            simp only [Option.some.injEq, Addr.mk.injEq, and_true] at hA
            obtain ⟨rfl, rfl⟩ := hA
            have k0 := (hcl3.keep (hbel2.block b hb3)).c1
            have hxe : l[k] = x := by
              have := HGK.out
              rw [List.getElem?_eq_getElem hlt] at this
              injection this
            simp only [Nat.mul_one, hxe] at k0
            have htj : l.take (j + 1) = l.take j ++ [l[j]] := (List.take_append_getElem hjl).symm
            have hyj : l[j] ∈ l.take k := by
              have h1 : (l.take k)[j]? = some l[j] := by rw [List.getElem?_take_of_lt hj]; exact List.getElem?_eq_getElem hjl
              exact List.mem_of_getElem? h1
            try simp only at j0
            clear hxe hcl2 hcl3 g0
            generalize l[j] = y at *
            have HTJ := Lib.hid htj
            have HYJ := Lib.hid hyj
            clear htj hyj
            go_wp2_with fail
            refine wp_region_T (fun w' => w'.cell? ⟨b, o + j, none⟩ = some (.int .i64 y) ∧ w'.cell? ⟨b, o + k, none⟩ = some (.int .i64 x)) (fun _ => false) (by kernel_rfl) ⟨j0, k0⟩ (fun hHeld => ?_)
            refine wpAnyT_take2 (i := 0) (v := ?_) rfl rfl (by kernel_rfl) (by kernel_rfl) (by kernel_rfl) (by kernel_rfl) (fun _ _ _ h => h) (Or.inl ⟨by rfl, ?_⟩) (by first | assumption | trivial) ?_
            rotate_left
            · (intro w hSw; (try dsimp only at hSw); go_simp) <;> (with_reducible rfl)
            simp only [List.setIfInBounds_toArray, List.set_cons_zero, List.set_cons_succ]
            refine wpAnyT_take2 (i := 1) (v := ?_) rfl rfl (by kernel_rfl) (by kernel_rfl) (by kernel_rfl) (by kernel_rfl) (fun _ _ _ h => h) (Or.inl ⟨by rfl, ?_⟩) (by first | assumption | trivial) ?_
            rotate_left
            · (intro w hSw; (try dsimp only at hSw); go_simp) <;> (with_reducible rfl)
            simp only [List.setIfInBounds_toArray, List.set_cons_zero, List.set_cons_succ]
            refine wpAnyT_take2 (i := 2) (v := ?_) rfl rfl (by kernel_rfl) (by kernel_rfl) (by kernel_rfl) (by kernel_rfl) (fun _ _ _ h => h) (Or.inl ⟨by rfl, ?_⟩) (by first | assumption | trivial) ?_
            rotate_left
            · (intro w hSw; (try dsimp only at hSw); go_simp) <;> (with_reducible rfl)
            simp only [List.setIfInBounds_toArray, List.set_cons_zero, List.set_cons_succ]
            refine wpAnyT_take2 (i := 3) (v := ?_) rfl rfl (by kernel_rfl) (by kernel_rfl) (by kernel_rfl) (by kernel_rfl) (fun _ _ _ h => h) (Or.inl ⟨by rfl, ?_⟩) (by first | assumption | trivial) ?_
            rotate_left
            · (intro w hSw; (try dsimp only at hSw); go_simp) <;> (with_reducible rfl)
            simp only [List.setIfInBounds_toArray, List.set_cons_zero, List.set_cons_succ]
            refine wpAnyT_take2 (i := 4) (v := ?_) rfl rfl (by kernel_rfl) (by kernel_rfl) (by kernel_rfl) (by kernel_rfl) (fun _ _ _ h => h) (Or.inl ⟨by rfl, ?_⟩) (by first | assumption | trivial) ?_
            rotate_left
            · (intro w hSw; (try dsimp only at hSw); go_simp) <;> (with_reducible rfl)
            simp only [List.setIfInBounds_toArray, List.set_cons_zero, List.set_cons_succ]
            refine wpAnyT_take2 (i := 5) (v := ?_) rfl rfl (by kernel_rfl) (by kernel_rfl) (by kernel_rfl) (by kernel_rfl) (fun _ _ _ h => h) (Or.inl ⟨by rfl, ?_⟩) (by first | assumption | trivial) ?_
            rotate_left
            · (intro w hSw; (try dsimp only at hSw); go_simp) <;> (with_reducible rfl)
            simp only [List.setIfInBounds_toArray, List.set_cons_zero, List.set_cons_succ]
            refine wpAnyT_take2 (i := 6) (v := ?_) rfl rfl (by kernel_rfl) (by kernel_rfl) (by kernel_rfl) (by kernel_rfl) (fun _ _ _ h => h) (Or.inl ⟨by rfl, ?_⟩) (by first | assumption | trivial) ?_
            rotate_left
            · (intro w hSw; (try dsimp only at hSw); go_simp) <;> (with_reducible rfl)
            simp only [List.setIfInBounds_toArray, List.set_cons_zero, List.set_cons_succ]
            refine wpAnyT_take2 (i := 7) (v := ?_) rfl rfl (by kernel_rfl) (by kernel_rfl) (by kernel_rfl) (by kernel_rfl) (fun _ _ _ h => h) (Or.inl ⟨by rfl, ?_⟩) (by first | assumption | trivial) ?_
            rotate_left
            · (intro w hSw; (try dsimp only at hSw); go_simp) <;> (with_reducible rfl)
            simp only [List.setIfInBounds_toArray, List.set_cons_zero, List.set_cons_succ]
            by_cases hyx : y = x
            · have hv : ridesGo l = false := by
                rw [Bool.eq_false_iff, ne_eq, ridesGo_iff]
                rintro ⟨hnd, _⟩
                have := HPRE.out.sublist.nodup hnd
                rw [List.nodup_append] at this
                exact this.2.2 y HYJ.out x (by simp) hyx
              have HVV := Lib.hid hv
              clear hv
              subst hyx
              refine wpAnyT_take2 (i := 8) (v := .bool true) rfl rfl (by kernel_rfl) (by kernel_rfl) (by kernel_rfl) (by kernel_rfl) (fun _ _ _ h => h) (Or.inl ⟨by rfl, ?_⟩) (by first | assumption | trivial) ?_
              · (intro w hSw; (try dsimp only at hSw); go_simp) <;> (first | (with_reducible rfl) | assumption | (simp; done) | (simp [*]; done) | (simp; omega))
              simp only [List.setIfInBounds_toArray, List.set_cons_zero, List.set_cons_succ]
              refine wpAnyT_done (by kernel_rfl) ?_ _
              clear hHeld
              go_wp2_with fail
              go_ret
              exact ⟨ret_bool HVV.out.symm, (by repeat (first | (with_reducible exact hbel2) | (with_reducible exact Below.refl _ _) | ((with_reducible refine below_setr ?_ ?_); focus (first | (simp; done) | (simp; omega) | omega)) | ((with_reducible refine below_allocr ?_ ?_); focus (first | (simp; done) | (simp; omega) | omega)) | (with_reducible refine Below.drew ?_) | (with_reducible refine below_drewN ?_ _)))⟩
            · skip
              refine wpAnyT_take2 (i := 8) (v := .bool false) rfl rfl (by kernel_rfl) (by kernel_rfl) (by kernel_rfl) (by kernel_rfl) (fun _ _ _ h => h) (Or.inl ⟨by rfl, ?_⟩) (by first | assumption | trivial) ?_
              · (intro w hSw; (try dsimp only at hSw); go_simp) <;> (first | (with_reducible rfl) | assumption | (simp; done) | (simp [*]; done) | (simp; omega))
              simp only [List.setIfInBounds_toArray, List.set_cons_zero, List.set_cons_succ]
              refine wpAnyT_done (by kernel_rfl) ?_ _
              clear hHeld
              have HYX := Lib.hid hyx
              clear hyx
              go_wp2_with fail
              go_roundw
              case rel =>
                refine ⟨j + 1, by omega, by go_num, (by repeat (first | (with_reducible exact hbel2) | (with_reducible exact Below.refl _ _) | ((with_reducible refine below_setr ?_ ?_); focus (first | (simp; done) | (simp; omega) | omega)) | ((with_reducible refine below_allocr ?_ ?_); focus (first | (simp; done) | (simp; omega) | omega)) | (with_reducible refine Below.drew ?_) | (with_reducible refine below_drewN ?_ _))), Lib.hid ?_⟩
                rw [HTJ.out]
                intro h
                rcases List.mem_append.1 h with h | h
                · exact HX.out h
                · simp at h; exact HYX.out h.symm
              case measure => simp [intOf]; omega
          · have hjj : j = k := by omega
            have hnx := HX.out
            rw [hjj] at hnx
            have HNX := Lib.hid hnx
            clear hjj hnx HX
            go_wp2_with fail
            go_roundw
            case rel =>
              refine ⟨k + 1, by omega, by go_num, hbel2, Lib.hid ?_, Lib.hid ?_⟩
              · rw [HTK.out, List.nodup_append]
                exact ⟨HN.out, by simp, fun a ha b hb => by simp at hb; subst hb; intro e; exact HNX.out (by rw [← e]; exact ha)⟩
              · rw [HTK.out]
                intro y hy
                rcases List.mem_append.1 hy with hy | hy
                · exact HV.out y hy
                · simp at hy; subst hy; exact ⟨hx0, hx1⟩
            case measure => simp [intOf]; omega
      · have hv : ridesGo l = false := by
          rw [Bool.eq_false_iff, ne_eq, ridesGo_iff]
          rintro ⟨_, hall⟩
          exact hx (hall x HM.out)
        have HVV := Lib.hid hv
        clear hv
        rcases Int.lt_or_le x 0 with h1 | h1
        · clear hx
          go_wp2_with fail
          go_ret
          exact ⟨ret_bool HVV.out.symm, hbel⟩
        · have h2 : 4000 ≤ x := by omega
          clear hx
          go_wp2_with fail
          go_ret
          exact ⟨ret_bool HVV.out.symm, hbel⟩
    · have hnd := HN.out
      have hal := HV.out
      rw [List.take_of_length_le (by omega)] at hnd hal
      have hv := ridesGo_iff.2 ⟨hnd, hal⟩
      have HVV := Lib.hid hv
      clear hnd hal hv HN HV
      go_wp2_with fail
      go_ret
      exact ⟨ret_bool HVV.out.symm, hbel⟩
end Go.Proofs.Ytjbdjlgddjmkbaa
