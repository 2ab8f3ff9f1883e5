/- Walks: IndexFunc with each closure, Of. -/
import Derived.Test.YtjbdjlgddjmkbaaFv1
namespace Go.Proofs.Ytjbdjlgddjmkbaa
open Go.RowKit
set_option maxHeartbeats 400000 in
theorem of1_any (m n q : Int) (g : Nat) (w : World) (hc : w.cell? ⟨g, 0, none⟩ = some (.int .i64 q)) (hg : g < w.heap.size) :
    Calls Try.prog 40 #[.agg #[.int .i64 m, .int .i64 n], .pointer (some ⟨g, 0, none⟩)] w fun e w' => e = .returned (.bool (m == q)) ∧ Below w.heap.size w w' := by
  have hne : g ≠ w.heap.size := by omega
  go_enter Try.func40, Try.ntmps40
  go_wp2
  go_ret
  exact ⟨rfl, (by repeat (first | (with_reducible exact Below.refl _ _) | ((with_reducible refine below_setr ?_ ?_); focus (first | (simp; done) | (simp; omega) | omega)) | ((with_reducible refine below_allocr ?_ ?_); focus (first | (simp; done) | (simp; omega) | omega)) | (with_reducible refine Below.drew ?_) | (with_reducible refine below_drewN ?_ _)))⟩
set_option maxHeartbeats 1000000 in
theorem idxBq (l : Sl Bal) (p : Bal → Bool) (g : Nat) (w : World) (hr : Rd (· < w.heap.size) 2 Bal.enc w l) (hp : ∀ W m n, Below w.heap.size w W → Calls Try.prog 40 (#[.agg #[.int .i64 m, .int .i64 n]] ++ #[.pointer (some ⟨g, 0, none⟩)]) W fun e w' => e = .returned (.bool (p ⟨m, n⟩)) ∧ Below W.heap.size W w') :
    Calls Try.prog 39 #[.slice l.A l.l.length l.c, .func (.func 40) #[] #[.pointer (some ⟨g, 0, none⟩)]] w fun e w' => e = .returned (.int .i64 (idxP p 0 l.l)) ∧ Below w.heap.size w w' := by
  obtain ⟨A, c, l⟩ := l
  have hn := hr.len
  simp only at hn
  have HR := Lib.hid hr
  clear hr
  simp only
  go_enter Try.func39, Try.ntmps39
  go_wp2_with fail
  go_loopw [5, 8] (fun u i wr => ∃ (k : Nat), k ≤ l.length ∧ i = .int .i64 k ∧ Below w.heap.size w wr ∧ Hid (idxP p 0 l = idxP p k (l.drop k))) (fun _ i _ => l.length - (intOf i).toNat)
  case atStart => exact ⟨0, by omega, rfl, (by repeat (first | (with_reducible exact Below.refl _ _) | ((with_reducible refine below_setr ?_ ?_); focus (first | (simp; done) | (simp; omega) | omega)) | ((with_reducible refine below_allocr ?_ ?_); focus (first | (simp; done) | (simp; omega) | omega)) | (with_reducible refine Below.drew ?_) | (with_reducible refine below_drewN ?_ _))), Lib.hid (by simp)⟩
  case round =>
    obtain ⟨k, hk, rfl, hbel, HG⟩ := hrel
    have hhe : w.heap.size ≤ wr.heap.size := hbel.size
    by_cases hlt : k < l.length
    · obtain ⟨b, o, rfl, hb, hcl⟩ := HR.out.at1 hlt
      have hcl2 := hcl.keep (hbel.block b hb)
      have hd : l.drop k = l[k] :: l.drop (k + 1) := List.drop_eq_getElem_cons hlt
      have hgo := HG.out
      rw [hd] at hgo
      have HGO := Lib.hid hgo
      clear hd hgo hcl HG
      generalize l[k] = x at *
      obtain ⟨g0, g1⟩ := Cells.c2 hcl2
      try simp only at g0 g1
      obtain ⟨xm, xn⟩ := x
      have hcall := hp wr xm xn hbel
      try simp only at g0 g1
      clear hcl2
      rcases hb0 : p ⟨xm, xn⟩
      · go_wp2_with fail
        refine hcall.mono ?_
        clear hcall
        rintro e w1 ⟨rfl, hb1⟩
        have hB1 : Below w.heap.size w w1 := (by repeat (first | (with_reducible exact hbel) | (with_reducible exact Below.refl _ _) | ((with_reducible refine below_setr ?_ ?_); focus (first | (simp; done) | (simp; omega) | omega)) | ((with_reducible refine below_allocr ?_ ?_); focus (first | (simp; done) | (simp; omega) | omega)) | (with_reducible refine Below.drew ?_) | (with_reducible refine below_drewN ?_ _) | ((with_reducible apply below_via); focus (with_reducible assumption))))
        clear hb1
        have HB0 := Lib.hid hb0
        rw [hb0]
        clear hb0
        go_wp2_with fail
        go_roundw
        case rel => exact ⟨k + 1, by omega, by go_num, hB1, Lib.hid (by rw [HGO.out, idxP, HB0.out]; rfl)⟩
        case measure => simp [intOf]; omega
      · go_wp2_with fail
        refine hcall.mono ?_
        clear hcall
        rintro e w1 ⟨rfl, hb1⟩
        have hB1 : Below w.heap.size w w1 := (by repeat (first | (with_reducible exact hbel) | (with_reducible exact Below.refl _ _) | ((with_reducible refine below_setr ?_ ?_); focus (first | (simp; done) | (simp; omega) | omega)) | ((with_reducible refine below_allocr ?_ ?_); focus (first | (simp; done) | (simp; omega) | omega)) | (with_reducible refine Below.drew ?_) | (with_reducible refine below_drewN ?_ _) | ((with_reducible apply below_via); focus (with_reducible assumption))))
        clear hb1
        have HB0 := Lib.hid hb0
        rw [hb0]
        clear hb0
        go_wp2_with fail
        go_ret
        exact ⟨ret_int (by rw [HGO.out, idxP, HB0.out]; rfl), hB1⟩
    · have hkl : l.drop k = [] := List.drop_eq_nil_of_le (by omega)
      have hgo := HG.out
      rw [hkl] at hgo
      have HGO := Lib.hid hgo
      clear hkl hgo HG
      go_wp2_with fail
      go_ret
      exact ⟨ret_int (by rw [HGO.out]; rfl), hbel⟩
set_option maxHeartbeats 1000000 in
theorem idxBv (l : Sl Bal) (p : Bal → Bool) (g : Nat) (w : World) (hr : Rd (· < w.heap.size) 2 Bal.enc w l) (hp : ∀ W m n, Below w.heap.size w W → Calls Try.prog 34 (#[.agg #[.int .i64 m, .int .i64 n]] ++ #[]) W fun e w' => e = .returned (.bool (p ⟨m, n⟩)) ∧ Below W.heap.size W w') :
    Calls Try.prog 39 #[.slice l.A l.l.length l.c, .func (.func 34) #[] #[]] w fun e w' => e = .returned (.int .i64 (idxP p 0 l.l)) ∧ Below w.heap.size w w' := by
  obtain ⟨A, c, l⟩ := l
  have hn := hr.len
  simp only at hn
  have HR := Lib.hid hr
  clear hr
  simp only
  go_enter Try.func39, Try.ntmps39
  go_wp2_with fail
  go_loopw [5, 8] (fun u i wr => ∃ (k : Nat), k ≤ l.length ∧ i = .int .i64 k ∧ Below w.heap.size w wr ∧ Hid (idxP p 0 l = idxP p k (l.drop k))) (fun _ i _ => l.length - (intOf i).toNat)
  case atStart => exact ⟨0, by omega, rfl, (by repeat (first | (with_reducible exact Below.refl _ _) | ((with_reducible refine below_setr ?_ ?_); focus (first | (simp; done) | (simp; omega) | omega)) | ((with_reducible refine below_allocr ?_ ?_); focus (first | (simp; done) | (simp; omega) | omega)) | (with_reducible refine Below.drew ?_) | (with_reducible refine below_drewN ?_ _))), Lib.hid (by simp)⟩
  case round =>
    obtain ⟨k, hk, rfl, hbel, HG⟩ := hrel
    have hhe : w.heap.size ≤ wr.heap.size := hbel.size
    by_cases hlt : k < l.length
    · obtain ⟨b, o, rfl, hb, hcl⟩ := HR.out.at1 hlt
      have hcl2 := hcl.keep (hbel.block b hb)
      have hd : l.drop k = l[k] :: l.drop (k + 1) := List.drop_eq_getElem_cons hlt
      have hgo := HG.out
      rw [hd] at hgo
      have HGO := Lib.hid hgo
      clear hd hgo hcl HG
      generalize l[k] = x at *
      obtain ⟨g0, g1⟩ := Cells.c2 hcl2
      try simp only at g0 g1
      obtain ⟨xm, xn⟩ := x
      have hcall := hp wr xm xn hbel
      try simp only at g0 g1
      clear hcl2
      rcases hb0 : p ⟨xm, xn⟩
      · go_wp2_with fail
        refine hcall.mono ?_
        clear hcall
        rintro e w1 ⟨rfl, hb1⟩
        have hB1 : Below w.heap.size w w1 := (by repeat (first | (with_reducible exact hbel) | (with_reducible exact Below.refl _ _) | ((with_reducible refine below_setr ?_ ?_); focus (first | (simp; done) | (simp; omega) | omega)) | ((with_reducible refine below_allocr ?_ ?_); focus (first | (simp; done) | (simp; omega) | omega)) | (with_reducible refine Below.drew ?_) | (with_reducible refine below_drewN ?_ _) | ((with_reducible apply below_via); focus (with_reducible assumption))))
        clear hb1
        have HB0 := Lib.hid hb0
        rw [hb0]
        clear hb0
        go_wp2_with fail
        go_roundw
        case rel => exact ⟨k + 1, by omega, by go_num, hB1, Lib.hid (by rw [HGO.out, idxP, HB0.out]; rfl)⟩
        case measure => simp [intOf]; omega
      · go_wp2_with fail
        refine hcall.mono ?_
        clear hcall
        rintro e w1 ⟨rfl, hb1⟩
        have hB1 : Below w.heap.size w w1 := (by repeat (first | (with_reducible exact hbel) | (with_reducible exact Below.refl _ _) | ((with_reducible refine below_setr ?_ ?_); focus (first | (simp; done) | (simp; omega) | omega)) | ((with_reducible refine below_allocr ?_ ?_); focus (first | (simp; done) | (simp; omega) | omega)) | (with_reducible refine Below.drew ?_) | (with_reducible refine below_drewN ?_ _) | ((with_reducible apply below_via); focus (with_reducible assumption))))
        clear hb1
        have HB0 := Lib.hid hb0
        rw [hb0]
        clear hb0
        go_wp2_with fail
        go_ret
        exact ⟨ret_int (by rw [HGO.out, idxP, HB0.out]; rfl), hB1⟩
    · have hkl : l.drop k = [] := List.drop_eq_nil_of_le (by omega)
      have hgo := HG.out
      rw [hkl] at hgo
      have HGO := Lib.hid hgo
      clear hkl hgo HG
      go_wp2_with fail
      go_ret
      exact ⟨ret_int (by rw [HGO.out]; rfl), hbel⟩
end Go.Proofs.Ytjbdjlgddjmkbaa
