/- IndexFunc, ContainsFunc at lets; units.name, known. -/
import Derived.Test.YtcgocdhhneckhaaGreatFcutmxak
namespace Go.Proofs.YtcgocdhhneckhaaGreat
open Go.RowKit
set_option maxHeartbeats 1000000 in
theorem idxL_nm (l : Sl LT) (p : LT → Bool) (g : Nat) (w : World) (hr : Rd (· < w.heap.size) 6 LT.enc w l) (hp : ∀ W x, x ∈ l.l → Below w.heap.size w W → Calls Tryz.prog 172 (#[x.v] ++ #[.pointer (some ⟨g, 0, none⟩)]) W fun e w' => e = .returned (.bool (p x)) ∧ Below W.heap.size W w') :
    Calls Tryz.prog 99 #[.slice l.A l.l.length l.c, .func (.func 172) #[] #[.pointer (some ⟨g, 0, none⟩)]] w fun e w' => e = .returned (.int .i64 (idxP p 0 l.l)) ∧ Below w.heap.size w w' := by
  obtain ⟨A, c, l⟩ := l
  have hn := hr.len
  simp only at hn
  have HR := Lib.hid hr
  clear hr
  simp only
  simp only at hp
  go_enter Tryz.func99, Tryz.ntmps99
  go_wp2_with fail
  go_loopw [5, 8] (fun u i wr => ∃ (k : Nat), k ≤ l.length ∧ i = .int .i64 k ∧ Below w.heap.size w wr ∧ Hid (idxP p 0 l = idxP p k (l.drop k))) (fun _ i _ => l.length - (intOf i).toNat)
  case atStart => exact ⟨0, by omega, rfl, (by repeat (first | (with_reducible exact Below.refl _ _) | ((with_reducible refine below_setr ?_ ?_); focus (first | (simp; done) | (simp; omega) | omega)) | ((with_reducible refine below_allocr ?_ ?_); focus (first | (simp; done) | (simp; omega) | omega)) | (with_reducible refine Below.drew ?_) | (with_reducible refine below_drewN ?_ _))), Lib.hid (by simp)⟩
  case round =>
    obtain ⟨k, hk, rfl, hbel, HG⟩ := hrel
    have hhe : w.heap.size ≤ wr.heap.size := hbel.size
    by_cases hlt : k < l.length
    · obtain ⟨b, o, rfl, hb, hcl⟩ := HR.out.at1 hlt
      have hcl2 := hcl.keep (hbel.block b hb)
      have hd : l.drop k = l[k] :: l.drop (k + 1) := List.drop_eq_getElem_cons hlt
      have hgo := HG.out
      rw [hd] at hgo
      have HGO := Lib.hid hgo
      have hcall := hp wr l[k] (List.getElem_mem hlt) hbel
      clear hd hgo hcl HG hp
      generalize l[k] = x at *
      obtain ⟨bq, hb0⟩ : ∃ bq, p x = bq := ⟨_, rfl⟩
      rw [hb0] at hcall
      have HB0 := Lib.hid hb0
      clear hb0
      obtain ⟨xn, xo, xm, xu, xs, xA, xc, xl⟩ := x
      have gg := hcl2.c6
      obtain ⟨g0, g1, g2, g3, g4, g5⟩ := gg
      simp only [LT.v] at hcall
      clear hcl2
      rcases bq
      · go_wp2_with fail
        refine hcall.mono ?_
        clear hcall
        rintro e w1 ⟨rfl, hb1⟩
        have hB1 : Below w.heap.size w w1 := (by repeat (first | (with_reducible exact hbel) | (with_reducible exact Below.refl _ _) | ((with_reducible refine below_setr ?_ ?_); focus (first | (simp; done) | (simp; omega) | omega)) | ((with_reducible refine below_allocr ?_ ?_); focus (first | (simp; done) | (simp; omega) | omega)) | (with_reducible refine Below.drew ?_) | (with_reducible refine below_drewN ?_ _) | ((with_reducible apply below_via); focus (with_reducible assumption))))
        clear hb1
        go_wp2_with fail
        go_roundw
        case rel => exact ⟨k + 1, by omega, by go_num, hB1, Lib.hid (by rw [HGO.out, idxP, HB0.out]; rfl)⟩
        case measure => simp [intOf]; omega
      · go_wp2_with fail
        refine hcall.mono ?_
        clear hcall
        rintro e w1 ⟨rfl, hb1⟩
        have hB1 : Below w.heap.size w w1 := (by repeat (first | (with_reducible exact hbel) | (with_reducible exact Below.refl _ _) | ((with_reducible refine below_setr ?_ ?_); focus (first | (simp; done) | (simp; omega) | omega)) | ((with_reducible refine below_allocr ?_ ?_); focus (first | (simp; done) | (simp; omega) | omega)) | (with_reducible refine Below.drew ?_) | (with_reducible refine below_drewN ?_ _) | ((with_reducible apply below_via); focus (with_reducible assumption))))
        clear hb1
        go_wp2_with fail
        go_ret
        exact ⟨ret_int (by rw [HGO.out, idxP, HB0.out]; rfl), hB1⟩
    · have hkl : l.drop k = [] := List.drop_eq_nil_of_le (by omega)
      have hgo := HG.out
      rw [hkl] at hgo
      have HGO := Lib.hid hgo
      clear hkl hgo HG
      go_wp2_with fail
      go_ret
      exact ⟨ret_int (by rw [HGO.out]; rfl), hbel⟩
set_option maxHeartbeats 1000000 in
theorem idxL_of (l : Sl LT) (p : LT → Bool) (g : Nat) (w : World) (hr : Rd (· < w.heap.size) 6 LT.enc w l) (hp : ∀ W x, x ∈ l.l → Below w.heap.size w W → Calls Tryz.prog 60 (#[x.v] ++ #[]) W fun e w' => e = .returned (.bool (p x)) ∧ Below W.heap.size W w') :
    Calls Tryz.prog 99 #[.slice l.A l.l.length l.c, .func (.func 60) #[] #[]] w fun e w' => e = .returned (.int .i64 (idxP p 0 l.l)) ∧ Below w.heap.size w w' := by
  obtain ⟨A, c, l⟩ := l
  have hn := hr.len
  simp only at hn
  have HR := Lib.hid hr
  clear hr
  simp only
  simp only at hp
  go_enter Tryz.func99, Tryz.ntmps99
  go_wp2_with fail
  go_loopw [5, 8] (fun u i wr => ∃ (k : Nat), k ≤ l.length ∧ i = .int .i64 k ∧ Below w.heap.size w wr ∧ Hid (idxP p 0 l = idxP p k (l.drop k))) (fun _ i _ => l.length - (intOf i).toNat)
  case atStart => exact ⟨0, by omega, rfl, (by repeat (first | (with_reducible exact Below.refl _ _) | ((with_reducible refine below_setr ?_ ?_); focus (first | (simp; done) | (simp; omega) | omega)) | ((with_reducible refine below_allocr ?_ ?_); focus (first | (simp; done) | (simp; omega) | omega)) | (with_reducible refine Below.drew ?_) | (with_reducible refine below_drewN ?_ _))), Lib.hid (by simp)⟩
  case round =>
    obtain ⟨k, hk, rfl, hbel, HG⟩ := hrel
    have hhe : w.heap.size ≤ wr.heap.size := hbel.size
    by_cases hlt : k < l.length
    · obtain ⟨b, o, rfl, hb, hcl⟩ := HR.out.at1 hlt
      have hcl2 := hcl.keep (hbel.block b hb)
      have hd : l.drop k = l[k] :: l.drop (k + 1) := List.drop_eq_getElem_cons hlt
      have hgo := HG.out
      rw [hd] at hgo
      have HGO := Lib.hid hgo
      have hcall := hp wr l[k] (List.getElem_mem hlt) hbel
      clear hd hgo hcl HG hp
      generalize l[k] = x at *
      obtain ⟨bq, hb0⟩ : ∃ bq, p x = bq := ⟨_, rfl⟩
      rw [hb0] at hcall
      have HB0 := Lib.hid hb0
      clear hb0
      obtain ⟨xn, xo, xm, xu, xs, xA, xc, xl⟩ := x
      have gg := hcl2.c6
      obtain ⟨g0, g1, g2, g3, g4, g5⟩ := gg
      simp only [LT.v] at hcall
      clear hcl2
      rcases bq
      · go_wp2_with fail
        refine hcall.mono ?_
        clear hcall
        rintro e w1 ⟨rfl, hb1⟩
        have hB1 : Below w.heap.size w w1 := (by repeat (first | (with_reducible exact hbel) | (with_reducible exact Below.refl _ _) | ((with_reducible refine below_setr ?_ ?_); focus (first | (simp; done) | (simp; omega) | omega)) | ((with_reducible refine below_allocr ?_ ?_); focus (first | (simp; done) | (simp; omega) | omega)) | (with_reducible refine Below.drew ?_) | (with_reducible refine below_drewN ?_ _) | ((with_reducible apply below_via); focus (with_reducible assumption))))
        clear hb1
        go_wp2_with fail
        go_roundw
        case rel => exact ⟨k + 1, by omega, by go_num, hB1, Lib.hid (by rw [HGO.out, idxP, HB0.out]; rfl)⟩
        case measure => simp [intOf]; omega
      · go_wp2_with fail
        refine hcall.mono ?_
        clear hcall
        rintro e w1 ⟨rfl, hb1⟩
        have hB1 : Below w.heap.size w w1 := (by repeat (first | (with_reducible exact hbel) | (with_reducible exact Below.refl _ _) | ((with_reducible refine below_setr ?_ ?_); focus (first | (simp; done) | (simp; omega) | omega)) | ((with_reducible refine below_allocr ?_ ?_); focus (first | (simp; done) | (simp; omega) | omega)) | (with_reducible refine Below.drew ?_) | (with_reducible refine below_drewN ?_ _) | ((with_reducible apply below_via); focus (with_reducible assumption))))
        clear hb1
        go_wp2_with fail
        go_ret
        exact ⟨ret_int (by rw [HGO.out, idxP, HB0.out]; rfl), hB1⟩
    · have hkl : l.drop k = [] := List.drop_eq_nil_of_le (by omega)
      have hgo := HG.out
      rw [hkl] at hgo
      have HGO := Lib.hid hgo
      clear hkl hgo HG
      go_wp2_with fail
      go_ret
      exact ⟨ret_int (by rw [HGO.out]; rfl), hbel⟩
set_option maxHeartbeats 1000000 in
theorem idxL_va (l : Sl LT) (p : LT → Bool) (g : Nat) (w : World) (hr : Rd (· < w.heap.size) 6 LT.enc w l) (hp : ∀ W x, x ∈ l.l → Below w.heap.size w W → Calls Tryz.prog 65 (#[x.v] ++ #[]) W fun e w' => e = .returned (.bool (p x)) ∧ Below W.heap.size W w') :
    Calls Tryz.prog 99 #[.slice l.A l.l.length l.c, .func (.func 65) #[] #[]] w fun e w' => e = .returned (.int .i64 (idxP p 0 l.l)) ∧ Below w.heap.size w w' := by
  obtain ⟨A, c, l⟩ := l
  have hn := hr.len
  simp only at hn
  have HR := Lib.hid hr
  clear hr
  simp only
  simp only at hp
  go_enter Tryz.func99, Tryz.ntmps99
  go_wp2_with fail
  go_loopw [5, 8] (fun u i wr => ∃ (k : Nat), k ≤ l.length ∧ i = .int .i64 k ∧ Below w.heap.size w wr ∧ Hid (idxP p 0 l = idxP p k (l.drop k))) (fun _ i _ => l.length - (intOf i).toNat)
  case atStart => exact ⟨0, by omega, rfl, (by repeat (first | (with_reducible exact Below.refl _ _) | ((with_reducible refine below_setr ?_ ?_); focus (first | (simp; done) | (simp; omega) | omega)) | ((with_reducible refine below_allocr ?_ ?_); focus (first | (simp; done) | (simp; omega) | omega)) | (with_reducible refine Below.drew ?_) | (with_reducible refine below_drewN ?_ _))), Lib.hid (by simp)⟩
  case round =>
    obtain ⟨k, hk, rfl, hbel, HG⟩ := hrel
    have hhe : w.heap.size ≤ wr.heap.size := hbel.size
    by_cases hlt : k < l.length
    · obtain ⟨b, o, rfl, hb, hcl⟩ := HR.out.at1 hlt
      have hcl2 := hcl.keep (hbel.block b hb)
      have hd : l.drop k = l[k] :: l.drop (k + 1) := List.drop_eq_getElem_cons hlt
      have hgo := HG.out
      rw [hd] at hgo
      have HGO := Lib.hid hgo
      have hcall := hp wr l[k] (List.getElem_mem hlt) hbel
      clear hd hgo hcl HG hp
      generalize l[k] = x at *
      obtain ⟨bq, hb0⟩ : ∃ bq, p x = bq := ⟨_, rfl⟩
      rw [hb0] at hcall
      have HB0 := Lib.hid hb0
      clear hb0
      obtain ⟨xn, xo, xm, xu, xs, xA, xc, xl⟩ := x
      have gg := hcl2.c6
      obtain ⟨g0, g1, g2, g3, g4, g5⟩ := gg
      simp only [LT.v] at hcall
      clear hcl2
      rcases bq
      · go_wp2_with fail
        refine hcall.mono ?_
        clear hcall
        rintro e w1 ⟨rfl, hb1⟩
        have hB1 : Below w.heap.size w w1 := (by repeat (first | (with_reducible exact hbel) | (with_reducible exact Below.refl _ _) | ((with_reducible refine below_setr ?_ ?_); focus (first | (simp; done) | (simp; omega) | omega)) | ((with_reducible refine below_allocr ?_ ?_); focus (first | (simp; done) | (simp; omega) | omega)) | (with_reducible refine Below.drew ?_) | (with_reducible refine below_drewN ?_ _) | ((with_reducible apply below_via); focus (with_reducible assumption))))
        clear hb1
        go_wp2_with fail
        go_roundw
        case rel => exact ⟨k + 1, by omega, by go_num, hB1, Lib.hid (by rw [HGO.out, idxP, HB0.out]; rfl)⟩
        case measure => simp [intOf]; omega
      · go_wp2_with fail
        refine hcall.mono ?_
        clear hcall
        rintro e w1 ⟨rfl, hb1⟩
        have hB1 : Below w.heap.size w w1 := (by repeat (first | (with_reducible exact hbel) | (with_reducible exact Below.refl _ _) | ((with_reducible refine below_setr ?_ ?_); focus (first | (simp; done) | (simp; omega) | omega)) | ((with_reducible refine below_allocr ?_ ?_); focus (first | (simp; done) | (simp; omega) | omega)) | (with_reducible refine Below.drew ?_) | (with_reducible refine below_drewN ?_ _) | ((with_reducible apply below_via); focus (with_reducible assumption))))
        clear hb1
        go_wp2_with fail
        go_ret
        exact ⟨ret_int (by rw [HGO.out, idxP, HB0.out]; rfl), hB1⟩
    · have hkl : l.drop k = [] := List.drop_eq_nil_of_le (by omega)
      have hgo := HG.out
      rw [hkl] at hgo
      have HGO := Lib.hid hgo
      clear hkl hgo HG
      go_wp2_with fail
      go_ret
      exact ⟨ret_int (by rw [HGO.out]; rfl), hbel⟩
set_option maxHeartbeats 1000000 in
theorem idxL_le (l : Sl LT) (p : LT → Bool) (g : Nat) (w : World) (hr : Rd (· < w.heap.size) 6 LT.enc w l) (hp : ∀ W x, x ∈ l.l → Below w.heap.size w W → Calls Tryz.prog 147 (#[x.v] ++ #[.pointer (some ⟨g, 0, none⟩)]) W fun e w' => e = .returned (.bool (p x)) ∧ Below W.heap.size W w') :
    Calls Tryz.prog 99 #[.slice l.A l.l.length l.c, .func (.func 147) #[] #[.pointer (some ⟨g, 0, none⟩)]] w fun e w' => e = .returned (.int .i64 (idxP p 0 l.l)) ∧ Below w.heap.size w w' := by
  obtain ⟨A, c, l⟩ := l
  have hn := hr.len
  simp only at hn
  have HR := Lib.hid hr
  clear hr
  simp only
  simp only at hp
  go_enter Tryz.func99, Tryz.ntmps99
  go_wp2_with fail
  go_loopw [5, 8] (fun u i wr => ∃ (k : Nat), k ≤ l.length ∧ i = .int .i64 k ∧ Below w.heap.size w wr ∧ Hid (idxP p 0 l = idxP p k (l.drop k))) (fun _ i _ => l.length - (intOf i).toNat)
  case atStart => exact ⟨0, by omega, rfl, (by repeat (first | (with_reducible exact Below.refl _ _) | ((with_reducible refine below_setr ?_ ?_); focus (first | (simp; done) | (simp; omega) | omega)) | ((with_reducible refine below_allocr ?_ ?_); focus (first | (simp; done) | (simp; omega) | omega)) | (with_reducible refine Below.drew ?_) | (with_reducible refine below_drewN ?_ _))), Lib.hid (by simp)⟩
  case round =>
    obtain ⟨k, hk, rfl, hbel, HG⟩ := hrel
    have hhe : w.heap.size ≤ wr.heap.size := hbel.size
    by_cases hlt : k < l.length
    · obtain ⟨b, o, rfl, hb, hcl⟩ := HR.out.at1 hlt
      have hcl2 := hcl.keep (hbel.block b hb)
      have hd : l.drop k = l[k] :: l.drop (k + 1) := List.drop_eq_getElem_cons hlt
      have hgo := HG.out
      rw [hd] at hgo
      have HGO := Lib.hid hgo
      have hcall := hp wr l[k] (List.getElem_mem hlt) hbel
      clear hd hgo hcl HG hp
      generalize l[k] = x at *
      obtain ⟨bq, hb0⟩ : ∃ bq, p x = bq := ⟨_, rfl⟩
      rw [hb0] at hcall
      have HB0 := Lib.hid hb0
      clear hb0
      obtain ⟨xn, xo, xm, xu, xs, xA, xc, xl⟩ := x
      have gg := hcl2.c6
      obtain ⟨g0, g1, g2, g3, g4, g5⟩ := gg
      simp only [LT.v] at hcall
      clear hcl2
      rcases bq
      · go_wp2_with fail
        refine hcall.mono ?_
        clear hcall
        rintro e w1 ⟨rfl, hb1⟩
        have hB1 : Below w.heap.size w w1 := (by repeat (first | (with_reducible exact hbel) | (with_reducible exact Below.refl _ _) | ((with_reducible refine below_setr ?_ ?_); focus (first | (simp; done) | (simp; omega) | omega)) | ((with_reducible refine below_allocr ?_ ?_); focus (first | (simp; done) | (simp; omega) | omega)) | (with_reducible refine Below.drew ?_) | (with_reducible refine below_drewN ?_ _) | ((with_reducible apply below_via); focus (with_reducible assumption))))
        clear hb1
        go_wp2_with fail
        go_roundw
        case rel => exact ⟨k + 1, by omega, by go_num, hB1, Lib.hid (by rw [HGO.out, idxP, HB0.out]; rfl)⟩
        case measure => simp [intOf]; omega
      · go_wp2_with fail
        refine hcall.mono ?_
        clear hcall
        rintro e w1 ⟨rfl, hb1⟩
        have hB1 : Below w.heap.size w w1 := (by repeat (first | (with_reducible exact hbel) | (with_reducible exact Below.refl _ _) | ((with_reducible refine below_setr ?_ ?_); focus (first | (simp; done) | (simp; omega) | omega)) | ((with_reducible refine below_allocr ?_ ?_); focus (first | (simp; done) | (simp; omega) | omega)) | (with_reducible refine Below.drew ?_) | (with_reducible refine below_drewN ?_ _) | ((with_reducible apply below_via); focus (with_reducible assumption))))
        clear hb1
        go_wp2_with fail
        go_ret
        exact ⟨ret_int (by rw [HGO.out, idxP, HB0.out]; rfl), hB1⟩
    · have hkl : l.drop k = [] := List.drop_eq_nil_of_le (by omega)
      have hgo := HG.out
      rw [hkl] at hgo
      have HGO := Lib.hid hgo
      clear hkl hgo HG
      go_wp2_with fail
      go_ret
      exact ⟨ret_int (by rw [HGO.out]; rfl), hbel⟩
set_option maxHeartbeats 1000000 in
theorem hasL_of (l : Sl LT) (p : LT → Bool) (g : Nat) (w : World) (hr : Rd (· < w.heap.size) 6 LT.enc w l) (hp : ∀ W x, x ∈ l.l → Below w.heap.size w W → Calls Tryz.prog 60 (#[x.v] ++ #[]) W fun e w' => e = .returned (.bool (p x)) ∧ Below W.heap.size W w') :
    Calls Tryz.prog 61 #[.slice l.A l.l.length l.c, .func (.func 60) #[] #[]] w fun e w' => e = .returned (.bool (l.l.any p)) ∧ Below w.heap.size w w' := by
  have hcon := idxL_of l p g w hr hp
  clear hp hr
  rcases idxP_ge p l.l 0 with ⟨h1, h2⟩ | ⟨j, x, h1, h2, h3, h4⟩
  · rw [h1] at hcon
    have HV := Lib.hid (show false = l.l.any p from (List.any_eq_false.2 (fun x hx => by simpa using h2 x hx)).symm)
    clear h1 h2
    go_enter Tryz.func61, Tryz.ntmps61
    go_wp2_with fail
    refine hcon.mono ?_
    clear hcon
    rintro e w1 ⟨rfl, hb1⟩
    go_wp2_with fail
    go_ret
    exact ⟨ret_bool HV.out, hb1⟩
  · rw [h1] at hcon
    have HV := Lib.hid (show true = l.l.any p from (List.any_eq_true.2 ⟨x, List.mem_of_getElem? h2, h3⟩).symm)
    clear h1 h2 h3 h4
    go_enter Tryz.func61, Tryz.ntmps61
    go_wp2_with fail
    refine hcon.mono ?_
    clear hcon
    rintro e w1 ⟨rfl, hb1⟩
    go_wp2_with fail
    go_ret
    exact ⟨ret_bool HV.out, hb1⟩
set_option maxHeartbeats 1000000 in
theorem hasL_va (l : Sl LT) (p : LT → Bool) (g : Nat) (w : World) (hr : Rd (· < w.heap.size) 6 LT.enc w l) (hp : ∀ W x, x ∈ l.l → Below w.heap.size w W → Calls Tryz.prog 65 (#[x.v] ++ #[]) W fun e w' => e = .returned (.bool (p x)) ∧ Below W.heap.size W w') :
    Calls Tryz.prog 61 #[.slice l.A l.l.length l.c, .func (.func 65) #[] #[]] w fun e w' => e = .returned (.bool (l.l.any p)) ∧ Below w.heap.size w w' := by
  have hcon := idxL_va l p g w hr hp
  clear hp hr
  rcases idxP_ge p l.l 0 with ⟨h1, h2⟩ | ⟨j, x, h1, h2, h3, h4⟩
  · rw [h1] at hcon
    have HV := Lib.hid (show false = l.l.any p from (List.any_eq_false.2 (fun x hx => by simpa using h2 x hx)).symm)
    clear h1 h2
    go_enter Tryz.func61, Tryz.ntmps61
    go_wp2_with fail
    refine hcon.mono ?_
    clear hcon
    rintro e w1 ⟨rfl, hb1⟩
    go_wp2_with fail
    go_ret
    exact ⟨ret_bool HV.out, hb1⟩
  · rw [h1] at hcon
    have HV := Lib.hid (show true = l.l.any p from (List.any_eq_true.2 ⟨x, List.mem_of_getElem? h2, h3⟩).symm)
    clear h1 h2 h3 h4
    go_enter Tryz.func61, Tryz.ntmps61
    go_wp2_with fail
    refine hcon.mono ?_
    clear hcon
    rintro e w1 ⟨rfl, hb1⟩
    go_wp2_with fail
    go_ret
    exact ⟨ret_bool HV.out, hb1⟩
set_option maxHeartbeats 800000 in
theorem un_name1 (x : LT) (s : ByteArray) (g : Nat) (w : World) (hg : w.cell? ⟨g, 0, none⟩ = some (.string s)) (hgl : g < w.heap.size) :
    Calls Tryz.prog 172 #[x.v, .pointer (some ⟨g, 0, none⟩)] w fun r w' => r = .returned (.bool (x.nm.toList == s.toList)) ∧ Below w.heap.size w w' := by
  obtain ⟨xn, xo, xm, xu, xs, xA, xc, xl⟩ := x
  have hne : g ≠ w.heap.size := by omega
  simp only [LT.v]
  go_enter Tryz.func172, Tryz.ntmps172
  go_wp2_with fail
  go_ret
  exact ⟨rfl, (by repeat (first | (with_reducible exact Below.refl _ _) | ((with_reducible refine below_setr ?_ ?_); focus (first | (simp; done) | (simp; omega) | omega)) | ((with_reducible refine below_allocr ?_ ?_); focus (first | (simp; done) | (simp; omega) | omega)) | (with_reducible refine Below.drew ?_) | (with_reducible refine below_drewN ?_ _)))⟩
end Go.Proofs.YtcgocdhhneckhaaGreat
