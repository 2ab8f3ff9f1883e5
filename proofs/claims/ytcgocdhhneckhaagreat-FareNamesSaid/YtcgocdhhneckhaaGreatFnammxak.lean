/- IndexFunc, ContainsFunc at lets; units.name, known. -/
import Derived.Test.YtcgocdhhneckhaaGreatFnammxaj
import Derived.Test.YtcgocdhhneckhaaGreatFnammxad
namespace Go.Proofs.YtcgocdhhneckhaaGreat
open Go.RowKit
set_option maxHeartbeats 1000000 in
theorem idxL_nm (l : Sl LT) (p : LT → Bool) (g : Nat) (w : World) (hr : Rd (· < w.heap.size) 6 LT.enc w l) (hp : ∀ W x, x ∈ l.l → Below w.heap.size w W → Calls Tryz.prog 172 (#[x.v] ++ #[.pointer (some ⟨g, 0, none⟩)]) W fun e w' => e = .returned (.bool (p x)) ∧ Below W.heap.size W w') :
    Calls Tryz.prog 99 #[.slice l.A l.l.length l.c, .func (.func 172) #[] #[.pointer (some ⟨g, 0, none⟩)]] w fun e w' => e = .returned (.int .i64 (idxP p 0 l.l)) ∧ Below w.heap.size w w' := by
  obtain ⟨A, c, l⟩ := l
  have hn := hr.len
  simp only at hn
  have HR := Lib.hid hr
  clear hr
  simp only
  simp only at hp
  go_enter Tryz.func99, Tryz.ntmps99
  go_wp2_with fail
  go_loopw [5, 8] (fun u i wr => ∃ (k : Nat), k ≤ l.length ∧ i = .int .i64 k ∧ Below w.heap.size w wr ∧ Hid (idxP p 0 l = idxP p k (l.drop k))) (fun _ i _ => l.length - (intOf i).toNat)
  case atStart => exact ⟨0, by omega, rfl, qbl, Lib.hid (by simp)⟩
  case round =>
    obtain ⟨k, hk, rfl, hbel, HG⟩ := hrel
    have hhe : w.heap.size ≤ wr.heap.size := hbel.size
    by_cases hlt : k < l.length
    · obtain ⟨b, o, rfl, hb, hcl⟩ := HR.out.at1 hlt
      have hcl2 := hcl.keep (hbel.block b hb)
      have hd : l.drop k = l[k] :: l.drop (k + 1) := List.drop_eq_getElem_cons hlt
      have hgo := HG.out
      rw [hd] at hgo
      have HGO := Lib.hid hgo
      have hcall := hp wr l[k] (List.getElem_mem hlt) hbel
      clear hd hgo hcl HG hp
      generalize l[k] = x at *
      obtain ⟨bq, hb0⟩ : ∃ bq, p x = bq := ⟨_, rfl⟩
      rw [hb0] at hcall
      have HB0 := Lib.hid hb0
      clear hb0
      obtain ⟨xn, xo, xm, xu, xs, xA, xc, xl⟩ := x
      have gg := hcl2.c6
      obtain ⟨g0, g1, g2, g3, g4, g5⟩ := gg
      simp only [LT.v] at hcall
      clear hcl2
      rcases bq
      · go_wp2_with fail
        refine hcall.mono ?_
        clear hcall
        rintro e w1 ⟨rfl, hb1⟩
        have hB1 : Below w.heap.size w w1 := qbv
        clear hb1
        go_wp2_with fail
        go_roundw
        case rel => exact ⟨k + 1, by omega, by go_num, hB1, Lib.hid (by rw [HGO.out, idxP, HB0.out]; rfl)⟩
        case measure => simp [intOf]; omega
      · go_wp2_with fail
        refine hcall.mono ?_
        clear hcall
        rintro e w1 ⟨rfl, hb1⟩
        have hB1 : Below w.heap.size w w1 := qbv
        clear hb1
        go_wp2_with fail
        go_ret
        exact ⟨ret_int (by rw [HGO.out, idxP, HB0.out]; rfl), hB1⟩
    · have hkl : l.drop k = [] := List.drop_eq_nil_of_le (by omega)
      have hgo := HG.out
      rw [hkl] at hgo
      have HGO := Lib.hid hgo
      clear hkl hgo HG
      go_wp2_with fail
      go_ret
      exact ⟨ret_int (by rw [HGO.out]; rfl), hbel⟩
set_option maxHeartbeats 1000000 in
theorem idxL_of (l : Sl LT) (p : LT → Bool) (g : Nat) (w : World) (hr : Rd (· < w.heap.size) 6 LT.enc w l) (hp : ∀ W x, x ∈ l.l → Below w.heap.size w W → Calls Tryz.prog 60 (#[x.v] ++ #[]) W fun e w' => e = .returned (.bool (p x)) ∧ Below W.heap.size W w') :
    Calls Tryz.prog 99 #[.slice l.A l.l.length l.c, .func (.func 60) #[] #[]] w fun e w' => e = .returned (.int .i64 (idxP p 0 l.l)) ∧ Below w.heap.size w w' := by
  obtain ⟨A, c, l⟩ := l
  have hn := hr.len
  simp only at hn
  have HR := Lib.hid hr
  clear hr
  simp only
  simp only at hp
  go_enter Tryz.func99, Tryz.ntmps99
  go_wp2_with fail
  go_loopw [5, 8] (fun u i wr => ∃ (k : Nat), k ≤ l.length ∧ i = .int .i64 k ∧ Below w.heap.size w wr ∧ Hid (idxP p 0 l = idxP p k (l.drop k))) (fun _ i _ => l.length - (intOf i).toNat)
  case atStart => exact ⟨0, by omega, rfl, qbl, Lib.hid (by simp)⟩
  case round =>
    obtain ⟨k, hk, rfl, hbel, HG⟩ := hrel
    have hhe : w.heap.size ≤ wr.heap.size := hbel.size
    by_cases hlt : k < l.length
    · obtain ⟨b, o, rfl, hb, hcl⟩ := HR.out.at1 hlt
      have hcl2 := hcl.keep (hbel.block b hb)
      have hd : l.drop k = l[k] :: l.drop (k + 1) := List.drop_eq_getElem_cons hlt
      have hgo := HG.out
      rw [hd] at hgo
      have HGO := Lib.hid hgo
      have hcall := hp wr l[k] (List.getElem_mem hlt) hbel
      clear hd hgo hcl HG hp
      generalize l[k] = x at *
      obtain ⟨bq, hb0⟩ : ∃ bq, p x = bq := ⟨_, rfl⟩
      rw [hb0] at hcall
      have HB0 := Lib.hid hb0
      clear hb0
      obtain ⟨xn, xo, xm, xu, xs, xA, xc, xl⟩ := x
      have gg := hcl2.c6
      obtain ⟨g0, g1, g2, g3, g4, g5⟩ := gg
      simp only [LT.v] at hcall
      clear hcl2
      rcases bq
      · go_wp2_with fail
        refine hcall.mono ?_
        clear hcall
        rintro e w1 ⟨rfl, hb1⟩
        have hB1 : Below w.heap.size w w1 := qbv
        clear hb1
        go_wp2_with fail
        go_roundw
        case rel => exact ⟨k + 1, by omega, by go_num, hB1, Lib.hid (by rw [HGO.out, idxP, HB0.out]; rfl)⟩
        case measure => simp [intOf]; omega
      · go_wp2_with fail
        refine hcall.mono ?_
        clear hcall
        rintro e w1 ⟨rfl, hb1⟩
        have hB1 : Below w.heap.size w w1 := qbv
        clear hb1
        go_wp2_with fail
        go_ret
        exact ⟨ret_int (by rw [HGO.out, idxP, HB0.out]; rfl), hB1⟩
    · have hkl : l.drop k = [] := List.drop_eq_nil_of_le (by omega)
      have hgo := HG.out
      rw [hkl] at hgo
      have HGO := Lib.hid hgo
      clear hkl hgo HG
      go_wp2_with fail
      go_ret
      exact ⟨ret_int (by rw [HGO.out]; rfl), hbel⟩
set_option maxHeartbeats 1000000 in
theorem idxL_va (l : Sl LT) (p : LT → Bool) (g : Nat) (w : World) (hr : Rd (· < w.heap.size) 6 LT.enc w l) (hp : ∀ W x, x ∈ l.l → Below w.heap.size w W → Calls Tryz.prog 65 (#[x.v] ++ #[]) W fun e w' => e = .returned (.bool (p x)) ∧ Below W.heap.size W w') :
    Calls Tryz.prog 99 #[.slice l.A l.l.length l.c, .func (.func 65) #[] #[]] w fun e w' => e = .returned (.int .i64 (idxP p 0 l.l)) ∧ Below w.heap.size w w' := by
  obtain ⟨A, c, l⟩ := l
  have hn := hr.len
  simp only at hn
  have HR := Lib.hid hr
  clear hr
  simp only
  simp only at hp
  go_enter Tryz.func99, Tryz.ntmps99
  go_wp2_with fail
  go_loopw [5, 8] (fun u i wr => ∃ (k : Nat), k ≤ l.length ∧ i = .int .i64 k ∧ Below w.heap.size w wr ∧ Hid (idxP p 0 l = idxP p k (l.drop k))) (fun _ i _ => l.length - (intOf i).toNat)
  case atStart => exact ⟨0, by omega, rfl, qbl, Lib.hid (by simp)⟩
  case round =>
    obtain ⟨k, hk, rfl, hbel, HG⟩ := hrel
    have hhe : w.heap.size ≤ wr.heap.size := hbel.size
    by_cases hlt : k < l.length
    · obtain ⟨b, o, rfl, hb, hcl⟩ := HR.out.at1 hlt
      have hcl2 := hcl.keep (hbel.block b hb)
      have hd : l.drop k = l[k] :: l.drop (k + 1) := List.drop_eq_getElem_cons hlt
      have hgo := HG.out
      rw [hd] at hgo
      have HGO := Lib.hid hgo
      have hcall := hp wr l[k] (List.getElem_mem hlt) hbel
      clear hd hgo hcl HG hp
      generalize l[k] = x at *
      obtain ⟨bq, hb0⟩ : ∃ bq, p x = bq := ⟨_, rfl⟩
      rw [hb0] at hcall
      have HB0 := Lib.hid hb0
      clear hb0
      obtain ⟨xn, xo, xm, xu, xs, xA, xc, xl⟩ := x
      have gg := hcl2.c6
      obtain ⟨g0, g1, g2, g3, g4, g5⟩ := gg
      simp only [LT.v] at hcall
      clear hcl2
      rcases bq
      · go_wp2_with fail
        refine hcall.mono ?_
        clear hcall
        rintro e w1 ⟨rfl, hb1⟩
        have hB1 : Below w.heap.size w w1 := qbv
        clear hb1
        go_wp2_with fail
        go_roundw
        case rel => exact ⟨k + 1, by omega, by go_num, hB1, Lib.hid (by rw [HGO.out, idxP, HB0.out]; rfl)⟩
        case measure => simp [intOf]; omega
      · go_wp2_with fail
        refine hcall.mono ?_
        clear hcall
        rintro e w1 ⟨rfl, hb1⟩
        have hB1 : Below w.heap.size w w1 := qbv
        clear hb1
        go_wp2_with fail
        go_ret
        exact ⟨ret_int (by rw [HGO.out, idxP, HB0.out]; rfl), hB1⟩
    · have hkl : l.drop k = [] := List.drop_eq_nil_of_le (by omega)
      have hgo := HG.out
      rw [hkl] at hgo
      have HGO := Lib.hid hgo
      clear hkl hgo HG
      go_wp2_with fail
      go_ret
      exact ⟨ret_int (by rw [HGO.out]; rfl), hbel⟩
set_option maxHeartbeats 1000000 in
theorem idxL_le (l : Sl LT) (p : LT → Bool) (g : Nat) (w : World) (hr : Rd (· < w.heap.size) 6 LT.enc w l) (hp : ∀ W x, x ∈ l.l → Below w.heap.size w W → Calls Tryz.prog 147 (#[x.v] ++ #[.pointer (some ⟨g, 0, none⟩)]) W fun e w' => e = .returned (.bool (p x)) ∧ Below W.heap.size W w') :
    Calls Tryz.prog 99 #[.slice l.A l.l.length l.c, .func (.func 147) #[] #[.pointer (some ⟨g, 0, none⟩)]] w fun e w' => e = .returned (.int .i64 (idxP p 0 l.l)) ∧ Below w.heap.size w w' := by
  obtain ⟨A, c, l⟩ := l
  have hn := hr.len
  simp only at hn
  have HR := Lib.hid hr
  clear hr
  simp only
  simp only at hp
  go_enter Tryz.func99, Tryz.ntmps99
  go_wp2_with fail
  go_loopw [5, 8] (fun u i wr => ∃ (k : Nat), k ≤ l.length ∧ i = .int .i64 k ∧ Below w.heap.size w wr ∧ Hid (idxP p 0 l = idxP p k (l.drop k))) (fun _ i _ => l.length - (intOf i).toNat)
  case atStart => exact ⟨0, by omega, rfl, qbl, Lib.hid (by simp)⟩
  case round =>
    obtain ⟨k, hk, rfl, hbel, HG⟩ := hrel
    have hhe : w.heap.size ≤ wr.heap.size := hbel.size
    by_cases hlt : k < l.length
    · obtain ⟨b, o, rfl, hb, hcl⟩ := HR.out.at1 hlt
      have hcl2 := hcl.keep (hbel.block b hb)
      have hd : l.drop k = l[k] :: l.drop (k + 1) := List.drop_eq_getElem_cons hlt
      have hgo := HG.out
      rw [hd] at hgo
      have HGO := Lib.hid hgo
      have hcall := hp wr l[k] (List.getElem_mem hlt) hbel
      clear hd hgo hcl HG hp
      generalize l[k] = x at *
      obtain ⟨bq, hb0⟩ : ∃ bq, p x = bq := ⟨_, rfl⟩
      rw [hb0] at hcall
      have HB0 := Lib.hid hb0
      clear hb0
      obtain ⟨xn, xo, xm, xu, xs, xA, xc, xl⟩ := x
      have gg := hcl2.c6
      obtain ⟨g0, g1, g2, g3, g4, g5⟩ := gg
      simp only [LT.v] at hcall
      clear hcl2
      rcases bq
      · go_wp2_with fail
        refine hcall.mono ?_
        clear hcall
        rintro e w1 ⟨rfl, hb1⟩
        have hB1 : Below w.heap.size w w1 := qbv
        clear hb1
        go_wp2_with fail
        go_roundw
        case rel => exact ⟨k + 1, by omega, by go_num, hB1, Lib.hid (by rw [HGO.out, idxP, HB0.out]; rfl)⟩
        case measure => simp [intOf]; omega
      · go_wp2_with fail
        refine hcall.mono ?_
        clear hcall
        rintro e w1 ⟨rfl, hb1⟩
        have hB1 : Below w.heap.size w w1 := qbv
        clear hb1
        go_wp2_with fail
        go_ret
        exact ⟨ret_int (by rw [HGO.out, idxP, HB0.out]; rfl), hB1⟩
    · have hkl : l.drop k = [] := List.drop_eq_nil_of_le (by omega)
      have hgo := HG.out
      rw [hkl] at hgo
      have HGO := Lib.hid hgo
      clear hkl hgo HG
      go_wp2_with fail
      go_ret
      exact ⟨ret_int (by rw [HGO.out]; rfl), hbel⟩
set_option maxHeartbeats 1000000 in
theorem hasL_of (l : Sl LT) (p : LT → Bool) (g : Nat) (w : World) (hr : Rd (· < w.heap.size) 6 LT.enc w l) (hp : ∀ W x, x ∈ l.l → Below w.heap.size w W → Calls Tryz.prog 60 (#[x.v] ++ #[]) W fun e w' => e = .returned (.bool (p x)) ∧ Below W.heap.size W w') :
    Calls Tryz.prog 61 #[.slice l.A l.l.length l.c, .func (.func 60) #[] #[]] w fun e w' => e = .returned (.bool (l.l.any p)) ∧ Below w.heap.size w w' := by
  have hcon := idxL_of l p g w hr hp
  clear hp hr
  rcases idxP_ge p l.l 0 with ⟨h1, h2⟩ | ⟨j, x, h1, h2, h3, h4⟩
  · rw [h1] at hcon
    have HV := Lib.hid (show false = l.l.any p from (List.any_eq_false.2 (fun x hx => by simpa using h2 x hx)).symm)
    clear h1 h2
    go_enter Tryz.func61, Tryz.ntmps61
    go_wp2_with fail
    refine hcon.mono ?_
    clear hcon
    rintro e w1 ⟨rfl, hb1⟩
    go_wp2_with fail
    go_ret
    exact ⟨ret_bool HV.out, hb1⟩
  · rw [h1] at hcon
    have HV := Lib.hid (show true = l.l.any p from (List.any_eq_true.2 ⟨x, List.mem_of_getElem? h2, h3⟩).symm)
    clear h1 h2 h3 h4
    go_enter Tryz.func61, Tryz.ntmps61
    go_wp2_with fail
    refine hcon.mono ?_
    clear hcon
    rintro e w1 ⟨rfl, hb1⟩
    go_wp2_with fail
    go_ret
    exact ⟨ret_bool HV.out, hb1⟩
set_option maxHeartbeats 1000000 in
theorem hasL_va (l : Sl LT) (p : LT → Bool) (g : Nat) (w : World) (hr : Rd (· < w.heap.size) 6 LT.enc w l) (hp : ∀ W x, x ∈ l.l → Below w.heap.size w W → Calls Tryz.prog 65 (#[x.v] ++ #[]) W fun e w' => e = .returned (.bool (p x)) ∧ Below W.heap.size W w') :
    Calls Tryz.prog 61 #[.slice l.A l.l.length l.c, .func (.func 65) #[] #[]] w fun e w' => e = .returned (.bool (l.l.any p)) ∧ Below w.heap.size w w' := by
  have hcon := idxL_va l p g w hr hp
  clear hp hr
  rcases idxP_ge p l.l 0 with ⟨h1, h2⟩ | ⟨j, x, h1, h2, h3, h4⟩
  · rw [h1] at hcon
    have HV := Lib.hid (show false = l.l.any p from (List.any_eq_false.2 (fun x hx => by simpa using h2 x hx)).symm)
    clear h1 h2
    go_enter Tryz.func61, Tryz.ntmps61
    go_wp2_with fail
    refine hcon.mono ?_
    clear hcon
    rintro e w1 ⟨rfl, hb1⟩
    go_wp2_with fail
    go_ret
    exact ⟨ret_bool HV.out, hb1⟩
  · rw [h1] at hcon
    have HV := Lib.hid (show true = l.l.any p from (List.any_eq_true.2 ⟨x, List.mem_of_getElem? h2, h3⟩).symm)
    clear h1 h2 h3 h4
    go_enter Tryz.func61, Tryz.ntmps61
    go_wp2_with fail
    refine hcon.mono ?_
    clear hcon
    rintro e w1 ⟨rfl, hb1⟩
    go_wp2_with fail
    go_ret
    exact ⟨ret_bool HV.out, hb1⟩
set_option maxHeartbeats 800000 in
theorem un_name1 (x : LT) (s : ByteArray) (g : Nat) (w : World) (hg : w.cell? ⟨g, 0, none⟩ = some (.string s)) (hgl : g < w.heap.size) :
    Calls Tryz.prog 172 #[x.v, .pointer (some ⟨g, 0, none⟩)] w fun r w' => r = .returned (.bool (x.nm.toList == s.toList)) ∧ Below w.heap.size w w' := by
  obtain ⟨xn, xo, xm, xu, xs, xA, xc, xl⟩ := x
  have hne : g ≠ w.heap.size := by omega
  simp only [LT.v]
  go_enter Tryz.func172, Tryz.ntmps172
  go_wp2_with fail
  go_ret
  exact ⟨rfl, qbl⟩
end Go.Proofs.YtcgocdhhneckhaaGreat
/- Walks: units.name; the closures that ask whether a let is right. -/
namespace Go.Proofs.YtcgocdhhneckhaaGreat
open Go.RowKit
set_option maxHeartbeats 800000 in
theorem un_bad_of (x : LT) (w : World) (hx : LT.At (· < w.heap.size) w x) : Calls Tryz.prog 60 #[x.v] w fun r w' => r = .returned (.bool (!rexp x.b)) ∧ Below w.heap.size w w' := by
  obtain ⟨xn, xo, xm, xu, xs, xA, xc, xl⟩ := x
  have HX := Lib.hid hx.b
  clear hx
  simp only at HX
  simp only [LT.v]
  go_enter Tryz.func60, Tryz.ntmps60
  go_wp2_with fail
  have HB : Hid (Below w.heap.size w (w.alloc (.cells #[.string xn, .int .i64 xo, .int .i64 xm, .int .i64 xu, .string xs, .slice xA xl.length xc] 57))) := Lib.hid qbl
  refine (syn_rexp ⟨xo, xm, xu, xs, xA, xc, xl⟩ _ (HX.out.later HB.out)).mono ?_
  rintro e w' ⟨rfl, hb⟩
  have hB : Below w.heap.size w w' := HB.out.trans (hb.mono HB.out.size)
  clear hb
  obtain ⟨r, hr⟩ : ∃ r, rexp ⟨xo, xm, xu, xs, xA, xc, xl⟩ = r := ⟨_, rfl⟩
  rw [hr]
  have HR : Hid ((!r) = !rexp ⟨xo, xm, xu, xs, xA, xc, xl⟩) := Lib.hid (by rw [hr])
  clear hr
  go_wp2_with fail
  go_ret
  exact ⟨ret_bool HR.out, hB⟩
set_option maxHeartbeats 800000 in
theorem un_bad_va (x : LT) (w : World) (hx : LT.At (· < w.heap.size) w x) : Calls Tryz.prog 65 #[x.v] w fun r w' => r = .returned (.bool (!rexp x.b)) ∧ Below w.heap.size w w' := by
  obtain ⟨xn, xo, xm, xu, xs, xA, xc, xl⟩ := x
  have HX := Lib.hid hx.b
  clear hx
  simp only at HX
  simp only [LT.v]
  go_enter Tryz.func65, Tryz.ntmps65
  go_wp2_with fail
  have HB : Hid (Below w.heap.size w (w.alloc (.cells #[.string xn, .int .i64 xo, .int .i64 xm, .int .i64 xu, .string xs, .slice xA xl.length xc] 57))) := Lib.hid qbl
  refine (syn_rexp ⟨xo, xm, xu, xs, xA, xc, xl⟩ _ (HX.out.later HB.out)).mono ?_
  rintro e w' ⟨rfl, hb⟩
  have hB : Below w.heap.size w w' := HB.out.trans (hb.mono HB.out.size)
  clear hb
  obtain ⟨r, hr⟩ : ∃ r, rexp ⟨xo, xm, xu, xs, xA, xc, xl⟩ = r := ⟨_, rfl⟩
  rw [hr]
  have HR : Hid ((!r) = !rexp ⟨xo, xm, xu, xs, xA, xc, xl⟩) := Lib.hid (by rw [hr])
  clear hr
  go_wp2_with fail
  go_ret
  exact ⟨ret_bool HR.out, hB⟩
def nameU (s : ByteArray) : List LT → List Int → Int
  | x :: L, u :: U => if (x.nm.toList == s.toList) = true then u else nameU s L U
  | _, _ => -1
theorem nameU_none {s : ByteArray} : ∀ {L : List LT} {U : List Int}, (∀ x ∈ L, (x.nm.toList == s.toList) = false) → nameU s L U = -1
  | [], _, _ => by unfold nameU; rfl
  | x :: L, [], _ => by unfold nameU; rfl
  | x :: L, u :: U, h => by
    unfold nameU
    rw [if_neg (by rw [h x (List.mem_cons_self ..)]; simp)]
    exact nameU_none fun y hy => h y (List.mem_cons_of_mem _ hy)
theorem nameU_at {s : ByteArray} : ∀ {L : List LT} {U : List Int} {j : Nat} {x : LT} {u : Int}, L[j]? = some x → U[j]? = some u → (x.nm.toList == s.toList) = true → (∀ y ∈ L.take j, (y.nm.toList == s.toList) = false) → nameU s L U = u
  | [], _, j, _, _, h, _, _, _ => by simp at h
  | x :: L, [], j, _, _, _, h, _, _ => by simp at h
  | x :: L, u :: U, 0, y, v, h1, h2, h3, _ => by
    simp only [List.getElem?_cons_zero, Option.some.injEq] at h1 h2
    subst h1 h2
    unfold nameU
    rw [if_pos h3]
  | x :: L, u :: U, j + 1, y, v, h1, h2, h3, h4 => by
    unfold nameU
    rw [List.take_succ_cons] at h4
    rw [if_neg (by rw [h4 x (List.mem_cons_self ..)]; simp)]
    exact nameU_at (by simpa using h1) (by simpa using h2) h3 fun z hz => h4 z (List.mem_cons_of_mem _ hz)
set_option maxHeartbeats 1600000 in
theorem un_name (L : Sl LT) (U : Sl Int) (s : ByteArray) (w : World) (hL : LetsAt (· < w.heap.size) w L) (hU : Rd (· < w.heap.size) 1 ienc w U) (hlen : U.l.length = L.l.length) :
    Calls Tryz.prog 143 #[.agg #[.slice L.A L.l.length L.c, .slice U.A U.l.length U.c], .string s] w fun r w' => r = .returned (.int .i64 (nameU s L.l U.l)) ∧ Below w.heap.size w w' := by
  have hln := hL.rd.len
  have HL := Lib.hid hL
  have HU := Lib.hid hU
  have HLN := Lib.hid hlen
  have hun := hU.len
  clear hL hU hlen
  go_enter Tryz.func143, Tryz.ntmps143
  go_wp2_with fail
  have HB : Hid (Below w.heap.size w ((w.alloc (.cells #[.slice L.A L.l.length L.c, .slice U.A U.l.length U.c] 103)).alloc (.cells #[.string s] 9))) := Lib.hid qbl
  have HA : Hid (Blk ((w.alloc (.cells #[.slice L.A L.l.length L.c, .slice U.A U.l.length U.c] 103)).alloc (.cells #[.string s] 9)) w.heap.size 103 #[.slice L.A L.l.length L.c, .slice U.A U.l.length U.c]) := Lib.hid ((Blk.new _ _ _).alloc _)
  have HC : Hid (Blk ((w.alloc (.cells #[.slice L.A L.l.length L.c, .slice U.A U.l.length U.c] 103)).alloc (.cells #[.string s] 9)) (w.heap.size + 1) 9 #[.string s]) := Lib.hid (Blk.new' (by simp))
  generalize (w.alloc (.cells #[.slice L.A L.l.length L.c, .slice U.A U.l.length U.c] 103)).alloc (.cells #[.string s] 9) = w2 at *
  have hcon := idxL_nm L (fun x => x.nm.toList == s.toList) (w.heap.size + 1) w2 (HL.out.later HB.out).rd (fun W x _ hW => un_name1 x s _ W (HC.out.later hW).b1.1 (HC.out.later hW).lt)
  rcases idxP_ge (fun x : LT => x.nm.toList == s.toList) L.l 0 with ⟨h1, h2⟩ | ⟨j, x, h1, h2, h3, h4⟩
  · rw [h1] at hcon
    have HV := Lib.hid (nameU_none (U := U.l) h2)
    clear h1 h2
    refine hcon.mono ?_
    clear hcon
    rintro e w3 ⟨rfl, hb3⟩
    have hB : Below w.heap.size w w3 := HB.out.trans (hb3.mono HB.out.size)
    clear hb3
    go_wp2_with fail
    go_ret
    exact ⟨ret_int HV.out.symm, hB⟩
  · have hj : j < L.l.length := (List.getElem?_eq_some_iff.1 h2).1
    have hjU : j < U.l.length := by have := HLN.out; omega
    rw [h1, Nat.zero_add] at hcon
    have HV := Lib.hid (nameU_at h2 (List.getElem?_eq_getElem hjU) h3 h4)
    clear h1 h2 h3 h4
    refine hcon.mono ?_
    clear hcon
    rintro e w3 ⟨rfl, hb3⟩
    have hB : Below w.heap.size w w3 := HB.out.trans (hb3.mono HB.out.size)
    obtain ⟨b, o, hA, _, c0⟩ := (HU.out.later hB).geti hjU
    obtain ⟨a0, a1, af, az⟩ := (HA.out.later hb3).b2
    clear hb3
    rw [hA] at a1
    go_wp2_with fail
    go_ret
    exact ⟨ret_int HV.out.symm, hB⟩
end Go.Proofs.YtcgocdhhneckhaaGreat
/- Walks of package big: Right. -/
namespace Go.Proofs.YtcgocdhhneckhaaGreat
open Go.RowKit
structure Big where
  s : Int
  l : Sl Int
def Big.d (a : Big) : BigD := ⟨a.s, a.l.l⟩
def Big.v (a : Big) : Value := .agg #[.int .i64 a.s, .slice a.l.A a.l.l.length a.l.c]
theorem bright_no {s : Int} {l : List Int} {i : Nat} (hi : i < l.length) (h : l[i] < 0 ∨ 1048575 < l[i]) : (BigD.mk s l).right = false := by
  rcases hr : (BigD.mk s l).right
  · rfl
  · unfold BigD.right at hr
    rw [Bool.and_eq_true, all_digOK] at hr
    have := hr.1 l[i] (List.getElem_mem hi)
    omega
theorem bright_nil {s : Int} : (BigD.mk s []).right = decide (s = 0) := by simp [BigD.right]
theorem bright_yes {s : Int} {l : List Int} (h : DigOK l) (hl : l.length - 1 < l.length) : (BigD.mk s l).right = ((decide (s = 1) || decide (s = -1)) && (decide (l.length ≤ 60) && decide (l[l.length - 1] ≠ 0))) := by
  have hg : l.getLast? = some l[l.length - 1] := by rw [List.getLast?_eq_getElem?, List.getElem?_eq_getElem hl]
  unfold BigD.right
  simp only
  rw [all_digOK.2 h, hg]; simp
set_option maxHeartbeats 400000 in
theorem big_right (a : Big) (w : World) (hr : Rd (· < w.heap.size) 1 ienc w a.l) :
    Calls Tryz.prog 159 #[a.v] w fun e w' => e = .returned (.bool a.d.right) ∧ Below w.heap.size w w' := by
  obtain ⟨s, ⟨A, c, l⟩⟩ := a
  have HR := Lib.hid hr
  have hml : l.length ≤ 9223372036854775807 := hr.len
  clear hr
  simp only [Big.v, Big.d]
  go_enter Tryz.func159, Tryz.ntmps159
  go_wp2_with fail
  go_loopw [5, 12] (fun _ v wr => ∃ (k : Nat), k ≤ l.length ∧ v = .int .i64 k ∧ (∀ j, (hj : j < l.length) → j < k → 0 ≤ l[j] ∧ l[j] < 1048576) ∧ Blk wr w.heap.size 69 #[.int .i64 s, .slice A l.length c] ∧ Below w.heap.size w wr) (fun _ v _ => l.length - (intOf v).toNat)
  case atStart => exact ⟨0, by omega, rfl, fun j _ hj => absurd hj (Nat.not_lt_zero _), Blk.new _ _ _, qbl⟩
  case round =>
    obtain ⟨k, hk, rfl, hall, hblk, hbel⟩ := hrel
    obtain ⟨b0, b1, bf, bz⟩ := hblk.b2
    by_cases hkl : k < l.length
    · have hkl' : (k : Int) < (l.length : Int) := by omega
      obtain ⟨b, o, hA, hF, hcl⟩ := (HR.out.later hbel).at1 hkl
      simp only at hA
      subst hA
      have c0 := hcl.c1
      simp only [Nat.mul_one] at c0
      generalize hx : l[k] = x at *
      have HX := Lib.hid hx
      have HALL := Lib.hid hall
      have HBLK := Lib.hid hblk
      clear hx hall hcl hblk
      by_cases h1 : x < 0
      · go_wp2_with fail
        go_ret
        exact ⟨ret_bool (bright_no hkl (.inl (HX.out ▸ h1))).symm, hbel⟩
      · by_cases h2 : 1048575 < x
        · go_wp2_with fail
          go_ret
          exact ⟨ret_bool (bright_no hkl (.inr (HX.out ▸ h2))).symm, hbel⟩
        · go_wp2_with fail
          go_roundw
          case rel =>
            refine ⟨k + 1, by omega, by go_num, fun j hj hjk => ?_, HBLK.out, hbel⟩
            by_cases he : j = k
            · subst he; rw [HX.out]; omega
            · exact HALL.out j hj (by omega)
          case measure => simp [intOf]; omega
    · obtain rfl : k = l.length := by omega
      have hok : DigOK l := fun d hd => by
        obtain ⟨j, hj, rfl⟩ := List.mem_iff_getElem.1 hd
        exact hall j hj hj
      have HOK := Lib.hid hok
      clear hall hok
      by_cases hz : l.length = 0
      · go_wp2_with fail
        go_ret
        exact ⟨ret_bool (by rw [List.eq_nil_of_length_eq_zero hz, bright_nil]; rfl), hbel⟩
      · have hl1 : l.length - 1 < l.length := by omega
        obtain ⟨b, o, hA, hF, c0⟩ := (HR.out.later hbel).geti hl1
        simp only at hA c0
        subst hA
        have HY := Lib.hid (bright_yes (s := s) HOK.out hl1)
        generalize l[l.length - 1] = x at *
        clear HOK
        by_cases h3 : l.length ≤ 60
        · by_cases h1 : s = 1
          · subst h1
            go_wp2_with fail
            go_ret
            exact ⟨ret_bool (by rw [HY.out]; simp [h3]; rfl), hbel⟩
          · by_cases h2 : s = -1
            · subst h2
              go_wp2_with fail
              go_ret
              exact ⟨ret_bool (by rw [HY.out]; simp [h3]; rfl), hbel⟩
            · go_wp2_with fail
              go_ret
              exact ⟨ret_bool (by rw [HY.out]; simp [h1, h2]), hbel⟩
        · by_cases h1 : s = 1
          · subst h1
            go_wp2_with fail
            go_ret
            exact ⟨ret_bool (by rw [HY.out]; simp; omega), hbel⟩
          · by_cases h2 : s = -1
            · subst h2
              go_wp2_with fail
              go_ret
              exact ⟨ret_bool (by rw [HY.out]; simp; omega), hbel⟩
            · go_wp2_with fail
              go_ret
              exact ⟨ret_bool (by rw [HY.out]; simp [h1, h2]), hbel⟩
end Go.Proofs.YtcgocdhhneckhaaGreat
