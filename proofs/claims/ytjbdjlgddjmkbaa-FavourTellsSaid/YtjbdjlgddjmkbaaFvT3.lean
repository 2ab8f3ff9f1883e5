/- Walks of the reference: riders, Lag. -/
import Derived.Test.YtjbdjlgddjmkbaaFvT2
namespace Go.Proofs.Ytjbdjlgddjmkbaa
open Go.RowKit
set_option maxRecDepth 20000 in
set_option maxHeartbeats 2000000 in
theorem rriders_any (s : Sl Int) (w : World) (hr : Rd (· < w.heap.size) 1 ienc w s) :
    Calls Try.prog 36 #[.slice s.A s.l.length s.c] w fun e w' => e = .returned (.bool (ridesL s.l)) ∧ Below w.heap.size w w' := by
  obtain ⟨A, c, l⟩ := s
  have hn := hr.len
  simp only at hn
  have HR := Lib.hid hr
  clear hr
  simp only
  rcases hin0 : rngB (l.length : Int) 1 60
  · have hv : ridesL l = false := by
      rw [Bool.eq_false_iff, ne_eq, ridesL_iff]
      rintro ⟨a, b, _⟩
      have := rngB_not.1 hin0; omega
    have HV := Lib.hid hv
    have HIN0 := Lib.hid hin0
    clear hv hin0
    go_enter Try.func36, Try.ntmps36
    go_wp2_with fail
    refine (in_any _ _ _ _).mono ?_
    rintro e w' ⟨rfl, rfl⟩
    rw [HIN0.out]
    go_wp2_with fail
    go_ret
    exact ⟨ret_bool HV.out.symm, (by repeat (first | (with_reducible exact Below.refl _ _) | ((with_reducible refine below_setr ?_ ?_); focus (first | (simp; done) | (simp; omega) | omega)) | ((with_reducible refine below_allocr ?_ ?_); focus (first | (simp; done) | (simp; omega) | omega)) | (with_reducible refine Below.drew ?_) | (with_reducible refine below_drewN ?_ _)))⟩
  have HIN0 := Lib.hid hin0
  have hlb := rngB_iff.1 hin0
  clear hin0
  go_enter Try.func36, Try.ntmps36
  go_wp2_with fail
  refine (in_any _ _ _ _).mono ?_
  rintro e w' ⟨rfl, rfl⟩
  rw [HIN0.out]
  go_wp2_with fail
  go_loopw [3, 4] (fun i u wr => ∃ (k : Nat), k ≤ l.length ∧ i = .int .i64 k ∧ Below w.heap.size w wr ∧ Hid ((l.take k).Nodup) ∧ Hid (∀ x ∈ l.take k, 0 ≤ x ∧ x ≤ 3999)) (fun i _ _ => l.length - (intOf i).toNat)
  case atStart => exact ⟨0, by omega, rfl, (by repeat (first | (with_reducible exact Below.refl _ _) | ((with_reducible refine below_setr ?_ ?_); focus (first | (simp; done) | (simp; omega) | omega)) | ((with_reducible refine below_allocr ?_ ?_); focus (first | (simp; done) | (simp; omega) | omega)) | (with_reducible refine Below.drew ?_) | (with_reducible refine below_drewN ?_ _))), Lib.hid (by simp), Lib.hid (by simp)⟩
  case round =>
    obtain ⟨k, hk, rfl, hbel, HN, HV⟩ := hrel
    have hhe : w.heap.size ≤ wr.heap.size := hbel.size
    by_cases hlt : k < l.length
    · obtain ⟨b, o, rfl, hb, hcl⟩ := HR.out.at1 hlt
      have htk : l.take (k + 1) = l.take k ++ [l[k]] := (List.take_append_getElem hlt).symm
      have hmem : l[k] ∈ l := List.getElem_mem hlt
      have hpre : l.take k ++ [l[k]] <+: l := by rw [← htk]; exact List.take_prefix _ _
      have g0 := (hcl.keep (hbel.block b hb)).c1
      simp only [Nat.mul_one] at g0
      have hgk : l[k]? = some l[k] := List.getElem?_eq_getElem hlt
      generalize l[k] = x at *
      have HTK := Lib.hid htk
      have HM := Lib.hid hmem
      have HPRE := Lib.hid hpre
      have HGK := Lib.hid hgk
      clear htk hcl hmem hpre hgk
      rcases hx : rngB x 0 3999
      · have hv : ridesL l = false := by
          rw [Bool.eq_false_iff, ne_eq, ridesL_iff]
          rintro ⟨_, _, _, hall⟩
          have := hall x HM.out
          have := rngB_not.1 hx; omega
        have HVV := Lib.hid hv
        have HX := Lib.hid hx
        clear hv hx
        go_wp2_with fail
        refine (in_any _ _ _ _).mono ?_
        rintro e w' ⟨rfl, rfl⟩
        rw [HX.out]
        go_wp2_with fail
        go_ret
        exact ⟨ret_bool HVV.out.symm, hbel⟩
      · have HX := Lib.hid hx
        have hx01 := rngB_iff.1 hx
        clear hx
        go_wp2_with fail
        refine (in_any _ _ _ _).mono ?_
        rintro e w' ⟨rfl, rfl⟩
        rw [HX.out]
        go_wp2_with fail
        go_loopw [4] (fun u wr2 => ∃ (j : Nat), j ≤ k ∧ u = .int .i64 j ∧ Below w.heap.size w wr2 ∧ Hid (x ∉ l.take j)) (fun u _ => k - (intOf u).toNat)
        case atStart => exact ⟨0, by omega, rfl, hbel, Lib.hid (by simp)⟩
        case round =>
          obtain ⟨j, hjk, rfl, hbel2, HXT⟩ := hrel
          have hhe2 : w.heap.size ≤ wr.heap.size := hbel2.size
          by_cases hj : j < k
          · have hjl : j < l.length := by omega
            obtain ⟨b2, o2, hA, hb2, hcl2⟩ := HR.out.at1 hjl
            simp only [Option.some.injEq, Addr.mk.injEq, and_true] at hA
            obtain ⟨rfl, rfl⟩ := hA
            have j0 := (hcl2.keep (hbel2.block b hb2)).c1
            simp only [Nat.mul_one] at j0
            obtain ⟨b3, o3, hA, hb3, hcl3⟩ := HR.out.at1 hlt
            simp only [Option.some.injEq, Addr.mk.injEq, and_true] at hA
            obtain ⟨rfl, rfl⟩ := hA
            have k0 := (hcl3.keep (hbel2.block b hb3)).c1
            have hxe : l[k] = x := by
              have := HGK.out
              rw [List.getElem?_eq_getElem hlt] at this
              injection this
            simp only [Nat.mul_one, hxe] at k0
            have htj : l.take (j + 1) = l.take j ++ [l[j]] := (List.take_append_getElem hjl).symm
            have hyj : l[j] ∈ l.take k := by
              have h1 : (l.take k)[j]? = some l[j] := by rw [List.getElem?_take_of_lt hj]; exact List.getElem?_eq_getElem hjl
              exact List.mem_of_getElem? h1
            try simp only at j0
            clear hxe hcl2 hcl3 g0
            generalize l[j] = y at *
            have HTJ := Lib.hid htj
            have HYJ := Lib.hid hyj
            clear htj hyj
            go_wp2_with fail
            refine wp_region_T (fun w' => w'.cell? ⟨b, o + j, none⟩ = some (.int .i64 y) ∧ w'.cell? ⟨b, o + k, none⟩ = some (.int .i64 x)) (fun _ => false) (by kernel_rfl) ⟨j0, k0⟩ (fun hHeld => ?_)
            refine wpAnyT_take2 (i := 0) (v := ?_) rfl rfl (by kernel_rfl) (by kernel_rfl) (by kernel_rfl) (by kernel_rfl) (fun _ _ _ h => h) (Or.inl ⟨by rfl, ?_⟩) (by first | assumption | trivial) ?_
            rotate_left
            · (intro w hSw; (try dsimp only at hSw); go_simp) <;> (with_reducible rfl)
            simp only [List.setIfInBounds_toArray, List.set_cons_zero, List.set_cons_succ]
            refine wpAnyT_take2 (i := 1) (v := ?_) rfl rfl (by kernel_rfl) (by kernel_rfl) (by kernel_rfl) (by kernel_rfl) (fun _ _ _ h => h) (Or.inl ⟨by rfl, ?_⟩) (by first | assumption | trivial) ?_
            rotate_left
            · (intro w hSw; (try dsimp only at hSw); go_simp) <;> (with_reducible rfl)
            simp only [List.setIfInBounds_toArray, List.set_cons_zero, List.set_cons_succ]
            refine wpAnyT_take2 (i := 2) (v := ?_) rfl rfl (by kernel_rfl) (by kernel_rfl) (by kernel_rfl) (by kernel_rfl) (fun _ _ _ h => h) (Or.inl ⟨by rfl, ?_⟩) (by first | assumption | trivial) ?_
            rotate_left
            · (intro w hSw; (try dsimp only at hSw); go_simp) <;> (with_reducible rfl)
            simp only [List.setIfInBounds_toArray, List.set_cons_zero, List.set_cons_succ]
            refine wpAnyT_take2 (i := 3) (v := ?_) rfl rfl (by kernel_rfl) (by kernel_rfl) (by kernel_rfl) (by kernel_rfl) (fun _ _ _ h => h) (Or.inl ⟨by rfl, ?_⟩) (by first | assumption | trivial) ?_
            rotate_left
            · (intro w hSw; (try dsimp only at hSw); go_simp) <;> (with_reducible rfl)
            simp only [List.setIfInBounds_toArray, List.set_cons_zero, List.set_cons_succ]
            refine wpAnyT_take2 (i := 4) (v := ?_) rfl rfl (by kernel_rfl) (by kernel_rfl) (by kernel_rfl) (by kernel_rfl) (fun _ _ _ h => h) (Or.inl ⟨by rfl, ?_⟩) (by first | assumption | trivial) ?_
            rotate_left
            · (intro w hSw; (try dsimp only at hSw); go_simp) <;> (with_reducible rfl)
            simp only [List.setIfInBounds_toArray, List.set_cons_zero, List.set_cons_succ]
            refine wpAnyT_take2 (i := 5) (v := ?_) rfl rfl (by kernel_rfl) (by kernel_rfl) (by kernel_rfl) (by kernel_rfl) (fun _ _ _ h => h) (Or.inl ⟨by rfl, ?_⟩) (by first | assumption | trivial) ?_
            rotate_left
            · (intro w hSw; (try dsimp only at hSw); go_simp) <;> (with_reducible rfl)
            simp only [List.setIfInBounds_toArray, List.set_cons_zero, List.set_cons_succ]
            refine wpAnyT_take2 (i := 6) (v := ?_) rfl rfl (by kernel_rfl) (by kernel_rfl) (by kernel_rfl) (by kernel_rfl) (fun _ _ _ h => h) (Or.inl ⟨by rfl, ?_⟩) (by first | assumption | trivial) ?_
            rotate_left
            · (intro w hSw; (try dsimp only at hSw); go_simp) <;> (with_reducible rfl)
            simp only [List.setIfInBounds_toArray, List.set_cons_zero, List.set_cons_succ]
            refine wpAnyT_take2 (i := 7) (v := ?_) rfl rfl (by kernel_rfl) (by kernel_rfl) (by kernel_rfl) (by kernel_rfl) (fun _ _ _ h => h) (Or.inl ⟨by rfl, ?_⟩) (by first | assumption | trivial) ?_
            rotate_left
            · (intro w hSw; (try dsimp only at hSw); go_simp) <;> (with_reducible rfl)
            simp only [List.setIfInBounds_toArray, List.set_cons_zero, List.set_cons_succ]
            by_cases hyx : y = x
            · have hv : ridesL l = false := by
                rw [Bool.eq_false_iff, ne_eq, ridesL_iff]
                rintro ⟨_, _, hnd, _⟩
                have := HPRE.out.sublist.nodup hnd
                rw [List.nodup_append] at this
                exact this.2.2 y HYJ.out x (by simp) hyx
              have HVV := Lib.hid hv
              clear hv
              subst hyx
              refine wpAnyT_take2 (i := 8) (v := .bool true) rfl rfl (by kernel_rfl) (by kernel_rfl) (by kernel_rfl) (by kernel_rfl) (fun _ _ _ h => h) (Or.inl ⟨by rfl, ?_⟩) (by first | assumption | trivial) ?_
              · (intro w hSw; (try dsimp only at hSw); go_simp) <;> (first | (with_reducible rfl) | assumption | (simp; done) | (simp [*]; done) | (simp; omega))
              simp only [List.setIfInBounds_toArray, List.set_cons_zero, List.set_cons_succ]
              refine wpAnyT_done (by kernel_rfl) ?_ _
              clear hHeld
              go_wp2_with fail
              go_ret
              exact ⟨ret_bool HVV.out.symm, (by repeat (first | (with_reducible exact hbel2) | (with_reducible exact Below.refl _ _) | ((with_reducible refine below_setr ?_ ?_); focus (first | (simp; done) | (simp; omega) | omega)) | ((with_reducible refine below_allocr ?_ ?_); focus (first | (simp; done) | (simp; omega) | omega)) | (with_reducible refine Below.drew ?_) | (with_reducible refine below_drewN ?_ _)))⟩
            · skip
              refine wpAnyT_take2 (i := 8) (v := .bool false) rfl rfl (by kernel_rfl) (by kernel_rfl) (by kernel_rfl) (by kernel_rfl) (fun _ _ _ h => h) (Or.inl ⟨by rfl, ?_⟩) (by first | assumption | trivial) ?_
              · (intro w hSw; (try dsimp only at hSw); go_simp) <;> (first | (with_reducible rfl) | assumption | (simp; done) | (simp [*]; done) | (simp; omega))
              simp only [List.setIfInBounds_toArray, List.set_cons_zero, List.set_cons_succ]
              refine wpAnyT_done (by kernel_rfl) ?_ _
              clear hHeld
              have HYX := Lib.hid hyx
              clear hyx
              go_wp2_with fail
              go_roundw
              case rel =>
                refine ⟨j + 1, by omega, by go_num, (by repeat (first | (with_reducible exact hbel2) | (with_reducible exact Below.refl _ _) | ((with_reducible refine below_setr ?_ ?_); focus (first | (simp; done) | (simp; omega) | omega)) | ((with_reducible refine below_allocr ?_ ?_); focus (first | (simp; done) | (simp; omega) | omega)) | (with_reducible refine Below.drew ?_) | (with_reducible refine below_drewN ?_ _))), Lib.hid ?_⟩
                rw [HTJ.out]
                intro h
                rcases List.mem_append.1 h with h | h
                · exact HXT.out h
                · simp at h; exact HYX.out h.symm
              case measure => simp [intOf]; omega
          · have hjj : j = k := by omega
            have hnx := HXT.out
            rw [hjj] at hnx
            have HNX := Lib.hid hnx
            clear hjj hnx HXT
            go_wp2_with fail
            go_roundw
            case rel =>
              refine ⟨k + 1, by omega, by go_num, hbel2, Lib.hid ?_, Lib.hid ?_⟩
              · rw [HTK.out, List.nodup_append]
                exact ⟨HN.out, by simp, fun a ha b hb => by simp at hb; subst hb; intro e; exact HNX.out (by rw [← e]; exact ha)⟩
              · rw [HTK.out]
                intro y hy
                rcases List.mem_append.1 hy with hy | hy
                · exact HV.out y hy
                · simp at hy; subst hy; exact hx01
            case measure => simp [intOf]; omega
    · have hnd := HN.out
      have hal := HV.out
      rw [List.take_of_length_le (by omega)] at hnd hal
      have hv : ridesL l = true := ridesL_iff.2 ⟨by omega, by omega, hnd, hal⟩
      have HVV := Lib.hid hv
      clear hnd hal hv HN HV
      go_wp2_with fail
      go_ret
      exact ⟨ret_bool HVV.out.symm, hbel⟩
theorem hiF_ge (l : List Bal) : ∀ (r : List Int) (a : Int), a ≤ hiF l a r ∧ ∀ x ∈ r, ofL x l ≤ hiF l a r
  | [], a => ⟨Int.le_refl _, by simp⟩
  | m :: r, a => by
    obtain ⟨h1, h2⟩ := hiF_ge l r (max a (ofL m l))
    unfold hiF
    refine ⟨by omega, fun x hx => ?_⟩
    rcases List.mem_cons.1 hx with rfl | hx
    · omega
    · exact h2 x hx
theorem loF_le (l : List Bal) : ∀ (r : List Int) (a : Int), loF l a r ≤ a ∧ ∀ x ∈ r, loF l a r ≤ ofL x l
  | [], a => ⟨Int.le_refl _, by simp⟩
  | m :: r, a => by
    obtain ⟨h1, h2⟩ := loF_le l r (min a (ofL m l))
    unfold loF
    refine ⟨by omega, fun x hx => ?_⟩
    rcases List.mem_cons.1 hx with rfl | hx
    · omega
    · exact h2 x hx
theorem hiF_mem2 (l : List Bal) : ∀ (r : List Int) (a : Int), hiF l a r = a ∨ ∃ x ∈ r, hiF l a r = ofL x l
  | [], a => .inl rfl
  | m :: r, a => by
    unfold hiF
    rcases hiF_mem2 l r (max a (ofL m l)) with h | ⟨x, hx, h⟩
    · rw [h]
      rcases Int.lt_or_le a (ofL m l) with h1 | h1
      · exact .inr ⟨m, by simp, by omega⟩
      · exact .inl (by omega)
    · exact .inr ⟨x, by simp [hx], h⟩
theorem loF_mem2 (l : List Bal) : ∀ (r : List Int) (a : Int), loF l a r = a ∨ ∃ x ∈ r, loF l a r = ofL x l
  | [], a => .inl rfl
  | m :: r, a => by
    unfold loF
    rcases loF_mem2 l r (min a (ofL m l)) with h | ⟨x, hx, h⟩
    · rw [h]
      rcases Int.lt_or_le (ofL m l) a with h1 | h1
      · exact .inr ⟨m, by simp, by omega⟩
      · exact .inl (by omega)
    · exact .inr ⟨x, by simp [hx], h⟩
/-- The greatest difference is what all pairs give. -/
theorem lagL_eq {l : List Bal} {g : List Int} {z : Int} (h0 : 0 ≤ z) (hall : ∀ x ∈ g, ∀ y ∈ g, ofL x l - ofL y l ≤ z) (hz : z = 0 ∨ ∃ x ∈ g, ∃ y ∈ g, z = ofL x l - ofL y l) : lagL l g = z := by
  rcases g with _ | ⟨m, r⟩
  · rcases hz with h | ⟨x, hx, _⟩
    · exact h.symm
    · simp at hx
  · show hiF l (ofL m l) (m :: r) - loF l (ofL m l) (m :: r) = z
    have hx : ∃ x ∈ m :: r, hiF l (ofL m l) (m :: r) = ofL x l := by
      rcases hiF_mem2 l (m :: r) (ofL m l) with h | h
      · exact ⟨m, by simp, h⟩
      · exact h
    have hy : ∃ y ∈ m :: r, loF l (ofL m l) (m :: r) = ofL y l := by
      rcases loF_mem2 l (m :: r) (ofL m l) with h | h
      · exact ⟨m, by simp, h⟩
      · exact h
    obtain ⟨x, hx, e1⟩ := hx
    obtain ⟨y, hy, e2⟩ := hy
    have h1 := hall x hx y hy
    have hge := (hiF_ge l (m :: r) (ofL m l)).2
    have hle := (loF_le l (m :: r) (ofL m l)).2
    rcases hz with h | ⟨a, ha, b, hb, h⟩
    · have := hge m (by simp); have := hle m (by simp); omega
    · have := hge a ha; have := hle b hb; omega
set_option maxRecDepth 20000 in
set_option maxHeartbeats 2000000 in
theorem rlag_any (L : Sl Bal) (s : Sl Int) (w : World) (hL : Rd (· < w.heap.size) 2 Bal.enc w L) (hr : Rd (· < w.heap.size) 1 ienc w s) (hb : ∀ x ∈ L.l, -1000000000000000 ≤ x.n ∧ x.n ≤ 1000000000000000) :
    Calls Try.prog 17 #[.slice L.A L.l.length L.c, .slice s.A s.l.length s.c] w fun e w' => e = .returned (.int .i64 (lagL L.l s.l)) ∧ Below w.heap.size w w' := by
  obtain ⟨A, c, l⟩ := s
  have hbd := ofL_bd (B := 1000000000000000) (by omega) hb
  have HBD := Lib.hid hbd
  have hn := hr.len
  simp only at hn
  have HR := Lib.hid hr
  have HL := Lib.hid hL
  clear hr hL hb hbd
  simp only
  go_enter Try.func17, Try.ntmps17
  go_wp2_with fail
  go_loopw [5, 6, 7] (fun vz vi vk wr => ∃ (i : Nat) (z : Int), i ≤ l.length ∧ vi = .int .i64 i ∧ vz = .int .i64 z ∧ 0 ≤ z ∧ z ≤ 2000000000000000 ∧ Hid (∀ x ∈ l.take i, ∀ y ∈ l, ofL x L.l - ofL y L.l ≤ z) ∧ Hid (z = 0 ∨ ∃ x ∈ l, ∃ y ∈ l, z = ofL x L.l - ofL y L.l) ∧ Below w.heap.size w wr) (fun _ vi _ _ => l.length - (intOf vi).toNat)
  case atStart => exact ⟨0, 0, by omega, rfl, rfl, by omega, by omega, Lib.hid (by simp), Lib.hid (.inl rfl), (by repeat (first | (with_reducible exact Below.refl _ _) | ((with_reducible refine below_setr ?_ ?_); focus (first | (simp; done) | (simp; omega) | omega)) | ((with_reducible refine below_allocr ?_ ?_); focus (first | (simp; done) | (simp; omega) | omega)) | (with_reducible refine Below.drew ?_) | (with_reducible refine below_drewN ?_ _)))⟩
  case round =>
    obtain ⟨i, z, hi, rfl, rfl, hz0, hz1, HALL, HEX, hbel⟩ := hrel
    by_cases hil : i < l.length
    · go_wp2_with fail
      go_loopw [5, 7] (fun vz vk wr => ∃ (k : Nat) (z : Int), k ≤ l.length ∧ vk = .int .i64 k ∧ vz = .int .i64 z ∧ 0 ≤ z ∧ z ≤ 2000000000000000 ∧ Hid (∀ x ∈ l.take i, ∀ y ∈ l, ofL x L.l - ofL y L.l ≤ z) ∧ Hid (∀ y ∈ l.take k, ∀ x, l[i]? = some x → ofL x L.l - ofL y L.l ≤ z) ∧ Hid (z = 0 ∨ ∃ x ∈ l, ∃ y ∈ l, z = ofL x L.l - ofL y L.l) ∧ Below w.heap.size w wr) (fun _ vk _ => l.length - (intOf vk).toNat)
      case atStart => exact ⟨0, z, by omega, rfl, rfl, hz0, hz1, HALL, Lib.hid (by simp), HEX, hbel⟩
      case round =>
        clear HALL HEX hbel hz0 hz1
        obtain ⟨k, z, hk, rfl, rfl, hz0, hz1, HALL, HIN, HEX, hbel⟩ := hrel
        by_cases hkl : k < l.length
        · obtain ⟨b, o, rfl, hb, hcl⟩ := HR.out.at1 hil
          obtain ⟨b2, o2, hA, hb2, hcl2⟩ := HR.out.at1 hkl
          simp only [Option.some.injEq, Addr.mk.injEq, and_true] at hA
          obtain ⟨rfl, rfl⟩ := hA
          have g0 := (hcl.keep (hbel.block b hb)).c1
          have g1 := (hcl2.keep (hbel.block b hb)).c1
          simp only [Nat.mul_one] at g0 g1
          have hxi : l[i]? = some l[i] := List.getElem?_eq_getElem hil
          have hyk : l.take (k + 1) = l.take k ++ [l[k]] := (List.take_append_getElem hkl).symm
          have hmx : l[i] ∈ l := List.getElem_mem hil
          have hmy : l[k] ∈ l := List.getElem_mem hkl
          have hbx := HBD.out l[i]
          have hby := HBD.out l[k]
          try simp only at g0 g1
          clear hcl hcl2
          generalize l[i] = x at *
          generalize l[k] = y at *
          have HXI := Lib.hid hxi
          have HYK := Lib.hid hyk
          have HMX := Lib.hid hmx
          have HMY := Lib.hid hmy
          clear hxi hyk hmx hmy
          have hmm : max z (ofL x L.l - ofL y L.l) ≤ 2000000000000000 ∧ 0 ≤ max z (ofL x L.l - ofL y L.l) := by omega
          have HALL2 : Hid (∀ x' ∈ l.take i, ∀ y' ∈ l, ofL x' L.l - ofL y' L.l ≤ max z (ofL x L.l - ofL y L.l)) := Lib.hid (fun x' hx' y' hy' => by have := HALL.out x' hx' y' hy'; omega)
          have HIN2 : Hid (∀ y' ∈ l.take (k + 1), ∀ x', l[i]? = some x' → ofL x' L.l - ofL y' L.l ≤ max z (ofL x L.l - ofL y L.l)) := Lib.hid (by
            intro y' hy' x' hx'
            rw [HYK.out] at hy'
            rcases List.mem_append.1 hy' with h | h
            · have := HIN.out y' h x' hx'; omega
            · simp at h; subst h
              rw [HXI.out] at hx'
              injection hx' with hx'
              subst hx'
              omega)
          have HEX2 : Hid (max z (ofL x L.l - ofL y L.l) = 0 ∨ ∃ x' ∈ l, ∃ y' ∈ l, max z (ofL x L.l - ofL y L.l) = ofL x' L.l - ofL y' L.l) := Lib.hid (by
            rcases Int.lt_or_le z (ofL x L.l - ofL y L.l) with h | h
            · exact .inr ⟨x, HMX.out, y, HMY.out, by omega⟩
            · rw [show max z (ofL x L.l - ofL y L.l) = z by omega]; exact HEX.out)
          clear HALL HIN HEX
          go_wp2_with fail
          refine wp_region_T (fun w' => w'.cell? ⟨b, o + i, none⟩ = some (.int .i64 x) ∧ w'.cell? ⟨b, o + k, none⟩ = some (.int .i64 y)) (fun _ => false) (by kernel_rfl) ⟨g0, g1⟩ (fun hHeld => ?_)
          refine wpAnyT_take2 (i := 0) (v := ?_) rfl rfl (by kernel_rfl) (by kernel_rfl) (by kernel_rfl) (by kernel_rfl) (fun _ _ _ h => h) (Or.inl ⟨by rfl, ?_⟩) (by first | assumption | trivial) ?_
          rotate_left
          · (intro w hSw; (try dsimp only at hSw); go_simp) <;> (with_reducible rfl)
          simp only [List.setIfInBounds_toArray, List.set_cons_zero, List.set_cons_succ]
          refine wpAnyT_take2 (i := 1) (v := ?_) rfl rfl (by kernel_rfl) (by kernel_rfl) (by kernel_rfl) (by kernel_rfl) (fun _ _ _ h => h) (Or.inl ⟨by rfl, ?_⟩) (by first | assumption | trivial) ?_
          rotate_left
          · (intro w hSw; (try dsimp only at hSw); go_simp) <;> (with_reducible rfl)
          simp only [List.setIfInBounds_toArray, List.set_cons_zero, List.set_cons_succ]
          refine wpAnyT_take2 (i := 2) (v := ?_) rfl rfl (by kernel_rfl) (by kernel_rfl) (by kernel_rfl) (by kernel_rfl) (fun _ _ _ h => h) (Or.inl ⟨by rfl, ?_⟩) (by first | assumption | trivial) ?_
          rotate_left
          · (intro w hSw; (try dsimp only at hSw); go_simp) <;> (with_reducible rfl)
          simp only [List.setIfInBounds_toArray, List.set_cons_zero, List.set_cons_succ]
          refine wpAnyT_take2 (i := 3) (v := ?_) rfl rfl (by kernel_rfl) (by kernel_rfl) (by kernel_rfl) (by kernel_rfl) (fun _ _ _ h => h) (Or.inl ⟨by rfl, ?_⟩) (by first | assumption | trivial) ?_
          rotate_left
          · (intro w hSw; (try dsimp only at hSw); go_simp) <;> (with_reducible rfl)
          simp only [List.setIfInBounds_toArray, List.set_cons_zero, List.set_cons_succ]
          refine wpAnyT_take2 (i := 4) (v := ?_) rfl rfl (by kernel_rfl) (by kernel_rfl) (by kernel_rfl) (by kernel_rfl) (fun _ _ _ h => h) (Or.inl ⟨by rfl, ?_⟩) (by first | assumption | trivial) ?_
          rotate_left
          · (intro w hSw; (try dsimp only at hSw); go_simp) <;> (with_reducible rfl)
          simp only [List.setIfInBounds_toArray, List.set_cons_zero, List.set_cons_succ]
          refine wpAnyT_take2 (i := 5) (v := ?_) rfl rfl (by kernel_rfl) (by kernel_rfl) (by kernel_rfl) (by kernel_rfl) (fun _ _ _ h => h) (Or.inl ⟨by rfl, ?_⟩) (by first | assumption | trivial) ?_
          rotate_left
          · (intro w hSw; (try dsimp only at hSw); go_simp) <;> (with_reducible rfl)
          simp only [List.setIfInBounds_toArray, List.set_cons_zero, List.set_cons_succ]
          refine wpAnyT_take2 (i := 7) (v := ?_) rfl rfl (by kernel_rfl) (by kernel_rfl) (by kernel_rfl) (by kernel_rfl) (fun _ _ _ h => h) (Or.inl ⟨by rfl, ?_⟩) (by first | assumption | trivial) ?_
          rotate_left
          · (intro w hSw; (try dsimp only at hSw); go_simp) <;> (with_reducible rfl)
          simp only [List.setIfInBounds_toArray, List.set_cons_zero, List.set_cons_succ]
          refine wpAnyT_take2 (i := 8) (v := ?_) rfl rfl (by kernel_rfl) (by kernel_rfl) (by kernel_rfl) (by kernel_rfl) (fun _ _ _ h => h) (Or.inl ⟨by rfl, ?_⟩) (by first | assumption | trivial) ?_
          rotate_left
          · (intro w hSw; (try dsimp only at hSw); go_simp) <;> (with_reducible rfl)
          simp only [List.setIfInBounds_toArray, List.set_cons_zero, List.set_cons_succ]
          refine wpAnyT_take2 (i := 9) (v := ?_) rfl rfl (by kernel_rfl) (by kernel_rfl) (by kernel_rfl) (by kernel_rfl) (fun _ _ _ h => h) (Or.inl ⟨by rfl, ?_⟩) (by first | assumption | trivial) ?_
          rotate_left
          · (intro w hSw; (try dsimp only at hSw); go_simp) <;> (with_reducible rfl)
          simp only [List.setIfInBounds_toArray, List.set_cons_zero, List.set_cons_succ]
          refine wpAnyT_take2 (i := 10) (v := ?_) rfl rfl (by kernel_rfl) (by kernel_rfl) (by kernel_rfl) (by kernel_rfl) (fun _ _ _ h => h) (Or.inl ⟨by rfl, ?_⟩) (by first | assumption | trivial) ?_
          rotate_left
          · (intro w hSw; (try dsimp only at hSw); go_simp) <;> (with_reducible rfl)
          simp only [List.setIfInBounds_toArray, List.set_cons_zero, List.set_cons_succ]
          refine wpAnyT_take2 (i := 11) (v := ?_) rfl rfl (by kernel_rfl) (by kernel_rfl) (by kernel_rfl) (by kernel_rfl) (fun _ _ _ h => h) (Or.inl ⟨by rfl, ?_⟩) (by first | assumption | trivial) ?_
          rotate_left
          · (intro w hSw; (try dsimp only at hSw); go_simp) <;> (with_reducible rfl)
          simp only [List.setIfInBounds_toArray, List.set_cons_zero, List.set_cons_succ]
          have HHD := Lib.hid hHeld
          clear hHeld
          refine wpAnyT_next (i := 6) (by kernel_rfl) rfl ?_
          go_wp2_with fail
          refine (rof_any L x _ (HL.out.later (by repeat (first | (with_reducible exact hbel) | (with_reducible exact Below.refl _ _) | ((with_reducible refine below_setr ?_ ?_); focus (first | (simp; done) | (simp; omega) | omega)) | ((with_reducible refine below_allocr ?_ ?_); focus (first | (simp; done) | (simp; omega) | omega)) | (with_reducible refine Below.drew ?_) | (with_reducible refine below_drewN ?_ _))) (Nat.le_refl _))).mono ?_
          rintro e w' ⟨rfl, rfl⟩
          go_wp2_with fail
          have hHeld := HHD.out
          refine And.intro ?_ ?_
          · first
            | exact hHeld
            | exact fun _ => hHeld
          clear hHeld
          refine wpAnyT_next (i := 12) (by kernel_rfl) rfl ?_
          go_wp2_with fail
          refine (rof_any L y _ (HL.out.later (by repeat (first | (with_reducible exact hbel) | (with_reducible exact Below.refl _ _) | ((with_reducible refine below_setr ?_ ?_); focus (first | (simp; done) | (simp; omega) | omega)) | ((with_reducible refine below_allocr ?_ ?_); focus (first | (simp; done) | (simp; omega) | omega)) | (with_reducible refine Below.drew ?_) | (with_reducible refine below_drewN ?_ _))) (Nat.le_refl _))).mono ?_
          rintro e w' ⟨rfl, rfl⟩
          go_wp2_with fail
          have hHeld := HHD.out
          refine And.intro ?_ ?_
          · first
            | exact hHeld
            | exact fun _ => hHeld
          have hwr : IntKind.i64.wrap (ofL x L.l - ofL y L.l) = ofL x L.l - ofL y L.l := by rw [IntKind.wrap_i64]; omega
          refine wpAnyT_take2 (i := 13) (v := ?_) rfl rfl (by kernel_rfl) (by kernel_rfl) (by kernel_rfl) (by kernel_rfl) (fun _ _ _ h => h) (Or.inl ⟨by rfl, ?_⟩) (by first | assumption | trivial) ?_
          rotate_left
          · (intro w hSw; (try dsimp only at hSw); go_simp) <;> (with_reducible rfl)
          simp only [List.setIfInBounds_toArray, List.set_cons_zero, List.set_cons_succ]
          refine wpAnyT_take2 (i := 14) (v := ?_) rfl rfl (by kernel_rfl) (by kernel_rfl) (by kernel_rfl) (by kernel_rfl) (fun _ _ _ h => h) (Or.inl ⟨by rfl, ?_⟩) (by first | assumption | trivial) ?_
          rotate_left
          · (intro w hSw; (try dsimp only at hSw); go_simp) <;> (with_reducible rfl)
          simp only [List.setIfInBounds_toArray, List.set_cons_zero, List.set_cons_succ]
          refine wpAnyT_take2 (i := 15) (v := ?_) rfl rfl (by kernel_rfl) (by kernel_rfl) (by kernel_rfl) (by kernel_rfl) (fun _ _ _ h => h) (Or.inl ⟨by rfl, ?_⟩) (by first | assumption | trivial) ?_
          rotate_left
          · (intro w hSw; (try dsimp only at hSw); go_simp) <;> (with_reducible rfl)
          simp only [List.setIfInBounds_toArray, List.set_cons_zero, List.set_cons_succ]
          refine wpAnyT_done (by kernel_rfl) ?_ _
          clear hHeld
          go_wp2_with fail
          go_roundw
          case rel => exact ⟨k + 1, max z (ofL x L.l - ofL y L.l), by omega, by go_num, congrArg (Value.int .i64) (by split <;> omega), hmm.2, hmm.1, HALL2, HIN2, HEX2, (by repeat (first | (with_reducible exact hbel) | (with_reducible exact Below.refl _ _) | ((with_reducible refine below_setr ?_ ?_); focus (first | (simp; done) | (simp; omega) | omega)) | ((with_reducible refine below_allocr ?_ ?_); focus (first | (simp; done) | (simp; omega) | omega)) | (with_reducible refine Below.drew ?_) | (with_reducible refine below_drewN ?_ _)))⟩
          case measure => simp [intOf]; omega
        · have htk : l.take k = l := List.take_of_length_le (by omega)
          have hti : l.take (i + 1) = l.take i ++ [l[i]] := (List.take_append_getElem hil).symm
          have hxi : l[i]? = some l[i] := List.getElem?_eq_getElem hil
          have HALL2 : Hid (∀ x ∈ l.take (i + 1), ∀ y ∈ l, ofL x L.l - ofL y L.l ≤ z) := Lib.hid (by
            rw [hti]
            intro x hx y hy
            rcases List.mem_append.1 hx with h | h
            · exact HALL.out x h y hy
            · simp at h; subst h
              exact HIN.out y (by rw [htk]; exact hy) _ hxi)
          clear htk hti hxi HALL HIN
          go_wp2_with fail
          go_roundw
          case rel => exact ⟨i + 1, z, by omega, by go_num, rfl, hz0, hz1, HALL2, HEX, hbel⟩
          case measure => simp [intOf]; omega
    · have hal := HALL.out
      rw [List.take_of_length_le (by omega)] at hal
      have hv := lagL_eq hz0 hal HEX.out
      have HV := Lib.hid hv
      clear hal hv HALL HEX
      go_wp2_with fail
      go_ret
      exact ⟨ret_int HV.out.symm, hbel⟩
end Go.Proofs.Ytjbdjlgddjmkbaa
