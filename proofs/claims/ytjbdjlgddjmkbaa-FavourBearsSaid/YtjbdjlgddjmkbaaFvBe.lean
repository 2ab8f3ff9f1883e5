/- The walk of FavourBears. -/
import Derived.Test.YtjbdjlgddjmkbaaFvSm
namespace Go.Proofs.Ytjbdjlgddjmkbaa
open Go.RowKit
set_option maxRecDepth 20000 in
set_option maxHeartbeats 4000000 in
theorem bears_no (L : Sl Bal) (s : Sl Int) (t : Int) (w : World) (hL : Rd (· < w.heap.size) 2 Bal.enc w L) (hr : Rd (· < w.heap.size) 1 ienc w s) (er : Int) (her : (er != 0) = true) (hbf : bearF L.l s.l t = ([], 0, er)) :
    Calls Try.prog 6 #[.slice L.A L.l.length L.c, .slice s.A s.l.length s.c, .int .i64 t] w fun e w' => e = .returned (.bool true) ∧ Below w.heap.size w w' := by
  have HBF := Lib.hid hbf
  clear hbf
  have HL := Lib.hid hL
  have HR := Lib.hid hr
  clear hL hr
  go_enter Try.func6, Try.ntmps6
  go_wp2_with fail
  refine (small_any w).mono ?_
  rintro e w1 ⟨rfl, hB1⟩
  go_wp2_with fail
  refine (few_any L _ (HL.out.later hB1 (Nat.le_refl _))).mono ?_
  rintro e w1' ⟨⟨b, rfl, hfew⟩, rfl⟩
  have HFEW := Lib.hid hfew
  clear hfew
  rcases b with _ | _
  · go_wp2_with fail
    go_ret
    exact ⟨rfl, hB1⟩
  rcases Nat.lt_or_ge 20 s.l.length with h20 | h20
  · have h20' : ((20 : Nat) : Int) < (s.l.length : Int) := by omega
    go_wp2_with fail
    all_goals
      go_ret
      exact ⟨rfl, hB1⟩
  have h20' : (s.l.length : Int) ≤ ((20 : Nat) : Int) := by omega
  have hl20 := (HFEW.out rfl).1
  go_wp2_with fail
  refine (bear_any L s t _ (HL.out.later hB1 (Nat.le_refl _)) (HR.out.later hB1 (Nat.le_refl _)) (by omega) (by omega)).mono ?_
  rintro e w2 ⟨A2, c2, rfl, hr2, hb2⟩
  have HR2 := Lib.hid (Rd.top hr2)
  have hB2 : Below w.heap.size w w2 := (by repeat (first | (with_reducible exact hB1) | (with_reducible exact Below.refl _ _) | ((with_reducible refine below_setr ?_ ?_); focus (first | (simp; done) | (simp; omega) | omega)) | ((with_reducible refine below_allocr ?_ ?_); focus (first | (simp; done) | (simp; omega) | omega)) | (with_reducible refine Below.drew ?_) | (with_reducible refine below_drewN ?_ _) | ((with_reducible apply below_via); focus (with_reducible assumption))))
  clear hr2 hb2
  simp only [HBF.out, List.length_nil]
  go_wp2_with fail
  go_ret
  exact ⟨ret_bool (by first | rfl | (simp; done) | (simp; omega)), hB2⟩
set_option maxRecDepth 20000 in
set_option maxHeartbeats 4000000 in
theorem bears_one (L : Sl Bal) (s : Sl Int) (t : Int) (w : World) (hL : Rd (· < w.heap.size) 2 Bal.enc w L) (hr : Rd (· < w.heap.size) 1 ienc w s) (hbf : bearF L.l s.l t = (L.l, bearerF L.l s.l, 0)) (h2 : s.l.length < 2) :
    Calls Try.prog 6 #[.slice L.A L.l.length L.c, .slice s.A s.l.length s.c, .int .i64 t] w fun e w' => e = .returned (.bool true) ∧ Below w.heap.size w w' := by
  have HBF := Lib.hid hbf
  have h2' : (s.l.length : Int) < 2 := by omega
  clear hbf
  have HL := Lib.hid hL
  have HR := Lib.hid hr
  clear hL hr
  go_enter Try.func6, Try.ntmps6
  go_wp2_with fail
  refine (small_any w).mono ?_
  rintro e w1 ⟨rfl, hB1⟩
  go_wp2_with fail
  refine (few_any L _ (HL.out.later hB1 (Nat.le_refl _))).mono ?_
  rintro e w1' ⟨⟨b, rfl, hfew⟩, rfl⟩
  have HFEW := Lib.hid hfew
  clear hfew
  rcases b with _ | _
  · go_wp2_with fail
    go_ret
    exact ⟨rfl, hB1⟩
  rcases Nat.lt_or_ge 20 s.l.length with h20 | h20
  · have h20' : ((20 : Nat) : Int) < (s.l.length : Int) := by omega
    go_wp2_with fail
    all_goals
      go_ret
      exact ⟨rfl, hB1⟩
  have h20' : (s.l.length : Int) ≤ ((20 : Nat) : Int) := by omega
  have hl20 := (HFEW.out rfl).1
  go_wp2_with fail
  refine (bear_any L s t _ (HL.out.later hB1 (Nat.le_refl _)) (HR.out.later hB1 (Nat.le_refl _)) (by omega) (by omega)).mono ?_
  rintro e w2 ⟨A2, c2, rfl, hr2, hb2⟩
  have HR2 := Lib.hid (Rd.top hr2)
  have hB2 : Below w.heap.size w w2 := (by repeat (first | (with_reducible exact hB1) | (with_reducible exact Below.refl _ _) | ((with_reducible refine below_setr ?_ ?_); focus (first | (simp; done) | (simp; omega) | omega)) | ((with_reducible refine below_allocr ?_ ?_); focus (first | (simp; done) | (simp; omega) | omega)) | (with_reducible refine Below.drew ?_) | (with_reducible refine below_drewN ?_ _) | ((with_reducible apply below_via); focus (with_reducible assumption))))
  clear hr2 hb2
  simp only [HBF.out] at HR2
  simp only [HBF.out]
  go_wp2_with fail
  refine (same_any L ⟨A2, c2, L.l⟩ _ (HL.out.later hB2 (Nat.le_refl _)) HR2.out).mono ?_
  rintro e w3 ⟨rfl, hb3⟩
  have hB3 : Below w.heap.size w w3 := (by repeat (first | (with_reducible exact hB2) | (with_reducible exact Below.refl _ _) | ((with_reducible refine below_setr ?_ ?_); focus (first | (simp; done) | (simp; omega) | omega)) | ((with_reducible refine below_allocr ?_ ?_); focus (first | (simp; done) | (simp; omega) | omega)) | (with_reducible refine Below.drew ?_) | (with_reducible refine below_drewN ?_ _) | ((with_reducible apply below_via); focus (with_reducible assumption))))
  clear hb3
  rw [decide_eq_true rfl]
  go_wp2_with fail
  go_ret
  exact ⟨ret_bool (by first | rfl | (simp; done) | (simp; omega)), hB3⟩
set_option maxRecDepth 20000 in
set_option maxHeartbeats 8000000 in
theorem bears_two (L : Sl Bal) (s : Sl Int) (t : Int) (w : World) (hL : Rd (· < w.heap.size) 2 Bal.enc w L) (hr : Rd (· < w.heap.size) 1 ienc w s) (hf : fineB L.l s.l t = true) (hv : (outF L.l s.l t).all validB = true) (h2 : 2 ≤ s.l.length) :
    Calls Try.prog 6 #[.slice L.A L.l.length L.c, .slice s.A s.l.length s.c, .int .i64 t] w fun e w' => e = .returned (.bool true) ∧ Below w.heap.size w w' := by
  have hbf : bearF L.l s.l t = (outF L.l s.l t, bearerF L.l s.l, 0) := by unfold bearF; rw [hf, hv]; rfl
  have HBF := Lib.hid hbf
  have hrd := (fineB_iff.1 hf)
  obtain ⟨H1, _, ht0, ht1⟩ := hrd
  have hbL := fun q => of_valid (rightL_iff.1 H1).1 (rightL_iff.1 H1).2.1 q
  have hor := rightL_iff.1 (out_right hf hv)
  have hbO := fun q => of_valid hor.1 hor.2.1 q
  have hown := bear_own hf h2
  have hleast := fun x (hx : x ∈ s.l) => bear_least hf hx
  have hgap := fun x y (hx : x ∈ s.l) (hxb : x ≠ bearerF L.l s.l) (hy : y ∈ s.l) (hyb : y ≠ bearerF L.l s.l) => part_gap hf hx hxb hy hyb
  have hsum := parts_sum hf h2
  generalize outF L.l s.l t = ou at *
  have HBL := Lib.hid hbL
  have HBO := Lib.hid hbO
  have HOWN := Lib.hid hown
  have HLEAST := Lib.hid hleast
  have HGAP := Lib.hid hgap
  have HSUM := Lib.hid hsum
  have h2' : (2 : Int) ≤ (s.l.length : Int) := by omega
  clear hbf H1 hf hv hor hbL hbO hown hleast hgap hsum h2
  have HL := Lib.hid hL
  have HR := Lib.hid hr
  clear hL hr
  go_enter Try.func6, Try.ntmps6
  go_wp2_with fail
  refine (small_any w).mono ?_
  rintro e w1 ⟨rfl, hB1⟩
  go_wp2_with fail
  refine (few_any L _ (HL.out.later hB1 (Nat.le_refl _))).mono ?_
  rintro e w1' ⟨⟨b, rfl, hfew⟩, rfl⟩
  have HFEW := Lib.hid hfew
  clear hfew
  rcases b with _ | _
  · go_wp2_with fail
    go_ret
    exact ⟨rfl, hB1⟩
  rcases Nat.lt_or_ge 20 s.l.length with h20 | h20
  · have h20' : ((20 : Nat) : Int) < (s.l.length : Int) := by omega
    go_wp2_with fail
    all_goals
      go_ret
      exact ⟨rfl, hB1⟩
  have h20' : (s.l.length : Int) ≤ ((20 : Nat) : Int) := by omega
  have hl20 := (HFEW.out rfl).1
  go_wp2_with fail
  refine (bear_any L s t _ (HL.out.later hB1 (Nat.le_refl _)) (HR.out.later hB1 (Nat.le_refl _)) (by omega) (by omega)).mono ?_
  rintro e w2 ⟨A2, c2, rfl, hr2, hb2⟩
  have HR2 := Lib.hid (Rd.top hr2)
  have hB2 : Below w.heap.size w w2 := (by repeat (first | (with_reducible exact hB1) | (with_reducible exact Below.refl _ _) | ((with_reducible refine below_setr ?_ ?_); focus (first | (simp; done) | (simp; omega) | omega)) | ((with_reducible refine below_allocr ?_ ?_); focus (first | (simp; done) | (simp; omega) | omega)) | (with_reducible refine Below.drew ?_) | (with_reducible refine below_drewN ?_ _) | ((with_reducible apply below_via); focus (with_reducible assumption))))
  clear hr2 hb2
  simp only [HBF.out] at HR2
  simp only [HBF.out]
  generalize bearerF L.l s.l = bb at *
  have HL2 := Lib.hid (HL.out.later hB2 (Nat.le_refl _))
  have HS2 := Lib.hid (HR.out.later hB2 (Nat.le_refl _))
  go_wp2_with fail
  refine (of_any L bb _ HL2.out).mono ?_
  rintro e w3 ⟨rfl, hb3⟩
  have hbz := HBL.out bb
  generalize hz0 : ofL bb L.l = z0 at *
  clear hz0
  go_wp2_with fail
  refine (of_any ⟨A2, c2, ou⟩ bb _ (HR2.out.later hb3 (Nat.le_refl _))).mono ?_
  rintro e w4 ⟨rfl, hb4⟩
  rw [HOWN.out]
  have hbel4 : Below w2.heap.size w2 w4 := below_via hb4 hb3
  clear hb3 hb4
  obtain ⟨SA, sc, sl⟩ := s
  simp only at HS2 HR HLEAST HGAP HSUM h20 h20' h2'
  go_wp2_with fail
  go_loopw [12, 13] (fun vs vi wr => ∃ (k : Nat), k ≤ sl.length ∧ vi = .int .i64 k ∧ vs = .int .i64 (sumF (fun x => if x = bb then 0 else ofL x L.l - ofL x ou) (sl.take k)) ∧
    -(4398046511104 * (k : Int)) ≤ sumF (fun x => if x = bb then 0 else ofL x L.l - ofL x ou) (sl.take k) ∧ sumF (fun x => if x = bb then 0 else ofL x L.l - ofL x ou) (sl.take k) ≤ 4398046511104 * (k : Int) ∧ Below w2.heap.size w2 wr) (fun _ i _ => sl.length - (intOf i).toNat)
  case atStart => exact ⟨0, by omega, rfl, rfl, by simp [sumF], by simp [sumF], hbel4⟩
  case round =>
    clear hbel4
    obtain ⟨k, hk, rfl, rfl, hs0, hs1, hbel⟩ := hrel
    by_cases hlt : k < sl.length
    · obtain ⟨b, o, rfl, hb, hcl⟩ := HS2.out.at1 hlt
      have g0 := (hcl.keep (hbel.block b hb)).c1
      simp only [Nat.mul_one] at g0
      have htk : sl.take (k + 1) = sl.take k ++ [sl[k]] := (List.take_append_getElem hlt).symm
      have hm : sl[k] ∈ sl := List.getElem_mem hlt
      have hle := HLEAST.out _ hm
      have hbx := HBL.out sl[k]
      have hox := HBO.out sl[k]
      generalize sl[k] = x at *
      have HTK := Lib.hid htk
      have HM := Lib.hid hm
      have hsum2 : sumF (fun x => if x = bb then 0 else ofL x L.l - ofL x ou) (sl.take (k + 1)) = sumF (fun x => if x = bb then 0 else ofL x L.l - ofL x ou) (sl.take k) + (if x = bb then 0 else ofL x L.l - ofL x ou) := by
        rw [htk, sumF_app]; simp [sumF]
      have HSUM2 := Lib.hid hsum2
      clear hcl htk hm hsum2
      generalize sumF (fun x => if x = bb then 0 else ofL x L.l - ofL x ou) (sl.take k) = z at *
      go_wp2_with fail
      refine (of_any L x _ (HL2.out.later hbel (Nat.le_refl _))).mono ?_
      rintro e w5 ⟨rfl, hb⟩
      replace g0 := keep_cell hb g0
      replace hbel : Below w2.heap.size w2 w5 := below_via hb hbel
      clear hb
      have hgx := fun y hxb hy hyb => HGAP.out x y HM.out hxb hy hyb
      have HGX := Lib.hid hgx
      clear hgx
      generalize hmx : ofL x L.l = mx at *
      generalize hnx : ofL x ou = nx at *
      have HMX := Lib.hid hmx
      have HNX := Lib.hid hnx
      clear hmx hnx
      have hle1 : z0 ≤ mx := by omega
      have hd : ((mx == z0) = true ∧ bb ≤ x) ∨ (mx == z0) = false := by
        by_cases h : mx = z0
        · exact .inl ⟨by simp [h], by omega⟩
        · exact .inr (by simp [h])
      clear hle
      rcases hd with ⟨hme, hxx⟩ | hme
      all_goals
        go_wp2_with fail
        refine (of_any ⟨A2, c2, ou⟩ x _ (HR2.out.later hbel (Nat.le_refl _))).mono ?_
        rintro e w6 ⟨rfl, hb⟩
        replace g0 := keep_cell hb g0
        replace hbel : Below w2.heap.size w2 w6 := below_via hb hbel
        clear hb
        rw [HNX.out]
        rcases hxb : (x == bb)
        · have hxne : x ≠ bb := by simpa using hxb
          have HXNE := Lib.hid hxne
          have hsum3 := HSUM2.out
          rw [if_neg hxne] at hsum3
          have HSUM3 := Lib.hid hsum3
          have HXB := Lib.hid hxb
          clear hxne hsum3
          go_wp2_with fail
          go_loopw [16] (fun vj wr => ∃ (j : Nat), j ≤ sl.length ∧ vj = .int .i64 j ∧ Below w2.heap.size w2 wr) (fun vj _ => sl.length - (intOf vj).toNat)
          case atStart => exact ⟨0, by omega, rfl, hbel⟩
          case round =>
            clear hbel g0
            obtain ⟨j, hj, rfl, hbel⟩ := hrel
            by_cases hjl : j < sl.length
            · obtain ⟨b2, o2, hA, hb2, hcl⟩ := HS2.out.at1 hjl
              simp only [Option.some.injEq, Addr.mk.injEq, and_true] at hA
              obtain ⟨rfl, rfl⟩ := hA
              have g0 := (hcl.keep (hbel.block b hb2)).c1
              simp only [Nat.mul_one] at g0
              have hym : sl[j] ∈ sl := List.getElem_mem hjl
              have hby := HBL.out sl[j]
              have hoy := HBO.out sl[j]
              have hgp := fun (hyb : sl[j] ≠ bb) => HGX.out sl[j] HXNE.out hym hyb
              generalize sl[j] = y at *
              clear hcl hym
              go_wp2_with fail
              refine (of_any L y _ (HL2.out.later hbel (Nat.le_refl _))).mono ?_
              rintro e w7 ⟨rfl, hb⟩
              replace g0 := keep_cell hb g0
              replace hbel : Below w2.heap.size w2 w7 := below_via hb hbel
              clear hb
              generalize ofL y L.l = my at *
              go_wp2_with fail
              refine (of_any ⟨A2, c2, ou⟩ y _ (HR2.out.later hbel (Nat.le_refl _))).mono ?_
              rintro e w8 ⟨rfl, hb⟩
              replace g0 := keep_cell hb g0
              replace hbel : Below w2.heap.size w2 w8 := below_via hb hbel
              clear hb
              generalize ofL y ou = ny at *
              rcases hyb : (y != bb)
              · clear hgp
                go_wp2_with fail
                go_roundw
                case rel => exact ⟨j + 1, by omega, by go_num, hbel⟩
                case measure => simp [intOf]; omega
              · have hgp2 := hgp (by simpa using hyb)
                clear hgp
                obtain ⟨q1, q2, q3⟩ := hgp2
                rcases Int.lt_or_le 0 (mx - nx - (my - ny)) with hp | hp
                · have q4 := q3 hp
                  clear q3
                  go_wp2_with fail
                  go_roundw
                  case rel => exact ⟨j + 1, by omega, by go_num, hbel⟩
                  case measure => simp [intOf]; omega
                · clear q3
                  go_wp2_with fail
                  go_roundw
                  case rel => exact ⟨j + 1, by omega, by go_num, hbel⟩
                  case measure => simp [intOf]; omega
            · go_wp2_with fail
              go_roundw
              case rel => exact ⟨k + 1, by omega, by go_num, by rw [HSUM3.out], by rw [HSUM3.out]; push_cast; omega, by rw [HSUM3.out]; push_cast; omega, hbel⟩
              case measure => simp [intOf]; omega
        · have hxe : x = bb := by simpa using hxb
          have hsum3 := HSUM2.out
          rw [if_pos hxe, Int.add_zero] at hsum3
          have HSUM3 := Lib.hid hsum3
          clear hxe hsum3
          go_wp2_with fail
          go_roundw
          case rel => exact ⟨k + 1, by omega, by go_num, by rw [HSUM3.out], by rw [HSUM3.out]; push_cast; omega, by rw [HSUM3.out]; push_cast; omega, hbel⟩
          case measure => simp [intOf]; omega
    · have htl : sl.take k = sl := List.take_of_length_le (by omega)
      rw [htl, HSUM.out]
      have hbw : Below w.heap.size w wr := below_via hbel hB2
      clear hs0 hs1 htl
      go_wp2_with fail
      go_ret
      exact ⟨ret_bool (by first | rfl | (simp; done) | (simp; omega)), hbw⟩
theorem favourbears (L : Sl Bal) (s : Sl Int) (t : Int) (w : World) (hL : Rd (· < w.heap.size) 2 Bal.enc w L) (hr : Rd (· < w.heap.size) 1 ienc w s) :
    Calls Try.prog 6 #[.slice L.A L.l.length L.c, .slice s.A s.l.length s.c, .int .i64 t] w fun e w' => e = .returned (.bool true) ∧ Below w.heap.size w w' := by
  by_cases he : (bearF L.l s.l t).2.2 = 0
  · obtain ⟨hf, hv, hbf⟩ := bear_ok he
    rcases Nat.lt_or_ge s.l.length 2 with h2 | h2
    · have ho : othersF L.l s.l = [] := Decidable.byContradiction fun h => by have := (raw_ok hf).two.1 h; omega
      have hou : outF L.l s.l t = L.l := by unfold outF; rw [if_pos ho]
      exact bears_one L s t w hL hr (by rw [hbf, hou]) h2
    · exact bears_two L s t w hL hr hf hv h2
  · rcases bear_er L.l s.l t he with ⟨h, _⟩ | ⟨h, _⟩
    · exact bears_no L s t w hL hr 1 rfl h
    · exact bears_no L s t w hL hr 6 rfl h
end Go.Proofs.Ytjbdjlgddjmkbaa
