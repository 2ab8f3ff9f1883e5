/- Walks: rides, Lag. -/
import Derived.Test.YtjbdjlgddjmkbaaFv3
import Derived.Test.YtjbdjlgddjmkbaaRg4
namespace Go.Proofs.Ytjbdjlgddjmkbaa
open Go.RowKit
theorem Rd.take {α : Type} {F : Nat → Prop} {k : Nat} {enc : α → List Value} {w : World} {A : Option Addr} {c : Nat} {l : List α} (h : Rd F k enc w ⟨A, c, l⟩) (i : Nat) : Rd F k enc w ⟨A, c, l.take i⟩ :=
  ⟨Nat.le_trans (List.length_take_le' _ _) h.1, h.2.1, h.2.2.1, fun j x hx => h.2.2.2 j x (by
    have hj : j < (l.take i).length := (List.getElem?_eq_some_iff.1 hx).1
    simp only [List.length_take] at hj
    rw [List.getElem?_take_of_lt (by omega)] at hx
    exact hx)⟩
set_option maxHeartbeats 1000000 in
theorem rides_any (s : Sl Int) (w : World) (hr : Rd (· < w.heap.size) 1 ienc w s) :
    Calls Try.prog 22 #[.slice s.A s.l.length s.c] w fun e w' => e = .returned (.bool (ridesL s.l)) ∧ Below w.heap.size w w' := by
  obtain ⟨A, c, l⟩ := s
  have hn := hr.len
  have hcap := hr.cap
  have hlc := hr.lecap
  simp only at hn hcap hlc
  have HR := Lib.hid hr
  clear hr
  simp only
  go_enter Try.func22, Try.ntmps22
  go_wp2_with fail
  go_loopw [3, 4, 7] (fun a b i wr => ∃ (k : Nat), k ≤ l.length ∧ i = .int .i64 k ∧ Below w.heap.size w wr ∧ Hid ((l.take k).Nodup) ∧ Hid (∀ x ∈ l.take k, 0 ≤ x ∧ x ≤ 3999)) (fun _ _ i _ => l.length - (intOf i).toNat)
  case atStart => exact ⟨0, by omega, rfl, (by repeat (first | (with_reducible exact Below.refl _ _) | ((with_reducible refine below_setr ?_ ?_); focus (first | (simp; done) | (simp; omega) | omega)) | ((with_reducible refine below_allocr ?_ ?_); focus (first | (simp; done) | (simp; omega) | omega)) | (with_reducible refine Below.drew ?_) | (with_reducible refine below_drewN ?_ _))), Lib.hid (by simp), Lib.hid (by simp)⟩
  case round =>
    obtain ⟨k, hk, rfl, hbel, HN, HV⟩ := hrel
    have hhe : w.heap.size ≤ wr.heap.size := hbel.size
    by_cases hlt : k < l.length
    · obtain ⟨b, o, rfl, hb, hcl⟩ := HR.out.at1 hlt
      have htk : l.take (k + 1) = l.take k ++ [l[k]] := (List.take_append_getElem hlt).symm
      have hmem : l[k] ∈ l := List.getElem_mem hlt
      have hpre : l.take k ++ [l[k]] <+: l := by rw [← htk]; exact List.take_prefix _ _
      have g0 := (hcl.keep (hbel.block b hb)).c1
      simp only [Nat.mul_one] at g0
      generalize l[k] = x at *
      have HTK := Lib.hid htk
      have HM := Lib.hid hmem
      have HPRE := Lib.hid hpre
      clear htk hcl hmem hpre
      by_cases hx : 0 ≤ x ∧ x ≤ 3999
      · obtain ⟨hx0, hx1⟩ := hx
        have hx2 : x < 4000 := by omega
        have hcc : k ≤ c := by omega
        have hcon := contains_any ⟨some ⟨b, o, none⟩, c, l.take k⟩ x wr ((HR.out.take k).later hbel (Nat.le_refl _))
        have hkl : (l.take k).length = k := by rw [List.length_take]; omega
        simp only [hkl] at hcon
        clear hkl
        rcases hcb : (l.take k).contains x
        · rw [hcb] at hcon
          have hnm : x ∉ l.take k := by simpa using hcb
          have HNM := Lib.hid hnm
          clear hcb hnm
          go_wp2_with fail
          refine hcon.mono ?_
          clear hcon
          rintro e w1 ⟨rfl, hb1⟩
          have hB1 : Below w.heap.size w w1 := (by repeat (first | (with_reducible exact hbel) | (with_reducible exact Below.refl _ _) | ((with_reducible refine below_setr ?_ ?_); focus (first | (simp; done) | (simp; omega) | omega)) | ((with_reducible refine below_allocr ?_ ?_); focus (first | (simp; done) | (simp; omega) | omega)) | (with_reducible refine Below.drew ?_) | (with_reducible refine below_drewN ?_ _) | ((with_reducible apply below_via); focus (with_reducible assumption))))
          clear hb1
          go_wp2_with fail
          go_roundw
          case rel =>
            refine ⟨k + 1, by omega, by go_num, hB1, Lib.hid ?_, Lib.hid ?_⟩
            · rw [HTK.out, List.nodup_append]
              exact ⟨HN.out, by simp, fun a ha b hb => by simp at hb; subst hb; intro e; exact HNM.out (by rw [← e]; exact ha)⟩
            · rw [HTK.out]
              intro y hy
              rcases List.mem_append.1 hy with hy | hy
              · exact HV.out y hy
              · simp at hy; subst hy; exact ⟨hx0, hx1⟩
          case measure => simp [intOf]; omega
        · rw [hcb] at hcon
          have hv : ridesL l = false := by
            rw [Bool.eq_false_iff, ne_eq, ridesL_iff]
            rintro ⟨_, _, hnd, _⟩
            have := HPRE.out.sublist.nodup hnd
            rw [List.nodup_append] at this
            exact this.2.2 x (by simpa using hcb) x (by simp) rfl
          have HVV := Lib.hid hv
          clear hcb hv
          go_wp2_with fail
          refine hcon.mono ?_
          clear hcon
          rintro e w1 ⟨rfl, hb1⟩
          have hB1 : Below w.heap.size w w1 := (by repeat (first | (with_reducible exact hbel) | (with_reducible exact Below.refl _ _) | ((with_reducible refine below_setr ?_ ?_); focus (first | (simp; done) | (simp; omega) | omega)) | ((with_reducible refine below_allocr ?_ ?_); focus (first | (simp; done) | (simp; omega) | omega)) | (with_reducible refine Below.drew ?_) | (with_reducible refine below_drewN ?_ _) | ((with_reducible apply below_via); focus (with_reducible assumption))))
          clear hb1
          go_wp2_with fail
          go_ret
          exact ⟨ret_bool HVV.out.symm, hB1⟩
      · have hv : ridesL l = false := by
          rw [Bool.eq_false_iff, ne_eq, ridesL_iff]
          rintro ⟨_, _, _, hall⟩
          exact hx (hall x HM.out)
        have HVV := Lib.hid hv
        clear hv
        rcases Int.lt_or_le x 0 with h1 | h1
        · clear hx
          go_wp2_with fail
          go_ret
          exact ⟨ret_bool HVV.out.symm, hbel⟩
        · have h2 : 4000 ≤ x := by omega
          clear hx
          go_wp2_with fail
          go_ret
          exact ⟨ret_bool HVV.out.symm, hbel⟩
    · have hks : k = l.length := by omega
      have hnd := HN.out
      have hal := HV.out
      rw [List.take_of_length_le (by omega)] at hnd hal
      have hv : ridesL l = (decide (1 ≤ l.length) && decide (l.length ≤ 60)) := by
        unfold ridesL
        rw [ridesGo_iff.2 ⟨hnd, hal⟩, Bool.and_true]
      have HVV := Lib.hid hv
      clear hks hnd hal hv HN HV
      by_cases h1 : 1 ≤ l.length
      · have h1' : (1 : Int) ≤ (l.length : Int) := by omega
        by_cases h2 : l.length ≤ 60
        · have h2' : (l.length : Int) ≤ 60 := by omega
          go_wp2_with fail
          go_ret
          exact ⟨ret_bool (by rw [HVV.out]; simp [h1, h2]), hbel⟩
        · have h2' : (60 : Int) < (l.length : Int) := by omega
          go_wp2_with fail
          go_ret
          exact ⟨ret_bool (by rw [HVV.out]; simp [h2]; try omega), hbel⟩
      · have h1' : (l.length : Int) < 1 := by omega
        go_wp2_with fail
        go_ret
        exact ⟨ret_bool (by rw [HVV.out]; simp [h1]), hbel⟩
def hiF (l : List Bal) : Int → List Int → Int
  | a, [] => a
  | a, m :: r => hiF l (max a (ofL m l)) r
def loF (l : List Bal) : Int → List Int → Int
  | a, [] => a
  | a, m :: r => loF l (min a (ofL m l)) r
def lagL (l : List Bal) : List Int → Int
  | [] => 0
  | m :: r => hiF l (ofL m l) (m :: r) - loF l (ofL m l) (m :: r)
set_option maxRecDepth 20000 in
set_option maxHeartbeats 1000000 in
theorem lag_any (L : Sl Bal) (s : Sl Int) (w : World) (hL : Rd (· < w.heap.size) 2 Bal.enc w L) (hr : Rd (· < w.heap.size) 1 ienc w s) (hb : ∀ x ∈ L.l, -1000000000000000 ≤ x.n ∧ x.n ≤ 1000000000000000) :
    Calls Try.prog 16 #[.slice L.A L.l.length L.c, .slice s.A s.l.length s.c] w fun e w' => e = .returned (.int .i64 (lagL L.l s.l)) ∧ Below w.heap.size w w' := by
  obtain ⟨A, c, l⟩ := s
  have hbd := ofL_bd (B := 1000000000000000) (by omega) hb
  have HBD := Lib.hid hbd
  have hn := hr.len
  simp only at hn
  have HR := Lib.hid hr
  have HL := Lib.hid hL
  clear hr hL hb hbd
  simp only
  rcases l with _ | ⟨m0, r⟩
  · go_enter Try.func16, Try.ntmps16
    go_wp2_with fail
    go_ret
    exact ⟨rfl, (by repeat (first | (with_reducible exact Below.refl _ _) | ((with_reducible refine below_setr ?_ ?_); focus (first | (simp; done) | (simp; omega) | omega)) | ((with_reducible refine below_allocr ?_ ?_); focus (first | (simp; done) | (simp; omega) | omega)) | (with_reducible refine Below.drew ?_) | (with_reducible refine below_drewN ?_ _)))⟩
  · obtain ⟨b, o, rfl, hb, hcl⟩ := HR.out.at1 (i := 0) (by simp)
    have g0 := hcl.c1
    simp only [Nat.zero_mul, Nat.add_zero, List.getElem_cons_zero] at g0
    have hlen : (m0 :: r).length = r.length + 1 := rfl
    have hfin : lagL L.l (m0 :: r) = hiF L.l (ofL m0 L.l) (m0 :: r) - loF L.l (ofL m0 L.l) (m0 :: r) := rfl
    have h00 := HBD.out m0
    clear hcl
    generalize hl : m0 :: r = l at *
    have hne : ((l.length : Int) == 0) = false := by rw [hlen]; simp; omega
    have hpos : 0 < l.length := by omega
    have HFIN := Lib.hid hfin
    clear hlen hfin hl
    go_enter Try.func16, Try.ntmps16
    go_wp2_with fail
    refine wp_region_T (fun w' => w'.cell? ⟨b, o, none⟩ = some (.int .i64 m0)) (fun _ => false) (by kernel_rfl) g0 (fun hHeld => ?_)
    refine wpAnyT_take2 (i := 0) (v := ?_) rfl rfl (by kernel_rfl) (by kernel_rfl) (by kernel_rfl) (by kernel_rfl) (fun _ _ _ h => h) (Or.inl ⟨by rfl, ?_⟩) (by first | assumption | trivial) ?_
    rotate_left
    · (intro w hSw; (try dsimp only at hSw); go_simp) <;> (with_reducible rfl)
    simp only [List.setIfInBounds_toArray, List.set_cons_zero, List.set_cons_succ]
    refine wpAnyT_take2 (i := 1) (v := ?_) rfl rfl (by kernel_rfl) (by kernel_rfl) (by kernel_rfl) (by kernel_rfl) (fun _ _ _ h => h) (Or.inl ⟨by rfl, ?_⟩) (by first | assumption | trivial) ?_
    rotate_left
    · (intro w hSw; (try dsimp only at hSw); go_simp) <;> (with_reducible rfl)
    simp only [List.setIfInBounds_toArray, List.set_cons_zero, List.set_cons_succ]
    refine wpAnyT_take2 (i := 2) (v := ?_) rfl rfl (by kernel_rfl) (by kernel_rfl) (by kernel_rfl) (by kernel_rfl) (fun _ _ _ h => h) (Or.inl ⟨by rfl, ?_⟩) (by first | assumption | trivial) ?_
    rotate_left
    · (intro w hSw; (try dsimp only at hSw); go_simp) <;> (with_reducible rfl)
    simp only [List.setIfInBounds_toArray, List.set_cons_zero, List.set_cons_succ]
    refine wpAnyT_take2 (i := 3) (v := ?_) rfl rfl (by kernel_rfl) (by kernel_rfl) (by kernel_rfl) (by kernel_rfl) (fun _ _ _ h => h) (Or.inl ⟨by rfl, ?_⟩) (by first | assumption | trivial) ?_
    rotate_left
    · (intro w hSw; (try dsimp only at hSw); go_simp) <;> (with_reducible rfl)
    simp only [List.setIfInBounds_toArray, List.set_cons_zero, List.set_cons_succ]
    refine wpAnyT_take2 (i := 5) (v := ?_) rfl rfl (by kernel_rfl) (by kernel_rfl) (by kernel_rfl) (by kernel_rfl) (fun _ _ _ h => h) (Or.inl ⟨by rfl, ?_⟩) (by first | assumption | trivial) ?_
    rotate_left
    · (intro w hSw; (try dsimp only at hSw); go_simp) <;> (with_reducible rfl)
    simp only [List.setIfInBounds_toArray, List.set_cons_zero, List.set_cons_succ]
    refine wpAnyT_take2 (i := 6) (v := ?_) rfl rfl (by kernel_rfl) (by kernel_rfl) (by kernel_rfl) (by kernel_rfl) (fun _ _ _ h => h) (Or.inl ⟨by rfl, ?_⟩) (by first | assumption | trivial) ?_
    rotate_left
    · (intro w hSw; (try dsimp only at hSw); go_simp) <;> (with_reducible rfl)
    simp only [List.setIfInBounds_toArray, List.set_cons_zero, List.set_cons_succ]
    refine wpAnyT_take2 (i := 7) (v := ?_) rfl rfl (by kernel_rfl) (by kernel_rfl) (by kernel_rfl) (by kernel_rfl) (fun _ _ _ h => h) (Or.inl ⟨by rfl, ?_⟩) (by first | assumption | trivial) ?_
    rotate_left
    · (intro w hSw; (try dsimp only at hSw); go_simp) <;> (with_reducible rfl)
    simp only [List.setIfInBounds_toArray, List.set_cons_zero, List.set_cons_succ]
    refine wpAnyT_take2 (i := 8) (v := ?_) rfl rfl (by kernel_rfl) (by kernel_rfl) (by kernel_rfl) (by kernel_rfl) (fun _ _ _ h => h) (Or.inl ⟨by rfl, ?_⟩) (by first | assumption | trivial) ?_
    rotate_left
    · (intro w hSw; (try dsimp only at hSw); go_simp) <;> (with_reducible rfl)
    simp only [List.setIfInBounds_toArray, List.set_cons_zero, List.set_cons_succ]
    clear hHeld
    refine wpAnyT_next (i := 4) (by kernel_rfl) rfl ?_
    go_wp2_with fail
    refine (of_any L m0 _ (HL.out.later (by repeat (first | (with_reducible exact Below.refl _ _) | ((with_reducible refine below_setr ?_ ?_); focus (first | (simp; done) | (simp; omega) | omega)) | ((with_reducible refine below_allocr ?_ ?_); focus (first | (simp; done) | (simp; omega) | omega)) | (with_reducible refine Below.drew ?_) | (with_reducible refine below_drewN ?_ _))) (Nat.le_refl _))).mono ?_
    rintro e w1 ⟨rfl, hb1⟩
    have hB1 : Below w.heap.size w w1 := (by repeat (first | (with_reducible exact Below.refl _ _) | ((with_reducible refine below_setr ?_ ?_); focus (first | (simp; done) | (simp; omega) | omega)) | ((with_reducible refine below_allocr ?_ ?_); focus (first | (simp; done) | (simp; omega) | omega)) | (with_reducible refine Below.drew ?_) | (with_reducible refine below_drewN ?_ _) | ((with_reducible apply below_via); focus (with_reducible assumption))))
    have hHeld := keep_cell hB1 g0
    clear hb1
    go_wp2_with fail
    refine And.intro ?_ ?_
    · first
      | exact hHeld
      | exact fun _ => hHeld
    clear hHeld
    refine wpAnyT_next (i := 9) (by kernel_rfl) rfl ?_
    go_wp2_with fail
    refine (of_any L m0 _ (HL.out.later hB1 (Nat.le_refl _))).mono ?_
    rintro e w2 ⟨rfl, hb2⟩
    have hB2 : Below w.heap.size w w2 := (by repeat (first | (with_reducible exact hB1) | (with_reducible exact Below.refl _ _) | ((with_reducible refine below_setr ?_ ?_); focus (first | (simp; done) | (simp; omega) | omega)) | ((with_reducible refine below_allocr ?_ ?_); focus (first | (simp; done) | (simp; omega) | omega)) | (with_reducible refine Below.drew ?_) | (with_reducible refine below_drewN ?_ _) | ((with_reducible apply below_via); focus (with_reducible assumption))))
    have hHeld := keep_cell hB2 g0
    clear hb2
    go_wp2_with fail
    refine And.intro ?_ ?_
    · first
      | exact hHeld
      | exact fun _ => hHeld
    refine wpAnyT_take2 (i := 10) (v := ?_) rfl rfl (by kernel_rfl) (by kernel_rfl) (by kernel_rfl) (by kernel_rfl) (fun _ _ _ h => h) (Or.inl ⟨by rfl, ?_⟩) (by first | assumption | trivial) ?_
    rotate_left
    · (intro w hSw; (try dsimp only at hSw); go_simp) <;> (with_reducible rfl)
    simp only [List.setIfInBounds_toArray, List.set_cons_zero, List.set_cons_succ]
    refine wpAnyT_take2 (i := 11) (v := ?_) rfl rfl (by kernel_rfl) (by kernel_rfl) (by kernel_rfl) (by kernel_rfl) (fun _ _ _ h => h) (Or.inl ⟨by rfl, ?_⟩) (by first | assumption | trivial) ?_
    rotate_left
    · (intro w hSw; (try dsimp only at hSw); go_simp) <;> (with_reducible rfl)
    simp only [List.setIfInBounds_toArray, List.set_cons_zero, List.set_cons_succ]
    refine wpAnyT_done (by kernel_rfl) ?_ _
    clear hHeld g0
    generalize hz0 : ofL m0 L.l = z0 at *
    clear hz0
    go_wp2_with fail
    go_loopw [5, 6, 8, 9, 25] (fun lo hi u v i wr => ∃ (k : Nat) (x y : Int), k ≤ l.length ∧ i = .int .i64 k ∧ lo = .int .i64 x ∧ hi = .int .i64 y ∧ -1000000000000000 ≤ x ∧ x ≤ 1000000000000000 ∧ -1000000000000000 ≤ y ∧ y ≤ 1000000000000000 ∧ Below w.heap.size w wr ∧
      Hid (hiF L.l z0 l = hiF L.l y (l.drop k)) ∧ Hid (loF L.l z0 l = loF L.l x (l.drop k))) (fun _ _ _ _ i _ => l.length - (intOf i).toNat)
    case atStart => exact ⟨0, z0, z0, by omega, rfl, rfl, rfl, h00.1, h00.2, h00.1, h00.2, hB2, Lib.hid (by simp), Lib.hid (by simp)⟩
    case round =>
      obtain ⟨k, x, y, hk, rfl, rfl, rfl, hx0, hx1, hy0, hy1, hbel, HH, HO⟩ := hrel
      have hhe : w.heap.size ≤ wr.heap.size := hbel.size
      by_cases hlt : k < l.length
      · obtain ⟨b', o', hA, hb', hcl⟩ := HR.out.at1 hlt
        simp only [Option.some.injEq, Addr.mk.injEq, and_true] at hA
        obtain ⟨rfl, rfl⟩ := hA
        have g0 := (hcl.keep (hbel.block b hb)).c1
        simp only [Nat.mul_one] at g0
        have hd : l.drop k = l[k] :: l.drop (k + 1) := List.drop_eq_getElem_cons hlt
        have hh := HH.out
        have ho := HO.out
        rw [hd] at hh ho
        simp only [hiF, loF] at hh ho
        generalize l[k] = m at *
        have hbm := HBD.out m
        have HHH := Lib.hid hh
        have HOO := Lib.hid ho
        clear hd hh ho hcl HH HO
        go_wp2_with fail
        refine (of_any L m _ (HL.out.later hbel (Nat.le_refl _))).mono ?_
        rintro e w3 ⟨rfl, hb3⟩
        have hB3 : Below w.heap.size w w3 := (by repeat (first | (with_reducible exact hbel) | (with_reducible exact Below.refl _ _) | ((with_reducible refine below_setr ?_ ?_); focus (first | (simp; done) | (simp; omega) | omega)) | ((with_reducible refine below_allocr ?_ ?_); focus (first | (simp; done) | (simp; omega) | omega)) | (with_reducible refine Below.drew ?_) | (with_reducible refine below_drewN ?_ _) | ((with_reducible apply below_via); focus (with_reducible assumption))))
        clear hb3
        generalize ofL m L.l = z at *
        go_wp2_with fail
        go_roundw
        case rel =>
          refine ⟨k + 1, min x z, max y z, by omega, by go_num, ?_, ?_, by omega, by omega, by omega, by omega, hB3, HHH, HOO⟩
          · first | rfl | (congr 1; omega) | (congr 1; simp [Int.min_def]; omega)
          · first | rfl | (congr 1; omega) | (congr 1; simp [Int.max_def]; omega)
        case measure => simp [intOf]; omega
      · have hkl : l.drop k = [] := List.drop_eq_nil_of_le (by omega)
        have hh := HH.out
        have ho := HO.out
        rw [hkl] at hh ho
        simp only [hiF, loF] at hh ho
        have HHH := Lib.hid hh
        have HOO := Lib.hid ho
        clear hkl hh ho HH HO
        go_wp2_with fail
        go_ret
        exact ⟨ret_int (by rw [HFIN.out, HHH.out, HOO.out]), hbel⟩
end Go.Proofs.Ytjbdjlgddjmkbaa
