/- The walk of FavourOrder. -/
import Derived.Test.YtjbdjlgddjmkbaaFvSm
namespace Go.Proofs.Ytjbdjlgddjmkbaa
open Go.RowKit
def OrdPost (w : World) (e : Ending) (w' : World) : Prop := e = .returned (.bool true) ∧ Below w.heap.size w w'
/-- What stands behind the loop that turns the riders round. -/
theorem rev_drop {l : List Int} {q : Nat} {x : Int} (hx : l[q]? = some x) : (l.drop q).reverse = (l.drop (q + 1)).reverse ++ [x] := by
  obtain ⟨h, rfl⟩ := List.getElem?_eq_some_iff.1 hx
  rw [List.drop_eq_getElem_cons h, List.reverse_cons]
theorem any_drop {l : List Int} {p : Int → Bool} {q : Nat} {x : Int} (hx : l[q]? = some x) : (l.drop q).any p = (p x || (l.drop (q + 1)).any p) := by
  obtain ⟨h, rfl⟩ := List.getElem?_eq_some_iff.1 hx
  rw [List.drop_eq_getElem_cons h, List.any_cons]
set_option maxRecDepth 20000 in
set_option maxHeartbeats 8000000 in
theorem favourorder (L : Sl Bal) (s os : Sl Int) (t m : Int) (w : World) (hL : Rd (· < w.heap.size) 2 Bal.enc w L) (hr : Rd (· < w.heap.size) 1 ienc w s) (ho : Rd (· < w.heap.size) 1 ienc w os) :
    Calls Try.prog 7 #[.slice L.A L.l.length L.c, .slice s.A s.l.length s.c, .slice os.A os.l.length os.c, .int .i64 t, .int .i64 m] w (OrdPost w) := by
  have HOS := Lib.hid ho
  clear ho
  have HL := Lib.hid hL
  have HR := Lib.hid hr
  clear hL hr
  go_enter Try.func7, Try.ntmps7
  go_wp2_with fail
  refine (small_any w).mono ?_
  rintro e w1 ⟨rfl, hB1⟩
  go_wp2_with fail
  refine (few_any L _ (HL.out.later hB1 (Nat.le_refl _))).mono ?_
  rintro e w1' ⟨⟨b, rfl, hfew⟩, rfl⟩
  have HFEW := Lib.hid hfew
  clear hfew
  rcases b with _ | _
  · go_wp2_with fail
    go_ret
    exact ⟨rfl, hB1⟩
  rcases Nat.lt_or_ge 10 s.l.length with h20 | h20
  · have h20' : ((10 : Nat) : Int) < (s.l.length : Int) := by omega
    go_wp2_with fail
    all_goals
      go_ret
      exact ⟨rfl, hB1⟩
  have h20' : (s.l.length : Int) ≤ ((10 : Nat) : Int) := by omega
  have hl20 := (HFEW.out rfl).1
  rcases Nat.lt_or_ge 10 os.l.length with h10 | h10
  · have h10' : (10 : Int) < (os.l.length : Int) := by omega
    go_wp2_with fail
    go_ret
    exact ⟨rfl, hB1⟩
  have h10' : (os.l.length : Int) ≤ 10 := by omega
  go_wp2_with fail
  refine (bear_any L s t _ (HL.out.later hB1 (Nat.le_refl _)) (HR.out.later hB1 (Nat.le_refl _)) (by omega) (by omega)).mono ?_
  rintro e w2 ⟨A2, c2, rfl, hr2, hb2⟩
  have HR2 := Lib.hid (Rd.top hr2)
  have hB2 : Below w.heap.size w w2 := (by repeat (first | (with_reducible exact hB1) | (with_reducible exact Below.refl _ _) | ((with_reducible refine below_setr ?_ ?_); focus (first | (simp; done) | (simp; omega) | omega)) | ((with_reducible refine below_allocr ?_ ?_); focus (first | (simp; done) | (simp; omega) | omega)) | (with_reducible refine Below.drew ?_) | (with_reducible refine below_drewN ?_ _) | ((with_reducible apply below_via); focus (with_reducible assumption))))
  clear hr2 hb2
  have hbp : ∀ r, r.Perm s.l → bearF L.l r t = bearF L.l s.l t := fun r hp => bear_perm hp
  generalize hp : bearF L.l s.l t = p at *
  obtain ⟨ra, rx, re⟩ := p
  have HP := Lib.hid hp
  have HBP := Lib.hid hbp
  clear hp hbp
  simp only at HR2 ⊢
  have HS2 := Lib.hid (HR.out.later hB2 (Nat.le_refl _))
  have HO2 := Lib.hid (HOS.out.later hB2 (Nat.le_refl _))
  have HL2 := Lib.hid (HL.out.later hB2 (Nat.le_refl _))
  obtain ⟨SA, sc, sl⟩ := s
  simp only at h20 h20' HP HBP
  go_wp2_with fail
  go_loopw [15, 16, 17] (fun vb vc vi wr => ∃ (j : Nat) (i : Int) (A : Option Addr) (c : Nat), j ≤ sl.length ∧ vi = .int .i64 i ∧ Hid (i = (j : Int) - 1) ∧ vb = .slice A (sl.drop j).reverse.length c ∧ vc = .bool ((sl.drop j).any (fun x => decide (x ∈ os.l))) ∧
    Hid (Own w2.heap.size 3 1 ienc wr ⟨A, c, (sl.drop j).reverse⟩) ∧ Below w2.heap.size w2 wr) (fun _ _ vi _ => (intOf vi + 1).toNat)
  case atStart => exact ⟨sl.length, (sl.length : Int) - 1, none, 0, by omega, rfl, Lib.hid rfl, by simp, by simp, Lib.hid (by simp; exact Own.nil _ _ _ _ _), Below.refl _ _⟩
  case round =>
    obtain ⟨j, i, A, c, hj, rfl, HI, rfl, rfl, HOW, hbel⟩ := hrel
    rcases j with _ | q
    · obtain rfl : i = -1 := by have := HI.out; omega
      have hbp := HBP.out (sl.drop 0).reverse (List.reverse_perm (sl.drop 0))
      have hbl : (sl.drop 0).reverse.length = sl.length := by simp
      simp only [List.drop_zero] at HOW hbp hbl ⊢
      have hcm : sl.any (fun x => decide (x ∈ os.l)) = false ∨ sl.any (fun x => decide (x ∈ os.l)) = true := by cases sl.any (fun x => decide (x ∈ os.l)) <;> simp
      have hdis : sl.any (fun x => decide (x ∈ os.l)) = false → ∀ k ∈ sl, k ∉ os.l := fun h k hk => by
        have := List.any_eq_false.1 h k hk
        simpa using this
      have HDIS := Lib.hid hdis
      generalize hcmm : sl.any (fun x => decide (x ∈ os.l)) = cm at *
      generalize sl.reverse = bl at *
      have HBP2 := Lib.hid hbp
      have hbl20 : bl.length ≤ 20 := by omega
      clear hdis hcmm hbp HI hbl
      go_wp2_with fail
      ((with_reducible refine (bear_any L ⟨A, c, bl⟩ t _ (HL2.out.later hbel (Nat.le_refl _)) ((HOW.out.rd ienc_k).mono (fun b hb => hb.2)) (by omega) hbl20).mono ?_))
      rintro e w3 ⟨A3, c3, rfl, hr3, hb3⟩
      simp only [HBP2.out] at hr3
      simp only [HBP2.out]
      have HR3 := Lib.hid (Rd.top hr3)
      have hbel3 : Below w2.heap.size w2 w3 := below_via hb3 hbel
      clear hr3 hb3 hbel
      go_wp2_with fail
      refine (same_any ⟨A2, c2, ra⟩ ⟨A3, c3, ra⟩ _ (HR2.out.later hbel3 (Nat.le_refl _)) HR3.out).mono ?_
      rintro e w4 ⟨rfl, hb4⟩
      rw [decide_eq_true rfl]
      have hbel4 : Below w2.heap.size w2 w4 := below_via hb4 hbel3
      clear hb4 hbel3
      rcases hre : (re == 0)
      · have hre2 : (re != 0) = true := by simp [bne, hre]
        go_wp2_with fail
        go_ret
        exact ⟨rfl, below_via hbel4 hB2⟩
      · have hre2 : re = 0 := by simpa using hre
        subst hre2
        clear hre
        obtain ⟨hf, hv, hbf⟩ := bear_ok (l := L.l) (rs := sl) (t := t) (by rw [HP.out])
        have hra : ra = outF L.l sl t := by
          have h0 := HP.out
          rw [hbf] at h0
          injection h0 with h1 _
          exact h1.symm
        subst hra
        have hf0 : fineB L.l sl 0 = true := by
          obtain ⟨a1, a2, a3, a4⟩ := fineB_iff.1 hf
          exact fineB_iff.2 ⟨a1, a2, by omega, by omega⟩
        have HF := Lib.hid hf
        have HV := Lib.hid hv
        have hral := (raw_ok hf).len
        have hnn : ∃ (rn : List Bal) (xn g : Int), bearF L.l sl 0 = (rn, xn, g) ∧ ((g = 0 ∧ (∀ k, ofL k rn = ofL k L.l)) ∨ g = 6) := by
          by_cases h : (bearF L.l sl 0).2.2 = 0
          · obtain ⟨_, _, hb0⟩ := bear_ok h
            exact ⟨_, _, _, hb0, .inl ⟨rfl, fun k => none_of hf0 k⟩⟩
          · rcases bear_er L.l sl 0 h with ⟨hb0, hn⟩ | ⟨hb0, _⟩
            · rw [hf0] at hn; cases hn
            · exact ⟨_, _, _, hb0, .inr rfl⟩
        obtain ⟨rn, xn, gn, hb0, hg⟩ := hnn
        have HB0 := Lib.hid hb0
        clear hf hv hbf hf0 hb0
        go_wp2_with fail
        ((with_reducible refine (bear_any L ⟨SA, sc, sl⟩ 0 _ (HL2.out.later hbel4 (Nat.le_refl _)) (HS2.out.later hbel4 (Nat.le_refl _)) (by omega) (by simp only; omega)).mono ?_))
        rintro e w5 ⟨A5, c5, rfl, hr5, hb5⟩
        simp only [HB0.out] at hr5
        simp only [HB0.out]
        have HR5 := Lib.hid (Rd.top hr5)
        have hbel5 : Below w2.heap.size w2 w5 := below_via hb5 hbel4
        clear hr5 hb5 hbel4
        have HS5 := Lib.hid (HS2.out.later hbel5 (Nat.le_refl _))
        have HL5 := Lib.hid (HL2.out.later hbel5 (Nat.le_refl _))
        rcases hg with ⟨rfl, hgn⟩ | rfl
        · have HGN := Lib.hid hgn
          clear hgn
          go_wp2_with fail
          go_loopw [24] (fun vi wr => ∃ (k : Nat), k ≤ sl.length ∧ vi = .int .i64 k ∧ Below w5.heap.size w5 wr) (fun vi _ => sl.length - (intOf vi).toNat)
          case atStart => exact ⟨0, by omega, rfl, Below.refl _ _⟩
          case round =>
            obtain ⟨k, hk, rfl, hbel⟩ := hrel
            by_cases hlt : k < sl.length
            · obtain ⟨b, o, rfl, hb, hcl⟩ := HS5.out.at1 hlt
              have g0 := (hcl.keep (hbel.block b hb)).c1
              simp only [Nat.mul_one] at g0
              generalize sl[k] = x at *
              clear hcl
              go_wp2_with fail
              refine wp_region_T (fun w' => w'.cell? ⟨b, o + k, none⟩ = some (.int .i64 x)) (fun _ => false) (by kernel_rfl) g0 (fun hHeld => ?_)
              refine wpAnyT_take2 (i := 0) (v := ?_) rfl rfl (by kernel_rfl) (by kernel_rfl) (by kernel_rfl) (by kernel_rfl) (fun _ _ _ h => h) (Or.inl ⟨by rfl, ?_⟩) (by first | assumption | trivial) ?_
              rotate_left
              · (intro w hSw; (try dsimp only at hSw); go_simp) <;> (with_reducible rfl)
              simp only [List.setIfInBounds_toArray, List.set_cons_zero, List.set_cons_succ]
              refine wpAnyT_take2 (i := 1) (v := ?_) rfl rfl (by kernel_rfl) (by kernel_rfl) (by kernel_rfl) (by kernel_rfl) (fun _ _ _ h => h) (Or.inl ⟨by rfl, ?_⟩) (by first | assumption | trivial) ?_
              rotate_left
              · (intro w hSw; (try dsimp only at hSw); go_simp) <;> (with_reducible rfl)
              simp only [List.setIfInBounds_toArray, List.set_cons_zero, List.set_cons_succ]
              refine wpAnyT_take2 (i := 2) (v := ?_) rfl rfl (by kernel_rfl) (by kernel_rfl) (by kernel_rfl) (by kernel_rfl) (fun _ _ _ h => h) (Or.inl ⟨by rfl, ?_⟩) (by first | assumption | trivial) ?_
              rotate_left
              · (intro w hSw; (try dsimp only at hSw); go_simp) <;> (with_reducible rfl)
              simp only [List.setIfInBounds_toArray, List.set_cons_zero, List.set_cons_succ]
              refine wpAnyT_take2 (i := 3) (v := ?_) rfl rfl (by kernel_rfl) (by kernel_rfl) (by kernel_rfl) (by kernel_rfl) (fun _ _ _ h => h) (Or.inl ⟨by rfl, ?_⟩) (by first | assumption | trivial) ?_
              rotate_left
              · (intro w hSw; (try dsimp only at hSw); go_simp) <;> (with_reducible rfl)
              simp only [List.setIfInBounds_toArray, List.set_cons_zero, List.set_cons_succ]
              refine wpAnyT_take2 (i := 4) (v := ?_) rfl rfl (by kernel_rfl) (by kernel_rfl) (by kernel_rfl) (by kernel_rfl) (fun _ _ _ h => h) (Or.inl ⟨by rfl, ?_⟩) (by first | assumption | trivial) ?_
              rotate_left
              · (intro w hSw; (try dsimp only at hSw); go_simp) <;> (with_reducible rfl)
              simp only [List.setIfInBounds_toArray, List.set_cons_zero, List.set_cons_succ]
              refine wpAnyT_take2 (i := 6) (v := ?_) rfl rfl (by kernel_rfl) (by kernel_rfl) (by kernel_rfl) (by kernel_rfl) (fun _ _ _ h => h) (Or.inl ⟨by rfl, ?_⟩) (by first | assumption | trivial) ?_
              rotate_left
              · (intro w hSw; (try dsimp only at hSw); go_simp) <;> (with_reducible rfl)
              simp only [List.setIfInBounds_toArray, List.set_cons_zero, List.set_cons_succ]
              refine wpAnyT_take2 (i := 7) (v := ?_) rfl rfl (by kernel_rfl) (by kernel_rfl) (by kernel_rfl) (by kernel_rfl) (fun _ _ _ h => h) (Or.inl ⟨by rfl, ?_⟩) (by first | assumption | trivial) ?_
              rotate_left
              · (intro w hSw; (try dsimp only at hSw); go_simp) <;> (with_reducible rfl)
              simp only [List.setIfInBounds_toArray, List.set_cons_zero, List.set_cons_succ]
              refine wpAnyT_take2 (i := 8) (v := ?_) rfl rfl (by kernel_rfl) (by kernel_rfl) (by kernel_rfl) (by kernel_rfl) (fun _ _ _ h => h) (Or.inl ⟨by rfl, ?_⟩) (by first | assumption | trivial) ?_
              rotate_left
              · (intro w hSw; (try dsimp only at hSw); go_simp) <;> (with_reducible rfl)
              simp only [List.setIfInBounds_toArray, List.set_cons_zero, List.set_cons_succ]
              refine wpAnyT_take2 (i := 9) (v := ?_) rfl rfl (by kernel_rfl) (by kernel_rfl) (by kernel_rfl) (by kernel_rfl) (fun _ _ _ h => h) (Or.inl ⟨by rfl, ?_⟩) (by first | assumption | trivial) ?_
              rotate_left
              · (intro w hSw; (try dsimp only at hSw); go_simp) <;> (with_reducible rfl)
              simp only [List.setIfInBounds_toArray, List.set_cons_zero, List.set_cons_succ]
              refine wpAnyT_take2 (i := 10) (v := ?_) rfl rfl (by kernel_rfl) (by kernel_rfl) (by kernel_rfl) (by kernel_rfl) (fun _ _ _ h => h) (Or.inl ⟨by rfl, ?_⟩) (by first | assumption | trivial) ?_
              rotate_left
              · (intro w hSw; (try dsimp only at hSw); go_simp) <;> (with_reducible rfl)
              simp only [List.setIfInBounds_toArray, List.set_cons_zero, List.set_cons_succ]
              clear hHeld
              refine wpAnyT_next (i := 5) (by kernel_rfl) rfl ?_
              go_wp2_with fail
              refine (of_any ⟨A5, c5, rn⟩ x _ (HR5.out.later (by repeat (first | (with_reducible exact hbel) | (with_reducible exact Below.refl _ _) | ((with_reducible refine below_setr ?_ ?_); focus (first | (simp; done) | (simp; omega) | omega)) | ((with_reducible refine below_allocr ?_ ?_); focus (first | (simp; done) | (simp; omega) | omega)) | (with_reducible refine Below.drew ?_) | (with_reducible refine below_drewN ?_ _))) (Nat.le_refl _))).mono ?_
              rintro e w6 ⟨rfl, hb6⟩
              rw [HGN.out]
              have hbel6 : Below w5.heap.size w5 w6 := (by repeat (first | (with_reducible exact hbel) | (with_reducible exact Below.refl _ _) | ((with_reducible refine below_setr ?_ ?_); focus (first | (simp; done) | (simp; omega) | omega)) | ((with_reducible refine below_allocr ?_ ?_); focus (first | (simp; done) | (simp; omega) | omega)) | (with_reducible refine Below.drew ?_) | (with_reducible refine below_drewN ?_ _) | ((with_reducible apply below_via); focus (with_reducible assumption))))
              have hHeld := keep_cell hb6 (show (World.drew _).cell? ⟨b, o + k, none⟩ = _ from g0)
              have g6 := hHeld
              clear hb6
              go_wp2_with fail
              refine And.intro ?_ ?_
              · first
                | exact hHeld
                | exact fun _ => hHeld
              clear hHeld
              refine wpAnyT_next (i := 11) (by kernel_rfl) rfl ?_
              go_wp2_with fail
              refine (of_any L x _ (HL5.out.later hbel6 (Nat.le_refl _))).mono ?_
              rintro e w7 ⟨rfl, hb7⟩
              have hbel7 : Below w5.heap.size w5 w7 := (by repeat (first | (with_reducible exact hbel6) | (with_reducible exact Below.refl _ _) | ((with_reducible refine below_setr ?_ ?_); focus (first | (simp; done) | (simp; omega) | omega)) | ((with_reducible refine below_allocr ?_ ?_); focus (first | (simp; done) | (simp; omega) | omega)) | (with_reducible refine Below.drew ?_) | (with_reducible refine below_drewN ?_ _) | ((with_reducible apply below_via); focus (with_reducible assumption))))
              have hHeld := keep_cell hb7 g6
              clear hb7
              go_wp2_with fail
              refine And.intro ?_ ?_
              · first
                | exact hHeld
                | exact fun _ => hHeld
              refine wpAnyT_take2 (i := 12) (v := .bool false) rfl rfl (by kernel_rfl) (by kernel_rfl) (by kernel_rfl) (by kernel_rfl) (fun _ _ _ h => h) (Or.inl ⟨by rfl, ?_⟩) (by first | assumption | trivial) ?_
              · (intro w hSw; (try dsimp only at hSw); go_simp) <;> (first | (with_reducible rfl) | assumption | (simp; done) | (simp [*]; done) | (simp; omega))
              simp only [List.setIfInBounds_toArray, List.set_cons_zero, List.set_cons_succ]
              refine wpAnyT_done (by kernel_rfl) ?_ _
              clear hHeld
              go_wp2_with fail
              go_roundw
              case rel => exact ⟨k + 1, by omega, by go_num, hbel7⟩
              case measure => simp [intOf]; omega
            · have hbw : Below w2.heap.size w2 wr := below_via hbel hbel5
              clear hbel
              rcases cm with _ | _
              · have hdis := HDIS.out rfl
                have her := groups_er (os := os.l) (u := m) HF.out HV.out hdis
                by_cases hh : (bearF L.l os.l m).2.2 = 0
                · obtain ⟨hfd, hvd, hbd⟩ := bear_ok hh
                  rw [hh] at her
                  obtain ⟨hfc, hvc, hbc⟩ := bear_ok her
                  obtain ⟨q1, q2, q3⟩ := groups HF.out HV.out hfd hvd hdis
                  have hbk : bearF (outF L.l os.l m) sl t = (outF (outF L.l os.l m) sl t, bearerF (outF L.l os.l m) sl, 0) := by unfold bearF; rw [q1, q2]; rfl
                  have hdl := (raw_ok hfd).len
                  rw [q3] at hbc
                  generalize outF (outF L.l os.l m) sl t = ru at *
                  generalize outF L.l os.l m = rd at *
                  have HBC := Lib.hid hbc
                  have HBD := Lib.hid hbd
                  have HBK := Lib.hid hbk
                  clear hbc hbd hbk q1 q2 q3 hfc hvc hfd hvd hdis her hh
                  go_wp2_with fail
                  ((with_reducible refine (bear_any ⟨A2, c2, outF L.l sl t⟩ os m _ (HR2.out.later hbw (Nat.le_refl _)) (HO2.out.later hbw (Nat.le_refl _)) (by simp only; omega) (by omega)).mono ?_))
                  rintro e v1 ⟨A6, c6, rfl, hr6, hb6⟩
                  simp only [HBC.out] at hr6
                  simp only [HBC.out]
                  have HR6 := Lib.hid (Rd.top hr6)
                  have hbw1 : Below w2.heap.size w2 v1 := below_via hb6 hbw
                  clear hr6 hb6 hbw
                  go_wp2_with fail
                  ((with_reducible refine (bear_any L os m _ (HL2.out.later hbw1 (Nat.le_refl _)) (HO2.out.later hbw1 (Nat.le_refl _)) (by omega) (by omega)).mono ?_))
                  rintro e v2 ⟨A7, c7, rfl, hr7, hb7⟩
                  simp only [HBD.out] at hr7
                  simp only [HBD.out]
                  have HR7 := Lib.hid (Rd.top hr7)
                  have HR6' := Lib.hid (HR6.out.later hb7 (Nat.le_refl _))
                  have hbw2 : Below w2.heap.size w2 v2 := below_via hb7 hbw1
                  clear hr7 hb7 hbw1 HR6
                  go_wp2_with fail
                  ((with_reducible refine (bear_any ⟨A7, c7, rd⟩ ⟨SA, sc, sl⟩ t _ HR7.out (HS2.out.later hbw2 (Nat.le_refl _)) (by simp only; omega) (by simp only; omega)).mono ?_))
                  rintro e v3 ⟨A8, c8, rfl, hr8, hb8⟩
                  simp only [HBK.out] at hr8
                  simp only [HBK.out]
                  have HR8 := Lib.hid (Rd.top hr8)
                  have HR6 := Lib.hid (HR6'.out.later hb8 (Nat.le_refl _))
                  have hbw3 : Below w2.heap.size w2 v3 := below_via hb8 hbw2
                  clear hr8 hb8 hbw2 HR6' HR7
                  go_wp2_with fail
                  refine (same_any ⟨A6, c6, ru⟩ ⟨A8, c8, ru⟩ _ HR6.out HR8.out).mono ?_
                  rintro e v4 ⟨rfl, hb9⟩
                  rw [decide_eq_true rfl]
                  have hbw4 : Below w2.heap.size w2 v4 := below_via hb9 hbw3
                  clear hb9 hbw3
                  go_wp2_with fail
                  go_ret
                  exact ⟨rfl, below_via hbw4 hB2⟩
                · have hne : (bearF (outF L.l sl t) os.l m).2.2 ≠ 0 := by rw [her]; exact hh
                  have hbd : ∃ e2 : Int, bearF L.l os.l m = ([], 0, e2) ∧ (e2 != 0) = true ∧ (e2 == e2) = true := by
                    rcases bear_er L.l os.l m hh with ⟨h, _⟩ | ⟨h, _⟩
                    · exact ⟨1, h, rfl, rfl⟩
                    · exact ⟨6, h, rfl, rfl⟩
                  obtain ⟨e2, hbd, he2, he3⟩ := hbd
                  have hbc : bearF (outF L.l sl t) os.l m = ([], 0, e2) := by
                    rw [hbd] at her
                    rcases bear_er (outF L.l sl t) os.l m hne with ⟨h, _⟩ | ⟨h, _⟩
                    · rw [h] at her ⊢
                      simp only at her
                      rw [← her]
                    · rw [h] at her ⊢
                      simp only at her
                      rw [← her]
                  have HBC := Lib.hid hbc
                  have HBD := Lib.hid hbd
                  clear hbc hbd hdis her hh hne
                  go_wp2_with fail
                  ((with_reducible refine (bear_any ⟨A2, c2, outF L.l sl t⟩ os m _ (HR2.out.later hbw (Nat.le_refl _)) (HO2.out.later hbw (Nat.le_refl _)) (by simp only; omega) (by omega)).mono ?_))
                  rintro e v1 ⟨A6, c6, rfl, hr6, hb6⟩
                  simp only [HBC.out]
                  have hbw1 : Below w2.heap.size w2 v1 := below_via hb6 hbw
                  clear hr6 hb6 hbw
                  go_wp2_with fail
                  ((with_reducible refine (bear_any L os m _ (HL2.out.later hbw1 (Nat.le_refl _)) (HO2.out.later hbw1 (Nat.le_refl _)) (by omega) (by omega)).mono ?_))
                  rintro e v2 ⟨A7, c7, rfl, hr7, hb7⟩
                  simp only [HBD.out]
                  have hbw2 : Below w2.heap.size w2 v2 := below_via hb7 hbw1
                  clear hr7 hb7 hbw1
                  go_wp2_with fail
                  go_ret
                  exact ⟨ret_bool (by first | rfl | (simp; done) | (simp; omega)), below_via hbw2 hB2⟩
              · go_wp2_with fail
                go_ret
                exact ⟨rfl, below_via hbw hB2⟩
        · go_wp2_with fail
          go_loopw [24] (fun vi wr => vi = .int .i64 0 ∧ wr = w5) (fun _ _ => 1)
          case atStart => exact ⟨rfl, rfl⟩
          case round =>
            obtain ⟨rfl, rfl⟩ := hrel
            have hbw : Below w2.heap.size w2 wr := hbel5
            have hl1 : (0 : Int) < (sl.length : Int) := by
              have := (ridesL_iff.1 (fineB_iff.1 HF.out).2.1).1
              omega
            rcases cm with _ | _
            · have hdis := HDIS.out rfl
              have her := groups_er (os := os.l) (u := m) HF.out HV.out hdis
              by_cases hh : (bearF L.l os.l m).2.2 = 0
              · obtain ⟨hfd, hvd, hbd⟩ := bear_ok hh
                rw [hh] at her
                obtain ⟨hfc, hvc, hbc⟩ := bear_ok her
                obtain ⟨q1, q2, q3⟩ := groups HF.out HV.out hfd hvd hdis
                have hbk : bearF (outF L.l os.l m) sl t = (outF (outF L.l os.l m) sl t, bearerF (outF L.l os.l m) sl, 0) := by unfold bearF; rw [q1, q2]; rfl
                have hdl := (raw_ok hfd).len
                rw [q3] at hbc
                generalize outF (outF L.l os.l m) sl t = ru at *
                generalize outF L.l os.l m = rd at *
                have HBC := Lib.hid hbc
                have HBD := Lib.hid hbd
                have HBK := Lib.hid hbk
                clear hbc hbd hbk q1 q2 q3 hfc hvc hfd hvd hdis her hh
                go_wp2_with fail
                ((with_reducible refine (bear_any ⟨A2, c2, outF L.l sl t⟩ os m _ (HR2.out.later hbw (Nat.le_refl _)) (HO2.out.later hbw (Nat.le_refl _)) (by simp only; omega) (by omega)).mono ?_))
                rintro e v1 ⟨A6, c6, rfl, hr6, hb6⟩
                simp only [HBC.out] at hr6
                simp only [HBC.out]
                have HR6 := Lib.hid (Rd.top hr6)
                have hbw1 : Below w2.heap.size w2 v1 := below_via hb6 hbw
                clear hr6 hb6 hbw
                go_wp2_with fail
                ((with_reducible refine (bear_any L os m _ (HL2.out.later hbw1 (Nat.le_refl _)) (HO2.out.later hbw1 (Nat.le_refl _)) (by omega) (by omega)).mono ?_))
                rintro e v2 ⟨A7, c7, rfl, hr7, hb7⟩
                simp only [HBD.out] at hr7
                simp only [HBD.out]
                have HR7 := Lib.hid (Rd.top hr7)
                have HR6' := Lib.hid (HR6.out.later hb7 (Nat.le_refl _))
                have hbw2 : Below w2.heap.size w2 v2 := below_via hb7 hbw1
                clear hr7 hb7 hbw1 HR6
                go_wp2_with fail
                ((with_reducible refine (bear_any ⟨A7, c7, rd⟩ ⟨SA, sc, sl⟩ t _ HR7.out (HS2.out.later hbw2 (Nat.le_refl _)) (by simp only; omega) (by simp only; omega)).mono ?_))
                rintro e v3 ⟨A8, c8, rfl, hr8, hb8⟩
                simp only [HBK.out] at hr8
                simp only [HBK.out]
                have HR8 := Lib.hid (Rd.top hr8)
                have HR6 := Lib.hid (HR6'.out.later hb8 (Nat.le_refl _))
                have hbw3 : Below w2.heap.size w2 v3 := below_via hb8 hbw2
                clear hr8 hb8 hbw2 HR6' HR7
                go_wp2_with fail
                refine (same_any ⟨A6, c6, ru⟩ ⟨A8, c8, ru⟩ _ HR6.out HR8.out).mono ?_
                rintro e v4 ⟨rfl, hb9⟩
                rw [decide_eq_true rfl]
                have hbw4 : Below w2.heap.size w2 v4 := below_via hb9 hbw3
                clear hb9 hbw3
                go_wp2_with fail
                go_ret
                exact ⟨rfl, below_via hbw4 hB2⟩
              · have hne : (bearF (outF L.l sl t) os.l m).2.2 ≠ 0 := by rw [her]; exact hh
                have hbd : ∃ e2 : Int, bearF L.l os.l m = ([], 0, e2) ∧ (e2 != 0) = true ∧ (e2 == e2) = true := by
                  rcases bear_er L.l os.l m hh with ⟨h, _⟩ | ⟨h, _⟩
                  · exact ⟨1, h, rfl, rfl⟩
                  · exact ⟨6, h, rfl, rfl⟩
                obtain ⟨e2, hbd, he2, he3⟩ := hbd
                have hbc : bearF (outF L.l sl t) os.l m = ([], 0, e2) := by
                  rw [hbd] at her
                  rcases bear_er (outF L.l sl t) os.l m hne with ⟨h, _⟩ | ⟨h, _⟩
                  · rw [h] at her ⊢
                    simp only at her
                    rw [← her]
                  · rw [h] at her ⊢
                    simp only at her
                    rw [← her]
                have HBC := Lib.hid hbc
                have HBD := Lib.hid hbd
                clear hbc hbd hdis her hh hne
                go_wp2_with fail
                ((with_reducible refine (bear_any ⟨A2, c2, outF L.l sl t⟩ os m _ (HR2.out.later hbw (Nat.le_refl _)) (HO2.out.later hbw (Nat.le_refl _)) (by simp only; omega) (by omega)).mono ?_))
                rintro e v1 ⟨A6, c6, rfl, hr6, hb6⟩
                simp only [HBC.out]
                have hbw1 : Below w2.heap.size w2 v1 := below_via hb6 hbw
                clear hr6 hb6 hbw
                go_wp2_with fail
                ((with_reducible refine (bear_any L os m _ (HL2.out.later hbw1 (Nat.le_refl _)) (HO2.out.later hbw1 (Nat.le_refl _)) (by omega) (by omega)).mono ?_))
                rintro e v2 ⟨A7, c7, rfl, hr7, hb7⟩
                simp only [HBD.out]
                have hbw2 : Below w2.heap.size w2 v2 := below_via hb7 hbw1
                clear hr7 hb7 hbw1
                go_wp2_with fail
                go_ret
                exact ⟨ret_bool (by first | rfl | (simp; done) | (simp; omega)), below_via hbw2 hB2⟩
            · go_wp2_with fail
              go_ret
              exact ⟨rfl, below_via hbw hB2⟩
    · have hqi : i = (q : Int) := by have := HI.out; push_cast at this; omega
      subst hqi
      have hql : q < sl.length := by omega
      obtain ⟨b, o, rfl, hb, hcl⟩ := HS2.out.at1 hql
      have hcl2 := hcl
      have g0 := (hcl.keep (hbel.block b hb)).c1
      simp only [Nat.mul_one] at g0
      have hx : sl[q]? = some sl[q] := List.getElem?_eq_getElem hql
      have hrv := rev_drop hx
      have han := any_drop (p := fun x => decide (x ∈ os.l)) hx
      generalize sl[q] = x at *
      have HRV := Lib.hid hrv
      have HAN := Lib.hid han
      have hlen : (sl.drop (q + 1)).reverse.length ≤ 20 := by simp; omega
      generalize hcm : (sl.drop (q + 1)).any (fun x => decide (x ∈ os.l)) = cm at *
      generalize (sl.drop (q + 1)).reverse = bl at *
      have hsz := hbel.size
      clear hx hrv han hcl hcm HI
      go_wp2_with (at_builtin
                   go_must (refine wpl_append_sl _ rfl (.tmp 64) (.tmp 69) _ rfl Try.underlying23 infoInt (by omega) ienc_k ienc_one ⟨A, c, bl⟩ ⟨some ⟨wr.heap.size, 0, none⟩, 1, [x]⟩ rfl rfl (HOW.out.alloc _) (rd_lit wr _ [x] (by simp [maxLen]) rfl ienc_k) (by simp [maxLen]; omega) (by simp; omega) (by simp; omega) ?_)
                   intro A5 c5 w5 hown5 hg5 hat5
                   apply Hid.out)
      refine Lib.hid ?_
      have hbel5 : Below w2.heap.size w2 w5 := Below.grown (Below.alloc hbel hsz _) hg5 (by simp; omega) (fun j hj => by
        rcases HOW.out.form with ⟨h0, _⟩ | ⟨g', h0, h1, _⟩
        · simp only at h0; rw [h0] at hj; simp [Value.ownBlock] at hj
        · simp only at h0; rw [h0] at hj; simp [Value.ownBlock] at hj; omega)
      have HO5 := Lib.hid hown5
      have g5 := (hcl2.keep (hbel5.block b hb)).c1
      simp only [Nat.mul_one] at g5
      clear hown5 hg5 hat5 g0 hcl2 hbel hsz
      have hjq : q ≤ sl.length := by omega
      rcases cm with _ | _
      · go_wp2_with fail
        refine (has_any os x _ (HO2.out.later hbel5 (Nat.le_refl _))).mono ?_
        rintro e w' ⟨rfl, rfl⟩
        go_wp2_with fail
        go_roundw
        case rel => exact ⟨q, (q : Int) - 1, A5, c5, hjq, by go_num, Lib.hid rfl, by rw [HRV.out]; simp, by rw [HAN.out]; simp, by rw [HRV.out]; exact HO5, hbel5⟩
        case measure => simp [intOf]
      · go_wp2_with fail
        go_roundw
        case rel => exact ⟨q, (q : Int) - 1, A5, c5, hjq, by go_num, Lib.hid rfl, by rw [HRV.out]; simp, by rw [HAN.out]; simp, by rw [HRV.out]; exact HO5, hbel5⟩
        case measure => simp [intOf]
end Go.Proofs.Ytjbdjlgddjmkbaa
