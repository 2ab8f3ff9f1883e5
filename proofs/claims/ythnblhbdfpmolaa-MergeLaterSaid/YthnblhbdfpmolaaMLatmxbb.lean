/- Walks of the reference of layer 41: lists of the same notes. -/
import Derived.Test.YthnblhbdfpmolaaMLatmxba
namespace Go.Proofs.Ythnblhbdfpmolaa
open Go.RowKit
theorem listsN_cons {a b : NoteD} {l m : List NoteD} : listsN (a :: l) (b :: m) = (a.same b && listsN l m) := rfl
set_option maxHeartbeats 1000000 in
theorem rlists (s t : Sl Note) (w : World) (hr : RdNotes (· < w.heap.size) w s) (ht : RdNotes (· < w.heap.size) w t) :
    Calls Try.prog 30 #[.slice s.A s.l.length s.c, .slice t.A t.l.length t.c] w fun e w' => e = .returned (.bool (listsN (s.l.map Note.d) (t.l.map Note.d))) ∧ Below w.heap.size w w' := by
  obtain ⟨A, c, l⟩ := s
  obtain ⟨A', c', m⟩ := t
  have hn := hr.1.len
  have hn' := ht.1.len
  simp only at hn hn'
  have HR := Lib.hid hr
  have HT := Lib.hid ht
  clear hr ht
  simp only
  by_cases he : l.length = m.length
  · have he' : ((l.length : Int) != m.length) = false := by simp; omega
    have HE := Lib.hid he
    clear he
    go_enter Try.func30, Try.ntmps30
    go_wp2_with fail
    go_loopw [5] (fun i wr => ∃ (k : Nat), k ≤ l.length ∧ i = .int .i64 k ∧ Below w.heap.size w wr ∧ listsN (l.map Note.d) (m.map Note.d) = listsN ((l.map Note.d).drop k) ((m.map Note.d).drop k)) (fun i _ => l.length - (intOf i).toNat)
    case atStart => exact ⟨0, by omega, rfl, (by repeat (first | (with_reducible exact Below.refl _ _) | ((with_reducible refine below_setr ?_ ?_); focus (first | (simp; done) | (simp; omega) | omega)) | ((with_reducible refine below_allocr ?_ ?_); focus (first | (simp; done) | (simp; omega) | omega)) | (with_reducible refine Below.drew ?_) | (with_reducible refine below_drewN ?_ _))), by simp⟩
    case round =>
      obtain ⟨k, hk, rfl, hbel, heq⟩ := hrel
      have hhe : w.heap.size ≤ wr.heap.size := hbel.size
      by_cases hlt : k < l.length
      · have hlm : k < m.length := by have := HE.out; omega
        obtain ⟨b, o, rfl, hb, hcl⟩ := HR.out.1.at1 hlt
        obtain ⟨b', o', rfl, hb', hcl'⟩ := HT.out.1.at1 hlm
        obtain ⟨g0, g1, g2, g3, g4⟩ := Cells.c5 (hcl.keep (hbel.block b hb))
        obtain ⟨j0, j1, j2, j3, j4⟩ := Cells.c5 (hcl'.keep (hbel.block b' hb'))
        have hd : (l.map Note.d).drop k = l[k].d :: (l.map Note.d).drop (k + 1) := by rw [List.drop_eq_getElem_cons (by simpa using hlt)]; simp
        have hd' : (m.map Note.d).drop k = m[k].d :: (m.map Note.d).drop (k + 1) := by rw [List.drop_eq_getElem_cons (by simpa using hlm)]; simp
        rw [hd, hd', listsN_cons] at heq
        have hx : l[k] ∈ l := List.getElem_mem hlt
        have hy : m[k] ∈ m := List.getElem_mem hlm
        clear hd hd' hcl hcl'
        generalize l[k] = x at *
        generalize m[k] = y at *
        have HX := Lib.hid (HR.out.2 _ hx)
        have HY := Lib.hid (HT.out.2 _ hy)
        have HQ := Lib.hid heq
        clear hx hy heq
        obtain ⟨xd, xq, ⟨xA, xc, xl⟩, xt, xx⟩ := x
        obtain ⟨yd, yq, ⟨yA, yc, yl⟩, yt, yx⟩ := y
        go_wp2_with fail
        refine wp_region_T (fun w' => (w'.cell? ⟨b, o + k * 5, none⟩ = some (.int .i64 xd) ∧ w'.cell? ⟨b, o + k * 5 + 1, none⟩ = some (.int .i64 xq) ∧ w'.cell? ⟨b, o + k * 5 + 2, none⟩ = some (.slice xA xl.length xc) ∧ w'.cell? ⟨b, o + k * 5 + 3, none⟩ = some (.int .i64 xt) ∧ w'.cell? ⟨b, o + k * 5 + 4, none⟩ = some (.string xx)) ∧ (w'.cell? ⟨b', o' + k * 5, none⟩ = some (.int .i64 yd) ∧ w'.cell? ⟨b', o' + k * 5 + 1, none⟩ = some (.int .i64 yq) ∧ w'.cell? ⟨b', o' + k * 5 + 2, none⟩ = some (.slice yA yl.length yc) ∧ w'.cell? ⟨b', o' + k * 5 + 3, none⟩ = some (.int .i64 yt) ∧ w'.cell? ⟨b', o' + k * 5 + 4, none⟩ = some (.string yx))) (fun _ => false) (by kernel_rfl) ⟨⟨g0, g1, g2, g3, g4⟩, j0, j1, j2, j3, j4⟩ (fun hHeld => ?_)
        refine wpAnyT_take2 (i := 0) (v := ?_) rfl rfl (by kernel_rfl) (by kernel_rfl) (by kernel_rfl) (by kernel_rfl) (fun _ _ _ h => h) (Or.inl ⟨by rfl, ?_⟩) (by first | assumption | trivial) ?_
        rotate_left
        · (intro w hSw; (try dsimp only at hSw); go_simp) <;> (with_reducible rfl)
        simp only [List.setIfInBounds_toArray, List.set_cons_zero, List.set_cons_succ]
        refine wpAnyT_take2 (i := 1) (v := ?_) rfl rfl (by kernel_rfl) (by kernel_rfl) (by kernel_rfl) (by kernel_rfl) (fun _ _ _ h => h) (Or.inl ⟨by rfl, ?_⟩) (by first | assumption | trivial) ?_
        rotate_left
        · (intro w hSw; (try dsimp only at hSw); go_simp) <;> (with_reducible rfl)
        simp only [List.setIfInBounds_toArray, List.set_cons_zero, List.set_cons_succ]
        refine wpAnyT_take2 (i := 2) (v := ?_) rfl rfl (by kernel_rfl) (by kernel_rfl) (by kernel_rfl) (by kernel_rfl) (fun _ _ _ h => h) (Or.inl ⟨by rfl, ?_⟩) (by first | assumption | trivial) ?_
        rotate_left
        · (intro w hSw; (try dsimp only at hSw); go_simp) <;> (with_reducible rfl)
        simp only [List.setIfInBounds_toArray, List.set_cons_zero, List.set_cons_succ]
        refine wpAnyT_take2 (i := 3) (v := ?_) rfl rfl (by kernel_rfl) (by kernel_rfl) (by kernel_rfl) (by kernel_rfl) (fun _ _ _ h => h) (Or.inl ⟨by rfl, ?_⟩) (by first | assumption | trivial) ?_
        rotate_left
        · (intro w hSw; (try dsimp only at hSw); go_simp) <;> (with_reducible rfl)
        simp only [List.setIfInBounds_toArray, List.set_cons_zero, List.set_cons_succ]
        refine wpAnyT_take2 (i := 4) (v := ?_) rfl rfl (by kernel_rfl) (by kernel_rfl) (by kernel_rfl) (by kernel_rfl) (fun _ _ _ h => h) (Or.inl ⟨by rfl, ?_⟩) (by first | assumption | trivial) ?_
        rotate_left
        · (intro w hSw; (try dsimp only at hSw); go_simp) <;> (with_reducible rfl)
        simp only [List.setIfInBounds_toArray, List.set_cons_zero, List.set_cons_succ]
        refine wpAnyT_take2 (i := 5) (v := ?_) rfl rfl (by kernel_rfl) (by kernel_rfl) (by kernel_rfl) (by kernel_rfl) (fun _ _ _ h => h) (Or.inl ⟨by rfl, ?_⟩) (by first | assumption | trivial) ?_
        rotate_left
        · (intro w hSw; (try dsimp only at hSw); go_simp) <;> (with_reducible rfl)
        simp only [List.setIfInBounds_toArray, List.set_cons_zero, List.set_cons_succ]
        refine wpAnyT_take2 (i := 6) (v := ?_) rfl rfl (by kernel_rfl) (by kernel_rfl) (by kernel_rfl) (by kernel_rfl) (fun _ _ _ h => h) (Or.inl ⟨by rfl, ?_⟩) (by first | assumption | trivial) ?_
        rotate_left
        · (intro w hSw; (try dsimp only at hSw); go_simp) <;> (with_reducible rfl)
        simp only [List.setIfInBounds_toArray, List.set_cons_zero, List.set_cons_succ]
        refine wpAnyT_take2 (i := 7) (v := ?_) rfl rfl (by kernel_rfl) (by kernel_rfl) (by kernel_rfl) (by kernel_rfl) (fun _ _ _ h => h) (Or.inl ⟨by rfl, ?_⟩) (by first | assumption | trivial) ?_
        rotate_left
        · (intro w hSw; (try dsimp only at hSw); go_simp) <;> (with_reducible rfl)
        simp only [List.setIfInBounds_toArray, List.set_cons_zero, List.set_cons_succ]
        clear hHeld
        refine wpAnyT_next (i := 8) (by kernel_rfl) rfl ?_
        go_wp2_with fail
        refine (rsame ⟨xd, xq, ⟨xA, xc, xl⟩, xt, xx⟩ ⟨yd, yq, ⟨yA, yc, yl⟩, yt, yx⟩ _ (HX.out.below' (by repeat (first | (with_reducible exact hbel) | (with_reducible exact Below.refl _ _) | ((with_reducible refine below_setr ?_ ?_); focus (first | (simp; done) | (simp; omega) | omega)) | ((with_reducible refine below_allocr ?_ ?_); focus (first | (simp; done) | (simp; omega) | omega)) | (with_reducible refine Below.drew ?_) | (with_reducible refine below_drewN ?_ _) | ((with_reducible apply below_via); focus (with_reducible assumption)))) (Nat.le_refl _)) (HY.out.below' (by repeat (first | (with_reducible exact hbel) | (with_reducible exact Below.refl _ _) | ((with_reducible refine below_setr ?_ ?_); focus (first | (simp; done) | (simp; omega) | omega)) | ((with_reducible refine below_allocr ?_ ?_); focus (first | (simp; done) | (simp; omega) | omega)) | (with_reducible refine Below.drew ?_) | (with_reducible refine below_drewN ?_ _) | ((with_reducible apply below_via); focus (with_reducible assumption)))) (Nat.le_refl _))).mono ?_
        rintro e w1 ⟨rfl, hb1⟩
        have hB1 : Below w.heap.size w w1 := (by repeat (first | (with_reducible exact hbel) | (with_reducible exact Below.refl _ _) | ((with_reducible refine below_setr ?_ ?_); focus (first | (simp; done) | (simp; omega) | omega)) | ((with_reducible refine below_allocr ?_ ?_); focus (first | (simp; done) | (simp; omega) | omega)) | (with_reducible refine Below.drew ?_) | (with_reducible refine below_drewN ?_ _) | ((with_reducible apply below_via); focus (with_reducible assumption))))
        generalize hva : NoteD.same (Note.d ⟨xd, xq, ⟨xA, xc, xl⟩, xt, xx⟩) (Note.d ⟨yd, yq, ⟨yA, yc, yl⟩, yt, yx⟩) = va at *
        have G0 := keep_cell hb1 (show (World.drew _).cell? ⟨b, o + k * 5, none⟩ = _ from g0)
        have G1 := keep_cell hb1 (show (World.drew _).cell? ⟨b, o + k * 5 + 1, none⟩ = _ from g1)
        have G2 := keep_cell hb1 (show (World.drew _).cell? ⟨b, o + k * 5 + 2, none⟩ = _ from g2)
        have G3 := keep_cell hb1 (show (World.drew _).cell? ⟨b, o + k * 5 + 3, none⟩ = _ from g3)
        have G4 := keep_cell hb1 (show (World.drew _).cell? ⟨b, o + k * 5 + 4, none⟩ = _ from g4)
        have J0 := keep_cell hb1 (show (World.drew _).cell? ⟨b', o' + k * 5, none⟩ = _ from j0)
        have J1 := keep_cell hb1 (show (World.drew _).cell? ⟨b', o' + k * 5 + 1, none⟩ = _ from j1)
        have J2 := keep_cell hb1 (show (World.drew _).cell? ⟨b', o' + k * 5 + 2, none⟩ = _ from j2)
        have J3 := keep_cell hb1 (show (World.drew _).cell? ⟨b', o' + k * 5 + 3, none⟩ = _ from j3)
        have J4 := keep_cell hb1 (show (World.drew _).cell? ⟨b', o' + k * 5 + 4, none⟩ = _ from j4)
        clear hb1 g0 g1 g2 g3 g4 j0 j1 j2 j3 j4
        have HVA := Lib.hid hva
        clear hva
        go_wp2_with fail
        have hHeld := And.intro (And.intro G0 (And.intro G1 (And.intro G2 (And.intro G3 G4)))) (And.intro J0 (And.intro J1 (And.intro J2 (And.intro J3 J4))))
        refine ⟨(by first | exact hHeld | exact fun _ => hHeld), ?_⟩
        refine wpAnyT_take2 (i := 9) (v := ?_) rfl rfl (by kernel_rfl) (by kernel_rfl) (by kernel_rfl) (by kernel_rfl) (fun _ _ _ h => h) (Or.inl ⟨by rfl, ?_⟩) (by first | assumption | trivial) ?_
        rotate_left
        · (intro w hSw; (try dsimp only at hSw); go_simp) <;> (with_reducible rfl)
        simp only [List.setIfInBounds_toArray, List.set_cons_zero, List.set_cons_succ]
        refine wpAnyT_done (by kernel_rfl) ?_ _
        clear hHeld G0 G1 G2 G3 G4 J0 J1 J2 J3 J4
        rcases va with _ | _
        · go_wp2_with fail
          go_ret
          exact ⟨ret_bool (by rw [HQ.out]; rfl), (by repeat (first | (with_reducible exact hB1) | (with_reducible exact Below.refl _ _) | ((with_reducible refine below_setr ?_ ?_); focus (first | (simp; done) | (simp; omega) | omega)) | ((with_reducible refine below_allocr ?_ ?_); focus (first | (simp; done) | (simp; omega) | omega)) | (with_reducible refine Below.drew ?_) | (with_reducible refine below_drewN ?_ _) | ((with_reducible apply below_via); focus (with_reducible assumption))))⟩
        · go_wp2_with fail
          go_roundw
          case rel => exact ⟨k + 1, by omega, by go_num, (by repeat (first | (with_reducible exact hB1) | (with_reducible exact Below.refl _ _) | ((with_reducible refine below_setr ?_ ?_); focus (first | (simp; done) | (simp; omega) | omega)) | ((with_reducible refine below_allocr ?_ ?_); focus (first | (simp; done) | (simp; omega) | omega)) | (with_reducible refine Below.drew ?_) | (with_reducible refine below_drewN ?_ _) | ((with_reducible apply below_via); focus (with_reducible assumption)))), by rw [HQ.out, Bool.true_and]⟩
          case measure => simp [intOf]; omega
      · have hv : listsN (l.map Note.d) (m.map Note.d) = true := by
          rw [heq, List.drop_eq_nil_of_le (by simp; omega), List.drop_eq_nil_of_le (by simp; have := HE.out; omega)]; rfl
        have HV := Lib.hid hv
        clear hv heq
        go_wp2_with fail
        go_ret
        exact ⟨ret_bool HV.out.symm, (by repeat (first | (with_reducible exact hbel) | (with_reducible exact Below.refl _ _) | ((with_reducible refine below_setr ?_ ?_); focus (first | (simp; done) | (simp; omega) | omega)) | ((with_reducible refine below_allocr ?_ ?_); focus (first | (simp; done) | (simp; omega) | omega)) | (with_reducible refine Below.drew ?_) | (with_reducible refine below_drewN ?_ _) | ((with_reducible apply below_via); focus (with_reducible assumption))))⟩
  · have he' : ((l.length : Int) != m.length) = true := by simp; omega
    have hv : listsN (l.map Note.d) (m.map Note.d) = false := listsN_len (by simpa using he)
    have HV := Lib.hid hv
    clear hv he
    go_enter Try.func30, Try.ntmps30
    go_wp2_with fail
    go_ret
    exact ⟨ret_bool HV.out.symm, (by repeat (first | (with_reducible exact Below.refl _ _) | ((with_reducible refine below_setr ?_ ?_); focus (first | (simp; done) | (simp; omega) | omega)) | ((with_reducible refine below_allocr ?_ ?_); focus (first | (simp; done) | (simp; omega) | omega)) | (with_reducible refine Below.drew ?_) | (with_reducible refine below_drewN ?_ _)))⟩
end Go.Proofs.Ythnblhbdfpmolaa
