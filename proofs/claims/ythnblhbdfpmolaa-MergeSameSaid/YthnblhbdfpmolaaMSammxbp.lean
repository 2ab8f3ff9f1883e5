/- Walk of the law's has. -/
import Derived.Test.YthnblhbdfpmolaaMSammxbo
import Derived.Test.YthnblhbdfpmolaaMSammxbb
import Derived.Test.YthnblhbdfpmolaaMSammxbc
namespace Go.Proofs.Ythnblhbdfpmolaa
open Go.RowKit
theorem hasN_cons {a n : NoteD} {l : List NoteD} : hasN (a :: l) n = (a.same n || hasN l n) := rfl
set_option maxHeartbeats 1000000 in
theorem lhas (s : Sl Note) (n : Note) (w : World) (hr : RdNotes (· < w.heap.size) w s) (ha : Rd (· < w.heap.size) 1 ienc w n.af) :
    Calls Try.prog 44 #[.slice s.A s.l.length s.c, n.v] w fun e w' => e = .returned (.bool (hasN (s.l.map Note.d) n.d)) ∧ Below w.heap.size w w' := by
  obtain ⟨A, c, l⟩ := s
  obtain ⟨ad, aq, ⟨aA, ac, al⟩, at', ax⟩ := n
  have hn := hr.1.len
  simp only at hn
  have HR := Lib.hid hr
  have HA := Lib.hid ha
  clear hr ha
  simp only [Note.v]
  go_enter Try.func44, Try.ntmps44
  go_wp2_with fail
  go_loopw [5] (fun i wr => ∃ (k : Nat), k ≤ l.length ∧ i = .int .i64 k ∧ Blk wr w.heap.size 61 #[.int .i64 ad, .int .i64 aq, .slice aA al.length ac, .int .i64 at', .string ax] ∧ Below w.heap.size w wr ∧ hasN (l.map Note.d) (Note.d ⟨ad, aq, ⟨aA, ac, al⟩, at', ax⟩) = hasN ((l.map Note.d).drop k) (Note.d ⟨ad, aq, ⟨aA, ac, al⟩, at', ax⟩)) (fun i _ => l.length - (intOf i).toNat)
  case atStart => exact ⟨0, by omega, rfl, Blk.new _ _ _, (by repeat (first | (with_reducible exact Below.refl _ _) | ((with_reducible refine below_setr ?_ ?_); focus (first | (simp; done) | (simp; omega) | omega)) | ((with_reducible refine below_allocr ?_ ?_); focus (first | (simp; done) | (simp; omega) | omega)) | (with_reducible refine Below.drew ?_) | (with_reducible refine below_drewN ?_ _))), by simp⟩
  case round =>
    obtain ⟨k, hk, rfl, hblk, hbel, heq⟩ := hrel
    have hhe : w.heap.size ≤ wr.heap.size := hbel.size
    obtain ⟨a0, a1, a2, a3, a4, af, az⟩ := hblk.b5
    have B_a := Lib.hid hblk
    clear hblk
    by_cases hlt : k < l.length
    · obtain ⟨b, o, rfl, hb, hcl⟩ := HR.out.1.at1 hlt
      obtain ⟨g0, g1, g2, g3, g4⟩ := Cells.c5 (hcl.keep (hbel.block b hb))
      have hd : (l.map Note.d).drop k = l[k].d :: (l.map Note.d).drop (k + 1) := by rw [List.drop_eq_getElem_cons (by simpa using hlt)]; simp
      rw [hd, hasN_cons] at heq
      have hx : l[k] ∈ l := List.getElem_mem hlt
      clear hd hcl
      generalize l[k] = x at *
      have HX := Lib.hid (HR.out.2 _ hx)
      have HQ := Lib.hid heq
      clear hx heq
      obtain ⟨xd, xq, ⟨xA, xc, xl⟩, xt, xx⟩ := x
      go_wp2_with fail
      refine wp_region_T (fun w' => (w'.cell? ⟨b, o + k * 5, none⟩ = some (.int .i64 xd) ∧ w'.cell? ⟨b, o + k * 5 + 1, none⟩ = some (.int .i64 xq) ∧ w'.cell? ⟨b, o + k * 5 + 2, none⟩ = some (.slice xA xl.length xc) ∧ w'.cell? ⟨b, o + k * 5 + 3, none⟩ = some (.int .i64 xt) ∧ w'.cell? ⟨b, o + k * 5 + 4, none⟩ = some (.string xx)) ∧ (w'.cell? ⟨w.heap.size, 0, none⟩ = some (.int .i64 ad) ∧ w'.cell? ⟨w.heap.size, 1, none⟩ = some (.int .i64 aq) ∧ w'.cell? ⟨w.heap.size, 2, none⟩ = some (.slice aA al.length ac) ∧ w'.cell? ⟨w.heap.size, 3, none⟩ = some (.int .i64 at') ∧ w'.cell? ⟨w.heap.size, 4, none⟩ = some (.string ax))) (fun _ => false) (by kernel_rfl) ⟨⟨g0, g1, g2, g3, g4⟩, a0, a1, a2, a3, a4⟩ (fun hHeld => ?_)
      refine wpAnyT_take2 (i := 0) (v := ?_) rfl rfl (by kernel_rfl) (by kernel_rfl) (by kernel_rfl) (by kernel_rfl) (fun _ _ _ h => h) (Or.inl ⟨by rfl, ?_⟩) (by first | assumption | trivial) ?_
      rotate_left
      · (intro w hSw; (try dsimp only at hSw); go_simp) <;> (with_reducible rfl)
      simp only [List.setIfInBounds_toArray, List.set_cons_zero, List.set_cons_succ]
      refine wpAnyT_take2 (i := 1) (v := ?_) rfl rfl (by kernel_rfl) (by kernel_rfl) (by kernel_rfl) (by kernel_rfl) (fun _ _ _ h => h) (Or.inl ⟨by rfl, ?_⟩) (by first | assumption | trivial) ?_
      rotate_left
      · (intro w hSw; (try dsimp only at hSw); go_simp) <;> (with_reducible rfl)
      simp only [List.setIfInBounds_toArray, List.set_cons_zero, List.set_cons_succ]
      refine wpAnyT_take2 (i := 2) (v := ?_) rfl rfl (by kernel_rfl) (by kernel_rfl) (by kernel_rfl) (by kernel_rfl) (fun _ _ _ h => h) (Or.inl ⟨by rfl, ?_⟩) (by first | assumption | trivial) ?_
      rotate_left
      · (intro w hSw; (try dsimp only at hSw); go_simp) <;> (with_reducible rfl)
      simp only [List.setIfInBounds_toArray, List.set_cons_zero, List.set_cons_succ]
      refine wpAnyT_take2 (i := 3) (v := ?_) rfl rfl (by kernel_rfl) (by kernel_rfl) (by kernel_rfl) (by kernel_rfl) (fun _ _ _ h => h) (Or.inl ⟨by rfl, ?_⟩) (by first | assumption | trivial) ?_
      rotate_left
      · (intro w hSw; (try dsimp only at hSw); go_simp) <;> (with_reducible rfl)
      simp only [List.setIfInBounds_toArray, List.set_cons_zero, List.set_cons_succ]
      refine wpAnyT_take2 (i := 4) (v := ?_) rfl rfl (by kernel_rfl) (by kernel_rfl) (by kernel_rfl) (by kernel_rfl) (fun _ _ _ h => h) (Or.inl ⟨by rfl, ?_⟩) (by first | assumption | trivial) ?_
      rotate_left
      · (intro w hSw; (try dsimp only at hSw); go_simp) <;> (with_reducible rfl)
      simp only [List.setIfInBounds_toArray, List.set_cons_zero, List.set_cons_succ]
      clear hHeld
      refine wpAnyT_next (i := 5) (by kernel_rfl) rfl ?_
      go_wp2_with fail
      refine (rsame ⟨xd, xq, ⟨xA, xc, xl⟩, xt, xx⟩ ⟨ad, aq, ⟨aA, ac, al⟩, at', ax⟩ _ (HX.out.below' (by repeat (first | (with_reducible exact hbel) | (with_reducible exact Below.refl _ _) | ((with_reducible refine below_setr ?_ ?_); focus (first | (simp; done) | (simp; omega) | omega)) | ((with_reducible refine below_allocr ?_ ?_); focus (first | (simp; done) | (simp; omega) | omega)) | (with_reducible refine Below.drew ?_) | (with_reducible refine below_drewN ?_ _) | ((with_reducible apply below_via); focus (with_reducible assumption)))) (Nat.le_refl _)) (HA.out.below' (by repeat (first | (with_reducible exact hbel) | (with_reducible exact Below.refl _ _) | ((with_reducible refine below_setr ?_ ?_); focus (first | (simp; done) | (simp; omega) | omega)) | ((with_reducible refine below_allocr ?_ ?_); focus (first | (simp; done) | (simp; omega) | omega)) | (with_reducible refine Below.drew ?_) | (with_reducible refine below_drewN ?_ _) | ((with_reducible apply below_via); focus (with_reducible assumption)))) (Nat.le_refl _))).mono ?_
      rintro e w1 ⟨rfl, hb1⟩
      clear a0 a1 a2 a3 a4 af
      have K_a : Blk _ (w.heap.size) 61 #[.int .i64 ad, .int .i64 aq, .slice aA al.length ac, .int .i64 at', .string ax] := blk_later hb1 (by simp [hp_past, hp_at, hp_other, hp_same, hp_drew, hp_drewN, B_a.out.eq, B_a.out.lt, hp_same B_a.out.eq])
      obtain ⟨a0, a1, a2, a3, a4, af, az⟩ := Blk.b5 K_a
      have B_a := Lib.hid K_a
      clear K_a
      have hB1 : Below w.heap.size w w1 := (by repeat (first | (with_reducible exact hbel) | (with_reducible exact Below.refl _ _) | ((with_reducible refine below_setr ?_ ?_); focus (first | (simp; done) | (simp; omega) | omega)) | ((with_reducible refine below_allocr ?_ ?_); focus (first | (simp; done) | (simp; omega) | omega)) | (with_reducible refine Below.drew ?_) | (with_reducible refine below_drewN ?_ _) | ((with_reducible apply below_via); focus (with_reducible assumption))))
      generalize hva : NoteD.same (Note.d ⟨xd, xq, ⟨xA, xc, xl⟩, xt, xx⟩) (Note.d ⟨ad, aq, ⟨aA, ac, al⟩, at', ax⟩) = va at *
      have G0 := keep_cell hb1 (show (World.drew _).cell? ⟨b, o + k * 5, none⟩ = _ from g0)
      have G1 := keep_cell hb1 (show (World.drew _).cell? ⟨b, o + k * 5 + 1, none⟩ = _ from g1)
      have G2 := keep_cell hb1 (show (World.drew _).cell? ⟨b, o + k * 5 + 2, none⟩ = _ from g2)
      have G3 := keep_cell hb1 (show (World.drew _).cell? ⟨b, o + k * 5 + 3, none⟩ = _ from g3)
      have G4 := keep_cell hb1 (show (World.drew _).cell? ⟨b, o + k * 5 + 4, none⟩ = _ from g4)
      clear hb1 g0 g1 g2 g3 g4
      have HVA := Lib.hid hva
      clear hva
      go_wp2_with fail
      have hHeld := And.intro (And.intro G0 (And.intro G1 (And.intro G2 (And.intro G3 G4)))) (And.intro a0 (And.intro a1 (And.intro a2 (And.intro a3 a4))))
      refine ⟨(by first | exact hHeld | exact fun _ => hHeld), ?_⟩
      refine wpAnyT_done (by kernel_rfl) ?_ _
      clear hHeld G0 G1 G2 G3 G4
      rcases va with _ | _
      · go_wp2_with fail
        go_roundw
        case rel => exact ⟨k + 1, by omega, by go_num, B_a.out, (by repeat (first | (with_reducible exact hB1) | (with_reducible exact Below.refl _ _) | ((with_reducible refine below_setr ?_ ?_); focus (first | (simp; done) | (simp; omega) | omega)) | ((with_reducible refine below_allocr ?_ ?_); focus (first | (simp; done) | (simp; omega) | omega)) | (with_reducible refine Below.drew ?_) | (with_reducible refine below_drewN ?_ _) | ((with_reducible apply below_via); focus (with_reducible assumption)))), by rw [HQ.out, Bool.false_or]⟩
        case measure => simp [intOf]; omega
      · go_wp2_with fail
        go_ret
        exact ⟨ret_bool (by rw [HQ.out]; rfl), (by repeat (first | (with_reducible exact hB1) | (with_reducible exact Below.refl _ _) | ((with_reducible refine below_setr ?_ ?_); focus (first | (simp; done) | (simp; omega) | omega)) | ((with_reducible refine below_allocr ?_ ?_); focus (first | (simp; done) | (simp; omega) | omega)) | (with_reducible refine Below.drew ?_) | (with_reducible refine below_drewN ?_ _) | ((with_reducible apply below_via); focus (with_reducible assumption))))⟩
    · have hv : hasN (l.map Note.d) (Note.d ⟨ad, aq, ⟨aA, ac, al⟩, at', ax⟩) = false := by
        rw [heq, List.drop_eq_nil_of_le (by simp; omega)]; rfl
      have HV := Lib.hid hv
      clear hv heq
      go_wp2_with fail
      go_ret
      exact ⟨ret_bool HV.out.symm, (by repeat (first | (with_reducible exact hbel) | (with_reducible exact Below.refl _ _) | ((with_reducible refine below_setr ?_ ?_); focus (first | (simp; done) | (simp; omega) | omega)) | ((with_reducible refine below_allocr ?_ ?_); focus (first | (simp; done) | (simp; omega) | omega)) | (with_reducible refine Below.drew ?_) | (with_reducible refine below_drewN ?_ _) | ((with_reducible apply below_via); focus (with_reducible assumption))))⟩
end Go.Proofs.Ythnblhbdfpmolaa
