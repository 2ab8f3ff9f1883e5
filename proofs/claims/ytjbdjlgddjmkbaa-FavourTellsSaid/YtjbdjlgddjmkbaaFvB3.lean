/- Walk: Bear, where its arguments are right. -/
import Derived.Test.YtjbdjlgddjmkbaaFvB2
namespace Go.Proofs.Ytjbdjlgddjmkbaa
open Go.RowKit
theorem cutT {G : Prop} (T : Prop) (main : T → G) (fin : T) : G := main fin
theorem bearPost_ok {L : Sl Bal} {s : Sl Int} {t : Int} {w w' : World} {e : Ending} {A : Option Addr} {c : Nat} {b : Int} {ou : List Bal} (h : fineB L.l s.l t = true) (hv : ou.all validB = true) (hb : bearerF L.l s.l = b) (ho : outF L.l s.l t = ou)
    (he : e = .returned (.tuple #[.slice A ou.length c, .int .i64 b, .int .i64 0])) (hr : Rd (fun b => w.heap.size ≤ b ∧ b < w'.heap.size) 2 Bal.enc w' ⟨A, c, ou⟩) (hbl : Below w.heap.size w w') : BearPost L s t w e w' := by
  have hf : bearF L.l s.l t = (ou, b, 0) := by unfold bearF; rw [h, ho, hv, hb]; rfl
  refine ⟨A, c, ?_, ?_, hbl⟩
  · rw [he, hf]
  · rw [hf]; exact hr
theorem bearPost_full {L : Sl Bal} {s : Sl Int} {t : Int} {w w' : World} {e : Ending} {ou : List Bal} (h : fineB L.l s.l t = true) (hv : ou.all validB = false) (ho : outF L.l s.l t = ou)
    (he : e = .returned (.tuple #[.slice none 0 0, .int .i64 0, .int .i64 6])) (hbl : Below w.heap.size w w') : BearPost L s t w e w' := by
  have hf : bearF L.l s.l t = ([], 0, 6) := by unfold bearF; rw [h, ho, hv]; rfl
  refine ⟨none, 0, ?_, ?_, hbl⟩
  · rw [he, hf]; rfl
  · rw [hf]; exact Rd.nil _ _ _ _
def BeJ (L : Sl Bal) (w : World) (g c : Nat) (o : List Int) (gz : Nat) (W : World) : Prop :=
  Blk W w.heap.size 22 #[.slice L.A L.l.length L.c] ∧ Own (w.heap.size + 1) 3 1 ienc W ⟨some ⟨g, 0, none⟩, c, o⟩ ∧ Below w.heap.size w W ∧ Blk W gz 3 #[.int .i64 0] ∧ w.heap.size + 1 ≤ gz ∧ gz ≠ g
set_option maxRecDepth 20000 in
set_option maxHeartbeats 4000000 in
theorem bear_yes (L : Sl Bal) (s : Sl Int) (t : Int) (w : World) (hL : Rd (· < w.heap.size) 2 Bal.enc w L) (hr : Rd (· < w.heap.size) 1 ienc w s) (hl : L.l.length ≤ 1000) (hsl : s.l.length ≤ 20) (hf : fineB L.l s.l t = true) :
    Calls Try.prog 10 #[.slice L.A L.l.length L.c, .slice s.A s.l.length s.c, .int .i64 t] w (BearPost L s t w) := by
  have HF := Lib.hid hf
  obtain ⟨h1, h2, ht0, ht1⟩ := fineB_iff.1 hf
  have HRL := Lib.hid h1
  have HRI := Lib.hid h2
  obtain ⟨r1, r2, r3, r4⟩ := ridesL_iff.1 h2
  have HND := Lib.hid r3
  clear h1 h2 hf r2 r3 r4
  have HL := Lib.hid hL
  have HR := Lib.hid hr
  clear hL hr
  go_enter Try.func10, Try.ntmps10
  go_wp2_with fail
  refine (right_any L _ (HL.out.later (by repeat (first | (with_reducible exact Below.refl _ _) | ((with_reducible refine below_setr ?_ ?_); focus (first | (simp; done) | (simp; omega) | omega)) | ((with_reducible refine below_allocr ?_ ?_); focus (first | (simp; done) | (simp; omega) | omega)) | (with_reducible refine Below.drew ?_) | (with_reducible refine below_drewN ?_ _) | ((with_reducible apply below_via); focus (with_reducible assumption)))) (Nat.le_refl _)) (by omega)).mono ?_
  rintro e w1 ⟨rfl, hb1⟩
  have K_a : Blk _ (w.heap.size) 22 #[.slice L.A L.l.length L.c] := blk_later hb1 (by simp [hp_past, hp_at, hp_other, hp_same, hp_drew, hp_drewN])
  obtain ⟨a0, af, az⟩ := Blk.b1 K_a
  have B_a := Lib.hid K_a
  clear K_a
  have hB1 : Below w.heap.size w w1 := (by repeat (first | (with_reducible exact Below.refl _ _) | ((with_reducible refine below_setr ?_ ?_); focus (first | (simp; done) | (simp; omega) | omega)) | ((with_reducible refine below_allocr ?_ ?_); focus (first | (simp; done) | (simp; omega) | omega)) | (with_reducible refine Below.drew ?_) | (with_reducible refine below_drewN ?_ _) | ((with_reducible apply below_via); focus (with_reducible assumption))))
  clear hb1
  rw [HRL.out]
  go_wp2_with fail
  refine (rides_any s _ (HR.out.later hB1 (Nat.le_refl _))).mono ?_
  rintro e w2 ⟨rfl, hb2⟩
  clear a0 af
  have K_a : Blk _ (w.heap.size) 22 #[.slice L.A L.l.length L.c] := blk_later hb2 (by simp [hp_past, hp_at, hp_other, hp_same, hp_drew, hp_drewN, B_a.out.eq, B_a.out.lt, hp_same B_a.out.eq])
  obtain ⟨a0, af, az⟩ := Blk.b1 K_a
  have B_a := Lib.hid K_a
  clear K_a
  have hB2 : Below w.heap.size w w2 := (by repeat (first | (with_reducible exact hB1) | (with_reducible exact Below.refl _ _) | ((with_reducible refine below_setr ?_ ?_); focus (first | (simp; done) | (simp; omega) | omega)) | ((with_reducible refine below_allocr ?_ ?_); focus (first | (simp; done) | (simp; omega) | omega)) | (with_reducible refine Below.drew ?_) | (with_reducible refine below_drewN ?_ _) | ((with_reducible apply below_via); focus (with_reducible assumption))))
  clear hb2
  rw [HRI.out]
  have z2 := az
  go_wp2_with fail
  refine (clone_int s _ (HR.out.later hB2 (Nat.le_refl _)) (by omega)).mono ?_
  rintro e w3 ⟨A, c, rfl, hown, hb3⟩
  clear a0 af
  have K_a : Blk _ (w.heap.size) 22 #[.slice L.A L.l.length L.c] := blk_later hb3 (by simp [hp_past, hp_at, hp_other, hp_same, hp_drew, hp_drewN, B_a.out.eq, B_a.out.lt, hp_same B_a.out.eq])
  obtain ⟨a0, af, az⟩ := Blk.b1 K_a
  have B_a := Lib.hid K_a
  clear K_a
  have hB3 : Below w.heap.size w w3 := (by repeat (first | (with_reducible exact hB2) | (with_reducible exact Below.refl _ _) | ((with_reducible refine below_setr ?_ ?_); focus (first | (simp; done) | (simp; omega) | omega)) | ((with_reducible refine below_allocr ?_ ?_); focus (first | (simp; done) | (simp; omega) | omega)) | (with_reducible refine Below.drew ?_) | (with_reducible refine below_drewN ?_ _) | ((with_reducible apply below_via); focus (with_reducible assumption))))
  clear hb3
  obtain ⟨g, rfl⟩ : ∃ g, A = some ⟨g, 0, none⟩ := by
    rcases hown.form with ⟨_, _, h⟩ | ⟨g, hA, _⟩
    · simp only at h; rw [h] at r1; simp at r1
    · exact ⟨g, hA⟩
  have HO3 := Lib.hid (hown.mono (base' := w.heap.size + 1) (by omega))
  have hnd := HND.out
  have hpm := List.mergeSort_perm s.l (fun x y => decide (x ≤ y))
  have hlt := mergeSort_lt hnd
  have hso := sort_own (w.heap.size + 1) g c s.l w3 HO3.out (by omega) (by omega)
  have hml := hpm.length_eq
  generalize s.l.mergeSort (fun x y => decide (x ≤ y)) = o1 at *
  have HPM := Lib.hid hpm
  have HLT := Lib.hid hlt
  clear hown hnd hpm hlt
  generalize hn : s.l.length = n at *
  have HN := Lib.hid hn
  clear hn
  go_wp2_with fail
  refine hso.mono ?_
  clear hso
  rintro e w4 ⟨rfl, ho4, hb4⟩
  have B_a4 : Blk w4 w.heap.size 22 #[.slice L.A L.l.length L.c] := B_a.out.below hb4 (by omega)
  have z4 := hb4.size
  have hB4 : Below w.heap.size w w4 := hB3.trans (hb4.mono (by omega))
  have hst := stable_any (w.heap.size + 1) L w.heap.size g c o1 w4 ho4 ((HL.out.below hB4).mono (fun b hb => by omega)) (by omega) (B_a4.cell 0) (by omega) HLT.out (by omega) (by omega)
  have hol : (ordF L.l o1).length = n := by rw [(ordF_perm L.l o1).length_eq, hml]
  have hop : (ordF L.l o1).Perm s.l := (ordF_perm L.l o1).trans HPM.out
  have hoo : OrdL L.l (ordF L.l o1) := ordF_ord (HPM.out.nodup_iff.2 HND.out)
  rw [hml] at hst
  generalize ordF L.l o1 = o at *
  have HOP := Lib.hid hop
  have HOO := Lib.hid hoo
  have HML := Lib.hid hml
  clear ho4 hop hoo hml a0 af B_a hb4
  go_wp2_with fail
  refine hst.mono ?_
  clear hst
  rintro e w5 ⟨rfl, ho5, hb5⟩
  have B_a5 : Blk w5 w.heap.size 22 #[.slice L.A L.l.length L.c] := B_a4.below hb5 (by omega)
  have z5 := hb5.size
  have hB5 : Below w.heap.size w w5 := hB4.trans (hb5.mono (by omega))
  have HO5 := Lib.hid ho5
  have B_a := Lib.hid B_a5
  clear ho5 hb5 B_a4 B_a5
  obtain ⟨m, rfl⟩ : ∃ m, n = m + 1 := ⟨n - 1, by omega⟩
  obtain ⟨z, hz⟩ : ∃ z, o.getLast? = some z := by
    rcases List.eq_nil_or_concat o with h | ⟨q, y, h⟩
    · rw [h] at hol; simp at hol
    · exact ⟨y, by rw [h, List.concat_eq_append]; simp⟩
  have hzm : o[m]? = some z := by rw [← hz, List.getLast?_eq_getElem?, hol]; rfl
  have HZ := Lib.hid hz
  have HOL := Lib.hid hol
  have c1 : w5.cell? ⟨g, m, none⟩ = some (.int .i64 z) := own_celli HO5.out hzm
  have c0 : w5.cell? ⟨w.heap.size, 0, none⟩ = some (.slice L.A L.l.length L.c) := B_a.out.cell 0
  have hm1 : ((m + 1 : Nat) : Int) - 1 = m := by omega
  have hm2 : IntKind.i64.wrap (m : Int) = m := by rw [IntKind.wrap_i64]; omega
  have hm3 : (m : Int) + 1 - 1 = m := by omega
  have hm4 : (m : Int) < (m : Int) + 1 := by omega
  have hm5 : (0 : Int) ≤ (m : Int) := by omega
  clear hz hzm hol
  go_wp2_with fail
  have hbg : w.heap.size + 1 ≤ g := by
    rcases HO5.out.form with ⟨h0, _⟩ | ⟨g', h0, h1, _⟩
    · cases h0
    · injection h0 with h0; injection h0 with h0; omega
  refine wp_region_T (fun w' => w'.cell? ⟨w.heap.size, 0, none⟩ = some (.slice L.A L.l.length L.c) ∧ w'.cell? ⟨g, m, none⟩ = some (.int .i64 z)) (fun _ => false) (by kernel_rfl) ⟨c0, c1⟩ (fun hHeld => ?_)
  refine wpAnyT_take2 (i := 0) (v := ?_) rfl rfl (by kernel_rfl) (by kernel_rfl) (by kernel_rfl) (by kernel_rfl) (fun _ _ _ h => h) (Or.inl ⟨by rfl, ?_⟩) (by first | assumption | trivial) ?_
  rotate_left
  · (intro w hSw; (try dsimp only at hSw); go_simp) <;> (with_reducible rfl)
  simp only [List.setIfInBounds_toArray, List.set_cons_zero, List.set_cons_succ]
  refine wpAnyT_take2 (i := 1) (v := ?_) rfl rfl (by kernel_rfl) (by kernel_rfl) (by kernel_rfl) (by kernel_rfl) (fun _ _ _ h => h) (Or.inl ⟨by rfl, ?_⟩) (by first | assumption | trivial) ?_
  rotate_left
  · (intro w hSw; (try dsimp only at hSw); go_simp) <;> (with_reducible rfl)
  simp only [List.setIfInBounds_toArray, List.set_cons_zero, List.set_cons_succ]
  refine wpAnyT_take2 (i := 2) (v := ?_) rfl rfl (by kernel_rfl) (by kernel_rfl) (by kernel_rfl) (by kernel_rfl) (fun _ _ _ h => h) (Or.inl ⟨by rfl, ?_⟩) (by first | assumption | trivial) ?_
  rotate_left
  · (intro w hSw; (try dsimp only at hSw); go_simp) <;> (with_reducible rfl)
  simp only [List.setIfInBounds_toArray, List.set_cons_zero, List.set_cons_succ]
  refine wpAnyT_take2 (i := 3) (v := ?_) rfl rfl (by kernel_rfl) (by kernel_rfl) (by kernel_rfl) (by kernel_rfl) (fun _ _ _ h => h) (Or.inl ⟨by rfl, ?_⟩) (by first | assumption | trivial) ?_
  rotate_left
  · (intro w hSw; (try dsimp only at hSw); go_simp) <;> (with_reducible rfl)
  simp only [List.setIfInBounds_toArray, List.set_cons_zero, List.set_cons_succ]
  refine wpAnyT_take2 (i := 4) (v := ?_) rfl rfl (by kernel_rfl) (by kernel_rfl) (by kernel_rfl) (by kernel_rfl) (fun _ _ _ h => h) (Or.inl ⟨by rfl, ?_⟩) (by first | assumption | trivial) ?_
  rotate_left
  · (intro w hSw; (try dsimp only at hSw); go_simp) <;> (with_reducible rfl)
  simp only [List.setIfInBounds_toArray, List.set_cons_zero, List.set_cons_succ]
  refine wpAnyT_take2 (i := 5) (v := ?_) rfl rfl (by kernel_rfl) (by kernel_rfl) (by kernel_rfl) (by kernel_rfl) (fun _ _ _ h => h) (Or.inl ⟨by rfl, ?_⟩) (by first | assumption | trivial) ?_
  rotate_left
  · (intro w hSw; (try dsimp only at hSw); go_simp) <;> (with_reducible rfl)
  simp only [List.setIfInBounds_toArray, List.set_cons_zero, List.set_cons_succ]
  refine wpAnyT_take2 (i := 6) (v := ?_) rfl rfl (by kernel_rfl) (by kernel_rfl) (by kernel_rfl) (by kernel_rfl) (fun _ _ _ h => h) (Or.inl ⟨by rfl, ?_⟩) (by first | assumption | trivial) ?_
  rotate_left
  · (intro w hSw; (try dsimp only at hSw); go_simp) <;> (with_reducible rfl)
  simp only [List.setIfInBounds_toArray, List.set_cons_zero, List.set_cons_succ]
  clear hHeld
  have FB := Lib.hid hB5
  have hgl : g < w5.heap.size := HO5.out.bound g rfl
  clear hB4 hB3 hB2 hB1 hB5 c0 c1
  apply cutT
  · intro fin
    refine wpAnyT_two (i := 7) (j := 8) (by kernel_rfl) rfl rfl ?_ ?_
    · skip
      go_wp2_with fail
      refine (of_any L z _ (HL.out.later (by repeat (first | (with_reducible exact FB.out) | (with_reducible exact Below.refl _ _) | ((with_reducible refine below_setr ?_ ?_); focus (first | (simp; done) | (simp; omega) | omega)) | ((with_reducible refine below_allocr ?_ ?_); focus (first | (simp; done) | (simp; omega) | omega)) | (with_reducible refine Below.drew ?_) | (with_reducible refine below_drewN ?_ _) | ((with_reducible apply below_via); focus (with_reducible assumption)))) (Nat.le_refl _))).mono ?_
      rintro e w6 ⟨rfl, hb6⟩
      have hb6' : Below w5.heap.size w5 w6 := (Below.drew (Below.refl w5.heap.size w5)).trans hb6
      have z6 := hb6'.size
      have FA6 := Lib.hid (B_a.out.below hb6' B_a.out.lt)
      have FO6 := Lib.hid (HO5.out.below hb6')
      have FB6 := Lib.hid (below_via hb6' FB.out)
      clear hb6 hb6'
      go_wp2_with fail
      refine And.intro ?_ ?_
      · first
        | exact ⟨FA6.out.cell 0, own_celli FO6.out (by rw [← HZ.out, List.getLast?_eq_getElem?, HOL.out]; rfl)⟩
        | exact fun _ => ⟨FA6.out.cell 0, own_celli FO6.out (by rw [← HZ.out, List.getLast?_eq_getElem?, HOL.out]; rfl)⟩
      refine wpAnyT_next (i := 8) (by kernel_rfl) rfl ?_
      go_wp2_with fail
      obtain ⟨gz, hgz⟩ : ∃ g, g = w6.heap.size := ⟨_, rfl⟩
      obtain ⟨W, hW⟩ : ∃ x, x = w6.alloc (.cells #[.int .i64 0] 3) := ⟨_, rfl⟩
      have ALL : Hid (BeJ L w g c o gz W) := Lib.hid (by
        rw [hW, hgz]
        exact ⟨FA6.out.alloc _, FO6.out.alloc _, Below.alloc FB6.out (by omega) _, Blk.new _ _ _, by omega, by omega⟩)
      rw [← hW, ← hgz]
      refine And.intro ?_ ?_
      · first
        | exact ⟨ALL.out.1.cell 0, own_celli ALL.out.2.1 (by rw [← HZ.out, List.getLast?_eq_getElem?, HOL.out]; rfl)⟩
        | exact fun _ => ⟨ALL.out.1.cell 0, own_celli ALL.out.2.1 (by rw [← HZ.out, List.getLast?_eq_getElem?, HOL.out]; rfl)⟩
      clear hW hgz
      revert ALL
      revert W
      revert gz
      exact fin
    · go_wp2_with fail
      obtain ⟨gz, hgz⟩ : ∃ g, g = w5.heap.size := ⟨_, rfl⟩
      obtain ⟨W, hW⟩ : ∃ x, x = w5.drew.alloc (.cells #[.int .i64 0] 3) := ⟨_, rfl⟩
      have ALL0 : Hid (BeJ L w g c o gz W) := Lib.hid (by
        rw [hW, hgz]
        exact ⟨B_a.out.drew.alloc _, HO5.out.drew.alloc _, Below.alloc (Below.drew FB.out) (by show _ ≤ w5.heap.size; omega) _, Blk.new' rfl, by omega, by omega⟩)
      have e2 : (w5.alloc (.cells #[.int .i64 0] 3)).drew = W := hW.symm
      rw [e2, ← hgz]
      clear e2
      refine And.intro ?_ ?_
      · first
        | exact ⟨ALL0.out.1.cell 0, own_celli ALL0.out.2.1 (by rw [← HZ.out, List.getLast?_eq_getElem?, HOL.out]; rfl)⟩
        | exact fun _ => ⟨ALL0.out.1.cell 0, own_celli ALL0.out.2.1 (by rw [← HZ.out, List.getLast?_eq_getElem?, HOL.out]; rfl)⟩
      clear hW hgz
      have FBW : Below w.heap.size w W := ALL0.out.2.2.1
      refine wpAnyT_next (i := 7) (by kernel_rfl) rfl ?_
      go_wp2_with fail
      refine (of_any L z _ (HL.out.later FBW (Nat.le_refl _))).mono ?_
      rintro e w6 ⟨rfl, hb6⟩
      have ALL : Hid (BeJ L w g c o gz w6) := Lib.hid ⟨ALL0.out.1.below hb6 ALL0.out.1.lt, ALL0.out.2.1.below hb6, below_via hb6 ALL0.out.2.2.1, ALL0.out.2.2.2.1.below hb6 ALL0.out.2.2.2.1.lt, ALL0.out.2.2.2.2⟩
      clear hb6 ALL0
      go_wp2_with fail
      refine And.intro ?_ ?_
      · first
        | exact ⟨ALL.out.1.cell 0, own_celli ALL.out.2.1 (by rw [← HZ.out, List.getLast?_eq_getElem?, HOL.out]; rfl)⟩
        | exact fun _ => ⟨ALL.out.1.cell 0, own_celli ALL.out.2.1 (by rw [← HZ.out, List.getLast?_eq_getElem?, HOL.out]; rfl)⟩
      revert ALL
      revert w6
      revert gz
      exact fin
  · intro gz W FJ
    obtain ⟨f1, f2, f3, f4, hz1, hz2⟩ := FJ.out
    have hfz := f4.frozen
    have hz0 : W.cell? ⟨gz, 0, none⟩ = some (.int .i64 0) := f4.cell 0
    have FO := Lib.hid f2
    have FA := Lib.hid f1
    have FBB := Lib.hid f3
    have FZ := Lib.hid f4
    clear FJ B_a HO5 FB f1 f2 f3 f4
    refine wpAnyT_next (i := 9) (by kernel_rfl) rfl ?_
    go_wp2_with fail
    refine ⟨(by first | exact fun _ => ⟨(Blk.farr (p := ⟨gz, 0, none⟩) (by simp; omega) FA.out).cell 0, own_celli (FO.out.other (fun g' h => by cases h; simp; omega) _) (by rw [← HZ.out, List.getLast?_eq_getElem?, HOL.out]; rfl)⟩ | exact ⟨(Blk.farr (p := ⟨gz, 0, none⟩) (by simp; omega) FA.out).cell 0, own_celli (FO.out.other (fun g' h => by cases h; simp; omega) _) (by rw [← HZ.out, List.getLast?_eq_getElem?, HOL.out]; rfl)⟩), ?_⟩
    refine wpAnyT_done (by kernel_rfl) ?_ _
    obtain ⟨W2, hW2⟩ : ∃ x, x = W.setCell ⟨gz, 0, none⟩ (.int .i64 (ofL z L.l)) := ⟨_, rfl⟩
    have FA2 : Hid (Blk W2 w.heap.size 22 #[.slice L.A L.l.length L.c]) := Lib.hid (by rw [hW2]; exact Blk.farr (by simp; omega) FA.out)
    have FO2 : Hid (Own (w.heap.size + 1) 3 1 ienc W2 ⟨some ⟨g, 0, none⟩, c, o⟩) := Lib.hid (by rw [hW2]; exact FO.out.other (fun g' h => by cases h; simp; omega) _)
    have FZ2 : Hid (Blk W2 gz 3 #[.int .i64 (ofL z L.l)]) := Lib.hid (by rw [hW2]; simpa using FZ.out.set_ 0 (.int .i64 (ofL z L.l)))
    have FB2 : Hid (Below w.heap.size w W2) := Lib.hid (by rw [hW2]; exact FBB.out.setCell (by simp; omega) _)
    rw [← hW2]
    clear FA FO FZ FBB hW2 hfz hz0
    have hc0 := FA2.out.cell 0
    have hc1 := FZ2.out.cell 0
    have hix := idxI ⟨some ⟨g, 0, none⟩, c, o⟩ (fun x => ofL x L.l == ofL z L.l) w.heap.size gz W2 ((FO2.out.rd ienc_k).mono (fun b hb => hb.2)) (fun V x hV => bear2_any L x (ofL z L.l) w.heap.size gz V ((HL.out.below FB2.out).later (Below.refl _ _) (by have := FB2.out.size; omega) |>.later hV (Nat.le_refl _)) (keep_cell hV hc0) (keep_cell hV hc1))
    rcases idxP_ge (fun x => ofL x L.l == ofL z L.l) o 0 with ⟨h1, h2⟩ | ⟨j, x, h1, h2, h3, h4⟩
    · exfalso
      have := h2 z (List.mem_of_getLast? HZ.out)
      simp at this
    rw [Nat.zero_add] at h1
    simp only [HOL.out, h1] at hix
    have hjl : j < m + 1 := by have := (List.getElem?_eq_some_iff.1 h2).1; rw [HOL.out] at this; exact this
    have hsp := bear_split HND.out HOP.out HOO.out HZ.out h2 (by simpa using h3) (fun y hy => by simpa using h4 y hy)
    obtain ⟨hsp1, hsp2⟩ := hsp
    have HJX := Lib.hid h2
    have HS1 := Lib.hid hsp1
    have HS2 := Lib.hid hsp2
    clear h1 h2 h3 h4 hsp1 hsp2 hc0 hc1
    go_wp2_with fail
    refine hix.mono ?_
    clear hix
    rintro e w7 ⟨rfl, hb7⟩
    have FO7 : Hid (Own (w.heap.size + 1) 3 1 ienc w7 ⟨some ⟨g, 0, none⟩, c, o⟩) := Lib.hid (FO2.out.below hb7)
    have FA7 := Lib.hid (FA2.out.below hb7 FA2.out.lt)
    have FB7 := Lib.hid (below_via hb7 FB2.out)
    clear FA2 FZ2 FO2 FB2 hb7
    have c1 := own_celli FO7.out HJX.out
    have hj0 : (j : Int) < (m : Int) + 1 := by omega
    have hj1 : (0 : Int) ≤ (j : Int) := by omega
    have hdel := del_own (w.heap.size + 1) g c j o w7 FO7.out (by rw [HOL.out]; omega) (by rw [HOL.out]; omega) (by have := FB7.out.size; have := FA7.out.lt; omega)
    rw [HOL.out] at hdel
    go_wp2_with fail
    refine hdel.mono ?_
    clear hdel c1
    rintro e w8 ⟨rfl, ho8, hb8⟩
    rw [Nat.add_sub_cancel]
    have hol2 : (o.take j ++ o.drop (j + 1)).length = m := by have := HOL.out; simp; omega
    have FA8 := Lib.hid (FA7.out.below hb8 (by omega))
    have z8 := hb8.size
    have FB8 : Hid (Below w.heap.size w w8) := Lib.hid (FB7.out.trans (hb8.mono (by omega)))
    generalize o.take j ++ o.drop (j + 1) = ol at *
    have FR8 : Hid (Rd (· < w8.heap.size) 1 ienc w8 ⟨some ⟨g, 0, none⟩, c, ol⟩) := Lib.hid ((ho8.rd ienc_k).mono (fun b hb => hb.2))
    have hc8 := FA8.out.cell 0
    have z9 := FA8.out.lt
    have HOLL := Lib.hid hol2
    clear ho8 hb8 hol2 FA7 FO7 FB7
    go_wp2_with fail
    refine (clone_bal L w8 (HL.out.later FB8.out (Nat.le_refl _)) (by omega)).mono ?_
    rintro e w9 ⟨A9, c9, rfl, ho9, hb9⟩
    have FR9 := Lib.hid (FR8.out.below hb9)
    have HO9 := Lib.hid ho9
    have HB9 := Lib.hid hb9
    clear ho9 hb9 hc8 FR8
    rcases Nat.eq_zero_or_pos m with rfl | hm0
    · have holn : ol = [] := List.eq_nil_of_length_eq_zero HOLL.out
      have hou : outF L.l s.l t = L.l := by unfold outF; rw [HS2.out, holn, if_pos rfl]
      have hva : L.l.all validB = true := List.all_eq_true.2 (fun x hx => (rightL_iff.1 HRL.out).2.1 x hx)
      have HOU := Lib.hid hou
      have HVA := Lib.hid hva
      clear holn hou hva
      go_wp2_with fail
      go_ret3
      exact bearPost_ok HF.out HVA.out HS1.out HOU.out rfl ((HO9.out.rd Bal.k).mono (fun b hb => ⟨by have := FB8.out.size; omega, hb.2⟩)) (below_via HB9.out FB8.out)
    · have hmne : ((m : Int) == 0) = false := by simp; omega
      have hm6 : (0 : Int) < (m : Int) := by omega
      have hl1 := (rightL_iff.1 HRL.out).1
      have hbdL := fun q => of_valid hl1 (rightL_iff.1 HRL.out).2.1 q
      have z10 := HB9.out.size
      have hadd := add_any w8.heap.size ⟨A9, c9, L.l⟩ x t w9 HO9.out hl1 (by simp only; omega) z10 (by have := hbdL x; simp only; omega) (by have := hbdL x; simp only; omega)
      have hou : outF L.l s.l t = addAll (t / (m : Int)) (t % (m : Int)) 0 ol (addL x t L.l) := by
        unfold outF
        rw [HS2.out, HS1.out, HOLL.out, if_neg (fun e => by have := HOLL.out; rw [e] at this; simp at this; omega)]
      have hbd0 : ∀ q, -(1099511627776 + 1048576 * (1 : Int)) ≤ ofL q (addL x t L.l) ∧ ofL q (addL x t L.l) ≤ 1099511627776 + 1048576 * 1 := fun q => by
        rw [ofL_addL hl1]
        have := hbdL q
        split <;> omega
      have hs0 := addL_sort (m := x) (d := t) hl1
      have hlen0 := length_addL (m := x) (d := t) (l := L.l)
      simp only at hadd
      generalize addL x t L.l = ou0 at *
      have HOU := Lib.hid hou
      have HBD0 := Lib.hid hbd0
      have HS0 := Lib.hid hs0
      clear hou hbd0 hs0 hl1 hbdL
      go_wp2_with fail
      refine hadd.mono ?_
      clear hadd
      rintro e w10 ⟨A10, c10, rfl, ho10, hb10⟩
      have HO10 := Lib.hid ho10
      have HB10 : Hid (Below w8.heap.size w8 w10) := Lib.hid (HB9.out.trans hb10)
      have FR10 := Lib.hid (FR9.out.below hb10)
      clear ho10 hb10 HO9 FR9
      have hp0 := parts_bd ht0 (n := (m : Int)) (by omega) 0 (by omega)
      have hq0 : 0 ≤ t / (m : Int) := Int.ediv_nonneg ht0 (by omega)
      have hr0 : 0 ≤ t % (m : Int) := Int.emod_nonneg t (by omega)
      have hr1 : t % (m : Int) < (m : Int) := Int.emod_lt_of_pos t hm6
      have hq1 : t / (m : Int) ≤ t := by split at hp0 <;> omega
      have hpk : ∀ k : Nat, (k : Int) < t % (m : Int) → t / (m : Int) + 1 ≤ t := fun k hk => by
        have := parts_bd ht0 (n := (m : Int)) (by omega) (k : Int) (by omega)
        rw [if_pos hk] at this; exact this.2
      have HPK := Lib.hid hpk
      clear hp0 hpk
      go_wp2_with fail
      go_loopw [14, 74] (fun vo vi wr => ∃ (k : Nat) (A' : Option Addr) (c' : Nat) (ou : List Bal), k ≤ m ∧ vi = .int .i64 k ∧ vo = .slice A' ou.length c' ∧ Hid (Own w8.heap.size 39 2 Bal.enc wr ⟨A', c', ou⟩) ∧ Hid (SortL ou) ∧ ou.length ≤ 1001 + k ∧
        Hid (∀ q, -(1099511627776 + 1048576 * ((k : Int) + 1)) ≤ ofL q ou ∧ ofL q ou ≤ 1099511627776 + 1048576 * ((k : Int) + 1)) ∧ Hid (addAll (t / (m : Int)) (t % (m : Int)) 0 ol ou0 = addAll (t / (m : Int)) (t % (m : Int)) k (ol.drop k) ou) ∧ Below w8.heap.size w8 wr) (fun _ i _ => m - (intOf i).toNat)
      case atStart => exact ⟨0, A10, c10, ou0, by omega, rfl, rfl, HO10, HS0, by omega, Lib.hid (by simpa using HBD0.out), Lib.hid (by simp), HB10.out⟩
      case round =>
        obtain ⟨k, A', c', ou, hk, rfl, rfl, HOW, HSO, hlen, HBD, HAD, hbel⟩ := hrel
        have hhe : w8.heap.size ≤ wr.heap.size := hbel.size
        by_cases hlt : k < m
        · have hkl : k < ol.length := by rw [HOLL.out]; exact hlt
          have hok : ol[k]? = some ol[k] := List.getElem?_eq_getElem hkl
          have hdr : ol.drop k = ol[k] :: ol.drop (k + 1) := List.drop_eq_getElem_cons hkl
          have hrd := FR10.out.keep (w' := wr) (fun b hb => (hbel.block b hb).trans (HB10.out.block b hb).symm)
          obtain ⟨b, o', hA, hb, hcl⟩ := hrd.2.2.2 k _ hok
          simp only [Option.some.injEq, Addr.mk.injEq, and_true] at hA
          obtain ⟨rfl, rfl⟩ := hA
          have g0 := hcl.c1
          simp only [Nat.mul_one, Nat.zero_add] at g0
          have had := HAD.out
          rw [hdr] at had
          simp only [addAll] at had
          generalize ol[k] = y at *
          have HAD2 := Lib.hid had
          have hby := HBD.out y
          clear hrd hcl hdr hok had HAD
          have hkm : (k : Int) < (m : Int) := by omega
          by_cases hkr : (k : Int) < t % (m : Int)
          · have hpk := HPK.out k hkr
            rw [if_pos hkr] at HAD2
            have hadd := add_any w8.heap.size ⟨A', c', ou⟩ y (-(t / (m : Int) + 1)) wr HOW.out HSO.out (by simp only; omega) hhe (by simp only; omega) (by simp only; omega)
            have hs2 := addL_sort (m := y) (d := -(t / (m : Int) + 1)) HSO.out
            have hl2 := length_addL (m := y) (d := -(t / (m : Int) + 1)) (l := ou)
            have hb2 : ∀ q, -(1099511627776 + 1048576 * (((k + 1 : Nat) : Int) + 1)) ≤ ofL q (addL y (-(t / (m : Int) + 1)) ou) ∧ ofL q (addL y (-(t / (m : Int) + 1)) ou) ≤ 1099511627776 + 1048576 * (((k + 1 : Nat) : Int) + 1) := fun q => by
              rw [ofL_addL HSO.out]
              have := HBD.out q
              split <;> omega
            simp only at hadd
            generalize addL y (-(t / (m : Int) + 1)) ou = ou2 at *
            have HS2' := Lib.hid hs2
            have HB2' := Lib.hid hb2
            clear hs2 hb2 HBD HSO
            go_wp2_with fail
            refine hadd.mono ?_
            clear hadd
            rintro e w11 ⟨A11, c11, rfl, ho11, hb11⟩
            have HO11 := Lib.hid ho11
            clear ho11
            go_wp2_with fail
            go_roundw
            case rel => exact ⟨k + 1, A11, c11, ou2, by omega, by go_num, rfl, HO11, HS2', by omega, HB2', Lib.hid (by rw [HAD2.out]; push_cast; rfl), hbel.trans hb11⟩
            case measure => simp [intOf]; omega
          · rw [if_neg hkr] at HAD2
            rw [Int.add_zero] at HAD2
            have hadd := add_any w8.heap.size ⟨A', c', ou⟩ y (-(t / (m : Int))) wr HOW.out HSO.out (by simp only; omega) hhe (by simp only; omega) (by simp only; omega)
            have hs2 := addL_sort (m := y) (d := -(t / (m : Int))) HSO.out
            have hl2 := length_addL (m := y) (d := -(t / (m : Int))) (l := ou)
            have hb2 : ∀ q, -(1099511627776 + 1048576 * (((k + 1 : Nat) : Int) + 1)) ≤ ofL q (addL y (-(t / (m : Int))) ou) ∧ ofL q (addL y (-(t / (m : Int))) ou) ≤ 1099511627776 + 1048576 * (((k + 1 : Nat) : Int) + 1) := fun q => by
              rw [ofL_addL HSO.out]
              have := HBD.out q
              split <;> omega
            simp only at hadd
            generalize addL y (-(t / (m : Int))) ou = ou2 at *
            have HS2' := Lib.hid hs2
            have HB2' := Lib.hid hb2
            clear hs2 hb2 HBD HSO
            go_wp2_with fail
            refine hadd.mono ?_
            clear hadd
            rintro e w11 ⟨A11, c11, rfl, ho11, hb11⟩
            have HO11 := Lib.hid ho11
            clear ho11
            go_wp2_with fail
            go_roundw
            case rel => exact ⟨k + 1, A11, c11, ou2, by omega, by go_num, rfl, HO11, HS2', by omega, HB2', Lib.hid (by rw [HAD2.out]; push_cast; rfl), hbel.trans hb11⟩
            case measure => simp [intOf]; omega
        · have hkm : k = m := by omega
          have hdn : ol.drop k = [] := List.drop_eq_nil_of_le (by rw [HOLL.out]; omega)
          have hfin : outF L.l s.l t = ou := by rw [HOU.out, HAD.out, hdn]; rfl
          have HFIN := Lib.hid hfin
          have hlen' : (ou.length : Int) ≤ 4000 := by omega
          have hwr := wrong_any ⟨A', c', ou⟩ wr ((HOW.out.rd Bal.k).mono (fun b hb => hb.2))
          have HRD : Hid (∀ w2, Below wr.heap.size wr w2 → Rd (fun b => w.heap.size ≤ b ∧ b < w2.heap.size) 2 Bal.enc w2 ⟨A', c', ou⟩) := Lib.hid (fun w2 h => ((HOW.out.below h).rd Bal.k).mono (fun b hb => ⟨by have := FB8.out.size; omega, hb.2⟩))
          have HBW : Hid (Below w.heap.size w wr) := Lib.hid (below_via hbel FB8.out)
          clear hkm hdn hfin HAD HBD HSO HOW
          simp only at hwr
          rcases hva : ou.all validB
          · rw [hva] at hwr
            have HVA := Lib.hid hva
            clear hva
            go_wp2_with fail
            refine hwr.mono ?_
            clear hwr
            rintro e w11 ⟨rfl, hb11⟩
            have HB11 := Lib.hid (below_via hb11 HBW.out)
            clear hb11
            go_wp2_with fail
            go_ret3
            exact bearPost_full HF.out HVA.out HFIN.out rfl HB11.out
          · rw [hva] at hwr
            have HVA := Lib.hid hva
            clear hva
            go_wp2_with fail
            refine hwr.mono ?_
            clear hwr
            rintro e w11 ⟨rfl, hb11⟩
            have HB11 := Lib.hid (below_via hb11 HBW.out)
            have HR11 := Lib.hid (HRD.out w11 hb11)
            clear hb11
            go_wp2_with fail
            go_ret3
            exact bearPost_ok HF.out HVA.out HS1.out HFIN.out rfl HR11.out HB11.out
theorem bear_any (L : Sl Bal) (s : Sl Int) (t : Int) (w : World) (hL : Rd (· < w.heap.size) 2 Bal.enc w L) (hr : Rd (· < w.heap.size) 1 ienc w s) (hl : L.l.length ≤ 1000) (hsl : s.l.length ≤ 20) :
    Calls Try.prog 10 #[.slice L.A L.l.length L.c, .slice s.A s.l.length s.c, .int .i64 t] w (BearPost L s t w) := by
  rcases hf : fineB L.l s.l t
  · exact bear_no L s t w hL hr hl hf
  · exact bear_yes L s t w hL hr hl hsl hf
end Go.Proofs.Ytjbdjlgddjmkbaa
