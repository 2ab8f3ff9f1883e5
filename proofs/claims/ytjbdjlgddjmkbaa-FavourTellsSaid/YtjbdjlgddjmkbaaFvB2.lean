/- Walk: Bear, where it refuses its arguments. -/
import Derived.Test.YtjbdjlgddjmkbaaFvB1
namespace Go.Proofs.Ytjbdjlgddjmkbaa
open Go.RowKit
def BearPost (L : Sl Bal) (s : Sl Int) (t : Int) (w : World) (e : Ending) (w' : World) : Prop :=
  ∃ A c, e = .returned (.tuple #[.slice A (bearF L.l s.l t).1.length c, .int .i64 (bearF L.l s.l t).2.1, .int .i64 (bearF L.l s.l t).2.2]) ∧ Rd (fun b => w.heap.size ≤ b ∧ b < w'.heap.size) 2 Bal.enc w' ⟨A, c, (bearF L.l s.l t).1⟩ ∧ Below w.heap.size w w'
theorem bearPost_no {L : Sl Bal} {s : Sl Int} {t : Int} {w w' : World} {e : Ending} (h : fineB L.l s.l t = false) (he : e = .returned (.tuple #[.slice none 0 0, .int .i64 0, .int .i64 1])) (hb : Below w.heap.size w w') : BearPost L s t w e w' := by
  have hf : bearF L.l s.l t = ([], 0, 1) := by unfold bearF; rw [h]; rfl
  refine ⟨none, 0, ?_, ?_, hb⟩
  · rw [he, hf]; rfl
  · rw [hf]; exact Rd.nil _ _ _ _
set_option maxRecDepth 20000 in
set_option maxHeartbeats 2000000 in
theorem bear_no (L : Sl Bal) (s : Sl Int) (t : Int) (w : World) (hL : Rd (· < w.heap.size) 2 Bal.enc w L) (hr : Rd (· < w.heap.size) 1 ienc w s) (hl : L.l.length ≤ 1000) (hf : fineB L.l s.l t = false) :
    Calls Try.prog 10 #[.slice L.A L.l.length L.c, .slice s.A s.l.length s.c, .int .i64 t] w (BearPost L s t w) := by
  have HF := Lib.hid hf
  rcases h1 : rightL L.l
  · have HRL := Lib.hid h1
    clear h1 hf
    have HL := Lib.hid hL
    have HR := Lib.hid hr
    clear hL hr
    go_enter Try.func10, Try.ntmps10
    go_wp2_with fail
    refine (right_any L _ (HL.out.later (by repeat (first | (with_reducible exact Below.refl _ _) | ((with_reducible refine below_setr ?_ ?_); focus (first | (simp; done) | (simp; omega) | omega)) | ((with_reducible refine below_allocr ?_ ?_); focus (first | (simp; done) | (simp; omega) | omega)) | (with_reducible refine Below.drew ?_) | (with_reducible refine below_drewN ?_ _) | ((with_reducible apply below_via); focus (with_reducible assumption)))) (Nat.le_refl _)) (by omega)).mono ?_
    rintro e w1 ⟨rfl, hb1⟩
    have K_a : Blk _ (w.heap.size) 22 #[.slice L.A L.l.length L.c] := blk_later hb1 (by simp [hp_past, hp_at, hp_other, hp_same, hp_drew, hp_drewN])
    obtain ⟨a0, af, az⟩ := Blk.b1 K_a
    have B_a := Lib.hid K_a
    clear K_a
    have hB1 : Below w.heap.size w w1 := (by repeat (first | (with_reducible exact Below.refl _ _) | ((with_reducible refine below_setr ?_ ?_); focus (first | (simp; done) | (simp; omega) | omega)) | ((with_reducible refine below_allocr ?_ ?_); focus (first | (simp; done) | (simp; omega) | omega)) | (with_reducible refine Below.drew ?_) | (with_reducible refine below_drewN ?_ _) | ((with_reducible apply below_via); focus (with_reducible assumption))))
    clear hb1
    rw [HRL.out]
    go_wp2_with fail
    go_ret3
    exact bearPost_no HF.out rfl hB1
  · have HRL := Lib.hid h1
    rcases h2 : ridesL s.l
    · have HRI := Lib.hid h2
      clear h1 h2 hf
      have HL := Lib.hid hL
      have HR := Lib.hid hr
      clear hL hr
      go_enter Try.func10, Try.ntmps10
      go_wp2_with fail
      refine (right_any L _ (HL.out.later (by repeat (first | (with_reducible exact Below.refl _ _) | ((with_reducible refine below_setr ?_ ?_); focus (first | (simp; done) | (simp; omega) | omega)) | ((with_reducible refine below_allocr ?_ ?_); focus (first | (simp; done) | (simp; omega) | omega)) | (with_reducible refine Below.drew ?_) | (with_reducible refine below_drewN ?_ _) | ((with_reducible apply below_via); focus (with_reducible assumption)))) (Nat.le_refl _)) (by omega)).mono ?_
      rintro e w1 ⟨rfl, hb1⟩
      have K_a : Blk _ (w.heap.size) 22 #[.slice L.A L.l.length L.c] := blk_later hb1 (by simp [hp_past, hp_at, hp_other, hp_same, hp_drew, hp_drewN])
      obtain ⟨a0, af, az⟩ := Blk.b1 K_a
      have B_a := Lib.hid K_a
      clear K_a
      have hB1 : Below w.heap.size w w1 := (by repeat (first | (with_reducible exact Below.refl _ _) | ((with_reducible refine below_setr ?_ ?_); focus (first | (simp; done) | (simp; omega) | omega)) | ((with_reducible refine below_allocr ?_ ?_); focus (first | (simp; done) | (simp; omega) | omega)) | (with_reducible refine Below.drew ?_) | (with_reducible refine below_drewN ?_ _) | ((with_reducible apply below_via); focus (with_reducible assumption))))
      clear hb1
      rw [HRL.out]
      go_wp2_with fail
      refine (rides_any s _ (HR.out.later hB1 (Nat.le_refl _))).mono ?_
      rintro e w2 ⟨rfl, hb2⟩
      clear a0 af
      have K_a : Blk _ (w.heap.size) 22 #[.slice L.A L.l.length L.c] := blk_later hb2 (by simp [hp_past, hp_at, hp_other, hp_same, hp_drew, hp_drewN, B_a.out.eq, B_a.out.lt, hp_same B_a.out.eq])
      obtain ⟨a0, af, az⟩ := Blk.b1 K_a
      have B_a := Lib.hid K_a
      clear K_a
      have hB2 : Below w.heap.size w w2 := (by repeat (first | (with_reducible exact hB1) | (with_reducible exact Below.refl _ _) | ((with_reducible refine below_setr ?_ ?_); focus (first | (simp; done) | (simp; omega) | omega)) | ((with_reducible refine below_allocr ?_ ?_); focus (first | (simp; done) | (simp; omega) | omega)) | (with_reducible refine Below.drew ?_) | (with_reducible refine below_drewN ?_ _) | ((with_reducible apply below_via); focus (with_reducible assumption))))
      clear hb2
      rw [HRI.out]
      go_wp2_with fail
      go_ret3
      exact bearPost_no HF.out rfl hB2
    · have HRI := Lib.hid h2
      have ht : t < 0 ∨ 1048576 < t := by
        unfold fineB at hf
        rw [h1, h2] at hf
        simpa [rngB_not] using hf
      clear h1 h2 hf
      rcases ht with ht | ht
      · skip
        have HL := Lib.hid hL
        have HR := Lib.hid hr
        clear hL hr
        go_enter Try.func10, Try.ntmps10
        go_wp2_with fail
        refine (right_any L _ (HL.out.later (by repeat (first | (with_reducible exact Below.refl _ _) | ((with_reducible refine below_setr ?_ ?_); focus (first | (simp; done) | (simp; omega) | omega)) | ((with_reducible refine below_allocr ?_ ?_); focus (first | (simp; done) | (simp; omega) | omega)) | (with_reducible refine Below.drew ?_) | (with_reducible refine below_drewN ?_ _) | ((with_reducible apply below_via); focus (with_reducible assumption)))) (Nat.le_refl _)) (by omega)).mono ?_
        rintro e w1 ⟨rfl, hb1⟩
        have K_a : Blk _ (w.heap.size) 22 #[.slice L.A L.l.length L.c] := blk_later hb1 (by simp [hp_past, hp_at, hp_other, hp_same, hp_drew, hp_drewN])
        obtain ⟨a0, af, az⟩ := Blk.b1 K_a
        have B_a := Lib.hid K_a
        clear K_a
        have hB1 : Below w.heap.size w w1 := (by repeat (first | (with_reducible exact Below.refl _ _) | ((with_reducible refine below_setr ?_ ?_); focus (first | (simp; done) | (simp; omega) | omega)) | ((with_reducible refine below_allocr ?_ ?_); focus (first | (simp; done) | (simp; omega) | omega)) | (with_reducible refine Below.drew ?_) | (with_reducible refine below_drewN ?_ _) | ((with_reducible apply below_via); focus (with_reducible assumption))))
        clear hb1
        rw [HRL.out]
        go_wp2_with fail
        refine (rides_any s _ (HR.out.later hB1 (Nat.le_refl _))).mono ?_
        rintro e w2 ⟨rfl, hb2⟩
        clear a0 af
        have K_a : Blk _ (w.heap.size) 22 #[.slice L.A L.l.length L.c] := blk_later hb2 (by simp [hp_past, hp_at, hp_other, hp_same, hp_drew, hp_drewN, B_a.out.eq, B_a.out.lt, hp_same B_a.out.eq])
        obtain ⟨a0, af, az⟩ := Blk.b1 K_a
        have B_a := Lib.hid K_a
        clear K_a
        have hB2 : Below w.heap.size w w2 := (by repeat (first | (with_reducible exact hB1) | (with_reducible exact Below.refl _ _) | ((with_reducible refine below_setr ?_ ?_); focus (first | (simp; done) | (simp; omega) | omega)) | ((with_reducible refine below_allocr ?_ ?_); focus (first | (simp; done) | (simp; omega) | omega)) | (with_reducible refine Below.drew ?_) | (with_reducible refine below_drewN ?_ _) | ((with_reducible apply below_via); focus (with_reducible assumption))))
        clear hb2
        rw [HRI.out]
        go_wp2_with fail
        go_ret3
        exact bearPost_no HF.out rfl hB2
      · have ht0 : 0 ≤ t := by omega
        have HL := Lib.hid hL
        have HR := Lib.hid hr
        clear hL hr
        go_enter Try.func10, Try.ntmps10
        go_wp2_with fail
        refine (right_any L _ (HL.out.later (by repeat (first | (with_reducible exact Below.refl _ _) | ((with_reducible refine below_setr ?_ ?_); focus (first | (simp; done) | (simp; omega) | omega)) | ((with_reducible refine below_allocr ?_ ?_); focus (first | (simp; done) | (simp; omega) | omega)) | (with_reducible refine Below.drew ?_) | (with_reducible refine below_drewN ?_ _) | ((with_reducible apply below_via); focus (with_reducible assumption)))) (Nat.le_refl _)) (by omega)).mono ?_
        rintro e w1 ⟨rfl, hb1⟩
        have K_a : Blk _ (w.heap.size) 22 #[.slice L.A L.l.length L.c] := blk_later hb1 (by simp [hp_past, hp_at, hp_other, hp_same, hp_drew, hp_drewN])
        obtain ⟨a0, af, az⟩ := Blk.b1 K_a
        have B_a := Lib.hid K_a
        clear K_a
        have hB1 : Below w.heap.size w w1 := (by repeat (first | (with_reducible exact Below.refl _ _) | ((with_reducible refine below_setr ?_ ?_); focus (first | (simp; done) | (simp; omega) | omega)) | ((with_reducible refine below_allocr ?_ ?_); focus (first | (simp; done) | (simp; omega) | omega)) | (with_reducible refine Below.drew ?_) | (with_reducible refine below_drewN ?_ _) | ((with_reducible apply below_via); focus (with_reducible assumption))))
        clear hb1
        rw [HRL.out]
        go_wp2_with fail
        refine (rides_any s _ (HR.out.later hB1 (Nat.le_refl _))).mono ?_
        rintro e w2 ⟨rfl, hb2⟩
        clear a0 af
        have K_a : Blk _ (w.heap.size) 22 #[.slice L.A L.l.length L.c] := blk_later hb2 (by simp [hp_past, hp_at, hp_other, hp_same, hp_drew, hp_drewN, B_a.out.eq, B_a.out.lt, hp_same B_a.out.eq])
        obtain ⟨a0, af, az⟩ := Blk.b1 K_a
        have B_a := Lib.hid K_a
        clear K_a
        have hB2 : Below w.heap.size w w2 := (by repeat (first | (with_reducible exact hB1) | (with_reducible exact Below.refl _ _) | ((with_reducible refine below_setr ?_ ?_); focus (first | (simp; done) | (simp; omega) | omega)) | ((with_reducible refine below_allocr ?_ ?_); focus (first | (simp; done) | (simp; omega) | omega)) | (with_reducible refine Below.drew ?_) | (with_reducible refine below_drewN ?_ _) | ((with_reducible apply below_via); focus (with_reducible assumption))))
        clear hb2
        rw [HRI.out]
        go_wp2_with fail
        go_ret3
        exact bearPost_no HF.out rfl hB2
end Go.Proofs.Ytjbdjlgddjmkbaa
