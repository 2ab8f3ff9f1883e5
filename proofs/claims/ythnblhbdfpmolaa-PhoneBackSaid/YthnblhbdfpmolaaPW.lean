/- The walk of PhoneBack. -/
import Derived.Test.YthnblhbdfpmolaaSm2
import Derived.Test.YthnblhbdfpmolaaPB2
namespace Go.Proofs.Ythnblhbdfpmolaa
open Go.RowKit
set_option maxRecDepth 20000 in
set_option maxHeartbeats 4000000 in
theorem phoneback_out (id : Int) (ss : Sl Stock) (wh u n : Int) (w : World) (hr : RdStocks (· < w.heap.size) w ss) (hid : rngB id 0 11 = false) :
    Calls Try.prog 5 #[.int .i64 id, .slice ss.A ss.l.length ss.c, .int .u8 wh, .int .i64 u, .int .i64 n] w fun e w' => e = .returned (.bool true) ∧ Below w.heap.size w w' := by
  go_enter Try.func5, Try.ntmps5
  go_wp2_with fail
  refine (small43 _).mono ?_
  rintro e w1 ⟨rfl, hb1⟩
  go_wp2_with fail
  refine (phone_new id _).mono ?_
  rintro e w2 ⟨⟨i1, c1, H1, N1, S1⟩, rfl, hd1, hr1, hb2⟩
  have hn : newP id = (⟨0, false, [], [], []⟩, 1) := by unfold newP; rw [hid]; rfl
  rw [hn] at hd1
  rw [hn]
  clear hd1 hr1 hn
  simp only [Phone.v]
  have hB2 : Below w.heap.size w w2 := (by repeat (first | (with_reducible exact hb1) | (with_reducible exact Below.refl _ _) | ((with_reducible refine below_setr ?_ ?_); focus (first | (simp; done) | (simp; omega) | omega)) | ((with_reducible refine below_allocr ?_ ?_); focus (first | (simp; done) | (simp; omega) | omega)) | (with_reducible refine Below.drew ?_) | (with_reducible refine below_drewN ?_ _) | ((with_reducible apply below_via); focus (with_reducible assumption))))
  clear hb1 hb2
  have z2 : w.heap.size ≤ w2.heap.size := hB2.size
  rcases rngB_not.1 hid with h | h
  all_goals
    clear hid
    go_wp2_with fail
    go_ret
    exact ⟨rfl, (by repeat (first | (with_reducible exact hB2) | (with_reducible exact Below.refl _ _) | ((with_reducible refine below_setr ?_ ?_); focus (first | (simp; done) | (simp; omega) | omega)) | ((with_reducible refine below_allocr ?_ ?_); focus (first | (simp; done) | (simp; omega) | omega)) | (with_reducible refine Below.drew ?_) | (with_reducible refine below_drewN ?_ _) | ((with_reducible apply below_via); focus (with_reducible assumption))))⟩
set_option maxRecDepth 20000 in
set_option maxHeartbeats 4000000 in
theorem phoneback_nil (id : Int) (ss : Sl Stock) (wh u n : Int) (w : World) (hr : RdStocks (· < w.heap.size) w ss) (hid : rngB id 0 11 = true) (hl : ss.l.length = 0) :
    Calls Try.prog 5 #[.int .i64 id, .slice ss.A ss.l.length ss.c, .int .u8 wh, .int .i64 u, .int .i64 n] w fun e w' => e = .returned (.bool true) ∧ Below w.heap.size w w' := by
  go_enter Try.func5, Try.ntmps5
  go_wp2_with fail
  refine (small43 _).mono ?_
  rintro e w1 ⟨rfl, hb1⟩
  go_wp2_with fail
  refine (phone_new id _).mono ?_
  rintro e w2 ⟨⟨i1, c1, H1, N1, S1⟩, rfl, hd1, hr1, hb2⟩
  have hn : newP id = (pN id, 0) := by unfold newP; rw [hid]; rfl
  rw [hn] at hd1
  rw [hn]
  have HD1 := Lib.hid hd1
  have HR1 := Lib.hid hr1
  clear hd1 hr1 hn
  simp only [Phone.v]
  have hB2 : Below w.heap.size w w2 := (by repeat (first | (with_reducible exact hb1) | (with_reducible exact Below.refl _ _) | ((with_reducible refine below_setr ?_ ?_); focus (first | (simp; done) | (simp; omega) | omega)) | ((with_reducible refine below_allocr ?_ ?_); focus (first | (simp; done) | (simp; omega) | omega)) | (with_reducible refine Below.drew ?_) | (with_reducible refine below_drewN ?_ _) | ((with_reducible apply below_via); focus (with_reducible assumption))))
  have z2 : w.heap.size ≤ w2.heap.size := hB2.size
  clear hb1 hb2
  go_wp2_with fail
  go_ret
  exact ⟨rfl, (by repeat (first | (with_reducible exact hB2) | (with_reducible exact Below.refl _ _) | ((with_reducible refine below_setr ?_ ?_); focus (first | (simp; done) | (simp; omega) | omega)) | ((with_reducible refine below_allocr ?_ ?_); focus (first | (simp; done) | (simp; omega) | omega)) | (with_reducible refine Below.drew ?_) | (with_reducible refine below_drewN ?_ _) | ((with_reducible apply below_via); focus (with_reducible assumption))))⟩
set_option maxRecDepth 20000 in
set_option maxHeartbeats 4000000 in
theorem phoneback_in (id : Int) (ss : Sl Stock) (wh u n : Int) (w : World) (hr : RdStocks (· < w.heap.size) w ss) (hid : rngB id 0 11 = true) (hl : 0 < ss.l.length) (hw0 : 0 ≤ wh) (hw1 : wh < 256) :
    Calls Try.prog 5 #[.int .i64 id, .slice ss.A ss.l.length ss.c, .int .u8 wh, .int .i64 u, .int .i64 n] w fun e w' => e = .returned (.bool true) ∧ Below w.heap.size w w' := by
  have hl0 : ((ss.l.length : Int) == 0) = false := beq_eq_false_iff_ne.2 (by omega)
  have hsl := hr.1.len
  have HS := Lib.hid hr
  clear hr
  go_enter Try.func5, Try.ntmps5
  go_wp2_with fail
  refine (small43 _).mono ?_
  rintro e w1 ⟨rfl, hb1⟩
  go_wp2_with fail
  refine (phone_new id _).mono ?_
  rintro e w2 ⟨⟨i1, c1, H1, N1, S1⟩, rfl, hd1, hr1, hb2⟩
  have hn : newP id = (pN id, 0) := by unfold newP; rw [hid]; rfl
  rw [hn] at hd1
  rw [hn]
  have HD1 := Lib.hid hd1
  have HR1 := Lib.hid hr1
  clear hd1 hr1 hn
  simp only [Phone.v]
  have hB2 : Below w.heap.size w w2 := (by repeat (first | (with_reducible exact hb1) | (with_reducible exact Below.refl _ _) | ((with_reducible refine below_setr ?_ ?_); focus (first | (simp; done) | (simp; omega) | omega)) | ((with_reducible refine below_allocr ?_ ?_); focus (first | (simp; done) | (simp; omega) | omega)) | (with_reducible refine Below.drew ?_) | (with_reducible refine below_drewN ?_ _) | ((with_reducible apply below_via); focus (with_reducible assumption))))
  have z2 : w.heap.size ≤ w2.heap.size := hB2.size
  clear hb1 hb2
  go_wp2_with fail
  have hfw := rfew43 none 0 0 0 ss (by omega) (by omega) (w2.alloc (.cells #[.int .i64 i1, .bool c1, .slice H1.A H1.l.length H1.c, .slice N1.A N1.l.length N1.c, .slice S1.A S1.l.length S1.c] 33)) (HS.out.later (by repeat (first | (with_reducible exact hB2) | (with_reducible exact Below.refl _ _) | ((with_reducible refine below_setr ?_ ?_); focus (first | (simp; done) | (simp; omega) | omega)) | ((with_reducible refine below_allocr ?_ ?_); focus (first | (simp; done) | (simp; omega) | omega)) | (with_reducible refine Below.drew ?_) | (with_reducible refine below_drewN ?_ _) | ((with_reducible apply below_via); focus (with_reducible assumption)))) (Nat.le_refl _))
  refine hfw.mono ?_
  clear hfw
  rintro e w3 ⟨⟨b, rfl, hfew⟩, hb3⟩
  have K_a : Blk _ (w2.heap.size) 33 #[.int .i64 i1, .bool c1, .slice H1.A H1.l.length H1.c, .slice N1.A N1.l.length N1.c, .slice S1.A S1.l.length S1.c] := blk_later hb3 (by simp [hp_past, hp_at, hp_other, hp_same, hp_drew, hp_drewN])
  obtain ⟨a0, a1, a2, a3, a4, af, az⟩ := Blk.b5 K_a
  have B_a := Lib.hid K_a
  clear K_a
  have h23 : Below w2.heap.size w2 w3 := Below.trans (Below.alloc (Below.refl _ _) (Nat.le_refl _) _) (hb3.mono (by simp))
  have hB3 : Below w.heap.size w w3 := (by repeat (first | (with_reducible exact hB2) | (with_reducible exact Below.refl _ _) | ((with_reducible refine below_setr ?_ ?_); focus (first | (simp; done) | (simp; omega) | omega)) | ((with_reducible refine below_allocr ?_ ?_); focus (first | (simp; done) | (simp; omega) | omega)) | (with_reducible refine Below.drew ?_) | (with_reducible refine below_drewN ?_ _) | ((with_reducible apply below_via); focus (with_reducible assumption))))
  have z3 : w2.heap.size < w3.heap.size := az
  have HFEW := Lib.hid hfew
  clear hb3 hfew
  rcases b with _ | _
  · go_wp2_with fail
    go_ret
    exact ⟨rfl, (by repeat (first | (with_reducible exact hB3) | (with_reducible exact Below.refl _ _) | ((with_reducible refine below_setr ?_ ?_); focus (first | (simp; done) | (simp; omega) | omega)) | ((with_reducible refine below_allocr ?_ ?_); focus (first | (simp; done) | (simp; omega) | omega)) | (with_reducible refine Below.drew ?_) | (with_reducible refine below_drewN ?_ _) | ((with_reducible apply below_via); focus (with_reducible assumption))))⟩
  have hl3 := (HFEW.out rfl).1
  go_wp2_with fail
  generalize hkk : wh % (ss.l.length : Int) = kk
  have HKK := Lib.hid hkk
  clear hkk
  refine (phone_lend ⟨i1, c1, H1, N1, S1⟩ ss kk u _ (HR1.out.later h23 (Nat.le_refl _)) (HS.out.later hB3 (Nat.le_refl _)) (by omega)).mono ?_
  rintro e w4 ⟨⟨i4, c4, H4, N4, S4⟩, ⟨lA, lc, ll⟩, rfl, hd4, hs4, hr4, ht4, hb4⟩
  rw [HD1.out] at hd4 hs4
  rw [HD1.out]
  have hB4 : Below w.heap.size w w4 := (by repeat (first | (with_reducible exact hB3) | (with_reducible exact Below.refl _ _) | ((with_reducible refine below_setr ?_ ?_); focus (first | (simp; done) | (simp; omega) | omega)) | ((with_reducible refine below_allocr ?_ ?_); focus (first | (simp; done) | (simp; omega) | omega)) | (with_reducible refine Below.drew ?_) | (with_reducible refine below_drewN ?_ _) | ((with_reducible apply below_via); focus (with_reducible assumption))))
  have z4 : w3.heap.size ≤ w4.heap.size := hb4.size
  have HR4 := Lib.hid hr4
  have HT4 := Lib.hid ht4
  clear hb4 hr4 ht4 h23
  by_cases hf : ((pN id).lend (ss.l.map Stock.d) kk u).2.2 = 0
  rotate_left
  · rw [lend_err hf] at hs4
    have HS4 := Lib.hid hs4
    generalize ((pN id).lend (ss.l.map Stock.d) kk u).2.2 = er at *
    have her : (er != 0) = true := by simp [hf]
    clear hf hd4 hs4
    simp only [Phone.v]
    go_wp2_with fail
    have hst := rstocks ⟨lA, lc, ll⟩ ss (w4.alloc (.cells #[.int .i64 i4, .bool c4, .slice H4.A H4.l.length H4.c, .slice N4.A N4.l.length N4.c, .slice S4.A S4.l.length S4.c] 33)) (HT4.out.later (by repeat (first | (with_reducible exact Below.refl _ _) | ((with_reducible refine below_setr ?_ ?_); focus (first | (simp; done) | (simp; omega) | omega)) | ((with_reducible refine below_allocr ?_ ?_); focus (first | (simp; done) | (simp; omega) | omega)) | (with_reducible refine Below.drew ?_) | (with_reducible refine below_drewN ?_ _) | ((with_reducible apply below_via); focus (with_reducible assumption)))) (Nat.le_refl _)) (HS.out.later (by repeat (first | (with_reducible exact hB4) | (with_reducible exact Below.refl _ _) | ((with_reducible refine below_setr ?_ ?_); focus (first | (simp; done) | (simp; omega) | omega)) | ((with_reducible refine below_allocr ?_ ?_); focus (first | (simp; done) | (simp; omega) | omega)) | (with_reducible refine Below.drew ?_) | (with_reducible refine below_drewN ?_ _) | ((with_reducible apply below_via); focus (with_reducible assumption)))) (Nat.le_refl _))
    rw [decide_eq_true HS4.out] at hst
    refine hst.mono ?_
    clear hst
    rintro e w5 ⟨rfl, hb5⟩
    have hB5 : Below w.heap.size w w5 := (by repeat (first | (with_reducible exact hB4) | (with_reducible exact Below.refl _ _) | ((with_reducible refine below_setr ?_ ?_); focus (first | (simp; done) | (simp; omega) | omega)) | ((with_reducible refine below_allocr ?_ ?_); focus (first | (simp; done) | (simp; omega) | omega)) | (with_reducible refine Below.drew ?_) | (with_reducible refine below_drewN ?_ _) | ((with_reducible apply below_via); focus (with_reducible assumption))))
    clear hb5
    go_wp2_with fail
    go_ret
    exact ⟨rfl, hB5⟩
  obtain ⟨j, x, A, B, rfl, hLP, hlen⟩ := lend_ok hf
  rw [hlen] at hd4 hs4
  rw [hlen]
  have HLP := Lib.hid hLP
  have HD4 := Lib.hid hd4
  have HS4 := Lib.hid hs4
  clear hf hlen hLP hd4 hs4
  simp only [Phone.v]
  go_wp2_with fail
  refine (phone_cut ⟨i4, c4, H4, N4, S4⟩ _ (HR4.out.later (by repeat (first | (with_reducible exact Below.refl _ _) | ((with_reducible refine below_setr ?_ ?_); focus (first | (simp; done) | (simp; omega) | omega)) | ((with_reducible refine below_allocr ?_ ?_); focus (first | (simp; done) | (simp; omega) | omega)) | (with_reducible refine Below.drew ?_) | (with_reducible refine below_drewN ?_ _) | ((with_reducible apply below_via); focus (with_reducible assumption)))) (Nat.le_refl _))).mono ?_
  rintro e w5 ⟨⟨i5, c5, H5, N5, S5⟩, rfl, hd5, hr5, hb5⟩
  have hcut : (cP id false j u 0 []).cutS = (cP id true j u 0 [], 0) := by
    have := HLP.out
    have hri := cP_right (cut := false) (k := (j : Int)) (s := 0) (N := []) this.id0 this.id1 (by omega) this.u1 this.u2 (by omega) (by have := this.u1; omega) (.inl rfl)
    unfold PhoneD.cutS
    rw [if_pos hri]
    rfl
  rw [HD4.out, hcut] at hd5
  rw [HD4.out, hcut]
  clear hcut
  have z5 : w4.heap.size < w5.heap.size := by have := hb5.size; simp at this; omega
  have hB5 : Below w.heap.size w w5 := (by repeat (first | (with_reducible exact hB4) | (with_reducible exact Below.refl _ _) | ((with_reducible refine below_setr ?_ ?_); focus (first | (simp; done) | (simp; omega) | omega)) | ((with_reducible refine below_allocr ?_ ?_); focus (first | (simp; done) | (simp; omega) | omega)) | (with_reducible refine Below.drew ?_) | (with_reducible refine below_drewN ?_ _) | ((with_reducible apply below_via); focus (with_reducible assumption))))
  have h45 : Below w4.heap.size w4 w5 := Below.trans (Below.alloc (Below.refl _ _) (Nat.le_refl _) _) (hb5.mono (by simp))
  have HD5 := Lib.hid hd5
  have HR5 := Lib.hid hr5
  have HT5 := Lib.hid (HT4.out.later h45 (Nat.le_refl _))
  clear hd5 hr5 hb5 h45
  simp only [Phone.v]
  go_wp2_with fail
  have HJN : Hid (∃ p', (Phone.d ⟨i5, c5, H5, N5, S5⟩).join (ll.map Stock.d) (List.replicate 12 0) = (p', ss.l.map Stock.d, [], 0)) := Lib.hid (by
    obtain ⟨p', h⟩ := HLP.out.join (s := 0) (N := []) (by omega) (by have := HLP.out.u1; omega) (.inl rfl)
    rw [HD5.out, HS4.out]
    rw [HLP.out.set0] at h
    exact ⟨p', h⟩)
  have hll : ll.length = ss.l.length := by have := congrArg List.length HS4.out; simpa using this
  have HLL : Hid (ll.length * 40 ≤ 140737488355328) := Lib.hid (by omega)
  have SA0 : Hid (Blk (w5.alloc (.cells #[.int .i64 i5, .bool c5, .slice H5.A H5.l.length H5.c, .slice N5.A N5.l.length N5.c, .slice S5.A S5.l.length S5.c] 33)) w5.heap.size 33 #[.int .i64 i5, .bool c5, .slice H5.A H5.l.length H5.c, .slice N5.A N5.l.length N5.c, .slice S5.A S5.l.length S5.c] ∧ RdPhone (· < w5.heap.size) (w5.alloc (.cells #[.int .i64 i5, .bool c5, .slice H5.A H5.l.length H5.c, .slice N5.A N5.l.length N5.c, .slice S5.A S5.l.length S5.c] 33)) ⟨i5, c5, H5, N5, S5⟩ ∧ RdStocks (· < w5.heap.size) (w5.alloc (.cells #[.int .i64 i5, .bool c5, .slice H5.A H5.l.length H5.c, .slice N5.A N5.l.length N5.c, .slice S5.A S5.l.length S5.c] 33)) ⟨lA, lc, ll⟩ ∧ Below w.heap.size w (w5.alloc (.cells #[.int .i64 i5, .bool c5, .slice H5.A H5.l.length H5.c, .slice N5.A N5.l.length N5.c, .slice S5.A S5.l.length S5.c] 33))) := Lib.hid ⟨Blk.new _ _ _, HR5.out.keep (fun b hb => Below.heap_alloc _ _ b hb), HT5.out.keep (fun b hb => Below.heap_alloc _ _ b hb), (by repeat (first | (with_reducible exact hB5) | (with_reducible exact Below.refl _ _) | ((with_reducible refine below_setr ?_ ?_); focus (first | (simp; done) | (simp; omega) | omega)) | ((with_reducible refine below_allocr ?_ ?_); focus (first | (simp; done) | (simp; omega) | omega)) | (with_reducible refine Below.drew ?_) | (with_reducible refine below_drewN ?_ _) | ((with_reducible apply below_via); focus (with_reducible assumption))))⟩
  clear hll
  refine wp_region_T (fun w' => w'.cell? ⟨w5.heap.size, 0, none⟩ = some (.int .i64 i5) ∧ w'.cell? ⟨w5.heap.size, 1, none⟩ = some (.bool c5) ∧ w'.cell? ⟨w5.heap.size, 2, none⟩ = some (.slice H5.A H5.l.length H5.c) ∧ w'.cell? ⟨w5.heap.size, 3, none⟩ = some (.slice N5.A N5.l.length N5.c) ∧ w'.cell? ⟨w5.heap.size, 4, none⟩ = some (.slice S5.A S5.l.length S5.c)) (fun _ => false) (by kernel_rfl) ⟨SA0.out.1.cell 0, SA0.out.1.cell 1, SA0.out.1.cell 2, SA0.out.1.cell 3, SA0.out.1.cell 4⟩ (fun hHeld => ?_)
  obtain ⟨W, hW⟩ : ∃ x, x = World.drew (w5.alloc (.cells #[.int .i64 i5, .bool c5, .slice H5.A H5.l.length H5.c, .slice N5.A N5.l.length N5.c, .slice S5.A S5.l.length S5.c] 33)) := ⟨_, rfl⟩
  have hSA : Blk W (w5.heap.size) 33 #[.int .i64 i5, .bool c5, .slice H5.A H5.l.length H5.c, .slice N5.A N5.l.length N5.c, .slice S5.A S5.l.length S5.c] ∧ RdPhone (· < w5.heap.size) W ⟨i5, c5, H5, N5, S5⟩ ∧ RdStocks (· < w5.heap.size) W ⟨lA, lc, ll⟩ ∧ Below w.heap.size w W := by rw [hW]; exact ⟨SA0.out.1, SA0.out.2.1.keep (fun _ _ => rfl), SA0.out.2.2.1.keep (fun _ _ => rfl), Below.drew SA0.out.2.2.2⟩
  rw [← hW] at hHeld ⊢
  have FA := Lib.hid hSA.1
  have FP := Lib.hid hSA.2.1
  have FT := Lib.hid hSA.2.2.1
  have FB := Lib.hid hSA.2.2.2
  clear hSA SA0 hW
  refine wpAnyT_take2 (i := 0) (v := ?_) rfl rfl (by kernel_rfl) (by kernel_rfl) (by kernel_rfl) (by kernel_rfl) (fun _ _ _ h => h) (Or.inl ⟨by rfl, ?_⟩) (by assumption) ?_
  rotate_left
  · (intro w hSw; (try dsimp only at hSw); go_simp) <;> (with_reducible rfl)
  simp only [List.setIfInBounds_toArray, List.set_cons_zero, List.set_cons_succ]
  refine wpAnyT_take2 (i := 1) (v := ?_) rfl rfl (by kernel_rfl) (by kernel_rfl) (by kernel_rfl) (by kernel_rfl) (fun _ _ _ h => h) (Or.inl ⟨by rfl, ?_⟩) (by assumption) ?_
  rotate_left
  · (intro w hSw; (try dsimp only at hSw); go_simp) <;> (with_reducible rfl)
  simp only [List.setIfInBounds_toArray, List.set_cons_zero, List.set_cons_succ]
  clear hHeld
  have hmk : ∀ w, (Instr.makeSlice 24 (.int .i64 12) (.int .i64 12)).run Try.prog w = .ok (.slice (some ⟨w.heap.size, 0, none⟩) 12 12) (w.alloc (.cells (Array.replicate 12 (.int .i64 0)) 3)) := fun _ => by kernel_rfl
  apply cutT
  · intro fin
    refine wpAnyT_two (i := 2) (j := 9) (by kernel_rfl) rfl rfl ?_ ?_
    · skip
      go_wp2_with fail
      have hn : ∀ x, x = W.alloc (.cells (Array.replicate 12 (.int .i64 0)) 3) → Rd (· < x.heap.size) 1 ienc x ⟨some ⟨W.heap.size, 0, none⟩, 12, List.replicate 12 0⟩ := by
        rintro _ rfl
        exact rd_zeros rfl
      obtain ⟨g2, hg2⟩ : ∃ g, g = W.heap.size := ⟨_, rfl⟩
      rw [← hg2] at hn ⊢
      have hbo : ∀ x, x = W.alloc (.cells (Array.replicate 12 (.int .i64 0)) 3) → Below W.heap.size W x := by
        rintro _ rfl
        exact (by repeat (first | (with_reducible exact Below.refl _ _) | ((with_reducible refine below_setr ?_ ?_); focus (first | (simp; done) | (simp; omega) | omega)) | ((with_reducible refine below_allocr ?_ ?_); focus (first | (simp; done) | (simp; omega) | omega)) | (with_reducible refine Below.drew ?_) | (with_reducible refine below_drewN ?_ _) | ((with_reducible apply below_via); focus (with_reducible assumption))))
      obtain ⟨W, hW2⟩ : ∃ x, x = W.alloc (.cells (Array.replicate 12 (.int .i64 0)) 3) := ⟨_, rfl⟩
      have hb := hbo _ hW2
      rw [← hW2]
      clear hbo
      have gl := FA.out.lt
      replace FP := Lib.hid (FP.out.keep (fun b hb' => hb.block b (Nat.lt_trans hb' gl)))
      replace FT := Lib.hid (FT.out.keep (fun b hb' => hb.block b (Nat.lt_trans hb' gl)))
      replace FA := Lib.hid (FA.out.later hb)
      replace FB := Lib.hid (below_via hb FB.out)
      try replace F2 := Lib.hid (F2.out.below' hb (Nat.le_refl _))
      try replace FX := Lib.hid (FX.out.later hb)
      have hHeld := And.intro (FA.out.cell 0) (And.intro (FA.out.cell 1) (And.intro (FA.out.cell 2) (And.intro (FA.out.cell 3) (FA.out.cell 4))))
      clear gl
      have F2 := Lib.hid (hn _ hW2)
      clear hn hW2 hg2 hb
      refine And.intro ?_ ?_
      · first
        | exact hHeld
        | exact fun _ => hHeld
      clear hHeld
      refine wpAnyT_two (i := 3) (j := 9) (by kernel_rfl) rfl rfl ?_ ?_
      · skip
        go_wp2_with fail
        refine (phone_join ⟨i5, c5, H5, N5, S5⟩ ⟨lA, lc, ll⟩ ⟨some ⟨g2, 0, none⟩, 12, List.replicate 12 0⟩ _ (FP.out.mono (fun b hb' => Nat.lt_trans hb' FA.out.lt)) (FT.out.mono (fun b hb' => Nat.lt_trans hb' FA.out.lt)) F2.out HLL.out).mono ?_
        rintro e W ⟨⟨iJ, cJ, HJ, NJ, SJ⟩, ⟨oA, oc, ol⟩, ⟨nA, nc, nl⟩, rfl, hdj, hsj, hnj, hfr0, hb⟩
        have hfr := hfr0.out
        clear hfr0
        obtain ⟨pj, hpj⟩ := HJN.out
        rw [hpj] at hdj hsj hnj hfr
        rw [hpj]
        obtain ⟨f1, f2, f3⟩ : RdPhone _ W _ ∧ RdStocks _ W _ ∧ RdNotes _ W _ := by
          rcases hfr with ⟨h, _⟩ | ⟨_, h⟩
          · exact absurd rfl h
          · exact h
        have FJ0 := Lib.hid (f2.mono (G := fun b => b < W.heap.size) (fun b hb' => hb'.2))
        clear F2 f1 f2 f3 hfr hdj hpj
        have HSJ := Lib.hid hsj
        have HNJ := Lib.hid hnj
        clear hsj hnj
        have gl := FA.out.lt
        replace FP := Lib.hid (FP.out.keep (fun b hb' => hb.block b (Nat.lt_trans hb' gl)))
        replace FT := Lib.hid (FT.out.keep (fun b hb' => hb.block b (Nat.lt_trans hb' gl)))
        replace FA := Lib.hid (FA.out.later hb)
        replace FB := Lib.hid (below_via hb FB.out)
        try replace F2 := Lib.hid (F2.out.below' hb (Nat.le_refl _))
        try replace FX := Lib.hid (FX.out.later hb)
        have hHeld := And.intro (FA.out.cell 0) (And.intro (FA.out.cell 1) (And.intro (FA.out.cell 2) (And.intro (FA.out.cell 3) (FA.out.cell 4))))
        clear gl
        clear hb
        simp only [Phone.v]
        go_wp2_with fail
        refine And.intro ?_ ?_
        · first
          | exact hHeld
          | exact fun _ => hHeld
        refine wpAnyT_take2 (i := 4) (v := ?_) rfl rfl (by kernel_rfl) (by kernel_rfl) (by kernel_rfl) (by kernel_rfl) (fun _ _ _ h => h) (Or.inl ⟨by rfl, ?_⟩) (by assumption) ?_
        rotate_left
        · (intro w hSw; (try dsimp only at hSw); go_simp) <;> (with_reducible rfl)
        simp only [List.setIfInBounds_toArray, List.set_cons_zero, List.set_cons_succ]
        refine wpAnyT_take2 (i := 5) (v := ?_) rfl rfl (by kernel_rfl) (by kernel_rfl) (by kernel_rfl) (by kernel_rfl) (fun _ _ _ h => h) (Or.inl ⟨by rfl, ?_⟩) (by assumption) ?_
        rotate_left
        · (intro w hSw; (try dsimp only at hSw); go_simp) <;> (with_reducible rfl)
        simp only [List.setIfInBounds_toArray, List.set_cons_zero, List.set_cons_succ]
        refine wpAnyT_take2 (i := 6) (v := ?_) rfl rfl (by kernel_rfl) (by kernel_rfl) (by kernel_rfl) (by kernel_rfl) (fun _ _ _ h => h) (Or.inl ⟨by rfl, ?_⟩) (by assumption) ?_
        rotate_left
        · (intro w hSw; (try dsimp only at hSw); go_simp) <;> (with_reducible rfl)
        simp only [List.setIfInBounds_toArray, List.set_cons_zero, List.set_cons_succ]
        refine wpAnyT_take2 (i := 7) (v := ?_) rfl rfl (by kernel_rfl) (by kernel_rfl) (by kernel_rfl) (by kernel_rfl) (fun _ _ _ h => h) (Or.inl ⟨by rfl, ?_⟩) (by assumption) ?_
        rotate_left
        · (intro w hSw; (try dsimp only at hSw); go_simp) <;> (with_reducible rfl)
        simp only [List.setIfInBounds_toArray, List.set_cons_zero, List.set_cons_succ]
        refine wpAnyT_take2 (i := 8) (v := ?_) rfl rfl (by kernel_rfl) (by kernel_rfl) (by kernel_rfl) (by kernel_rfl) (fun _ _ _ h => h) (Or.inl ⟨by rfl, ?_⟩) (by assumption) ?_
        rotate_left
        · (intro w hSw; (try dsimp only at hSw); go_simp) <;> (with_reducible rfl)
        simp only [List.setIfInBounds_toArray, List.set_cons_zero, List.set_cons_succ]
        clear hHeld
        refine wpAnyT_next (i := 9) (by kernel_rfl) rfl ?_
        go_wp2_with fail
        have hn : ∀ x, x = W.alloc (.cells #[.int .i64 0, .bool false, .slice none 0 0, .slice none 0 0, .slice none 0 0] 33) → Blk x W.heap.size 33 #[.int .i64 0, .bool false, .slice none 0 0, .slice none 0 0, .slice none 0 0] := by
          rintro _ rfl
          exact Blk.new _ _ _
        have hj : ∀ x, x = W.alloc (.cells #[.int .i64 0, .bool false, .slice none 0 0, .slice none 0 0, .slice none 0 0] 33) → RdStocks (fun b => b ≠ W.heap.size ∧ b < x.heap.size) x ⟨oA, oc, ol⟩ := by
          rintro _ rfl
          exact (FJ0.out.keep (fun b hb => Below.heap_alloc _ _ b hb)).mono (fun b hb => ⟨Nat.ne_of_lt hb, by simp; omega⟩)
        obtain ⟨g9, hg9⟩ : ∃ g, g = W.heap.size := ⟨_, rfl⟩
        have H9 : Hid (w5.heap.size < g9) := Lib.hid (by rw [hg9]; exact FA.out.lt)
        rw [← hg9] at hn hj ⊢
        clear FJ0
        have hbo : ∀ x, x = W.alloc (.cells #[.int .i64 0, .bool false, .slice none 0 0, .slice none 0 0, .slice none 0 0] 33) → Below W.heap.size W x := by
          rintro _ rfl
          exact (by repeat (first | (with_reducible exact Below.refl _ _) | ((with_reducible refine below_setr ?_ ?_); focus (first | (simp; done) | (simp; omega) | omega)) | ((with_reducible refine below_allocr ?_ ?_); focus (first | (simp; done) | (simp; omega) | omega)) | (with_reducible refine Below.drew ?_) | (with_reducible refine below_drewN ?_ _) | ((with_reducible apply below_via); focus (with_reducible assumption))))
        obtain ⟨W, hW2⟩ : ∃ x, x = W.alloc (.cells #[.int .i64 0, .bool false, .slice none 0 0, .slice none 0 0, .slice none 0 0] 33) := ⟨_, rfl⟩
        have hb := hbo _ hW2
        rw [← hW2]
        clear hbo
        have gl := FA.out.lt
        replace FP := Lib.hid (FP.out.keep (fun b hb' => hb.block b (Nat.lt_trans hb' gl)))
        replace FT := Lib.hid (FT.out.keep (fun b hb' => hb.block b (Nat.lt_trans hb' gl)))
        replace FA := Lib.hid (FA.out.later hb)
        replace FB := Lib.hid (below_via hb FB.out)
        try replace F2 := Lib.hid (F2.out.below' hb (Nat.le_refl _))
        try replace FX := Lib.hid (FX.out.later hb)
        have hHeld := And.intro (FA.out.cell 0) (And.intro (FA.out.cell 1) (And.intro (FA.out.cell 2) (And.intro (FA.out.cell 3) (FA.out.cell 4))))
        clear gl
        have FX := Lib.hid (hn _ hW2)
        have FJ := Lib.hid (hj _ hW2)
        clear hn hj hW2 hg9 hb
        refine And.intro ?_ ?_
        · first
          | exact hHeld
          | exact fun _ => hHeld
        clear hHeld
        have ALL := Lib.hid (And.intro FX.out (And.intro FJ.out (And.intro HSJ.out (And.intro HNJ.out (And.intro FB.out (And.intro FA.out (And.intro FP.out (And.intro FT.out H9.out))))))))
        clear FA FP FT FB FX FJ HSJ HNJ H9
        revert ALL
        revert W
        revert nl
        revert nc
        revert nA
        revert ol
        revert oc
        revert oA
        revert SJ
        revert NJ
        revert HJ
        revert cJ
        revert iJ
        revert g9
        revert g2
        exact fin
      · skip
        go_wp2_with fail
        have hn : ∀ x, x = W.alloc (.cells #[.int .i64 0, .bool false, .slice none 0 0, .slice none 0 0, .slice none 0 0] 33) → Blk x W.heap.size 33 #[.int .i64 0, .bool false, .slice none 0 0, .slice none 0 0, .slice none 0 0] := by
          rintro _ rfl
          exact Blk.new _ _ _
        obtain ⟨g9, hg9⟩ : ∃ g, g = W.heap.size := ⟨_, rfl⟩
        have H9 : Hid (w5.heap.size < g9) := Lib.hid (by rw [hg9]; exact FA.out.lt)
        rw [← hg9] at hn ⊢
        have hbo : ∀ x, x = W.alloc (.cells #[.int .i64 0, .bool false, .slice none 0 0, .slice none 0 0, .slice none 0 0] 33) → Below W.heap.size W x := by
          rintro _ rfl
          exact (by repeat (first | (with_reducible exact Below.refl _ _) | ((with_reducible refine below_setr ?_ ?_); focus (first | (simp; done) | (simp; omega) | omega)) | ((with_reducible refine below_allocr ?_ ?_); focus (first | (simp; done) | (simp; omega) | omega)) | (with_reducible refine Below.drew ?_) | (with_reducible refine below_drewN ?_ _) | ((with_reducible apply below_via); focus (with_reducible assumption))))
        obtain ⟨W, hW2⟩ : ∃ x, x = W.alloc (.cells #[.int .i64 0, .bool false, .slice none 0 0, .slice none 0 0, .slice none 0 0] 33) := ⟨_, rfl⟩
        have hb := hbo _ hW2
        rw [← hW2]
        clear hbo
        have gl := FA.out.lt
        replace FP := Lib.hid (FP.out.keep (fun b hb' => hb.block b (Nat.lt_trans hb' gl)))
        replace FT := Lib.hid (FT.out.keep (fun b hb' => hb.block b (Nat.lt_trans hb' gl)))
        replace FA := Lib.hid (FA.out.later hb)
        replace FB := Lib.hid (below_via hb FB.out)
        try replace F2 := Lib.hid (F2.out.below' hb (Nat.le_refl _))
        try replace FX := Lib.hid (FX.out.later hb)
        have hHeld := And.intro (FA.out.cell 0) (And.intro (FA.out.cell 1) (And.intro (FA.out.cell 2) (And.intro (FA.out.cell 3) (FA.out.cell 4))))
        clear gl
        have FX := Lib.hid (hn _ hW2)
        clear hn hW2 hg9 hb
        refine And.intro ?_ ?_
        · first
          | exact hHeld
          | exact fun _ => hHeld
        clear hHeld
        refine wpAnyT_next (i := 3) (by kernel_rfl) rfl ?_
        have fxl := FX.out.lt
        go_wp2_with fail
        refine (phone_join ⟨i5, c5, H5, N5, S5⟩ ⟨lA, lc, ll⟩ ⟨some ⟨g2, 0, none⟩, 12, List.replicate 12 0⟩ _ (FP.out.mono (fun b hb' => Nat.lt_trans hb' FA.out.lt)) (FT.out.mono (fun b hb' => Nat.lt_trans hb' FA.out.lt)) F2.out HLL.out).mono ?_
        rintro e W ⟨⟨iJ, cJ, HJ, NJ, SJ⟩, ⟨oA, oc, ol⟩, ⟨nA, nc, nl⟩, rfl, hdj, hsj, hnj, hfr0, hb⟩
        have hfr := hfr0.out
        clear hfr0
        obtain ⟨pj, hpj⟩ := HJN.out
        rw [hpj] at hdj hsj hnj hfr
        rw [hpj]
        obtain ⟨f1, f2, f3⟩ : RdPhone _ W _ ∧ RdStocks _ W _ ∧ RdNotes _ W _ := by
          rcases hfr with ⟨h, _⟩ | ⟨_, h⟩
          · exact absurd rfl h
          · exact h
        have FJ := Lib.hid (f2.mono (G := fun b => b ≠ g9 ∧ b < W.heap.size) (fun b hb' => ⟨by omega, hb'.2⟩))
        clear F2 f1 f2 f3 hfr hdj hpj
        have HSJ := Lib.hid hsj
        have HNJ := Lib.hid hnj
        clear hsj hnj
        have gl := FA.out.lt
        replace FP := Lib.hid (FP.out.keep (fun b hb' => hb.block b (Nat.lt_trans hb' gl)))
        replace FT := Lib.hid (FT.out.keep (fun b hb' => hb.block b (Nat.lt_trans hb' gl)))
        replace FA := Lib.hid (FA.out.later hb)
        replace FB := Lib.hid (below_via hb FB.out)
        try replace F2 := Lib.hid (F2.out.below' hb (Nat.le_refl _))
        try replace FX := Lib.hid (FX.out.later hb)
        have hHeld := And.intro (FA.out.cell 0) (And.intro (FA.out.cell 1) (And.intro (FA.out.cell 2) (And.intro (FA.out.cell 3) (FA.out.cell 4))))
        clear gl
        clear hb
        simp only [Phone.v]
        go_wp2_with fail
        refine And.intro ?_ ?_
        · first
          | exact hHeld
          | exact fun _ => hHeld
        refine wpAnyT_take2 (i := 4) (v := ?_) rfl rfl (by kernel_rfl) (by kernel_rfl) (by kernel_rfl) (by kernel_rfl) (fun _ _ _ h => h) (Or.inl ⟨by rfl, ?_⟩) (by assumption) ?_
        rotate_left
        · (intro w hSw; (try dsimp only at hSw); go_simp) <;> (with_reducible rfl)
        simp only [List.setIfInBounds_toArray, List.set_cons_zero, List.set_cons_succ]
        refine wpAnyT_take2 (i := 5) (v := ?_) rfl rfl (by kernel_rfl) (by kernel_rfl) (by kernel_rfl) (by kernel_rfl) (fun _ _ _ h => h) (Or.inl ⟨by rfl, ?_⟩) (by assumption) ?_
        rotate_left
        · (intro w hSw; (try dsimp only at hSw); go_simp) <;> (with_reducible rfl)
        simp only [List.setIfInBounds_toArray, List.set_cons_zero, List.set_cons_succ]
        refine wpAnyT_take2 (i := 6) (v := ?_) rfl rfl (by kernel_rfl) (by kernel_rfl) (by kernel_rfl) (by kernel_rfl) (fun _ _ _ h => h) (Or.inl ⟨by rfl, ?_⟩) (by assumption) ?_
        rotate_left
        · (intro w hSw; (try dsimp only at hSw); go_simp) <;> (with_reducible rfl)
        simp only [List.setIfInBounds_toArray, List.set_cons_zero, List.set_cons_succ]
        refine wpAnyT_take2 (i := 7) (v := ?_) rfl rfl (by kernel_rfl) (by kernel_rfl) (by kernel_rfl) (by kernel_rfl) (fun _ _ _ h => h) (Or.inl ⟨by rfl, ?_⟩) (by assumption) ?_
        rotate_left
        · (intro w hSw; (try dsimp only at hSw); go_simp) <;> (with_reducible rfl)
        simp only [List.setIfInBounds_toArray, List.set_cons_zero, List.set_cons_succ]
        refine wpAnyT_take2 (i := 8) (v := ?_) rfl rfl (by kernel_rfl) (by kernel_rfl) (by kernel_rfl) (by kernel_rfl) (fun _ _ _ h => h) (Or.inl ⟨by rfl, ?_⟩) (by assumption) ?_
        rotate_left
        · (intro w hSw; (try dsimp only at hSw); go_simp) <;> (with_reducible rfl)
        simp only [List.setIfInBounds_toArray, List.set_cons_zero, List.set_cons_succ]
        clear hHeld
        clear fxl
        have ALL := Lib.hid (And.intro FX.out (And.intro FJ.out (And.intro HSJ.out (And.intro HNJ.out (And.intro FB.out (And.intro FA.out (And.intro FP.out (And.intro FT.out H9.out))))))))
        clear FA FP FT FB FX FJ HSJ HNJ H9
        revert ALL
        revert W
        revert nl
        revert nc
        revert nA
        revert ol
        revert oc
        revert oA
        revert SJ
        revert NJ
        revert HJ
        revert cJ
        revert iJ
        revert g9
        revert g2
        exact fin
    · skip
      go_wp2_with fail
      have hn : ∀ x, x = W.alloc (.cells #[.int .i64 0, .bool false, .slice none 0 0, .slice none 0 0, .slice none 0 0] 33) → Blk x W.heap.size 33 #[.int .i64 0, .bool false, .slice none 0 0, .slice none 0 0, .slice none 0 0] := by
        rintro _ rfl
        exact Blk.new _ _ _
      obtain ⟨g9, hg9⟩ : ∃ g, g = W.heap.size := ⟨_, rfl⟩
      have H9 : Hid (w5.heap.size < g9) := Lib.hid (by rw [hg9]; exact FA.out.lt)
      rw [← hg9] at hn ⊢
      have hbo : ∀ x, x = W.alloc (.cells #[.int .i64 0, .bool false, .slice none 0 0, .slice none 0 0, .slice none 0 0] 33) → Below W.heap.size W x := by
        rintro _ rfl
        exact (by repeat (first | (with_reducible exact Below.refl _ _) | ((with_reducible refine below_setr ?_ ?_); focus (first | (simp; done) | (simp; omega) | omega)) | ((with_reducible refine below_allocr ?_ ?_); focus (first | (simp; done) | (simp; omega) | omega)) | (with_reducible refine Below.drew ?_) | (with_reducible refine below_drewN ?_ _) | ((with_reducible apply below_via); focus (with_reducible assumption))))
      obtain ⟨W, hW2⟩ : ∃ x, x = W.alloc (.cells #[.int .i64 0, .bool false, .slice none 0 0, .slice none 0 0, .slice none 0 0] 33) := ⟨_, rfl⟩
      have hb := hbo _ hW2
      rw [← hW2]
      clear hbo
      have gl := FA.out.lt
      replace FP := Lib.hid (FP.out.keep (fun b hb' => hb.block b (Nat.lt_trans hb' gl)))
      replace FT := Lib.hid (FT.out.keep (fun b hb' => hb.block b (Nat.lt_trans hb' gl)))
      replace FA := Lib.hid (FA.out.later hb)
      replace FB := Lib.hid (below_via hb FB.out)
      try replace F2 := Lib.hid (F2.out.below' hb (Nat.le_refl _))
      try replace FX := Lib.hid (FX.out.later hb)
      have hHeld := And.intro (FA.out.cell 0) (And.intro (FA.out.cell 1) (And.intro (FA.out.cell 2) (And.intro (FA.out.cell 3) (FA.out.cell 4))))
      clear gl
      have FX := Lib.hid (hn _ hW2)
      clear hn hW2 hg9 hb
      refine And.intro ?_ ?_
      · first
        | exact hHeld
        | exact fun _ => hHeld
      clear hHeld
      refine wpAnyT_next (i := 2) (by kernel_rfl) rfl ?_
      go_wp2_with fail
      have hn : ∀ x, x = W.alloc (.cells (Array.replicate 12 (.int .i64 0)) 3) → Rd (· < x.heap.size) 1 ienc x ⟨some ⟨W.heap.size, 0, none⟩, 12, List.replicate 12 0⟩ := by
        rintro _ rfl
        exact rd_zeros rfl
      obtain ⟨g2, hg2⟩ : ∃ g, g = W.heap.size := ⟨_, rfl⟩
      rw [← hg2] at hn ⊢
      have hbo : ∀ x, x = W.alloc (.cells (Array.replicate 12 (.int .i64 0)) 3) → Below W.heap.size W x := by
        rintro _ rfl
        exact (by repeat (first | (with_reducible exact Below.refl _ _) | ((with_reducible refine below_setr ?_ ?_); focus (first | (simp; done) | (simp; omega) | omega)) | ((with_reducible refine below_allocr ?_ ?_); focus (first | (simp; done) | (simp; omega) | omega)) | (with_reducible refine Below.drew ?_) | (with_reducible refine below_drewN ?_ _) | ((with_reducible apply below_via); focus (with_reducible assumption))))
      obtain ⟨W, hW2⟩ : ∃ x, x = W.alloc (.cells (Array.replicate 12 (.int .i64 0)) 3) := ⟨_, rfl⟩
      have hb := hbo _ hW2
      rw [← hW2]
      clear hbo
      have gl := FA.out.lt
      replace FP := Lib.hid (FP.out.keep (fun b hb' => hb.block b (Nat.lt_trans hb' gl)))
      replace FT := Lib.hid (FT.out.keep (fun b hb' => hb.block b (Nat.lt_trans hb' gl)))
      replace FA := Lib.hid (FA.out.later hb)
      replace FB := Lib.hid (below_via hb FB.out)
      try replace F2 := Lib.hid (F2.out.below' hb (Nat.le_refl _))
      try replace FX := Lib.hid (FX.out.later hb)
      have hHeld := And.intro (FA.out.cell 0) (And.intro (FA.out.cell 1) (And.intro (FA.out.cell 2) (And.intro (FA.out.cell 3) (FA.out.cell 4))))
      clear gl
      have F2 := Lib.hid (hn _ hW2)
      clear hn hW2 hg2 hb
      refine And.intro ?_ ?_
      · first
        | exact hHeld
        | exact fun _ => hHeld
      clear hHeld
      refine wpAnyT_next (i := 3) (by kernel_rfl) rfl ?_
      have fxl := FX.out.lt
      go_wp2_with fail
      refine (phone_join ⟨i5, c5, H5, N5, S5⟩ ⟨lA, lc, ll⟩ ⟨some ⟨g2, 0, none⟩, 12, List.replicate 12 0⟩ _ (FP.out.mono (fun b hb' => Nat.lt_trans hb' FA.out.lt)) (FT.out.mono (fun b hb' => Nat.lt_trans hb' FA.out.lt)) F2.out HLL.out).mono ?_
      rintro e W ⟨⟨iJ, cJ, HJ, NJ, SJ⟩, ⟨oA, oc, ol⟩, ⟨nA, nc, nl⟩, rfl, hdj, hsj, hnj, hfr0, hb⟩
      have hfr := hfr0.out
      clear hfr0
      obtain ⟨pj, hpj⟩ := HJN.out
      rw [hpj] at hdj hsj hnj hfr
      rw [hpj]
      obtain ⟨f1, f2, f3⟩ : RdPhone _ W _ ∧ RdStocks _ W _ ∧ RdNotes _ W _ := by
        rcases hfr with ⟨h, _⟩ | ⟨_, h⟩
        · exact absurd rfl h
        · exact h
      have FJ := Lib.hid (f2.mono (G := fun b => b ≠ g9 ∧ b < W.heap.size) (fun b hb' => ⟨by omega, hb'.2⟩))
      clear F2 f1 f2 f3 hfr hdj hpj
      have HSJ := Lib.hid hsj
      have HNJ := Lib.hid hnj
      clear hsj hnj
      have gl := FA.out.lt
      replace FP := Lib.hid (FP.out.keep (fun b hb' => hb.block b (Nat.lt_trans hb' gl)))
      replace FT := Lib.hid (FT.out.keep (fun b hb' => hb.block b (Nat.lt_trans hb' gl)))
      replace FA := Lib.hid (FA.out.later hb)
      replace FB := Lib.hid (below_via hb FB.out)
      try replace F2 := Lib.hid (F2.out.below' hb (Nat.le_refl _))
      try replace FX := Lib.hid (FX.out.later hb)
      have hHeld := And.intro (FA.out.cell 0) (And.intro (FA.out.cell 1) (And.intro (FA.out.cell 2) (And.intro (FA.out.cell 3) (FA.out.cell 4))))
      clear gl
      clear hb
      simp only [Phone.v]
      go_wp2_with fail
      refine And.intro ?_ ?_
      · first
        | exact hHeld
        | exact fun _ => hHeld
      refine wpAnyT_take2 (i := 4) (v := ?_) rfl rfl (by kernel_rfl) (by kernel_rfl) (by kernel_rfl) (by kernel_rfl) (fun _ _ _ h => h) (Or.inl ⟨by rfl, ?_⟩) (by assumption) ?_
      rotate_left
      · (intro w hSw; (try dsimp only at hSw); go_simp) <;> (with_reducible rfl)
      simp only [List.setIfInBounds_toArray, List.set_cons_zero, List.set_cons_succ]
      refine wpAnyT_take2 (i := 5) (v := ?_) rfl rfl (by kernel_rfl) (by kernel_rfl) (by kernel_rfl) (by kernel_rfl) (fun _ _ _ h => h) (Or.inl ⟨by rfl, ?_⟩) (by assumption) ?_
      rotate_left
      · (intro w hSw; (try dsimp only at hSw); go_simp) <;> (with_reducible rfl)
      simp only [List.setIfInBounds_toArray, List.set_cons_zero, List.set_cons_succ]
      refine wpAnyT_take2 (i := 6) (v := ?_) rfl rfl (by kernel_rfl) (by kernel_rfl) (by kernel_rfl) (by kernel_rfl) (fun _ _ _ h => h) (Or.inl ⟨by rfl, ?_⟩) (by assumption) ?_
      rotate_left
      · (intro w hSw; (try dsimp only at hSw); go_simp) <;> (with_reducible rfl)
      simp only [List.setIfInBounds_toArray, List.set_cons_zero, List.set_cons_succ]
      refine wpAnyT_take2 (i := 7) (v := ?_) rfl rfl (by kernel_rfl) (by kernel_rfl) (by kernel_rfl) (by kernel_rfl) (fun _ _ _ h => h) (Or.inl ⟨by rfl, ?_⟩) (by assumption) ?_
      rotate_left
      · (intro w hSw; (try dsimp only at hSw); go_simp) <;> (with_reducible rfl)
      simp only [List.setIfInBounds_toArray, List.set_cons_zero, List.set_cons_succ]
      refine wpAnyT_take2 (i := 8) (v := ?_) rfl rfl (by kernel_rfl) (by kernel_rfl) (by kernel_rfl) (by kernel_rfl) (fun _ _ _ h => h) (Or.inl ⟨by rfl, ?_⟩) (by assumption) ?_
      rotate_left
      · (intro w hSw; (try dsimp only at hSw); go_simp) <;> (with_reducible rfl)
      simp only [List.setIfInBounds_toArray, List.set_cons_zero, List.set_cons_succ]
      clear hHeld
      clear fxl
      have ALL := Lib.hid (And.intro FX.out (And.intro FJ.out (And.intro HSJ.out (And.intro HNJ.out (And.intro FB.out (And.intro FA.out (And.intro FP.out (And.intro FT.out H9.out))))))))
      clear FA FP FT FB FX FJ HSJ HNJ H9
      revert ALL
      revert W
      revert nl
      revert nc
      revert nA
      revert ol
      revert oc
      revert oA
      revert SJ
      revert NJ
      revert HJ
      revert cJ
      revert iJ
      revert g9
      revert g2
      exact fin
  intro g2 g9 iJ cJ HJ NJ SJ oA oc ol nA nc nl W ALL
  obtain ⟨fx, fj, hsj, hnj, fb, fa, fp, ft, h9⟩ := ALL.out
  clear ALL
  obtain ⟨x0, x1, x2, x3, x4, xf, xz⟩ := fx.b5
  have n1 : w5.heap.size ≠ g9 := by omega
  have KS : ∀ {b o : Nat} {v : Value} (v0 v1 v2 v3 v4 : Value), b ≠ g9 → W.cell? ⟨b, o, none⟩ = some v → (((((W.setCell ⟨g9, 0, none⟩ v0).setCell ⟨g9, 1, none⟩ v1).setCell ⟨g9, 2, none⟩ v2).setCell ⟨g9, 3, none⟩ v3).setCell ⟨g9, 4, none⟩ v4).cell? ⟨b, o, none⟩ = some v := fun v0 v1 v2 v3 v4 hne h => kset _ hne (kset _ hne (kset _ hne (kset _ hne (kset _ hne h))))
  have HKS := Lib.hid (fun v0 v1 v2 v3 v4 => And.intro (KS v0 v1 v2 v3 v4 n1 (fa.cell 0)) (And.intro (KS v0 v1 v2 v3 v4 n1 (fa.cell 1)) (And.intro (KS v0 v1 v2 v3 v4 n1 (fa.cell 2)) (And.intro (KS v0 v1 v2 v3 v4 n1 (fa.cell 3)) (KS v0 v1 v2 v3 v4 n1 (fa.cell 4))))))
  have KB5 : ∀ (v0 v1 v2 v3 v4 : Value) (b : Nat), b ≠ g9 → (((((W.setCell ⟨g9, 0, none⟩ v0).setCell ⟨g9, 1, none⟩ v1).setCell ⟨g9, 2, none⟩ v2).setCell ⟨g9, 3, none⟩ v3).setCell ⟨g9, 4, none⟩ v4).heap[b]? = W.heap[b]? := fun v0 v1 v2 v3 v4 b hne => by
    rw [Below.heap_setCell _ _ _ _ hne, Below.heap_setCell _ _ _ _ hne, Below.heap_setCell _ _ _ _ hne, Below.heap_setCell _ _ _ _ hne, Below.heap_setCell _ _ _ _ hne]
  have hwg : w.heap.size ≤ g9 := by omega
  have HV : ∀ x, x = ((((W.setCell ⟨g9, 0, none⟩ (.int .i64 iJ)).setCell ⟨g9, 1, none⟩ (.bool cJ)).setCell ⟨g9, 2, none⟩ (.slice HJ.A HJ.l.length HJ.c)).setCell ⟨g9, 3, none⟩ (.slice NJ.A NJ.l.length NJ.c)).setCell ⟨g9, 4, none⟩ (.slice SJ.A SJ.l.length SJ.c) →
      Blk x w5.heap.size 33 #[.int .i64 i5, .bool c5, .slice H5.A H5.l.length H5.c, .slice N5.A N5.l.length N5.c, .slice S5.A S5.l.length S5.c] ∧ RdPhone (· < w5.heap.size) x ⟨i5, c5, H5, N5, S5⟩ ∧ RdStocks (· < w5.heap.size) x ⟨lA, lc, ll⟩ ∧ RdStocks (· < x.heap.size) x ⟨oA, oc, ol⟩ ∧ Below w.heap.size w x := by
    rintro _ rfl
    refine ⟨(KB5 _ _ _ _ _ _ n1).trans fa, fp.keep (fun b hb => KB5 _ _ _ _ _ _ (by omega)), ft.keep (fun b hb => KB5 _ _ _ _ _ _ (by omega)), ?_, (by repeat (first | (with_reducible exact fb) | (with_reducible exact Below.refl _ _) | ((with_reducible refine below_setr ?_ ?_); focus (first | (simp; done) | (simp; omega) | omega)) | ((with_reducible refine below_allocr ?_ ?_); focus (first | (simp; done) | (simp; omega) | omega)) | (with_reducible refine Below.drew ?_) | (with_reducible refine below_drewN ?_ _) | ((with_reducible apply below_via); focus (with_reducible assumption))))⟩
    exact (fj.keep (fun b hb => KB5 _ _ _ _ _ _ hb.1)).mono (fun b hb => by simpa using hb.2)
  have HVV := Lib.hid HV
  have HSJ := Lib.hid hsj
  have hnl : nl.length = 0 := by simpa using hnj
  clear KS KB5 HV hsj hnj fx fj fb fa fp ft
  refine wpAnyT_next (i := 10) (by kernel_rfl) rfl ?_
  go_wp2_with fail
  have hHeld := HKS.out (.int .i64 iJ) (.bool cJ) (.slice HJ.A HJ.l.length HJ.c) (.slice NJ.A NJ.l.length NJ.c) (.slice SJ.A SJ.l.length SJ.c)
  refine And.intro ?_ ?_
  · first
    | exact hHeld
    | exact fun _ => hHeld
  refine wpAnyT_take2 (i := 11) (v := ?_) rfl rfl (by kernel_rfl) (by kernel_rfl) (by kernel_rfl) (by kernel_rfl) (fun _ _ _ h => h) (Or.inl ⟨by rfl, ?_⟩) (by assumption) ?_
  rotate_left
  · (intro w hSw; (try dsimp only at hSw); go_simp) <;> (with_reducible rfl)
  simp only [List.setIfInBounds_toArray, List.set_cons_zero, List.set_cons_succ]
  refine wpAnyT_take2 (i := 12) (v := ?_) rfl rfl (by kernel_rfl) (by kernel_rfl) (by kernel_rfl) (by kernel_rfl) (fun _ _ _ h => h) (Or.inl ⟨by rfl, ?_⟩) (by assumption) ?_
  rotate_left
  · (intro w hSw; (try dsimp only at hSw); go_simp) <;> (with_reducible rfl)
  simp only [List.setIfInBounds_toArray, List.set_cons_zero, List.set_cons_succ]
  refine wpAnyT_take2 (i := 13) (v := ?_) rfl rfl (by kernel_rfl) (by kernel_rfl) (by kernel_rfl) (by kernel_rfl) (fun _ _ _ h => h) (Or.inl ⟨by rfl, ?_⟩) (by assumption) ?_
  rotate_left
  · (intro w hSw; (try dsimp only at hSw); go_simp) <;> (with_reducible rfl)
  simp only [List.setIfInBounds_toArray, List.set_cons_zero, List.set_cons_succ]
  refine wpAnyT_done (by kernel_rfl) ?_ _
  clear hHeld HKS
  obtain ⟨V, hV⟩ : ∃ x, x = ((((W.setCell ⟨g9, 0, none⟩ (.int .i64 iJ)).setCell ⟨g9, 1, none⟩ (.bool cJ)).setCell ⟨g9, 2, none⟩ (.slice HJ.A HJ.l.length HJ.c)).setCell ⟨g9, 3, none⟩ (.slice NJ.A NJ.l.length NJ.c)).setCell ⟨g9, 4, none⟩ (.slice SJ.A SJ.l.length SJ.c) := ⟨_, rfl⟩
  obtain ⟨va, vp, vt, vj, vb⟩ := HVV.out _ hV
  rw [← hV]
  have B_a := Lib.hid va
  have VP := Lib.hid vp
  have VT := Lib.hid vt
  have VJ := Lib.hid vj
  clear HVV hV vp vt vj x0 x1 x2 x3 x4 xf xz
  have vlt : w5.heap.size < V.heap.size := va.lt
  clear va
  go_wp2_with fail
  have hst := rstocks ⟨oA, oc, ol⟩ ss V VJ.out (HS.out.later vb (Nat.le_refl _))
  rw [decide_eq_true HSJ.out] at hst
  refine hst.mono ?_
  clear hst
  rintro e w6 ⟨rfl, hb6⟩
  have K_a : Blk _ (w5.heap.size) 33 #[.int .i64 i5, .bool c5, .slice H5.A H5.l.length H5.c, .slice N5.A N5.l.length N5.c, .slice S5.A S5.l.length S5.c] := blk_later hb6 (by simp [hp_past, hp_at, hp_other, hp_same, hp_drew, hp_drewN, B_a.out.eq, B_a.out.lt, hp_same B_a.out.eq])
  obtain ⟨a0, a1, a2, a3, a4, af, az⟩ := Blk.b5 K_a
  have B_a := Lib.hid K_a
  clear K_a
  have VP6 := Lib.hid (VP.out.keep (fun b hb => hb6.block b (Nat.lt_trans hb vlt)))
  have VT6 := Lib.hid (VT.out.keep (fun b hb => hb6.block b (Nat.lt_trans hb vlt)))
  have hB6 : Below w.heap.size w w6 := (by repeat (first | (with_reducible exact vb) | (with_reducible exact Below.refl _ _) | ((with_reducible refine below_setr ?_ ?_); focus (first | (simp; done) | (simp; omega) | omega)) | ((with_reducible refine below_allocr ?_ ?_); focus (first | (simp; done) | (simp; omega) | omega)) | (with_reducible refine Below.drew ?_) | (with_reducible refine below_drewN ?_ _) | ((with_reducible apply below_via); focus (with_reducible assumption))))
  clear hb6 vb VP VT VJ HSJ vlt
  go_wp2_with fail
  refine (phone_promise ⟨i5, c5, H5, N5, S5⟩ j n 5 nB _ (VP6.out.mono (fun b hb => Nat.lt_trans hb az))).mono ?_
  rintro e w7 ⟨⟨i8, c8, H8, N8, S8⟩, rfl, hd8, hr8, hb8⟩
  rw [HD5.out] at hd8
  rw [HD5.out]
  have VT7 := Lib.hid (VT6.out.keep (fun b hb => hb8.block b (Nat.lt_trans hb az)))
  have hB7 : Below w.heap.size w w7 := (by repeat (first | (with_reducible exact hB6) | (with_reducible exact Below.refl _ _) | ((with_reducible refine below_setr ?_ ?_); focus (first | (simp; done) | (simp; omega) | omega)) | ((with_reducible refine below_allocr ?_ ?_); focus (first | (simp; done) | (simp; omega) | omega)) | (with_reducible refine Below.drew ?_) | (with_reducible refine below_drewN ?_ _) | ((with_reducible apply below_via); focus (with_reducible assumption))))
  have z7 : w6.heap.size ≤ w7.heap.size := hb8.size
  have HR8 := Lib.hid hr8
  clear hb8 hr8 VT6 VP6
  rcases HLP.out.promise n with ⟨he, hor⟩ | ⟨hn1, hn2, hp⟩
  · generalize ((cP id true j u 0 []).promise j n 5 nB).2 = er at *
    have her : (er != 0) = true := by simp [he]
    clear he hd8
    simp only [Phone.v]
    rcases hor with h | h
    all_goals go_wp2_with fail
    all_goals
      go_ret
      exact ⟨rfl, (by repeat (first | (with_reducible exact hB7) | (with_reducible exact Below.refl _ _) | ((with_reducible refine below_setr ?_ ?_); focus (first | (simp; done) | (simp; omega) | omega)) | ((with_reducible refine below_allocr ?_ ?_); focus (first | (simp; done) | (simp; omega) | omega)) | (with_reducible refine Below.drew ?_) | (with_reducible refine below_drewN ?_ _) | ((with_reducible apply below_via); focus (with_reducible assumption))))⟩
  rw [hp] at hd8
  rw [hp]
  have HD8 := Lib.hid hd8
  clear hp hd8
  simp only [Phone.v]
  go_wp2_with fail
  have HJN : Hid (∃ p', (Phone.d ⟨i8, c8, H8, N8, S8⟩).join (ll.map Stock.d) (List.replicate 12 0) = (p', (ss.l.map Stock.d).set j ⟨x.T, x.U + n, x.L⟩, [nP id], 0)) := Lib.hid (by
    obtain ⟨p', h⟩ := HLP.out.join (s := n) (N := [nP id]) (by omega) (by omega) (.inr rfl)
    rw [HD8.out, HS4.out]
    exact ⟨p', h⟩)
  have h57 : w5.heap.size < w7.heap.size := by omega
  have SA0 : Hid (Blk (w7.alloc (.cells #[.int .i64 i8, .bool c8, .slice H8.A H8.l.length H8.c, .slice N8.A N8.l.length N8.c, .slice S8.A S8.l.length S8.c] 33)) w7.heap.size 33 #[.int .i64 i8, .bool c8, .slice H8.A H8.l.length H8.c, .slice N8.A N8.l.length N8.c, .slice S8.A S8.l.length S8.c] ∧ RdPhone (· < w7.heap.size) (w7.alloc (.cells #[.int .i64 i8, .bool c8, .slice H8.A H8.l.length H8.c, .slice N8.A N8.l.length N8.c, .slice S8.A S8.l.length S8.c] 33)) ⟨i8, c8, H8, N8, S8⟩ ∧ RdStocks (· < w7.heap.size) (w7.alloc (.cells #[.int .i64 i8, .bool c8, .slice H8.A H8.l.length H8.c, .slice N8.A N8.l.length N8.c, .slice S8.A S8.l.length S8.c] 33)) ⟨lA, lc, ll⟩ ∧ Below w.heap.size w (w7.alloc (.cells #[.int .i64 i8, .bool c8, .slice H8.A H8.l.length H8.c, .slice N8.A N8.l.length N8.c, .slice S8.A S8.l.length S8.c] 33))) := Lib.hid ⟨Blk.new _ _ _, HR8.out.keep (fun b hb => Below.heap_alloc _ _ b hb), (VT7.out.mono (fun b hb => Nat.lt_trans hb h57)).keep (fun b hb => Below.heap_alloc _ _ b hb), (by repeat (first | (with_reducible exact hB7) | (with_reducible exact Below.refl _ _) | ((with_reducible refine below_setr ?_ ?_); focus (first | (simp; done) | (simp; omega) | omega)) | ((with_reducible refine below_allocr ?_ ?_); focus (first | (simp; done) | (simp; omega) | omega)) | (with_reducible refine Below.drew ?_) | (with_reducible refine below_drewN ?_ _) | ((with_reducible apply below_via); focus (with_reducible assumption))))⟩
  clear a0 a1 a2 a3 a4 af B_a VT7 HR8 h57
  refine wp_region_T (fun w' => w'.cell? ⟨w7.heap.size, 0, none⟩ = some (.int .i64 i8) ∧ w'.cell? ⟨w7.heap.size, 1, none⟩ = some (.bool c8) ∧ w'.cell? ⟨w7.heap.size, 2, none⟩ = some (.slice H8.A H8.l.length H8.c) ∧ w'.cell? ⟨w7.heap.size, 3, none⟩ = some (.slice N8.A N8.l.length N8.c) ∧ w'.cell? ⟨w7.heap.size, 4, none⟩ = some (.slice S8.A S8.l.length S8.c)) (fun _ => false) (by kernel_rfl) ⟨SA0.out.1.cell 0, SA0.out.1.cell 1, SA0.out.1.cell 2, SA0.out.1.cell 3, SA0.out.1.cell 4⟩ (fun hHeld => ?_)
  obtain ⟨W, hW⟩ : ∃ x, x = World.drew (w7.alloc (.cells #[.int .i64 i8, .bool c8, .slice H8.A H8.l.length H8.c, .slice N8.A N8.l.length N8.c, .slice S8.A S8.l.length S8.c] 33)) := ⟨_, rfl⟩
  have hSA : Blk W (w7.heap.size) 33 #[.int .i64 i8, .bool c8, .slice H8.A H8.l.length H8.c, .slice N8.A N8.l.length N8.c, .slice S8.A S8.l.length S8.c] ∧ RdPhone (· < w7.heap.size) W ⟨i8, c8, H8, N8, S8⟩ ∧ RdStocks (· < w7.heap.size) W ⟨lA, lc, ll⟩ ∧ Below w.heap.size w W := by rw [hW]; exact ⟨SA0.out.1, SA0.out.2.1.keep (fun _ _ => rfl), SA0.out.2.2.1.keep (fun _ _ => rfl), Below.drew SA0.out.2.2.2⟩
  rw [← hW] at hHeld ⊢
  have FA := Lib.hid hSA.1
  have FP := Lib.hid hSA.2.1
  have FT := Lib.hid hSA.2.2.1
  have FB := Lib.hid hSA.2.2.2
  clear hSA SA0 hW
  refine wpAnyT_take2 (i := 0) (v := ?_) rfl rfl (by kernel_rfl) (by kernel_rfl) (by kernel_rfl) (by kernel_rfl) (fun _ _ _ h => h) (Or.inl ⟨by rfl, ?_⟩) (by assumption) ?_
  rotate_left
  · (intro w hSw; (try dsimp only at hSw); go_simp) <;> (with_reducible rfl)
  simp only [List.setIfInBounds_toArray, List.set_cons_zero, List.set_cons_succ]
  refine wpAnyT_take2 (i := 1) (v := ?_) rfl rfl (by kernel_rfl) (by kernel_rfl) (by kernel_rfl) (by kernel_rfl) (fun _ _ _ h => h) (Or.inl ⟨by rfl, ?_⟩) (by assumption) ?_
  rotate_left
  · (intro w hSw; (try dsimp only at hSw); go_simp) <;> (with_reducible rfl)
  simp only [List.setIfInBounds_toArray, List.set_cons_zero, List.set_cons_succ]
  clear hHeld
  have hmk : ∀ w, (Instr.makeSlice 24 (.int .i64 12) (.int .i64 12)).run Try.prog w = .ok (.slice (some ⟨w.heap.size, 0, none⟩) 12 12) (w.alloc (.cells (Array.replicate 12 (.int .i64 0)) 3)) := fun _ => by kernel_rfl
  apply cutT
  · intro fin
    refine wpAnyT_two (i := 2) (j := 9) (by kernel_rfl) rfl rfl ?_ ?_
    · skip
      go_wp2_with fail
      have hn : ∀ x, x = W.alloc (.cells (Array.replicate 12 (.int .i64 0)) 3) → Rd (· < x.heap.size) 1 ienc x ⟨some ⟨W.heap.size, 0, none⟩, 12, List.replicate 12 0⟩ := by
        rintro _ rfl
        exact rd_zeros rfl
      obtain ⟨g2, hg2⟩ : ∃ g, g = W.heap.size := ⟨_, rfl⟩
      rw [← hg2] at hn ⊢
      have hbo : ∀ x, x = W.alloc (.cells (Array.replicate 12 (.int .i64 0)) 3) → Below W.heap.size W x := by
        rintro _ rfl
        exact (by repeat (first | (with_reducible exact Below.refl _ _) | ((with_reducible refine below_setr ?_ ?_); focus (first | (simp; done) | (simp; omega) | omega)) | ((with_reducible refine below_allocr ?_ ?_); focus (first | (simp; done) | (simp; omega) | omega)) | (with_reducible refine Below.drew ?_) | (with_reducible refine below_drewN ?_ _) | ((with_reducible apply below_via); focus (with_reducible assumption))))
      obtain ⟨W, hW2⟩ : ∃ x, x = W.alloc (.cells (Array.replicate 12 (.int .i64 0)) 3) := ⟨_, rfl⟩
      have hb := hbo _ hW2
      rw [← hW2]
      clear hbo
      have gl := FA.out.lt
      replace FP := Lib.hid (FP.out.keep (fun b hb' => hb.block b (Nat.lt_trans hb' gl)))
      replace FT := Lib.hid (FT.out.keep (fun b hb' => hb.block b (Nat.lt_trans hb' gl)))
      replace FA := Lib.hid (FA.out.later hb)
      replace FB := Lib.hid (below_via hb FB.out)
      try replace F2 := Lib.hid (F2.out.below' hb (Nat.le_refl _))
      try replace FX := Lib.hid (FX.out.later hb)
      have hHeld := And.intro (FA.out.cell 0) (And.intro (FA.out.cell 1) (And.intro (FA.out.cell 2) (And.intro (FA.out.cell 3) (FA.out.cell 4))))
      clear gl
      have F2 := Lib.hid (hn _ hW2)
      clear hn hW2 hg2 hb
      refine And.intro ?_ ?_
      · first
        | exact hHeld
        | exact fun _ => hHeld
      clear hHeld
      refine wpAnyT_two (i := 3) (j := 9) (by kernel_rfl) rfl rfl ?_ ?_
      · skip
        go_wp2_with fail
        refine (phone_join ⟨i8, c8, H8, N8, S8⟩ ⟨lA, lc, ll⟩ ⟨some ⟨g2, 0, none⟩, 12, List.replicate 12 0⟩ _ (FP.out.mono (fun b hb' => Nat.lt_trans hb' FA.out.lt)) (FT.out.mono (fun b hb' => Nat.lt_trans hb' FA.out.lt)) F2.out HLL.out).mono ?_
        rintro e W ⟨⟨iJ, cJ, HJ, NJ, SJ⟩, ⟨oA, oc, ol⟩, ⟨nA, nc, nl⟩, rfl, hdj, hsj, hnj, hfr0, hb⟩
        have hfr := hfr0.out
        clear hfr0
        obtain ⟨pj, hpj⟩ := HJN.out
        rw [hpj] at hdj hsj hnj hfr
        rw [hpj]
        obtain ⟨f1, f2, f3⟩ : RdPhone _ W _ ∧ RdStocks _ W _ ∧ RdNotes _ W _ := by
          rcases hfr with ⟨h, _⟩ | ⟨_, h⟩
          · exact absurd rfl h
          · exact h
        have FJ0 := Lib.hid (f2.mono (G := fun b => b < W.heap.size) (fun b hb' => hb'.2))
        clear F2 f1 f2 f3 hfr hdj hpj
        have HSJ := Lib.hid hsj
        have HNJ := Lib.hid hnj
        clear hsj hnj
        have gl := FA.out.lt
        replace FP := Lib.hid (FP.out.keep (fun b hb' => hb.block b (Nat.lt_trans hb' gl)))
        replace FT := Lib.hid (FT.out.keep (fun b hb' => hb.block b (Nat.lt_trans hb' gl)))
        replace FA := Lib.hid (FA.out.later hb)
        replace FB := Lib.hid (below_via hb FB.out)
        try replace F2 := Lib.hid (F2.out.below' hb (Nat.le_refl _))
        try replace FX := Lib.hid (FX.out.later hb)
        have hHeld := And.intro (FA.out.cell 0) (And.intro (FA.out.cell 1) (And.intro (FA.out.cell 2) (And.intro (FA.out.cell 3) (FA.out.cell 4))))
        clear gl
        clear hb
        simp only [Phone.v]
        go_wp2_with fail
        refine And.intro ?_ ?_
        · first
          | exact hHeld
          | exact fun _ => hHeld
        refine wpAnyT_take2 (i := 4) (v := ?_) rfl rfl (by kernel_rfl) (by kernel_rfl) (by kernel_rfl) (by kernel_rfl) (fun _ _ _ h => h) (Or.inl ⟨by rfl, ?_⟩) (by assumption) ?_
        rotate_left
        · (intro w hSw; (try dsimp only at hSw); go_simp) <;> (with_reducible rfl)
        simp only [List.setIfInBounds_toArray, List.set_cons_zero, List.set_cons_succ]
        refine wpAnyT_take2 (i := 5) (v := ?_) rfl rfl (by kernel_rfl) (by kernel_rfl) (by kernel_rfl) (by kernel_rfl) (fun _ _ _ h => h) (Or.inl ⟨by rfl, ?_⟩) (by assumption) ?_
        rotate_left
        · (intro w hSw; (try dsimp only at hSw); go_simp) <;> (with_reducible rfl)
        simp only [List.setIfInBounds_toArray, List.set_cons_zero, List.set_cons_succ]
        refine wpAnyT_take2 (i := 6) (v := ?_) rfl rfl (by kernel_rfl) (by kernel_rfl) (by kernel_rfl) (by kernel_rfl) (fun _ _ _ h => h) (Or.inl ⟨by rfl, ?_⟩) (by assumption) ?_
        rotate_left
        · (intro w hSw; (try dsimp only at hSw); go_simp) <;> (with_reducible rfl)
        simp only [List.setIfInBounds_toArray, List.set_cons_zero, List.set_cons_succ]
        refine wpAnyT_take2 (i := 7) (v := ?_) rfl rfl (by kernel_rfl) (by kernel_rfl) (by kernel_rfl) (by kernel_rfl) (fun _ _ _ h => h) (Or.inl ⟨by rfl, ?_⟩) (by assumption) ?_
        rotate_left
        · (intro w hSw; (try dsimp only at hSw); go_simp) <;> (with_reducible rfl)
        simp only [List.setIfInBounds_toArray, List.set_cons_zero, List.set_cons_succ]
        refine wpAnyT_take2 (i := 8) (v := ?_) rfl rfl (by kernel_rfl) (by kernel_rfl) (by kernel_rfl) (by kernel_rfl) (fun _ _ _ h => h) (Or.inl ⟨by rfl, ?_⟩) (by assumption) ?_
        rotate_left
        · (intro w hSw; (try dsimp only at hSw); go_simp) <;> (with_reducible rfl)
        simp only [List.setIfInBounds_toArray, List.set_cons_zero, List.set_cons_succ]
        clear hHeld
        refine wpAnyT_next (i := 9) (by kernel_rfl) rfl ?_
        go_wp2_with fail
        have hn : ∀ x, x = W.alloc (.cells #[.int .i64 0, .bool false, .slice none 0 0, .slice none 0 0, .slice none 0 0] 33) → Blk x W.heap.size 33 #[.int .i64 0, .bool false, .slice none 0 0, .slice none 0 0, .slice none 0 0] := by
          rintro _ rfl
          exact Blk.new _ _ _
        have hj : ∀ x, x = W.alloc (.cells #[.int .i64 0, .bool false, .slice none 0 0, .slice none 0 0, .slice none 0 0] 33) → RdStocks (fun b => b ≠ W.heap.size ∧ b < x.heap.size) x ⟨oA, oc, ol⟩ := by
          rintro _ rfl
          exact (FJ0.out.keep (fun b hb => Below.heap_alloc _ _ b hb)).mono (fun b hb => ⟨Nat.ne_of_lt hb, by simp; omega⟩)
        obtain ⟨g9, hg9⟩ : ∃ g, g = W.heap.size := ⟨_, rfl⟩
        have H9 : Hid (w7.heap.size < g9) := Lib.hid (by rw [hg9]; exact FA.out.lt)
        rw [← hg9] at hn hj ⊢
        clear FJ0
        have hbo : ∀ x, x = W.alloc (.cells #[.int .i64 0, .bool false, .slice none 0 0, .slice none 0 0, .slice none 0 0] 33) → Below W.heap.size W x := by
          rintro _ rfl
          exact (by repeat (first | (with_reducible exact Below.refl _ _) | ((with_reducible refine below_setr ?_ ?_); focus (first | (simp; done) | (simp; omega) | omega)) | ((with_reducible refine below_allocr ?_ ?_); focus (first | (simp; done) | (simp; omega) | omega)) | (with_reducible refine Below.drew ?_) | (with_reducible refine below_drewN ?_ _) | ((with_reducible apply below_via); focus (with_reducible assumption))))
        obtain ⟨W, hW2⟩ : ∃ x, x = W.alloc (.cells #[.int .i64 0, .bool false, .slice none 0 0, .slice none 0 0, .slice none 0 0] 33) := ⟨_, rfl⟩
        have hb := hbo _ hW2
        rw [← hW2]
        clear hbo
        have gl := FA.out.lt
        replace FP := Lib.hid (FP.out.keep (fun b hb' => hb.block b (Nat.lt_trans hb' gl)))
        replace FT := Lib.hid (FT.out.keep (fun b hb' => hb.block b (Nat.lt_trans hb' gl)))
        replace FA := Lib.hid (FA.out.later hb)
        replace FB := Lib.hid (below_via hb FB.out)
        try replace F2 := Lib.hid (F2.out.below' hb (Nat.le_refl _))
        try replace FX := Lib.hid (FX.out.later hb)
        have hHeld := And.intro (FA.out.cell 0) (And.intro (FA.out.cell 1) (And.intro (FA.out.cell 2) (And.intro (FA.out.cell 3) (FA.out.cell 4))))
        clear gl
        have FX := Lib.hid (hn _ hW2)
        have FJ := Lib.hid (hj _ hW2)
        clear hn hj hW2 hg9 hb
        refine And.intro ?_ ?_
        · first
          | exact hHeld
          | exact fun _ => hHeld
        clear hHeld
        have ALL := Lib.hid (And.intro FX.out (And.intro FJ.out (And.intro HSJ.out (And.intro HNJ.out (And.intro FB.out (And.intro FA.out (And.intro FP.out (And.intro FT.out H9.out))))))))
        clear FA FP FT FB FX FJ HSJ HNJ H9
        revert ALL
        revert W
        revert nl
        revert nc
        revert nA
        revert ol
        revert oc
        revert oA
        revert SJ
        revert NJ
        revert HJ
        revert cJ
        revert iJ
        revert g9
        revert g2
        exact fin
      · skip
        go_wp2_with fail
        have hn : ∀ x, x = W.alloc (.cells #[.int .i64 0, .bool false, .slice none 0 0, .slice none 0 0, .slice none 0 0] 33) → Blk x W.heap.size 33 #[.int .i64 0, .bool false, .slice none 0 0, .slice none 0 0, .slice none 0 0] := by
          rintro _ rfl
          exact Blk.new _ _ _
        obtain ⟨g9, hg9⟩ : ∃ g, g = W.heap.size := ⟨_, rfl⟩
        have H9 : Hid (w7.heap.size < g9) := Lib.hid (by rw [hg9]; exact FA.out.lt)
        rw [← hg9] at hn ⊢
        have hbo : ∀ x, x = W.alloc (.cells #[.int .i64 0, .bool false, .slice none 0 0, .slice none 0 0, .slice none 0 0] 33) → Below W.heap.size W x := by
          rintro _ rfl
          exact (by repeat (first | (with_reducible exact Below.refl _ _) | ((with_reducible refine below_setr ?_ ?_); focus (first | (simp; done) | (simp; omega) | omega)) | ((with_reducible refine below_allocr ?_ ?_); focus (first | (simp; done) | (simp; omega) | omega)) | (with_reducible refine Below.drew ?_) | (with_reducible refine below_drewN ?_ _) | ((with_reducible apply below_via); focus (with_reducible assumption))))
        obtain ⟨W, hW2⟩ : ∃ x, x = W.alloc (.cells #[.int .i64 0, .bool false, .slice none 0 0, .slice none 0 0, .slice none 0 0] 33) := ⟨_, rfl⟩
        have hb := hbo _ hW2
        rw [← hW2]
        clear hbo
        have gl := FA.out.lt
        replace FP := Lib.hid (FP.out.keep (fun b hb' => hb.block b (Nat.lt_trans hb' gl)))
        replace FT := Lib.hid (FT.out.keep (fun b hb' => hb.block b (Nat.lt_trans hb' gl)))
        replace FA := Lib.hid (FA.out.later hb)
        replace FB := Lib.hid (below_via hb FB.out)
        try replace F2 := Lib.hid (F2.out.below' hb (Nat.le_refl _))
        try replace FX := Lib.hid (FX.out.later hb)
        have hHeld := And.intro (FA.out.cell 0) (And.intro (FA.out.cell 1) (And.intro (FA.out.cell 2) (And.intro (FA.out.cell 3) (FA.out.cell 4))))
        clear gl
        have FX := Lib.hid (hn _ hW2)
        clear hn hW2 hg9 hb
        refine And.intro ?_ ?_
        · first
          | exact hHeld
          | exact fun _ => hHeld
        clear hHeld
        refine wpAnyT_next (i := 3) (by kernel_rfl) rfl ?_
        have fxl := FX.out.lt
        go_wp2_with fail
        refine (phone_join ⟨i8, c8, H8, N8, S8⟩ ⟨lA, lc, ll⟩ ⟨some ⟨g2, 0, none⟩, 12, List.replicate 12 0⟩ _ (FP.out.mono (fun b hb' => Nat.lt_trans hb' FA.out.lt)) (FT.out.mono (fun b hb' => Nat.lt_trans hb' FA.out.lt)) F2.out HLL.out).mono ?_
        rintro e W ⟨⟨iJ, cJ, HJ, NJ, SJ⟩, ⟨oA, oc, ol⟩, ⟨nA, nc, nl⟩, rfl, hdj, hsj, hnj, hfr0, hb⟩
        have hfr := hfr0.out
        clear hfr0
        obtain ⟨pj, hpj⟩ := HJN.out
        rw [hpj] at hdj hsj hnj hfr
        rw [hpj]
        obtain ⟨f1, f2, f3⟩ : RdPhone _ W _ ∧ RdStocks _ W _ ∧ RdNotes _ W _ := by
          rcases hfr with ⟨h, _⟩ | ⟨_, h⟩
          · exact absurd rfl h
          · exact h
        have FJ := Lib.hid (f2.mono (G := fun b => b ≠ g9 ∧ b < W.heap.size) (fun b hb' => ⟨by omega, hb'.2⟩))
        clear F2 f1 f2 f3 hfr hdj hpj
        have HSJ := Lib.hid hsj
        have HNJ := Lib.hid hnj
        clear hsj hnj
        have gl := FA.out.lt
        replace FP := Lib.hid (FP.out.keep (fun b hb' => hb.block b (Nat.lt_trans hb' gl)))
        replace FT := Lib.hid (FT.out.keep (fun b hb' => hb.block b (Nat.lt_trans hb' gl)))
        replace FA := Lib.hid (FA.out.later hb)
        replace FB := Lib.hid (below_via hb FB.out)
        try replace F2 := Lib.hid (F2.out.below' hb (Nat.le_refl _))
        try replace FX := Lib.hid (FX.out.later hb)
        have hHeld := And.intro (FA.out.cell 0) (And.intro (FA.out.cell 1) (And.intro (FA.out.cell 2) (And.intro (FA.out.cell 3) (FA.out.cell 4))))
        clear gl
        clear hb
        simp only [Phone.v]
        go_wp2_with fail
        refine And.intro ?_ ?_
        · first
          | exact hHeld
          | exact fun _ => hHeld
        refine wpAnyT_take2 (i := 4) (v := ?_) rfl rfl (by kernel_rfl) (by kernel_rfl) (by kernel_rfl) (by kernel_rfl) (fun _ _ _ h => h) (Or.inl ⟨by rfl, ?_⟩) (by assumption) ?_
        rotate_left
        · (intro w hSw; (try dsimp only at hSw); go_simp) <;> (with_reducible rfl)
        simp only [List.setIfInBounds_toArray, List.set_cons_zero, List.set_cons_succ]
        refine wpAnyT_take2 (i := 5) (v := ?_) rfl rfl (by kernel_rfl) (by kernel_rfl) (by kernel_rfl) (by kernel_rfl) (fun _ _ _ h => h) (Or.inl ⟨by rfl, ?_⟩) (by assumption) ?_
        rotate_left
        · (intro w hSw; (try dsimp only at hSw); go_simp) <;> (with_reducible rfl)
        simp only [List.setIfInBounds_toArray, List.set_cons_zero, List.set_cons_succ]
        refine wpAnyT_take2 (i := 6) (v := ?_) rfl rfl (by kernel_rfl) (by kernel_rfl) (by kernel_rfl) (by kernel_rfl) (fun _ _ _ h => h) (Or.inl ⟨by rfl, ?_⟩) (by assumption) ?_
        rotate_left
        · (intro w hSw; (try dsimp only at hSw); go_simp) <;> (with_reducible rfl)
        simp only [List.setIfInBounds_toArray, List.set_cons_zero, List.set_cons_succ]
        refine wpAnyT_take2 (i := 7) (v := ?_) rfl rfl (by kernel_rfl) (by kernel_rfl) (by kernel_rfl) (by kernel_rfl) (fun _ _ _ h => h) (Or.inl ⟨by rfl, ?_⟩) (by assumption) ?_
        rotate_left
        · (intro w hSw; (try dsimp only at hSw); go_simp) <;> (with_reducible rfl)
        simp only [List.setIfInBounds_toArray, List.set_cons_zero, List.set_cons_succ]
        refine wpAnyT_take2 (i := 8) (v := ?_) rfl rfl (by kernel_rfl) (by kernel_rfl) (by kernel_rfl) (by kernel_rfl) (fun _ _ _ h => h) (Or.inl ⟨by rfl, ?_⟩) (by assumption) ?_
        rotate_left
        · (intro w hSw; (try dsimp only at hSw); go_simp) <;> (with_reducible rfl)
        simp only [List.setIfInBounds_toArray, List.set_cons_zero, List.set_cons_succ]
        clear hHeld
        clear fxl
        have ALL := Lib.hid (And.intro FX.out (And.intro FJ.out (And.intro HSJ.out (And.intro HNJ.out (And.intro FB.out (And.intro FA.out (And.intro FP.out (And.intro FT.out H9.out))))))))
        clear FA FP FT FB FX FJ HSJ HNJ H9
        revert ALL
        revert W
        revert nl
        revert nc
        revert nA
        revert ol
        revert oc
        revert oA
        revert SJ
        revert NJ
        revert HJ
        revert cJ
        revert iJ
        revert g9
        revert g2
        exact fin
    · skip
      go_wp2_with fail
      have hn : ∀ x, x = W.alloc (.cells #[.int .i64 0, .bool false, .slice none 0 0, .slice none 0 0, .slice none 0 0] 33) → Blk x W.heap.size 33 #[.int .i64 0, .bool false, .slice none 0 0, .slice none 0 0, .slice none 0 0] := by
        rintro _ rfl
        exact Blk.new _ _ _
      obtain ⟨g9, hg9⟩ : ∃ g, g = W.heap.size := ⟨_, rfl⟩
      have H9 : Hid (w7.heap.size < g9) := Lib.hid (by rw [hg9]; exact FA.out.lt)
      rw [← hg9] at hn ⊢
      have hbo : ∀ x, x = W.alloc (.cells #[.int .i64 0, .bool false, .slice none 0 0, .slice none 0 0, .slice none 0 0] 33) → Below W.heap.size W x := by
        rintro _ rfl
        exact (by repeat (first | (with_reducible exact Below.refl _ _) | ((with_reducible refine below_setr ?_ ?_); focus (first | (simp; done) | (simp; omega) | omega)) | ((with_reducible refine below_allocr ?_ ?_); focus (first | (simp; done) | (simp; omega) | omega)) | (with_reducible refine Below.drew ?_) | (with_reducible refine below_drewN ?_ _) | ((with_reducible apply below_via); focus (with_reducible assumption))))
      obtain ⟨W, hW2⟩ : ∃ x, x = W.alloc (.cells #[.int .i64 0, .bool false, .slice none 0 0, .slice none 0 0, .slice none 0 0] 33) := ⟨_, rfl⟩
      have hb := hbo _ hW2
      rw [← hW2]
      clear hbo
      have gl := FA.out.lt
      replace FP := Lib.hid (FP.out.keep (fun b hb' => hb.block b (Nat.lt_trans hb' gl)))
      replace FT := Lib.hid (FT.out.keep (fun b hb' => hb.block b (Nat.lt_trans hb' gl)))
      replace FA := Lib.hid (FA.out.later hb)
      replace FB := Lib.hid (below_via hb FB.out)
      try replace F2 := Lib.hid (F2.out.below' hb (Nat.le_refl _))
      try replace FX := Lib.hid (FX.out.later hb)
      have hHeld := And.intro (FA.out.cell 0) (And.intro (FA.out.cell 1) (And.intro (FA.out.cell 2) (And.intro (FA.out.cell 3) (FA.out.cell 4))))
      clear gl
      have FX := Lib.hid (hn _ hW2)
      clear hn hW2 hg9 hb
      refine And.intro ?_ ?_
      · first
        | exact hHeld
        | exact fun _ => hHeld
      clear hHeld
      refine wpAnyT_next (i := 2) (by kernel_rfl) rfl ?_
      go_wp2_with fail
      have hn : ∀ x, x = W.alloc (.cells (Array.replicate 12 (.int .i64 0)) 3) → Rd (· < x.heap.size) 1 ienc x ⟨some ⟨W.heap.size, 0, none⟩, 12, List.replicate 12 0⟩ := by
        rintro _ rfl
        exact rd_zeros rfl
      obtain ⟨g2, hg2⟩ : ∃ g, g = W.heap.size := ⟨_, rfl⟩
      rw [← hg2] at hn ⊢
      have hbo : ∀ x, x = W.alloc (.cells (Array.replicate 12 (.int .i64 0)) 3) → Below W.heap.size W x := by
        rintro _ rfl
        exact (by repeat (first | (with_reducible exact Below.refl _ _) | ((with_reducible refine below_setr ?_ ?_); focus (first | (simp; done) | (simp; omega) | omega)) | ((with_reducible refine below_allocr ?_ ?_); focus (first | (simp; done) | (simp; omega) | omega)) | (with_reducible refine Below.drew ?_) | (with_reducible refine below_drewN ?_ _) | ((with_reducible apply below_via); focus (with_reducible assumption))))
      obtain ⟨W, hW2⟩ : ∃ x, x = W.alloc (.cells (Array.replicate 12 (.int .i64 0)) 3) := ⟨_, rfl⟩
      have hb := hbo _ hW2
      rw [← hW2]
      clear hbo
      have gl := FA.out.lt
      replace FP := Lib.hid (FP.out.keep (fun b hb' => hb.block b (Nat.lt_trans hb' gl)))
      replace FT := Lib.hid (FT.out.keep (fun b hb' => hb.block b (Nat.lt_trans hb' gl)))
      replace FA := Lib.hid (FA.out.later hb)
      replace FB := Lib.hid (below_via hb FB.out)
      try replace F2 := Lib.hid (F2.out.below' hb (Nat.le_refl _))
      try replace FX := Lib.hid (FX.out.later hb)
      have hHeld := And.intro (FA.out.cell 0) (And.intro (FA.out.cell 1) (And.intro (FA.out.cell 2) (And.intro (FA.out.cell 3) (FA.out.cell 4))))
      clear gl
      have F2 := Lib.hid (hn _ hW2)
      clear hn hW2 hg2 hb
      refine And.intro ?_ ?_
      · first
        | exact hHeld
        | exact fun _ => hHeld
      clear hHeld
      refine wpAnyT_next (i := 3) (by kernel_rfl) rfl ?_
      have fxl := FX.out.lt
      go_wp2_with fail
      refine (phone_join ⟨i8, c8, H8, N8, S8⟩ ⟨lA, lc, ll⟩ ⟨some ⟨g2, 0, none⟩, 12, List.replicate 12 0⟩ _ (FP.out.mono (fun b hb' => Nat.lt_trans hb' FA.out.lt)) (FT.out.mono (fun b hb' => Nat.lt_trans hb' FA.out.lt)) F2.out HLL.out).mono ?_
      rintro e W ⟨⟨iJ, cJ, HJ, NJ, SJ⟩, ⟨oA, oc, ol⟩, ⟨nA, nc, nl⟩, rfl, hdj, hsj, hnj, hfr0, hb⟩
      have hfr := hfr0.out
      clear hfr0
      obtain ⟨pj, hpj⟩ := HJN.out
      rw [hpj] at hdj hsj hnj hfr
      rw [hpj]
      obtain ⟨f1, f2, f3⟩ : RdPhone _ W _ ∧ RdStocks _ W _ ∧ RdNotes _ W _ := by
        rcases hfr with ⟨h, _⟩ | ⟨_, h⟩
        · exact absurd rfl h
        · exact h
      have FJ := Lib.hid (f2.mono (G := fun b => b ≠ g9 ∧ b < W.heap.size) (fun b hb' => ⟨by omega, hb'.2⟩))
      clear F2 f1 f2 f3 hfr hdj hpj
      have HSJ := Lib.hid hsj
      have HNJ := Lib.hid hnj
      clear hsj hnj
      have gl := FA.out.lt
      replace FP := Lib.hid (FP.out.keep (fun b hb' => hb.block b (Nat.lt_trans hb' gl)))
      replace FT := Lib.hid (FT.out.keep (fun b hb' => hb.block b (Nat.lt_trans hb' gl)))
      replace FA := Lib.hid (FA.out.later hb)
      replace FB := Lib.hid (below_via hb FB.out)
      try replace F2 := Lib.hid (F2.out.below' hb (Nat.le_refl _))
      try replace FX := Lib.hid (FX.out.later hb)
      have hHeld := And.intro (FA.out.cell 0) (And.intro (FA.out.cell 1) (And.intro (FA.out.cell 2) (And.intro (FA.out.cell 3) (FA.out.cell 4))))
      clear gl
      clear hb
      simp only [Phone.v]
      go_wp2_with fail
      refine And.intro ?_ ?_
      · first
        | exact hHeld
        | exact fun _ => hHeld
      refine wpAnyT_take2 (i := 4) (v := ?_) rfl rfl (by kernel_rfl) (by kernel_rfl) (by kernel_rfl) (by kernel_rfl) (fun _ _ _ h => h) (Or.inl ⟨by rfl, ?_⟩) (by assumption) ?_
      rotate_left
      · (intro w hSw; (try dsimp only at hSw); go_simp) <;> (with_reducible rfl)
      simp only [List.setIfInBounds_toArray, List.set_cons_zero, List.set_cons_succ]
      refine wpAnyT_take2 (i := 5) (v := ?_) rfl rfl (by kernel_rfl) (by kernel_rfl) (by kernel_rfl) (by kernel_rfl) (fun _ _ _ h => h) (Or.inl ⟨by rfl, ?_⟩) (by assumption) ?_
      rotate_left
      · (intro w hSw; (try dsimp only at hSw); go_simp) <;> (with_reducible rfl)
      simp only [List.setIfInBounds_toArray, List.set_cons_zero, List.set_cons_succ]
      refine wpAnyT_take2 (i := 6) (v := ?_) rfl rfl (by kernel_rfl) (by kernel_rfl) (by kernel_rfl) (by kernel_rfl) (fun _ _ _ h => h) (Or.inl ⟨by rfl, ?_⟩) (by assumption) ?_
      rotate_left
      · (intro w hSw; (try dsimp only at hSw); go_simp) <;> (with_reducible rfl)
      simp only [List.setIfInBounds_toArray, List.set_cons_zero, List.set_cons_succ]
      refine wpAnyT_take2 (i := 7) (v := ?_) rfl rfl (by kernel_rfl) (by kernel_rfl) (by kernel_rfl) (by kernel_rfl) (fun _ _ _ h => h) (Or.inl ⟨by rfl, ?_⟩) (by assumption) ?_
      rotate_left
      · (intro w hSw; (try dsimp only at hSw); go_simp) <;> (with_reducible rfl)
      simp only [List.setIfInBounds_toArray, List.set_cons_zero, List.set_cons_succ]
      refine wpAnyT_take2 (i := 8) (v := ?_) rfl rfl (by kernel_rfl) (by kernel_rfl) (by kernel_rfl) (by kernel_rfl) (fun _ _ _ h => h) (Or.inl ⟨by rfl, ?_⟩) (by assumption) ?_
      rotate_left
      · (intro w hSw; (try dsimp only at hSw); go_simp) <;> (with_reducible rfl)
      simp only [List.setIfInBounds_toArray, List.set_cons_zero, List.set_cons_succ]
      clear hHeld
      clear fxl
      have ALL := Lib.hid (And.intro FX.out (And.intro FJ.out (And.intro HSJ.out (And.intro HNJ.out (And.intro FB.out (And.intro FA.out (And.intro FP.out (And.intro FT.out H9.out))))))))
      clear FA FP FT FB FX FJ HSJ HNJ H9
      revert ALL
      revert W
      revert nl
      revert nc
      revert nA
      revert ol
      revert oc
      revert oA
      revert SJ
      revert NJ
      revert HJ
      revert cJ
      revert iJ
      revert g9
      revert g2
      exact fin
  intro g2 g9' iJ' cJ' HJ' NJ' SJ' oA' oc' ol' nA' nc' nl' W ALL
  obtain ⟨fx, fj, hsj, hnj, fb, fa, fp, ft, h9⟩ := ALL.out
  clear ALL
  obtain ⟨x0, x1, x2, x3, x4, xf, xz⟩ := fx.b5
  have n1 : w7.heap.size ≠ g9' := by omega
  have KS : ∀ {b o : Nat} {v : Value} (v0 v1 v2 v3 v4 : Value), b ≠ g9' → W.cell? ⟨b, o, none⟩ = some v → (((((W.setCell ⟨g9', 0, none⟩ v0).setCell ⟨g9', 1, none⟩ v1).setCell ⟨g9', 2, none⟩ v2).setCell ⟨g9', 3, none⟩ v3).setCell ⟨g9', 4, none⟩ v4).cell? ⟨b, o, none⟩ = some v := fun v0 v1 v2 v3 v4 hne h => kset _ hne (kset _ hne (kset _ hne (kset _ hne (kset _ hne h))))
  have HKS := Lib.hid (fun v0 v1 v2 v3 v4 => And.intro (KS v0 v1 v2 v3 v4 n1 (fa.cell 0)) (And.intro (KS v0 v1 v2 v3 v4 n1 (fa.cell 1)) (And.intro (KS v0 v1 v2 v3 v4 n1 (fa.cell 2)) (And.intro (KS v0 v1 v2 v3 v4 n1 (fa.cell 3)) (KS v0 v1 v2 v3 v4 n1 (fa.cell 4))))))
  have KB5 : ∀ (v0 v1 v2 v3 v4 : Value) (b : Nat), b ≠ g9' → (((((W.setCell ⟨g9', 0, none⟩ v0).setCell ⟨g9', 1, none⟩ v1).setCell ⟨g9', 2, none⟩ v2).setCell ⟨g9', 3, none⟩ v3).setCell ⟨g9', 4, none⟩ v4).heap[b]? = W.heap[b]? := fun v0 v1 v2 v3 v4 b hne => by
    rw [Below.heap_setCell _ _ _ _ hne, Below.heap_setCell _ _ _ _ hne, Below.heap_setCell _ _ _ _ hne, Below.heap_setCell _ _ _ _ hne, Below.heap_setCell _ _ _ _ hne]
  have hwg : w.heap.size ≤ g9' := by omega
  have HV : ∀ x, x = ((((W.setCell ⟨g9', 0, none⟩ (.int .i64 iJ')).setCell ⟨g9', 1, none⟩ (.bool cJ')).setCell ⟨g9', 2, none⟩ (.slice HJ'.A HJ'.l.length HJ'.c)).setCell ⟨g9', 3, none⟩ (.slice NJ'.A NJ'.l.length NJ'.c)).setCell ⟨g9', 4, none⟩ (.slice SJ'.A SJ'.l.length SJ'.c) →
      RdStocks (· < x.heap.size) x ⟨oA', oc', ol'⟩ ∧ Below w.heap.size w x := by
    rintro _ rfl
    refine ⟨?_, (by repeat (first | (with_reducible exact fb) | (with_reducible exact Below.refl _ _) | ((with_reducible refine below_setr ?_ ?_); focus (first | (simp; done) | (simp; omega) | omega)) | ((with_reducible refine below_allocr ?_ ?_); focus (first | (simp; done) | (simp; omega) | omega)) | (with_reducible refine Below.drew ?_) | (with_reducible refine below_drewN ?_ _) | ((with_reducible apply below_via); focus (with_reducible assumption))))⟩
    exact (fj.keep (fun b hb => KB5 _ _ _ _ _ _ hb.1)).mono (fun b hb => by simpa using hb.2)
  have HVV := Lib.hid HV
  have HSJ := Lib.hid hsj
  have hol : ol'.length = ss.l.length := by have := congrArg List.length hsj; simpa using this
  clear KS KB5 HV hsj hnj fx fj fb fa fp ft
  refine wpAnyT_next (i := 10) (by kernel_rfl) rfl ?_
  go_wp2_with fail
  have hHeld := HKS.out (.int .i64 iJ') (.bool cJ') (.slice HJ'.A HJ'.l.length HJ'.c) (.slice NJ'.A NJ'.l.length NJ'.c) (.slice SJ'.A SJ'.l.length SJ'.c)
  refine And.intro ?_ ?_
  · first
    | exact hHeld
    | exact fun _ => hHeld
  refine wpAnyT_take2 (i := 11) (v := ?_) rfl rfl (by kernel_rfl) (by kernel_rfl) (by kernel_rfl) (by kernel_rfl) (fun _ _ _ h => h) (Or.inl ⟨by rfl, ?_⟩) (by assumption) ?_
  rotate_left
  · (intro w hSw; (try dsimp only at hSw); go_simp) <;> (with_reducible rfl)
  simp only [List.setIfInBounds_toArray, List.set_cons_zero, List.set_cons_succ]
  refine wpAnyT_take2 (i := 12) (v := ?_) rfl rfl (by kernel_rfl) (by kernel_rfl) (by kernel_rfl) (by kernel_rfl) (fun _ _ _ h => h) (Or.inl ⟨by rfl, ?_⟩) (by assumption) ?_
  rotate_left
  · (intro w hSw; (try dsimp only at hSw); go_simp) <;> (with_reducible rfl)
  simp only [List.setIfInBounds_toArray, List.set_cons_zero, List.set_cons_succ]
  refine wpAnyT_take2 (i := 13) (v := ?_) rfl rfl (by kernel_rfl) (by kernel_rfl) (by kernel_rfl) (by kernel_rfl) (fun _ _ _ h => h) (Or.inl ⟨by rfl, ?_⟩) (by assumption) ?_
  rotate_left
  · (intro w hSw; (try dsimp only at hSw); go_simp) <;> (with_reducible rfl)
  simp only [List.setIfInBounds_toArray, List.set_cons_zero, List.set_cons_succ]
  refine wpAnyT_done (by kernel_rfl) ?_ _
  clear hHeld HKS
  obtain ⟨V, hV⟩ : ∃ x, x = ((((W.setCell ⟨g9', 0, none⟩ (.int .i64 iJ')).setCell ⟨g9', 1, none⟩ (.bool cJ')).setCell ⟨g9', 2, none⟩ (.slice HJ'.A HJ'.l.length HJ'.c)).setCell ⟨g9', 3, none⟩ (.slice NJ'.A NJ'.l.length NJ'.c)).setCell ⟨g9', 4, none⟩ (.slice SJ'.A SJ'.l.length SJ'.c) := ⟨_, rfl⟩
  obtain ⟨vj, vb⟩ := HVV.out _ hV
  rw [← hV]
  have VJ := Lib.hid vj
  clear HVV hV vj x0 x1 x2 x3 x4 xf xz
  have zV : w.heap.size ≤ V.heap.size := vb.size
  go_wp2_with (at_builtin
               go_must (refine wpl_append_sl _ rfl (.tmp 158) (.tmp 159) _ rfl Try.underlying27 infoStock (by omega) Stock.k Stock.one ⟨some ⟨V.heap.size, 0, none⟩, 0, []⟩ ⟨ss.A, ss.c, ss.l⟩ rfl rfl (Own.lit0 Stock.k (base := V.heap.size) rfl (Nat.le_refl _)) ((HS.out.later vb (Nat.le_refl _)).1.lt_alloc _) (by simp [maxLen]; omega) (by simp; omega) (by simp) ?_)
               intro wA wc w8 hown hg hat
               apply Hid.out)
  refine Lib.hid ?_
  simp only [List.nil_append] at hown
  have hB8 : Below w.heap.size w w8 := Below.grown (by repeat (first | (with_reducible exact vb) | (with_reducible exact Below.refl _ _) | ((with_reducible refine below_setr ?_ ?_); focus (first | (simp; done) | (simp; omega) | omega)) | ((with_reducible refine below_allocr ?_ ?_); focus (first | (simp; done) | (simp; omega) | omega)) | (with_reducible refine Below.drew ?_) | (with_reducible refine below_drewN ?_ _) | ((with_reducible apply below_via); focus (with_reducible assumption)))) hg (by first | omega | (simp; done) | (simp; omega)) (by simp [Value.ownBlock]; try omega)
  have hV8 : Below V.heap.size V w8 := Below.grown (by repeat (first | (with_reducible exact Below.refl _ _) | ((with_reducible refine below_setr ?_ ?_); focus (first | (simp; done) | (simp; omega) | omega)) | ((with_reducible refine below_allocr ?_ ?_); focus (first | (simp; done) | (simp; omega) | omega)) | (with_reducible refine Below.drew ?_) | (with_reducible refine below_drewN ?_ _) | ((with_reducible apply below_via); focus (with_reducible assumption)))) hg (by first | omega | (simp; done) | (simp; omega)) (by simp [Value.ownBlock])
  have HW8 := Lib.hid hown
  clear hown hg hat
  have HLPx := HLP.out
  have hat := HLPx.at_
  rw [List.getElem?_map, Option.map_eq_some_iff] at hat
  obtain ⟨y, hyj, hyd⟩ := hat
  have hjl : j < ss.l.length := (List.getElem?_eq_some_iff.1 hyj).1
  have hyl := (HFEW.out (by first | rfl | trivial | simp)).2.2 y (List.mem_of_getElem? hyj)
  have hS8 := HS.out.later hB8 (Nat.le_refl _)
  obtain ⟨b8, o8, hA8, hF8, hcl8⟩ := hS8.1.2.2.2 j y hyj
  have HYL := Lib.hid (hS8.2 y (List.mem_of_getElem? hyj))
  have HYD := Lib.hid hyd
  have HYJ := Lib.hid hyj
  have htk := HLPx.take hn1 hn2
  have hft : x.fits 0 n = true := by
    have h1 := (HLPx.no x (List.mem_of_getElem? HLPx.at_)).1
    have h2 := HLPx.u2
    simp [StockD.fits, h1]; omega
  have hfr : n ≤ x.free := by have := HLPx.free; omega
  have HTK := Lib.hid (And.intro htk (And.intro hft hfr))
  obtain ⟨yT, yU, yL⟩ := y
  obtain ⟨j0, j1, j2⟩ := Cells.c3 hcl8
  simp only at hyl
  clear hyj hyd hS8 hcl8 htk hft hfr HLPx
  go_wp2_with fail
  refine (rtake_ok ⟨yT, yU, yL⟩ n _ HYL.out (by simp only; omega) (by rw [HYD.out]; exact HTK.out.2.1) (by rw [HYD.out]; exact HTK.out.2.2)).mono ?_
  rintro e w9 ⟨⟨sT, sU, sL⟩, rfl, hds, hrs, hb9⟩
  have hds' : Stock.d ⟨sT, sU, sL⟩ = ⟨x.T, x.U + n, x.L⟩ := by
    rw [hds]
    have := HYD.out
    simp only [Stock.d] at this
    rw [← this]
  have HDS := Lib.hid hds'
  have HRS := Lib.hid hrs
  have hB9 : Below w.heap.size w w9 := (by repeat (first | (with_reducible exact hB8) | (with_reducible exact Below.refl _ _) | ((with_reducible refine below_setr ?_ ?_); focus (first | (simp; done) | (simp; omega) | omega)) | ((with_reducible refine below_allocr ?_ ?_); focus (first | (simp; done) | (simp; omega) | omega)) | (with_reducible refine Below.drew ?_) | (with_reducible refine below_drewN ?_ _) | ((with_reducible apply below_via); focus (with_reducible assumption))))
  have HW9 := Lib.hid (HW8.out.below hb9)
  have z9 : w8.heap.size ≤ w9.heap.size := hb9.size
  have zV8 : V.heap.size ≤ w8.heap.size := hV8.size
  have VJ9 := Lib.hid (VJ.out.keep (fun b hb => (Below.trans hV8 (hb9.mono zV8)).block b hb))
  have HWB := Lib.hid HW8.out.bound
  clear hb9 hds hds' hrs j0 j1 j2 HYL
  obtain ⟨gW, hgW, hgWl, hgWu, hclW, gWf⟩ := HW9.out.atk Stock.k HYJ.out
  simp only at hgW
  subst hgW
  have hgw8 := HWB.out gW rfl
  obtain ⟨k0, k1, k2⟩ := Cells.c3 hclW
  clear hclW
  simp only [Stock.v]
  go_wp2_with fail
  have HZ : ∀ z, z = (((w9.setCell ⟨gW, j * 3, none⟩ (.int .i64 sT)).setCell ⟨gW, j * 3 + 1, none⟩ (.int .i64 sU)).setCell ⟨gW, j * 3 + 2, none⟩ (.slice sL.A sL.l.length sL.c)).alloc (.cells #[.int .i64 sT, .int .i64 sU, .slice sL.A sL.l.length sL.c] 66) →
      RdStocks (· < z.heap.size) z ⟨oA', oc', ol'⟩ ∧ RdStocks (· < z.heap.size) z ⟨some ⟨gW, 0, none⟩, wc, ss.l.set j ⟨sT, sU, sL⟩⟩ ∧ Below w.heap.size w z := by
    rintro _ rfl
    have kb : ∀ b, b ≠ gW → b < w9.heap.size → ((((w9.setCell ⟨gW, j * 3, none⟩ (.int .i64 sT)).setCell ⟨gW, j * 3 + 1, none⟩ (.int .i64 sU)).setCell ⟨gW, j * 3 + 2, none⟩ (.slice sL.A sL.l.length sL.c)).alloc (.cells #[.int .i64 sT, .int .i64 sU, .slice sL.A sL.l.length sL.c] 66)).heap[b]? = w9.heap[b]? := fun b hne hlt => by
      rw [Below.heap_alloc _ _ _ (by simpa using hlt), Below.heap_setCell _ _ _ _ hne, Below.heap_setCell _ _ _ _ hne, Below.heap_setCell _ _ _ _ hne]
    refine ⟨?_, ⟨?_, fun y hy => ?_⟩, (by repeat (first | (with_reducible exact hB9) | (with_reducible exact Below.refl _ _) | ((with_reducible refine below_setr ?_ ?_); focus (first | (simp; done) | (simp; omega) | omega)) | ((with_reducible refine below_allocr ?_ ?_); focus (first | (simp; done) | (simp; omega) | omega)) | (with_reducible refine Below.drew ?_) | (with_reducible refine below_drewN ?_ _) | ((with_reducible apply below_via); focus (with_reducible assumption))))⟩
    · exact (VJ9.out.keep (fun b hb => kb b (by omega) (by omega))).mono (fun b hb => by simp; omega)
    · have h1 := HW9.out.set Stock.k rfl HYJ.out (j := 0) (y := ⟨sT, yU, yL⟩) (u := .int .i64 sT) (by omega) rfl
      have h2 := h1.set Stock.k rfl (i := j) (x := ⟨sT, yU, yL⟩) (by simp only [List.getElem?_set_self hjl]) (j := 1) (y := ⟨sT, sU, yL⟩) (u := .int .i64 sU) (by omega) rfl
      have h3 := h2.set Stock.k rfl (i := j) (x := ⟨sT, sU, yL⟩) (by simp only [List.set_set, List.getElem?_set_self hjl]) (j := 2) (y := ⟨sT, sU, sL⟩) (u := .slice sL.A sL.l.length sL.c) (by omega) rfl
      simp only [List.set_set, Nat.add_zero] at h3
      exact ((h3.alloc _).rd Stock.k).mono (fun b hb => hb.2)
    · rcases List.mem_or_eq_of_mem_set hy with hy | rfl
      · have := (HS.out.2 y hy).keep (fun b hb => hB9.block b hb)
        exact (this.keep (fun b hb => kb b (by omega) (by omega))).mono (fun b hb => by simp; omega)
      · exact (HRS.out.keep (fun b hb => kb b (by omega) hb.2)).mono (fun b hb => by simp; omega)
  obtain ⟨Z, hZ⟩ : ∃ z, z = (((w9.setCell ⟨gW, j * 3, none⟩ (.int .i64 sT)).setCell ⟨gW, j * 3 + 1, none⟩ (.int .i64 sU)).setCell ⟨gW, j * 3 + 2, none⟩ (.slice sL.A sL.l.length sL.c)).alloc (.cells #[.int .i64 sT, .int .i64 sU, .slice sL.A sL.l.length sL.c] 66) := ⟨_, rfl⟩
  obtain ⟨zj, zw, zb⟩ := HZ _ hZ
  rw [← hZ]
  clear HZ hZ k0 k1 k2 gWf
  have hst := rstocks ⟨oA', oc', ol'⟩ ⟨some ⟨gW, 0, none⟩, wc, ss.l.set j ⟨sT, sU, sL⟩⟩ Z zj zw
  rw [decide_eq_true (show ol'.map Stock.d = (ss.l.set j ⟨sT, sU, sL⟩).map Stock.d by rw [HSJ.out, List.map_set, HDS.out])] at hst
  simp only [List.length_set, hol] at hst
  refine hst.mono ?_
  clear hst zj zw
  rintro e w10 ⟨rfl, hb10⟩
  have hB10 : Below w.heap.size w w10 := (by repeat (first | (with_reducible exact zb) | (with_reducible exact Below.refl _ _) | ((with_reducible refine below_setr ?_ ?_); focus (first | (simp; done) | (simp; omega) | omega)) | ((with_reducible refine below_allocr ?_ ?_); focus (first | (simp; done) | (simp; omega) | omega)) | (with_reducible refine Below.drew ?_) | (with_reducible refine below_drewN ?_ _) | ((with_reducible apply below_via); focus (with_reducible assumption))))
  clear hb10
  go_wp2_with fail
  go_ret
  exact ⟨rfl, hB10⟩
theorem phoneback (id : Int) (ss : Sl Stock) (wh u n : Int) (w : World) (hr : RdStocks (· < w.heap.size) w ss) (hw0 : 0 ≤ wh) (hw1 : wh < 256) :
    Calls Try.prog 5 #[.int .i64 id, .slice ss.A ss.l.length ss.c, .int .u8 wh, .int .i64 u, .int .i64 n] w fun e w' => e = .returned (.bool true) ∧ Below w.heap.size w w' := by
  rcases hid : rngB id 0 11
  · exact phoneback_out id ss wh u n w hr hid
  · rcases Nat.eq_zero_or_pos ss.l.length with hl | hl
    · exact phoneback_nil id ss wh u n w hr hid hl
    · exact phoneback_in id ss wh u n w hr hid hl hw0 hw1
end Go.Proofs.Ythnblhbdfpmolaa
