/- Walk: syntax.right at numbers and at operations; RightExp. -/
import Derived.Test.YtcgocdhhneckhaaGreatFcutmxag
namespace Go.Proofs.YtcgocdhhneckhaaGreat
open Go.RowKit
theorem rd_one {W : World} {g : Nat} {t : TypeId} {x : Int} (h : Blk W g t #[.int .i64 x]) : Rd (· < W.heap.size) 1 ienc W ⟨some ⟨g, 0, none⟩, 1, [x]⟩ :=
  ⟨Nat.le_refl _, by unfold maxLen; simp, fun h => by simp at h, fun i y hy => by
    have hi : i = 0 := by
      rcases i with _ | i
      · rfl
      · simp at hy
    subst hi
    have hxy : x = y := by simpa using hy
    subst hxy
    exact ⟨g, 0, rfl, h.lt, fun j u hu => by
      rw [Nat.zero_mul, Nat.add_zero, Nat.zero_add, h.cell]
      simpa [ienc] using hu⟩⟩
theorem all_one (p : Int → Bool) (x : Int) : [x].all p = p x := by simp
theorem syn_in_one (a b x : Int) (g : Nat) (W : World) {t : TypeId} (h : Blk W g t #[.int .i64 x]) : Calls Tryz.prog 56 #[.int .i64 a, .int .i64 b, .slice (some ⟨g, 0, none⟩) 1 1] W fun e w' => e = .returned (.bool (inB a b x)) ∧ Below W.heap.size W w' := by
  have h := syn_in a b ⟨some ⟨g, 0, none⟩, 1, [x]⟩ W (rd_one h)
  rw [all_one] at h
  exact h
set_option maxHeartbeats 1600000 in
theorem syn_rightM (k : Nat) (o n u : Int) (s : ByteArray) (A : Option Addr) (c : Nat) (l : List PT) (w : World) (d : Int) (hd0 : (d == 0) = false) (hln : l.length ≤ 9223372036854775807) (hl : (l.length : Int) = opsN o) (ho : o = 0) :
    Calls Tryz.prog 92 #[PT.v ⟨o, n, u, s, A, c, l⟩, .int .i64 d] w fun r w' => r = .returned (.bool (okE (k + 1) ⟨o, n, u, s, A, c, l⟩)) ∧ Below w.heap.size w w' := by
  have HV : Hid (okE (k + 1) ⟨o, n, u, s, A, c, l⟩ = (empB s && (inB 0 3 u && inB 0 (if u = 3 then 1 else 1000000000000000) n))) := Lib.hid (by subst ho; exact (okE_num hl).symm)
  have hlb : (((l.length : Int)) != opsN o) = false := by simpa using hl
  clear hl
  simp only [PT.v]
  rw [HV.out]
  clear HV
  have HO := Lib.hid ho
  clear ho
  go_enter Tryz.func92, Tryz.ntmps92
  go_wp2_with fail
  have HB : Hid (Below w.heap.size w ((w.alloc (.cells #[.int .i64 o, .int .i64 n, .int .i64 u, .string s, .slice A l.length c] 25)).alloc (.cells #[.int .i64 d] 3))) := Lib.hid (by repeat (first | (with_reducible exact Below.refl _ _) | ((with_reducible refine below_setr ?_ ?_); focus (first | (simp; done) | (simp; omega) | omega)) | ((with_reducible refine below_allocr ?_ ?_); focus (first | (simp; done) | (simp; omega) | omega)) | (with_reducible refine Below.drew ?_) | (with_reducible refine below_drewN ?_ _)))
  have HA : Hid (Blk ((w.alloc (.cells #[.int .i64 o, .int .i64 n, .int .i64 u, .string s, .slice A l.length c] 25)).alloc (.cells #[.int .i64 d] 3)) w.heap.size 25 #[.int .i64 o, .int .i64 n, .int .i64 u, .string s, .slice A l.length c]) := Lib.hid ((Blk.new _ _ _).alloc _)
  have HC : Hid (Blk ((w.alloc (.cells #[.int .i64 o, .int .i64 n, .int .i64 u, .string s, .slice A l.length c] 25)).alloc (.cells #[.int .i64 d] 3)) (w.heap.size + 1) 3 #[.int .i64 d]) := Lib.hid (Blk.new' (by simp))
  generalize (w.alloc (.cells #[.int .i64 o, .int .i64 n, .int .i64 u, .string s, .slice A l.length c] 25)).alloc (.cells #[.int .i64 d] 3) = w2 at *
  obtain ⟨a0, a1, a2, a3, a4, af, az⟩ := HA.out.b5
  obtain ⟨c0, cf, cz⟩ := HC.out.b1
  refine wp_region_T (fun W => W.cell? ⟨w.heap.size + 1, 0, none⟩ = some (.int .i64 d) ∧ W.cell? ⟨w.heap.size, 4, none⟩ = some (.slice A l.length c) ∧ W.cell? ⟨w.heap.size, 0, none⟩ = some (.int .i64 o)) (fun _ => false) (by kernel_rfl) ⟨c0, a4, a0⟩ (fun hHeld => ?_)
  refine wpAnyT_take2 (i := 0) (v := ?_) rfl rfl (by kernel_rfl) (by kernel_rfl) (by kernel_rfl) (by kernel_rfl) (fun _ _ _ h => h) (Or.inl ⟨by rfl, ?_⟩) (by first | assumption | trivial) ?_
  rotate_left
  · (intro w hSw; (try dsimp only at hSw); go_simp) <;> (with_reducible rfl)
  simp only [List.setIfInBounds_toArray, List.set_cons_zero, List.set_cons_succ]
  clear hHeld
  refine wpAnyT_take2 (i := 1) (v := .bool false) rfl rfl (by kernel_rfl) (by kernel_rfl) (by kernel_rfl) (by kernel_rfl) (fun _ _ _ h => h) (Or.inl ⟨by rfl, ?_⟩) (by first | assumption | trivial) ?_
  · (intro w hSw; (try dsimp only at hSw); go_simp) <;> (first | (with_reducible rfl) | assumption | (simp; done) | (simp [*]; done) | (simp; omega))
  simp only [List.setIfInBounds_toArray, List.set_cons_zero, List.set_cons_succ]
  refine wpAnyT_take2 (i := 2) (v := ?_) rfl rfl (by kernel_rfl) (by kernel_rfl) (by kernel_rfl) (by kernel_rfl) (fun _ _ _ h => h) (Or.inl ⟨by rfl, ?_⟩) (by first | assumption | trivial) ?_
  rotate_left
  · (intro w hSw; (try dsimp only at hSw); go_simp) <;> (with_reducible rfl)
  simp only [List.setIfInBounds_toArray, List.set_cons_zero, List.set_cons_succ]
  refine wpAnyT_take2 (i := 3) (v := ?_) rfl rfl (by kernel_rfl) (by kernel_rfl) (by kernel_rfl) (by kernel_rfl) (fun _ _ _ h => h) (Or.inl ⟨by rfl, ?_⟩) (by first | assumption | trivial) ?_
  rotate_left
  · (intro w hSw; (try dsimp only at hSw); go_simp) <;> (with_reducible rfl)
  simp only [List.setIfInBounds_toArray, List.set_cons_zero, List.set_cons_succ]
  refine wpAnyT_take2 (i := 4) (v := ?_) rfl rfl (by kernel_rfl) (by kernel_rfl) (by kernel_rfl) (by kernel_rfl) (fun _ _ _ h => h) (Or.inl ⟨by rfl, ?_⟩) (by first | assumption | trivial) ?_
  rotate_left
  · (intro w hSw; (try dsimp only at hSw); go_simp) <;> (with_reducible rfl)
  simp only [List.setIfInBounds_toArray, List.set_cons_zero, List.set_cons_succ]
  refine wpAnyT_take2 (i := 5) (v := ?_) rfl rfl (by kernel_rfl) (by kernel_rfl) (by kernel_rfl) (by kernel_rfl) (fun _ _ _ h => h) (Or.inl ⟨by rfl, ?_⟩) (by first | assumption | trivial) ?_
  rotate_left
  · (intro w hSw; (try dsimp only at hSw); go_simp) <;> (with_reducible rfl)
  simp only [List.setIfInBounds_toArray, List.set_cons_zero, List.set_cons_succ]
  refine wpAnyT_take2 (i := 6) (v := ?_) rfl rfl (by kernel_rfl) (by kernel_rfl) (by kernel_rfl) (by kernel_rfl) (fun _ _ _ h => h) (Or.inl ⟨by rfl, ?_⟩) (by first | assumption | trivial) ?_
  rotate_left
  · (intro w hSw; (try dsimp only at hSw); go_simp) <;> (with_reducible rfl)
  simp only [List.setIfInBounds_toArray, List.set_cons_zero, List.set_cons_succ]
  refine wpAnyT_take2 (i := 7) (v := ?_) rfl rfl (by kernel_rfl) (by kernel_rfl) (by kernel_rfl) (by kernel_rfl) (fun _ _ _ h => h) (Or.inl ⟨by rfl, ?_⟩) (by first | assumption | trivial) ?_
  rotate_left
  · (intro w hSw; (try dsimp only at hSw); go_simp) <;> (with_reducible rfl)
  simp only [List.setIfInBounds_toArray, List.set_cons_zero, List.set_cons_succ]
  refine wpAnyT_next (i := 8) (by kernel_rfl) rfl ?_
  go_wp2_with fail
  refine (syn_ops o _).mono ?_
  rintro e w' ⟨rfl, rfl⟩
  go_wp2_with fail
  refine And.intro (by first | exact fun _ => ⟨c0, a4, a0⟩ | exact ⟨c0, a4, a0⟩) ?_
  have hHeld := (⟨c0, a4, a0⟩ : w2.cell? ⟨w.heap.size + 1, 0, none⟩ = some (.int .i64 d) ∧ w2.cell? ⟨w.heap.size, 4, none⟩ = some (.slice A l.length c) ∧ w2.cell? ⟨w.heap.size, 0, none⟩ = some (.int .i64 o))
  refine wpAnyT_take2 (i := 9) (v := .bool false) rfl rfl (by kernel_rfl) (by kernel_rfl) (by kernel_rfl) (by kernel_rfl) (fun _ _ _ h => h) (Or.inl ⟨by rfl, ?_⟩) (by first | assumption | trivial) ?_
  · (intro w hSw; (try dsimp only at hSw); go_simp) <;> (first | (with_reducible rfl) | assumption | (simp; done) | (simp [*]; done) | (simp; omega))
  simp only [List.setIfInBounds_toArray, List.set_cons_zero, List.set_cons_succ]
  refine wpAnyT_take2 (i := 10) (v := ?_) rfl rfl (by kernel_rfl) (by kernel_rfl) (by kernel_rfl) (by kernel_rfl) (fun _ _ _ h => h) (Or.inl ⟨by rfl, ?_⟩) (by first | assumption | trivial) ?_
  rotate_left
  · (intro w hSw; (try dsimp only at hSw); go_simp) <;> (with_reducible rfl)
  simp only [List.setIfInBounds_toArray, List.set_cons_zero, List.set_cons_succ]
  refine wpAnyT_done (by kernel_rfl) ?_ _
  clear hHeld
  have ho := HO.out
  subst ho
  clear hlb HO
  by_cases hs : s.toList = []
  · have hs2 : s.toList.isEmpty = true := by rw [hs]; rfl
    have HE : Hid (empB s = true) := Lib.hid hs2
    by_cases hu : u = 3
    · subst hu
      have HV2 : Hid (∀ r, inB 0 1 n = r → r = (true && (true && inB 0 (if (3 : Int) = 3 then 1 else 1000000000000000) n))) := Lib.hid (fun r h => by subst h; rfl)
      go_wp2_with fail
      have hq0 : Below w2.heap.size w2 w2 := Below.refl _ _
      refine (syn_in_one 0 3 3 w2.heap.size _ (by first | exact (Blk.new _ _ _).drew | exact Blk.new _ _ _)).mono ?_
      rintro e w4 ⟨rfl, hb⟩
      have hq : Below w2.heap.size w2 w4 := Below.trans (by repeat (first | (with_reducible exact hq0) | (with_reducible exact Below.refl _ _) | ((with_reducible refine below_setr ?_ ?_); focus (first | (simp; done) | (simp; omega) | omega)) | ((with_reducible refine below_allocr ?_ ?_); focus (first | (simp; done) | (simp; omega) | omega)) | (with_reducible refine Below.drew ?_) | (with_reducible refine below_drewN ?_ _))) (hb.mono (by first | omega | (simp; done) | (simp; omega)))
      have hqs := (hq).size
      clear hb
      obtain ⟨r1, hr1⟩ : ∃ r, inB 0 3 3 = r := ⟨_, rfl⟩
      rw [hr1]
      have HR1 := Lib.hid hr1
      clear hr1 a0 a1 a2 a3 a4 af az
      obtain ⟨a0, a1, a2, a3, a4, af, az⟩ := (HA.out.later hq).b5
      rcases r1
      · go_wp2_with fail
        go_ret
        exact ⟨ret_bool (by rw [HE.out, HR1.out]; rfl), HB.out.trans (hq.mono HB.out.size)⟩
      · go_wp2_with fail
        refine (syn_in_one 0 1 n w4.heap.size _ (by first | exact (Blk.new _ _ _).drew | exact Blk.new _ _ _)).mono ?_
        rintro e w5 ⟨rfl, hb⟩
        have hp : Below w2.heap.size w2 w5 := Below.trans (by repeat (first | (with_reducible exact hq) | (with_reducible exact Below.refl _ _) | ((with_reducible refine below_setr ?_ ?_); focus (first | (simp; done) | (simp; omega) | omega)) | ((with_reducible refine below_allocr ?_ ?_); focus (first | (simp; done) | (simp; omega) | omega)) | (with_reducible refine Below.drew ?_) | (with_reducible refine below_drewN ?_ _))) (hb.mono (by first | omega | (simp; done) | (simp; omega)))
        have hqs := (hp).size
        clear hb
        obtain ⟨r2, hr2⟩ : ∃ r, inB 0 1 n = r := ⟨_, rfl⟩
        rw [hr2]
        have HR2 := Lib.hid hr2
        clear hr2
        go_wp2_with fail
        go_ret
        exact ⟨ret_bool (by rw [HE.out, HR1.out]; first | exact HV2.out _ HR2.out | (rw [HR2.out]; rfl)), HB.out.trans (hp.mono HB.out.size)⟩
    · have HV2 : Hid (∀ r, inB 0 1000000000000000 n = r → r = (true && (true && inB 0 (if u = 3 then 1 else 1000000000000000) n))) := Lib.hid (fun r h => by subst h; rw [if_neg hu]; rfl)
      go_wp2_with fail
      have hq0 : Below w2.heap.size w2 w2 := Below.refl _ _
      refine (syn_in_one 0 3 u w2.heap.size _ (by first | exact (Blk.new _ _ _).drew | exact Blk.new _ _ _)).mono ?_
      rintro e w4 ⟨rfl, hb⟩
      have hq : Below w2.heap.size w2 w4 := Below.trans (by repeat (first | (with_reducible exact hq0) | (with_reducible exact Below.refl _ _) | ((with_reducible refine below_setr ?_ ?_); focus (first | (simp; done) | (simp; omega) | omega)) | ((with_reducible refine below_allocr ?_ ?_); focus (first | (simp; done) | (simp; omega) | omega)) | (with_reducible refine Below.drew ?_) | (with_reducible refine below_drewN ?_ _))) (hb.mono (by first | omega | (simp; done) | (simp; omega)))
      have hqs := (hq).size
      clear hb
      obtain ⟨r1, hr1⟩ : ∃ r, inB 0 3 u = r := ⟨_, rfl⟩
      rw [hr1]
      have HR1 := Lib.hid hr1
      clear hr1 a0 a1 a2 a3 a4 af az
      obtain ⟨a0, a1, a2, a3, a4, af, az⟩ := (HA.out.later hq).b5
      rcases r1
      · go_wp2_with fail
        go_ret
        exact ⟨ret_bool (by rw [HE.out, HR1.out]; rfl), HB.out.trans (hq.mono HB.out.size)⟩
      · go_wp2_with fail
        refine (syn_in_one 0 1000000000000000 n w4.heap.size _ (by first | exact (Blk.new _ _ _).drew | exact Blk.new _ _ _)).mono ?_
        rintro e w5 ⟨rfl, hb⟩
        have hp : Below w2.heap.size w2 w5 := Below.trans (by repeat (first | (with_reducible exact hq) | (with_reducible exact Below.refl _ _) | ((with_reducible refine below_setr ?_ ?_); focus (first | (simp; done) | (simp; omega) | omega)) | ((with_reducible refine below_allocr ?_ ?_); focus (first | (simp; done) | (simp; omega) | omega)) | (with_reducible refine Below.drew ?_) | (with_reducible refine below_drewN ?_ _))) (hb.mono (by first | omega | (simp; done) | (simp; omega)))
        have hqs := (hp).size
        clear hb
        obtain ⟨r2, hr2⟩ : ∃ r, inB 0 1000000000000000 n = r := ⟨_, rfl⟩
        rw [hr2]
        have HR2 := Lib.hid hr2
        clear hr2
        go_wp2_with fail
        go_ret
        exact ⟨ret_bool (by rw [HE.out, HR1.out]; first | exact HV2.out _ HR2.out | (rw [HR2.out]; rfl)), HB.out.trans (hp.mono HB.out.size)⟩
  · have hs2 : s.toList.isEmpty = false := by rw [List.isEmpty_eq_false_iff]; exact hs
    have HE : Hid (empB s = false) := Lib.hid hs2
    by_cases hu : u = 3
    · subst hu
      go_wp2_with fail
      go_ret
      exact ⟨ret_bool (by rw [HE.out]; rfl), HB.out.trans (Below.drew (Below.refl _ _))⟩
    · go_wp2_with fail
      go_ret
      exact ⟨ret_bool (by rw [HE.out]; rfl), HB.out.trans (Below.drew (Below.refl _ _))⟩
theorem both_no3 {b : Bool} {n u : Int} {s : ByteArray} (h : empB s = false) : false = (bothZ n u && (empB s && b)) := by rw [h, Bool.false_and, Bool.and_false]
theorem both_yes3 {b : Bool} {s : ByteArray} (h : empB s = true) : b = (bothZ 0 0 && (empB s && b)) := by rw [h]; cases b <;> rfl
set_option maxHeartbeats 1600000 in
theorem syn_rightR (k : Nat) (hk : k ≤ 1000) (ih : RightP k) (o n u : Int) (s : ByteArray) (A : Option Addr) (c : Nat) (l : List PT) (w : World) (d : Int) (hd : (k : Int) + 1 = d) (hl : (l.length : Int) = opsN o) (h0 : ¬ o = 0) (h1 : ¬ o = 1) (h2 : ¬ o = 2) (h3 : ¬ o = 3) (he : PT.At (· < w.heap.size) w ⟨o, n, u, s, A, c, l⟩) :
    Calls Tryz.prog 92 #[PT.v ⟨o, n, u, s, A, c, l⟩, .int .i64 d] w fun r w' => r = .returned (.bool (okE (k + 1) ⟨o, n, u, s, A, c, l⟩)) ∧ Below w.heap.size w w' := by
  have HV := Lib.hid (okE_rest (k := k) (n := n) (u := u) (s := s) (A := A) (c := c) hl h0 (by rintro (h | h | h) <;> contradiction))
  have hlb : (((l.length : Int)) != opsN o) = false := by simpa using hl
  have hd0 : (d == 0) = false := by rw [beq_eq_false_iff_ne]; omega
  have hln := he.rd.len
  simp only [PT.a] at hln
  have HE := Lib.hid he
  have HI := Lib.hid (syn_right1 k hk ih)
  have HD := Lib.hid hd
  clear hl ih he hd
  simp only [PT.v]
  rw [← HV.out]
  clear HV
  go_enter Tryz.func92, Tryz.ntmps92
  go_wp2_with fail
  have HB : Hid (Below w.heap.size w ((w.alloc (.cells #[.int .i64 o, .int .i64 n, .int .i64 u, .string s, .slice A l.length c] 25)).alloc (.cells #[.int .i64 d] 3))) := Lib.hid (by repeat (first | (with_reducible exact Below.refl _ _) | ((with_reducible refine below_setr ?_ ?_); focus (first | (simp; done) | (simp; omega) | omega)) | ((with_reducible refine below_allocr ?_ ?_); focus (first | (simp; done) | (simp; omega) | omega)) | (with_reducible refine Below.drew ?_) | (with_reducible refine below_drewN ?_ _)))
  have HA : Hid (Blk ((w.alloc (.cells #[.int .i64 o, .int .i64 n, .int .i64 u, .string s, .slice A l.length c] 25)).alloc (.cells #[.int .i64 d] 3)) w.heap.size 25 #[.int .i64 o, .int .i64 n, .int .i64 u, .string s, .slice A l.length c]) := Lib.hid ((Blk.new _ _ _).alloc _)
  have HC : Hid (Blk ((w.alloc (.cells #[.int .i64 o, .int .i64 n, .int .i64 u, .string s, .slice A l.length c] 25)).alloc (.cells #[.int .i64 d] 3)) (w.heap.size + 1) 3 #[.int .i64 d]) := Lib.hid (Blk.new' (by simp))
  generalize (w.alloc (.cells #[.int .i64 o, .int .i64 n, .int .i64 u, .string s, .slice A l.length c] 25)).alloc (.cells #[.int .i64 d] 3) = w2 at *
  obtain ⟨a0, a1, a2, a3, a4, af, az⟩ := HA.out.b5
  obtain ⟨c0, cf, cz⟩ := HC.out.b1
  refine wp_region_T (fun W => W.cell? ⟨w.heap.size + 1, 0, none⟩ = some (.int .i64 d) ∧ W.cell? ⟨w.heap.size, 4, none⟩ = some (.slice A l.length c) ∧ W.cell? ⟨w.heap.size, 0, none⟩ = some (.int .i64 o)) (fun _ => false) (by kernel_rfl) ⟨c0, a4, a0⟩ (fun hHeld => ?_)
  refine wpAnyT_take2 (i := 0) (v := ?_) rfl rfl (by kernel_rfl) (by kernel_rfl) (by kernel_rfl) (by kernel_rfl) (fun _ _ _ h => h) (Or.inl ⟨by rfl, ?_⟩) (by first | assumption | trivial) ?_
  rotate_left
  · (intro w hSw; (try dsimp only at hSw); go_simp) <;> (with_reducible rfl)
  simp only [List.setIfInBounds_toArray, List.set_cons_zero, List.set_cons_succ]
  clear hHeld
  refine wpAnyT_take2 (i := 1) (v := .bool false) rfl rfl (by kernel_rfl) (by kernel_rfl) (by kernel_rfl) (by kernel_rfl) (fun _ _ _ h => h) (Or.inl ⟨by rfl, ?_⟩) (by first | assumption | trivial) ?_
  · (intro w hSw; (try dsimp only at hSw); go_simp) <;> (first | (with_reducible rfl) | assumption | (simp; done) | (simp [*]; done) | (simp; omega))
  simp only [List.setIfInBounds_toArray, List.set_cons_zero, List.set_cons_succ]
  refine wpAnyT_take2 (i := 2) (v := ?_) rfl rfl (by kernel_rfl) (by kernel_rfl) (by kernel_rfl) (by kernel_rfl) (fun _ _ _ h => h) (Or.inl ⟨by rfl, ?_⟩) (by first | assumption | trivial) ?_
  rotate_left
  · (intro w hSw; (try dsimp only at hSw); go_simp) <;> (with_reducible rfl)
  simp only [List.setIfInBounds_toArray, List.set_cons_zero, List.set_cons_succ]
  refine wpAnyT_take2 (i := 3) (v := ?_) rfl rfl (by kernel_rfl) (by kernel_rfl) (by kernel_rfl) (by kernel_rfl) (fun _ _ _ h => h) (Or.inl ⟨by rfl, ?_⟩) (by first | assumption | trivial) ?_
  rotate_left
  · (intro w hSw; (try dsimp only at hSw); go_simp) <;> (with_reducible rfl)
  simp only [List.setIfInBounds_toArray, List.set_cons_zero, List.set_cons_succ]
  refine wpAnyT_take2 (i := 4) (v := ?_) rfl rfl (by kernel_rfl) (by kernel_rfl) (by kernel_rfl) (by kernel_rfl) (fun _ _ _ h => h) (Or.inl ⟨by rfl, ?_⟩) (by first | assumption | trivial) ?_
  rotate_left
  · (intro w hSw; (try dsimp only at hSw); go_simp) <;> (with_reducible rfl)
  simp only [List.setIfInBounds_toArray, List.set_cons_zero, List.set_cons_succ]
  refine wpAnyT_take2 (i := 5) (v := ?_) rfl rfl (by kernel_rfl) (by kernel_rfl) (by kernel_rfl) (by kernel_rfl) (fun _ _ _ h => h) (Or.inl ⟨by rfl, ?_⟩) (by first | assumption | trivial) ?_
  rotate_left
  · (intro w hSw; (try dsimp only at hSw); go_simp) <;> (with_reducible rfl)
  simp only [List.setIfInBounds_toArray, List.set_cons_zero, List.set_cons_succ]
  refine wpAnyT_take2 (i := 6) (v := ?_) rfl rfl (by kernel_rfl) (by kernel_rfl) (by kernel_rfl) (by kernel_rfl) (fun _ _ _ h => h) (Or.inl ⟨by rfl, ?_⟩) (by first | assumption | trivial) ?_
  rotate_left
  · (intro w hSw; (try dsimp only at hSw); go_simp) <;> (with_reducible rfl)
  simp only [List.setIfInBounds_toArray, List.set_cons_zero, List.set_cons_succ]
  refine wpAnyT_take2 (i := 7) (v := ?_) rfl rfl (by kernel_rfl) (by kernel_rfl) (by kernel_rfl) (by kernel_rfl) (fun _ _ _ h => h) (Or.inl ⟨by rfl, ?_⟩) (by first | assumption | trivial) ?_
  rotate_left
  · (intro w hSw; (try dsimp only at hSw); go_simp) <;> (with_reducible rfl)
  simp only [List.setIfInBounds_toArray, List.set_cons_zero, List.set_cons_succ]
  refine wpAnyT_next (i := 8) (by kernel_rfl) rfl ?_
  go_wp2_with fail
  refine (syn_ops o _).mono ?_
  rintro e w' ⟨rfl, rfl⟩
  go_wp2_with fail
  refine And.intro (by first | exact fun _ => ⟨c0, a4, a0⟩ | exact ⟨c0, a4, a0⟩) ?_
  have hHeld := (⟨c0, a4, a0⟩ : w2.cell? ⟨w.heap.size + 1, 0, none⟩ = some (.int .i64 d) ∧ w2.cell? ⟨w.heap.size, 4, none⟩ = some (.slice A l.length c) ∧ w2.cell? ⟨w.heap.size, 0, none⟩ = some (.int .i64 o))
  refine wpAnyT_take2 (i := 9) (v := .bool false) rfl rfl (by kernel_rfl) (by kernel_rfl) (by kernel_rfl) (by kernel_rfl) (fun _ _ _ h => h) (Or.inl ⟨by rfl, ?_⟩) (by first | assumption | trivial) ?_
  · (intro w hSw; (try dsimp only at hSw); go_simp) <;> (first | (with_reducible rfl) | assumption | (simp; done) | (simp [*]; done) | (simp; omega))
  simp only [List.setIfInBounds_toArray, List.set_cons_zero, List.set_cons_succ]
  refine wpAnyT_take2 (i := 10) (v := ?_) rfl rfl (by kernel_rfl) (by kernel_rfl) (by kernel_rfl) (by kernel_rfl) (fun _ _ _ h => h) (Or.inl ⟨by rfl, ?_⟩) (by first | assumption | trivial) ?_
  rotate_left
  · (intro w hSw; (try dsimp only at hSw); go_simp) <;> (with_reducible rfl)
  simp only [List.setIfInBounds_toArray, List.set_cons_zero, List.set_cons_succ]
  refine wpAnyT_done (by kernel_rfl) ?_ _
  clear hHeld
  clear hlb
  by_cases hn : n = 0
  · subst hn
    by_cases hu : u = 0
    · subst hu
      by_cases hs : s.toList = []
      · have hs2 : s.toList.isEmpty = true := by rw [hs]; rfl
        have HV := Lib.hid (both_yes3 (b := l.all (okE k)) (s := s) hs2)
        have HC2 : Hid (w2.cell? ⟨w.heap.size + 1, 0, none⟩ = some (.int .i64 ((k : Int) + 1)) ∧ w.heap.size + 1 < w2.heap.size) := Lib.hid (by rw [HD.out]; exact ⟨c0, cz⟩)
        have HEW := Lib.hid (HE.out.later (HB.out.trans (Below.drew (Below.refl _ _))))
        go_wp2_with fail
        refine (hasE_r ⟨A, c, l⟩ (fun x => !okE k x) (w.heap.size + 1) _ HEW.out.rd (fun W x hx hW => HI.out x _ W ((HEW.out.all x hx).later hW) (((hW.block _ HC2.out.2 |> World.cell?_of_block).trans HC2.out.1)) (Nat.lt_of_lt_of_le HC2.out.2 hW.size))).mono ?_
        rintro e w' ⟨rfl, hb⟩
        have hB : Below w.heap.size w w' := HB.out.trans ((Below.drew (Below.refl _ _) |>.trans hb).mono HB.out.size)
        clear hb
        rw [show (fun x => !okE k x) = (fun x => !(okE k) x) from rfl]
        obtain ⟨r, hr⟩ : ∃ r, l.any (fun x => !okE k x) = r := ⟨_, rfl⟩
        simp only [hr]
        have HR : Hid ((!r) = l.all (okE k)) := Lib.hid (by rw [← hr]; exact any_not _ _)
        clear hr
        go_wp2_with fail
        go_ret
        exact ⟨ret_bool (HR.out.trans HV.out), hB⟩
      · have hs2 : s.toList.isEmpty = false := by rw [List.isEmpty_eq_false_iff]; exact hs
        have HV := Lib.hid (both_no3 (b := l.all (okE k)) (n := 0) (u := 0) (s := s) hs2)
        go_wp2_with fail
        go_ret
        exact ⟨ret_bool HV.out, HB.out.trans (Below.drew (Below.refl _ _))⟩
    · have HV := Lib.hid (both_no2 (n := 0) (b := empB s && l.all (okE k)) hu)
      go_wp2_with fail
      go_ret
      exact ⟨ret_bool HV.out, HB.out.trans (Below.drew (Below.refl _ _))⟩
  · have HV := Lib.hid (both_no1 (u := u) (b := empB s && l.all (okE k)) hn)
    go_wp2_with fail
    go_ret
    exact ⟨ret_bool HV.out, HB.out.trans (Below.drew (Below.refl _ _))⟩
theorem syn_rightS (k : Nat) (hk : k ≤ 1000) (ih : RightP k) : RightP (k + 1) := by
  intro e w he
  obtain ⟨o, n, u, s, A, c, l⟩ := e
  have hln := he.rd.len
  have hs := he.str
  simp only [PT.a] at hln
  simp only [PT.s] at hs
  have hd0 : (((k + 1 : Nat) : Int) == 0) = false := by rw [beq_eq_false_iff_ne]; omega
  by_cases hl : (l.length : Int) = opsN o
  · by_cases h0 : o = 0
    · exact syn_rightM k o n u s A c l w _ hd0 hln hl h0
    by_cases h1 : o = 1
    · exact syn_rightN k o n u s A c l w _ hd0 hln hl h0 (.inl h1) hs
    by_cases h2 : o = 2
    · exact syn_rightN k o n u s A c l w _ hd0 hln hl h0 (.inr (.inl h2)) hs
    by_cases h3 : o = 3
    · exact syn_rightN k o n u s A c l w _ hd0 hln hl h0 (.inr (.inr h3)) hs
    exact syn_rightR k hk ih o n u s A c l w _ (by simp) hl h0 h1 h2 h3 he
  · exact syn_rightL k o n u s A c l w _ hd0 hln hl
theorem syn_right : ∀ k : Nat, k ≤ 1000 → RightP k
  | 0, _ => fun e w _ => syn_right0 e w
  | k + 1, hk => syn_rightS k (by omega) (syn_right k (by omega))
end Go.Proofs.YtcgocdhhneckhaaGreat
