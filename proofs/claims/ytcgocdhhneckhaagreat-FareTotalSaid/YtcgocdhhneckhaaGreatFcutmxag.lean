/- Walk: syntax.right, by induction on the depth. -/
import Derived.Test.YtcgocdhhneckhaaGreatFcutmxaf
namespace Go.Proofs.YtcgocdhhneckhaaGreat
open Go.RowKit
def empB (s : ByteArray) : Bool := s.toList.isEmpty
def bothZ (n u : Int) : Bool := decide (n = 0) && decide (u = 0)
def okE : Nat → PT → Bool
  | 0, _ => false
  | k + 1, ⟨o, n, u, s, _, _, l⟩ => decide ((l.length : Int) = opsN o) && (if o = 0 then empB s && (inB 0 3 u && inB 0 (if u = 3 then 1 else 1000000000000000) n) else if o = 1 ∨ o = 2 ∨ o = 3 then bothZ n u && nameB s else bothZ n u && (empB s && l.all (okE k)))
theorem okE_len {k : Nat} {o n u : Int} {s : ByteArray} {A : Option Addr} {c : Nat} {l : List PT} (h : ¬ (l.length : Int) = opsN o) : false = okE (k + 1) ⟨o, n, u, s, A, c, l⟩ := by
  unfold okE; rw [decide_eq_false h]; rfl
theorem okE_num {k : Nat} {n u : Int} {s : ByteArray} {A : Option Addr} {c : Nat} {l : List PT} (h : (l.length : Int) = opsN 0) : (empB s && (inB 0 3 u && inB 0 (if u = 3 then 1 else 1000000000000000) n)) = okE (k + 1) ⟨0, n, u, s, A, c, l⟩ := by
  unfold okE; rw [decide_eq_true h]; simp
theorem okE_name {k : Nat} {o n u : Int} {s : ByteArray} {A : Option Addr} {c : Nat} {l : List PT} (h : (l.length : Int) = opsN o) (h0 : ¬ o = 0) (h1 : o = 1 ∨ o = 2 ∨ o = 3) : (bothZ n u && nameB s) = okE (k + 1) ⟨o, n, u, s, A, c, l⟩ := by
  unfold okE; rw [decide_eq_true h, if_neg h0, if_pos h1]; simp
theorem okE_rest {k : Nat} {o n u : Int} {s : ByteArray} {A : Option Addr} {c : Nat} {l : List PT} (h : (l.length : Int) = opsN o) (h0 : ¬ o = 0) (h1 : ¬ (o = 1 ∨ o = 2 ∨ o = 3)) : (bothZ n u && (empB s && l.all (okE k))) = okE (k + 1) ⟨o, n, u, s, A, c, l⟩ := by
  unfold okE; rw [decide_eq_true h, if_neg h0, if_neg h1]; simp
set_option maxHeartbeats 800000 in
theorem syn_right0 (e : PT) (w : World) : Calls Tryz.prog 92 #[e.v, .int .i64 0] w fun r w' => r = .returned (.bool (okE 0 e)) ∧ Below w.heap.size w w' := by
  obtain ⟨o, n, u, s, A, c, l⟩ := e
  simp only [PT.v]
  go_enter Tryz.func92, Tryz.ntmps92
  go_wp2_with fail
  have HB : Hid (Below w.heap.size w ((w.alloc (.cells #[.int .i64 o, .int .i64 n, .int .i64 u, .string s, .slice A l.length c] 25)).alloc (.cells #[.int .i64 0] 3))) := Lib.hid (by repeat (first | (with_reducible exact Below.refl _ _) | ((with_reducible refine below_setr ?_ ?_); focus (first | (simp; done) | (simp; omega) | omega)) | ((with_reducible refine below_allocr ?_ ?_); focus (first | (simp; done) | (simp; omega) | omega)) | (with_reducible refine Below.drew ?_) | (with_reducible refine below_drewN ?_ _)))
  have HA : Hid (Blk ((w.alloc (.cells #[.int .i64 o, .int .i64 n, .int .i64 u, .string s, .slice A l.length c] 25)).alloc (.cells #[.int .i64 0] 3)) w.heap.size 25 #[.int .i64 o, .int .i64 n, .int .i64 u, .string s, .slice A l.length c]) := Lib.hid ((Blk.new _ _ _).alloc _)
  have HC : Hid (Blk ((w.alloc (.cells #[.int .i64 o, .int .i64 n, .int .i64 u, .string s, .slice A l.length c] 25)).alloc (.cells #[.int .i64 0] 3)) (w.heap.size + 1) 3 #[.int .i64 0]) := Lib.hid (Blk.new' (by simp))
  generalize (w.alloc (.cells #[.int .i64 o, .int .i64 n, .int .i64 u, .string s, .slice A l.length c] 25)).alloc (.cells #[.int .i64 0] 3) = w2 at *
  obtain ⟨a0, a1, a2, a3, a4, af, az⟩ := HA.out.b5
  obtain ⟨c0, cf, cz⟩ := HC.out.b1
  refine wp_region_T (fun W => W.cell? ⟨w.heap.size + 1, 0, none⟩ = some (.int .i64 0)) (fun _ => false) (by kernel_rfl) c0 (fun hHeld => ?_)
  refine wpAnyT_take2 (i := 0) (v := ?_) rfl rfl (by kernel_rfl) (by kernel_rfl) (by kernel_rfl) (by kernel_rfl) (fun _ _ _ h => h) (Or.inl ⟨by rfl, ?_⟩) (by first | assumption | trivial) ?_
  rotate_left
  · (intro w hSw; (try dsimp only at hSw); go_simp) <;> (with_reducible rfl)
  simp only [List.setIfInBounds_toArray, List.set_cons_zero, List.set_cons_succ]
  refine wpAnyT_take2 (i := 1) (v := ?_) rfl rfl (by kernel_rfl) (by kernel_rfl) (by kernel_rfl) (by kernel_rfl) (fun _ _ _ h => h) (Or.inl ⟨by rfl, ?_⟩) (by first | assumption | trivial) ?_
  rotate_left
  · (intro w hSw; (try dsimp only at hSw); go_simp) <;> (with_reducible rfl)
  simp only [List.setIfInBounds_toArray, List.set_cons_zero, List.set_cons_succ]
  refine wpAnyT_take2 (i := 2) (v := ?_) rfl rfl (by kernel_rfl) (by kernel_rfl) (by kernel_rfl) (by kernel_rfl) (fun _ _ _ h => h) (Or.inl ⟨by rfl, ?_⟩) (by first | assumption | trivial) ?_
  rotate_left
  · (intro w hSw; (try dsimp only at hSw); go_simp) <;> (with_reducible rfl)
  simp only [List.setIfInBounds_toArray, List.set_cons_zero, List.set_cons_succ]
  clear hHeld
  refine wpAnyT_take2 (i := 3) (v := undef) rfl rfl (by kernel_rfl) (by kernel_rfl) (by kernel_rfl) (by kernel_rfl) (fun _ _ _ h => h) (Or.inr ⟨by rfl, rfl⟩) (by first | assumption | trivial) ?_
  simp only [List.setIfInBounds_toArray, List.set_cons_zero, List.set_cons_succ]
  refine wpAnyT_take2 (i := 4) (v := undef) rfl rfl (by kernel_rfl) (by kernel_rfl) (by kernel_rfl) (by kernel_rfl) (fun _ _ _ h => h) (Or.inr ⟨by rfl, rfl⟩) (by first | assumption | trivial) ?_
  simp only [List.setIfInBounds_toArray, List.set_cons_zero, List.set_cons_succ]
  refine wpAnyT_take2 (i := 5) (v := undef) rfl rfl (by kernel_rfl) (by kernel_rfl) (by kernel_rfl) (by kernel_rfl) (fun _ _ _ h => h) (Or.inr ⟨by rfl, rfl⟩) (by first | assumption | trivial) ?_
  simp only [List.setIfInBounds_toArray, List.set_cons_zero, List.set_cons_succ]
  refine wpAnyT_take2 (i := 6) (v := undef) rfl rfl (by kernel_rfl) (by kernel_rfl) (by kernel_rfl) (by kernel_rfl) (fun _ _ _ h => h) (Or.inr ⟨by rfl, rfl⟩) (by first | assumption | trivial) ?_
  simp only [List.setIfInBounds_toArray, List.set_cons_zero, List.set_cons_succ]
  refine wpAnyT_take2 (i := 7) (v := undef) rfl rfl (by kernel_rfl) (by kernel_rfl) (by kernel_rfl) (by kernel_rfl) (fun _ _ _ h => h) (Or.inr ⟨by rfl, rfl⟩) (by first | assumption | trivial) ?_
  simp only [List.setIfInBounds_toArray, List.set_cons_zero, List.set_cons_succ]
  refine wpAnyT_take2 (i := 8) (v := undef) rfl rfl (by kernel_rfl) (by kernel_rfl) (by kernel_rfl) (by kernel_rfl) (fun _ _ _ h => h) (Or.inr ⟨by rfl, rfl⟩) (by first | assumption | trivial) ?_
  simp only [List.setIfInBounds_toArray, List.set_cons_zero, List.set_cons_succ]
  refine wpAnyT_take2 (i := 9) (v := undef) rfl rfl (by kernel_rfl) (by kernel_rfl) (by kernel_rfl) (by kernel_rfl) (fun _ _ _ h => h) (Or.inr ⟨by rfl, rfl⟩) (by first | assumption | trivial) ?_
  simp only [List.setIfInBounds_toArray, List.set_cons_zero, List.set_cons_succ]
  refine wpAnyT_take2 (i := 10) (v := ?_) rfl rfl (by kernel_rfl) (by kernel_rfl) (by kernel_rfl) (by kernel_rfl) (fun _ _ _ h => h) (Or.inl ⟨by rfl, ?_⟩) (by first | assumption | trivial) ?_
  rotate_left
  · (intro w hSw; (try dsimp only at hSw); go_simp) <;> (with_reducible rfl)
  simp only [List.setIfInBounds_toArray, List.set_cons_zero, List.set_cons_succ]
  refine wpAnyT_done (by kernel_rfl) ?_ _
  go_wp2_with fail
  go_ret
  exact ⟨rfl, HB.out.trans (Below.drew (Below.refl _ _))⟩
def RightP (k : Nat) : Prop := ∀ (e : PT) (w : World), PT.At (· < w.heap.size) w e → Calls Tryz.prog 92 #[e.v, .int .i64 k] w fun r w' => r = .returned (.bool (okE k e)) ∧ Below w.heap.size w w'
set_option maxHeartbeats 800000 in
theorem syn_right1 (k : Nat) (hk : k ≤ 1000) (ih : RightP k) (e : PT) (g : Nat) (w : World) (he : PT.At (· < w.heap.size) w e) (hg : w.cell? ⟨g, 0, none⟩ = some (.int .i64 ((k : Int) + 1))) (hgl : g < w.heap.size) :
    Calls Tryz.prog 133 #[e.v, .pointer (some ⟨g, 0, none⟩)] w fun r w' => r = .returned (.bool (!okE k e)) ∧ Below w.heap.size w w' := by
  have HI := Lib.hid (fun w2 h => ih e w2 h)
  have HE := Lib.hid he
  clear he ih
  obtain ⟨o, n, u, s, A, c, l⟩ := e
  have hne : g ≠ w.heap.size := by omega
  have hw : IntKind.i64.wrap ((k : Int) + 1 - 1) = (k : Int) := by rw [IntKind.wrap_i64]; omega
  simp only [PT.v] at HI ⊢
  go_enter Tryz.func133, Tryz.ntmps133
  go_wp2_with fail
  have HB : Hid (Below w.heap.size w (w.alloc (.cells #[.int .i64 o, .int .i64 n, .int .i64 u, .string s, .slice A l.length c] 25))) := Lib.hid (by repeat (first | (with_reducible exact Below.refl _ _) | ((with_reducible refine below_setr ?_ ?_); focus (first | (simp; done) | (simp; omega) | omega)) | ((with_reducible refine below_allocr ?_ ?_); focus (first | (simp; done) | (simp; omega) | omega)) | (with_reducible refine Below.drew ?_) | (with_reducible refine below_drewN ?_ _)))
  refine (HI.out _ (HE.out.later HB.out)).mono ?_
  rintro e w' ⟨rfl, hb⟩
  have hB : Below w.heap.size w w' := HB.out.trans (hb.mono HB.out.size)
  clear hb
  obtain ⟨r, hr⟩ : ∃ r, okE k ⟨o, n, u, s, A, c, l⟩ = r := ⟨_, rfl⟩
  rw [hr]
  have HR : Hid ((!r) = !okE k ⟨o, n, u, s, A, c, l⟩) := Lib.hid (by rw [hr])
  clear hr
  go_wp2_with fail
  go_ret
  exact ⟨ret_bool HR.out, hB⟩
theorem both_no1 {n u : Int} {b : Bool} (h : ¬ n = 0) : false = (bothZ n u && b) := by unfold bothZ; rw [decide_eq_false h]; rfl
theorem both_no2 {n u : Int} {b : Bool} (h : ¬ u = 0) : false = (bothZ n u && b) := by unfold bothZ; rw [decide_eq_false h, Bool.and_false]; rfl
theorem both_yes {b : Bool} : b = (bothZ 0 0 && b) := rfl
set_option maxHeartbeats 1600000 in
theorem syn_rightL (k : Nat) (o n u : Int) (s : ByteArray) (A : Option Addr) (c : Nat) (l : List PT) (w : World) (d : Int) (hd0 : (d == 0) = false) (hln : l.length ≤ 9223372036854775807) (hl : ¬ (l.length : Int) = opsN o) :
    Calls Tryz.prog 92 #[PT.v ⟨o, n, u, s, A, c, l⟩, .int .i64 d] w fun r w' => r = .returned (.bool (okE (k + 1) ⟨o, n, u, s, A, c, l⟩)) ∧ Below w.heap.size w w' := by
  have HV := Lib.hid (okE_len (k := k) (n := n) (u := u) (s := s) (A := A) (c := c) hl)
  have hlb : (((l.length : Int)) != opsN o) = true := by simpa using hl
  have HL := Lib.hid hl
  clear hl
  simp only [PT.v]
  go_enter Tryz.func92, Tryz.ntmps92
  go_wp2_with fail
  have HB : Hid (Below w.heap.size w ((w.alloc (.cells #[.int .i64 o, .int .i64 n, .int .i64 u, .string s, .slice A l.length c] 25)).alloc (.cells #[.int .i64 d] 3))) := Lib.hid (by repeat (first | (with_reducible exact Below.refl _ _) | ((with_reducible refine below_setr ?_ ?_); focus (first | (simp; done) | (simp; omega) | omega)) | ((with_reducible refine below_allocr ?_ ?_); focus (first | (simp; done) | (simp; omega) | omega)) | (with_reducible refine Below.drew ?_) | (with_reducible refine below_drewN ?_ _)))
  have HA : Hid (Blk ((w.alloc (.cells #[.int .i64 o, .int .i64 n, .int .i64 u, .string s, .slice A l.length c] 25)).alloc (.cells #[.int .i64 d] 3)) w.heap.size 25 #[.int .i64 o, .int .i64 n, .int .i64 u, .string s, .slice A l.length c]) := Lib.hid ((Blk.new _ _ _).alloc _)
  have HC : Hid (Blk ((w.alloc (.cells #[.int .i64 o, .int .i64 n, .int .i64 u, .string s, .slice A l.length c] 25)).alloc (.cells #[.int .i64 d] 3)) (w.heap.size + 1) 3 #[.int .i64 d]) := Lib.hid (Blk.new' (by simp))
  generalize (w.alloc (.cells #[.int .i64 o, .int .i64 n, .int .i64 u, .string s, .slice A l.length c] 25)).alloc (.cells #[.int .i64 d] 3) = w2 at *
  obtain ⟨a0, a1, a2, a3, a4, af, az⟩ := HA.out.b5
  obtain ⟨c0, cf, cz⟩ := HC.out.b1
  refine wp_region_T (fun W => W.cell? ⟨w.heap.size + 1, 0, none⟩ = some (.int .i64 d) ∧ W.cell? ⟨w.heap.size, 4, none⟩ = some (.slice A l.length c) ∧ W.cell? ⟨w.heap.size, 0, none⟩ = some (.int .i64 o)) (fun _ => false) (by kernel_rfl) ⟨c0, a4, a0⟩ (fun hHeld => ?_)
  refine wpAnyT_take2 (i := 0) (v := ?_) rfl rfl (by kernel_rfl) (by kernel_rfl) (by kernel_rfl) (by kernel_rfl) (fun _ _ _ h => h) (Or.inl ⟨by rfl, ?_⟩) (by first | assumption | trivial) ?_
  rotate_left
  · (intro w hSw; (try dsimp only at hSw); go_simp) <;> (with_reducible rfl)
  simp only [List.setIfInBounds_toArray, List.set_cons_zero, List.set_cons_succ]
  clear hHeld
  refine wpAnyT_take2 (i := 1) (v := .bool false) rfl rfl (by kernel_rfl) (by kernel_rfl) (by kernel_rfl) (by kernel_rfl) (fun _ _ _ h => h) (Or.inl ⟨by rfl, ?_⟩) (by first | assumption | trivial) ?_
  · (intro w hSw; (try dsimp only at hSw); go_simp) <;> (first | (with_reducible rfl) | assumption | (simp; done) | (simp [*]; done) | (simp; omega))
  simp only [List.setIfInBounds_toArray, List.set_cons_zero, List.set_cons_succ]
  refine wpAnyT_take2 (i := 2) (v := ?_) rfl rfl (by kernel_rfl) (by kernel_rfl) (by kernel_rfl) (by kernel_rfl) (fun _ _ _ h => h) (Or.inl ⟨by rfl, ?_⟩) (by first | assumption | trivial) ?_
  rotate_left
  · (intro w hSw; (try dsimp only at hSw); go_simp) <;> (with_reducible rfl)
  simp only [List.setIfInBounds_toArray, List.set_cons_zero, List.set_cons_succ]
  refine wpAnyT_take2 (i := 3) (v := ?_) rfl rfl (by kernel_rfl) (by kernel_rfl) (by kernel_rfl) (by kernel_rfl) (fun _ _ _ h => h) (Or.inl ⟨by rfl, ?_⟩) (by first | assumption | trivial) ?_
  rotate_left
  · (intro w hSw; (try dsimp only at hSw); go_simp) <;> (with_reducible rfl)
  simp only [List.setIfInBounds_toArray, List.set_cons_zero, List.set_cons_succ]
  refine wpAnyT_take2 (i := 4) (v := ?_) rfl rfl (by kernel_rfl) (by kernel_rfl) (by kernel_rfl) (by kernel_rfl) (fun _ _ _ h => h) (Or.inl ⟨by rfl, ?_⟩) (by first | assumption | trivial) ?_
  rotate_left
  · (intro w hSw; (try dsimp only at hSw); go_simp) <;> (with_reducible rfl)
  simp only [List.setIfInBounds_toArray, List.set_cons_zero, List.set_cons_succ]
  refine wpAnyT_take2 (i := 5) (v := ?_) rfl rfl (by kernel_rfl) (by kernel_rfl) (by kernel_rfl) (by kernel_rfl) (fun _ _ _ h => h) (Or.inl ⟨by rfl, ?_⟩) (by first | assumption | trivial) ?_
  rotate_left
  · (intro w hSw; (try dsimp only at hSw); go_simp) <;> (with_reducible rfl)
  simp only [List.setIfInBounds_toArray, List.set_cons_zero, List.set_cons_succ]
  refine wpAnyT_take2 (i := 6) (v := ?_) rfl rfl (by kernel_rfl) (by kernel_rfl) (by kernel_rfl) (by kernel_rfl) (fun _ _ _ h => h) (Or.inl ⟨by rfl, ?_⟩) (by first | assumption | trivial) ?_
  rotate_left
  · (intro w hSw; (try dsimp only at hSw); go_simp) <;> (with_reducible rfl)
  simp only [List.setIfInBounds_toArray, List.set_cons_zero, List.set_cons_succ]
  refine wpAnyT_take2 (i := 7) (v := ?_) rfl rfl (by kernel_rfl) (by kernel_rfl) (by kernel_rfl) (by kernel_rfl) (fun _ _ _ h => h) (Or.inl ⟨by rfl, ?_⟩) (by first | assumption | trivial) ?_
  rotate_left
  · (intro w hSw; (try dsimp only at hSw); go_simp) <;> (with_reducible rfl)
  simp only [List.setIfInBounds_toArray, List.set_cons_zero, List.set_cons_succ]
  refine wpAnyT_next (i := 8) (by kernel_rfl) rfl ?_
  go_wp2_with fail
  refine (syn_ops o _).mono ?_
  rintro e w' ⟨rfl, rfl⟩
  go_wp2_with fail
  refine And.intro (by first | exact fun _ => ⟨c0, a4, a0⟩ | exact ⟨c0, a4, a0⟩) ?_
  have hHeld := (⟨c0, a4, a0⟩ : w2.cell? ⟨w.heap.size + 1, 0, none⟩ = some (.int .i64 d) ∧ w2.cell? ⟨w.heap.size, 4, none⟩ = some (.slice A l.length c) ∧ w2.cell? ⟨w.heap.size, 0, none⟩ = some (.int .i64 o))
  refine wpAnyT_take2 (i := 9) (v := .bool true) rfl rfl (by kernel_rfl) (by kernel_rfl) (by kernel_rfl) (by kernel_rfl) (fun _ _ _ h => h) (Or.inl ⟨by rfl, ?_⟩) (by first | assumption | trivial) ?_
  · (intro w hSw; (try dsimp only at hSw); go_simp) <;> (first | (with_reducible rfl) | assumption | (simp; done) | (simp [*]; done) | (simp; omega))
  simp only [List.setIfInBounds_toArray, List.set_cons_zero, List.set_cons_succ]
  refine wpAnyT_take2 (i := 10) (v := ?_) rfl rfl (by kernel_rfl) (by kernel_rfl) (by kernel_rfl) (by kernel_rfl) (fun _ _ _ h => h) (Or.inl ⟨by rfl, ?_⟩) (by first | assumption | trivial) ?_
  rotate_left
  · (intro w hSw; (try dsimp only at hSw); go_simp) <;> (with_reducible rfl)
  simp only [List.setIfInBounds_toArray, List.set_cons_zero, List.set_cons_succ]
  refine wpAnyT_done (by kernel_rfl) ?_ _
  clear hHeld
  go_wp2_with fail
  go_ret
  exact ⟨ret_bool HV.out, HB.out.trans (Below.drew (Below.refl _ _))⟩
set_option maxHeartbeats 1600000 in
theorem syn_rightN (k : Nat) (o n u : Int) (s : ByteArray) (A : Option Addr) (c : Nat) (l : List PT) (w : World) (d : Int) (hd0 : (d == 0) = false) (hln : l.length ≤ 9223372036854775807) (hl : (l.length : Int) = opsN o) (h0 : ¬ o = 0) (ho : o = 1 ∨ o = 2 ∨ o = 3) (hs : s.size ≤ 9223372036854775807) :
    Calls Tryz.prog 92 #[PT.v ⟨o, n, u, s, A, c, l⟩, .int .i64 d] w fun r w' => r = .returned (.bool (okE (k + 1) ⟨o, n, u, s, A, c, l⟩)) ∧ Below w.heap.size w w' := by
  have HV := Lib.hid (okE_name (k := k) (n := n) (u := u) (s := s) (A := A) (c := c) hl h0 ho)
  have hlb : (((l.length : Int)) != opsN o) = false := by simpa using hl
  have HN := Lib.hid (fun w2 => syn_name s w2 hs)
  clear hl
  simp only [PT.v]
  rw [← HV.out]
  clear HV
  go_enter Tryz.func92, Tryz.ntmps92
  go_wp2_with fail
  have HB : Hid (Below w.heap.size w ((w.alloc (.cells #[.int .i64 o, .int .i64 n, .int .i64 u, .string s, .slice A l.length c] 25)).alloc (.cells #[.int .i64 d] 3))) := Lib.hid (by repeat (first | (with_reducible exact Below.refl _ _) | ((with_reducible refine below_setr ?_ ?_); focus (first | (simp; done) | (simp; omega) | omega)) | ((with_reducible refine below_allocr ?_ ?_); focus (first | (simp; done) | (simp; omega) | omega)) | (with_reducible refine Below.drew ?_) | (with_reducible refine below_drewN ?_ _)))
  have HA : Hid (Blk ((w.alloc (.cells #[.int .i64 o, .int .i64 n, .int .i64 u, .string s, .slice A l.length c] 25)).alloc (.cells #[.int .i64 d] 3)) w.heap.size 25 #[.int .i64 o, .int .i64 n, .int .i64 u, .string s, .slice A l.length c]) := Lib.hid ((Blk.new _ _ _).alloc _)
  have HC : Hid (Blk ((w.alloc (.cells #[.int .i64 o, .int .i64 n, .int .i64 u, .string s, .slice A l.length c] 25)).alloc (.cells #[.int .i64 d] 3)) (w.heap.size + 1) 3 #[.int .i64 d]) := Lib.hid (Blk.new' (by simp))
  generalize (w.alloc (.cells #[.int .i64 o, .int .i64 n, .int .i64 u, .string s, .slice A l.length c] 25)).alloc (.cells #[.int .i64 d] 3) = w2 at *
  obtain ⟨a0, a1, a2, a3, a4, af, az⟩ := HA.out.b5
  obtain ⟨c0, cf, cz⟩ := HC.out.b1
  refine wp_region_T (fun W => W.cell? ⟨w.heap.size + 1, 0, none⟩ = some (.int .i64 d) ∧ W.cell? ⟨w.heap.size, 4, none⟩ = some (.slice A l.length c) ∧ W.cell? ⟨w.heap.size, 0, none⟩ = some (.int .i64 o)) (fun _ => false) (by kernel_rfl) ⟨c0, a4, a0⟩ (fun hHeld => ?_)
  refine wpAnyT_take2 (i := 0) (v := ?_) rfl rfl (by kernel_rfl) (by kernel_rfl) (by kernel_rfl) (by kernel_rfl) (fun _ _ _ h => h) (Or.inl ⟨by rfl, ?_⟩) (by first | assumption | trivial) ?_
  rotate_left
  · (intro w hSw; (try dsimp only at hSw); go_simp) <;> (with_reducible rfl)
  simp only [List.setIfInBounds_toArray, List.set_cons_zero, List.set_cons_succ]
  clear hHeld
  refine wpAnyT_take2 (i := 1) (v := .bool false) rfl rfl (by kernel_rfl) (by kernel_rfl) (by kernel_rfl) (by kernel_rfl) (fun _ _ _ h => h) (Or.inl ⟨by rfl, ?_⟩) (by first | assumption | trivial) ?_
  · (intro w hSw; (try dsimp only at hSw); go_simp) <;> (first | (with_reducible rfl) | assumption | (simp; done) | (simp [*]; done) | (simp; omega))
  simp only [List.setIfInBounds_toArray, List.set_cons_zero, List.set_cons_succ]
  refine wpAnyT_take2 (i := 2) (v := ?_) rfl rfl (by kernel_rfl) (by kernel_rfl) (by kernel_rfl) (by kernel_rfl) (fun _ _ _ h => h) (Or.inl ⟨by rfl, ?_⟩) (by first | assumption | trivial) ?_
  rotate_left
  · (intro w hSw; (try dsimp only at hSw); go_simp) <;> (with_reducible rfl)
  simp only [List.setIfInBounds_toArray, List.set_cons_zero, List.set_cons_succ]
  refine wpAnyT_take2 (i := 3) (v := ?_) rfl rfl (by kernel_rfl) (by kernel_rfl) (by kernel_rfl) (by kernel_rfl) (fun _ _ _ h => h) (Or.inl ⟨by rfl, ?_⟩) (by first | assumption | trivial) ?_
  rotate_left
  · (intro w hSw; (try dsimp only at hSw); go_simp) <;> (with_reducible rfl)
  simp only [List.setIfInBounds_toArray, List.set_cons_zero, List.set_cons_succ]
  refine wpAnyT_take2 (i := 4) (v := ?_) rfl rfl (by kernel_rfl) (by kernel_rfl) (by kernel_rfl) (by kernel_rfl) (fun _ _ _ h => h) (Or.inl ⟨by rfl, ?_⟩) (by first | assumption | trivial) ?_
  rotate_left
  · (intro w hSw; (try dsimp only at hSw); go_simp) <;> (with_reducible rfl)
  simp only [List.setIfInBounds_toArray, List.set_cons_zero, List.set_cons_succ]
  refine wpAnyT_take2 (i := 5) (v := ?_) rfl rfl (by kernel_rfl) (by kernel_rfl) (by kernel_rfl) (by kernel_rfl) (fun _ _ _ h => h) (Or.inl ⟨by rfl, ?_⟩) (by first | assumption | trivial) ?_
  rotate_left
  · (intro w hSw; (try dsimp only at hSw); go_simp) <;> (with_reducible rfl)
  simp only [List.setIfInBounds_toArray, List.set_cons_zero, List.set_cons_succ]
  refine wpAnyT_take2 (i := 6) (v := ?_) rfl rfl (by kernel_rfl) (by kernel_rfl) (by kernel_rfl) (by kernel_rfl) (fun _ _ _ h => h) (Or.inl ⟨by rfl, ?_⟩) (by first | assumption | trivial) ?_
  rotate_left
  · (intro w hSw; (try dsimp only at hSw); go_simp) <;> (with_reducible rfl)
  simp only [List.setIfInBounds_toArray, List.set_cons_zero, List.set_cons_succ]
  refine wpAnyT_take2 (i := 7) (v := ?_) rfl rfl (by kernel_rfl) (by kernel_rfl) (by kernel_rfl) (by kernel_rfl) (fun _ _ _ h => h) (Or.inl ⟨by rfl, ?_⟩) (by first | assumption | trivial) ?_
  rotate_left
  · (intro w hSw; (try dsimp only at hSw); go_simp) <;> (with_reducible rfl)
  simp only [List.setIfInBounds_toArray, List.set_cons_zero, List.set_cons_succ]
  refine wpAnyT_next (i := 8) (by kernel_rfl) rfl ?_
  go_wp2_with fail
  refine (syn_ops o _).mono ?_
  rintro e w' ⟨rfl, rfl⟩
  go_wp2_with fail
  refine And.intro (by first | exact fun _ => ⟨c0, a4, a0⟩ | exact ⟨c0, a4, a0⟩) ?_
  have hHeld := (⟨c0, a4, a0⟩ : w2.cell? ⟨w.heap.size + 1, 0, none⟩ = some (.int .i64 d) ∧ w2.cell? ⟨w.heap.size, 4, none⟩ = some (.slice A l.length c) ∧ w2.cell? ⟨w.heap.size, 0, none⟩ = some (.int .i64 o))
  refine wpAnyT_take2 (i := 9) (v := .bool false) rfl rfl (by kernel_rfl) (by kernel_rfl) (by kernel_rfl) (by kernel_rfl) (fun _ _ _ h => h) (Or.inl ⟨by rfl, ?_⟩) (by first | assumption | trivial) ?_
  · (intro w hSw; (try dsimp only at hSw); go_simp) <;> (first | (with_reducible rfl) | assumption | (simp; done) | (simp [*]; done) | (simp; omega))
  simp only [List.setIfInBounds_toArray, List.set_cons_zero, List.set_cons_succ]
  refine wpAnyT_take2 (i := 10) (v := ?_) rfl rfl (by kernel_rfl) (by kernel_rfl) (by kernel_rfl) (by kernel_rfl) (fun _ _ _ h => h) (Or.inl ⟨by rfl, ?_⟩) (by first | assumption | trivial) ?_
  rotate_left
  · (intro w hSw; (try dsimp only at hSw); go_simp) <;> (with_reducible rfl)
  simp only [List.setIfInBounds_toArray, List.set_cons_zero, List.set_cons_succ]
  refine wpAnyT_done (by kernel_rfl) ?_ _
  clear hHeld
  by_cases hn : n = 0
  · subst hn
    by_cases hu : u = 0
    · subst hu
      have HV := Lib.hid (both_yes (b := nameB s))
      rcases ho with rfl | rfl | rfl
      · clear hlb
        go_wp2_with fail
        refine (HN.out _).mono ?_
        rintro e w' ⟨rfl, hb⟩
        have hB : Below w.heap.size w w' := HB.out.trans ((Below.drew (Below.refl _ _) |>.trans hb).mono HB.out.size)
        clear hb
        obtain ⟨r, hr⟩ : ∃ r, nameB s = r := ⟨_, rfl⟩
        rw [hr]
        have HR := Lib.hid (hr.symm.trans HV.out)
        clear hr
        go_wp2_with fail
        go_ret
        exact ⟨ret_bool HR.out, hB⟩
      · clear hlb
        go_wp2_with fail
        refine (HN.out _).mono ?_
        rintro e w' ⟨rfl, hb⟩
        have hB : Below w.heap.size w w' := HB.out.trans ((Below.drew (Below.refl _ _) |>.trans hb).mono HB.out.size)
        clear hb
        obtain ⟨r, hr⟩ : ∃ r, nameB s = r := ⟨_, rfl⟩
        rw [hr]
        have HR := Lib.hid (hr.symm.trans HV.out)
        clear hr
        go_wp2_with fail
        go_ret
        exact ⟨ret_bool HR.out, hB⟩
      · clear hlb
        go_wp2_with fail
        refine (HN.out _).mono ?_
        rintro e w' ⟨rfl, hb⟩
        have hB : Below w.heap.size w w' := HB.out.trans ((Below.drew (Below.refl _ _) |>.trans hb).mono HB.out.size)
        clear hb
        obtain ⟨r, hr⟩ : ∃ r, nameB s = r := ⟨_, rfl⟩
        rw [hr]
        have HR := Lib.hid (hr.symm.trans HV.out)
        clear hr
        go_wp2_with fail
        go_ret
        exact ⟨ret_bool HR.out, hB⟩
    · have HV := Lib.hid (both_no2 (n := 0) (b := nameB s) hu)
      rcases ho with rfl | rfl | rfl
      · clear hlb
        go_wp2_with fail
        go_ret
        exact ⟨ret_bool HV.out, HB.out.trans (Below.drew (Below.refl _ _))⟩
      · clear hlb
        go_wp2_with fail
        go_ret
        exact ⟨ret_bool HV.out, HB.out.trans (Below.drew (Below.refl _ _))⟩
      · clear hlb
        go_wp2_with fail
        go_ret
        exact ⟨ret_bool HV.out, HB.out.trans (Below.drew (Below.refl _ _))⟩
  · have HV := Lib.hid (both_no1 (u := u) (b := nameB s) hn)
    rcases ho with rfl | rfl | rfl
    · clear hlb
      go_wp2_with fail
      go_ret
      exact ⟨ret_bool HV.out, HB.out.trans (Below.drew (Below.refl _ _))⟩
    · clear hlb
      go_wp2_with fail
      go_ret
      exact ⟨ret_bool HV.out, HB.out.trans (Below.drew (Below.refl _ _))⟩
    · clear hlb
      go_wp2_with fail
      go_ret
      exact ⟨ret_bool HV.out, HB.out.trans (Below.drew (Below.refl _ _))⟩
end Go.Proofs.YtcgocdhhneckhaaGreat
