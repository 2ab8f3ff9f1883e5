/- The walk of MergeLater: it returns true. -/
import Derived.Test.YthnblhbdfpmolaaMLatmxbn
import Derived.Test.YthnblhbdfpmolaaMLatmxbp
import Derived.Test.YthnblhbdfpmolaaMLatmxba
namespace Go.Proofs.Ythnblhbdfpmolaa
open Go.RowKit
theorem cutL {G : Prop} (T : Prop) (main : T → G) (fin : T) : G := main fin
theorem Blk.h5 {w : World} {g : Nat} {t : TypeId} {x y z s r : Value} (h : Blk w g t #[x, y, z, s, r]) : (w.cell? ⟨g, 0, none⟩ = some (x) ∧ w.cell? ⟨g, 1, none⟩ = some (y) ∧ w.cell? ⟨g, 2, none⟩ = some (z) ∧ w.cell? ⟨g, 3, none⟩ = some (s) ∧ w.cell? ⟨g, 4, none⟩ = some (r)) := ⟨h.cell 0, h.cell 1, h.cell 2, h.cell 3, h.cell 4⟩
def zn12 : List Int := List.replicate 12 0
theorem make_int12 (w : World) : (Instr.makeSlice 24 (.int .i64 12) (.int .i64 12)).run Try.prog w = .ok (.slice (some ⟨w.heap.size, 0, none⟩) 12 12) (w.alloc (.cells (dnC zn12) 3)) := by kernel_rfl
theorem natI_app (a b : List Nat) : natI (a ++ b) = natI a ++ natI b := by unfold natI; simp
theorem natI_notN {N : Nat} {q : List Nat} {k : Nat} (hk : k < q.length) (h : q[k] ≠ N) : natI (notN N (q.take (k + 1))) = natI (notN N (q.take k)) ++ [((q[k] : Nat) : Int)] := by
  rw [take_next hk, notN_app, notN_one h, natI_app]; rfl
theorem natI_notN2 {N : Nat} {q : List Nat} {k : Nat} (hk : k < q.length) (h : q[k] = N) : natI (notN N (q.take (k + 1))) = natI (notN N (q.take k)) := by
  rw [take_next hk, notN_app, h, notN_self, List.append_nil]
theorem natI_notN_len (N : Nat) (q : List Nat) (k : Nat) : (natI (notN N (q.take k))).length ≤ k := by
  rw [natI_len]; unfold notN
  exact Nat.le_trans (List.length_filter_le _ _) (by rw [List.length_take]; omega)
theorem dnC_flat (l : List Int) : (l.flatMap ienc).toArray = dnC l := by
  unfold dnC; congr 1
  induction l with
  | nil => rfl
  | cons x l ih => rw [List.flatMap_cons, List.map_cons, ih]; rfl
set_option maxHeartbeats 4000000 in
set_option maxRecDepth 100000 in
theorem mergelater (s : Sl Note) (dv tm : Int) (tx : ByteArray) (w : World) (hs : RdNotes (· < w.heap.size) w s) (hd0 : 0 ≤ dv) (hd1 : dv < 256) (ht0 : 0 ≤ tm) (ht1 : tm < 65536) :
    Calls Try.prog 9 #[.slice s.A s.l.length s.c, .int .u8 dv, .int .u16 tm, .string tx] w fun e w' => e = .returned (.bool true) ∧ Below w.heap.size w w' := by
  obtain ⟨A, c, l⟩ := s
  have HR := Lib.hid hs
  clear hs
  simp only
  go_enter Try.func9, Try.ntmps9
  go_wp2_with fail
  refine (small41 _).mono ?_
  rintro e w1 ⟨rfl, hb1⟩
  have hB1 : Below w.heap.size w w1 := (by repeat (first | (with_reducible exact Below.refl _ _) | ((with_reducible refine below_setr ?_ ?_); focus (first | (simp; done) | (simp; omega) | omega)) | ((with_reducible refine below_allocr ?_ ?_); focus (first | (simp; done) | (simp; omega) | omega)) | (with_reducible refine Below.drew ?_) | (with_reducible refine below_drewN ?_ _) | ((with_reducible apply below_via); focus (with_reducible assumption))))
  clear hb1
  go_wp2_with fail
  refine (rfew41 ⟨A, c, l⟩ 19 (by omega) w1 (HR.out.later hB1 (Nat.le_refl _))).mono ?_
  rintro e w2 ⟨⟨f1, rfl, hf1⟩, hb2⟩
  have hB2 : Below w.heap.size w w2 := (by repeat (first | (with_reducible exact hB1) | (with_reducible exact Below.refl _ _) | ((with_reducible refine below_setr ?_ ?_); focus (first | (simp; done) | (simp; omega) | omega)) | ((with_reducible refine below_allocr ?_ ?_); focus (first | (simp; done) | (simp; omega) | omega)) | (with_reducible refine Below.drew ?_) | (with_reducible refine below_drewN ?_ _) | ((with_reducible apply below_via); focus (with_reducible assumption))))
  clear hb2
  rcases f1 with _ | _
  · clear hf1
    go_wp2_with fail
    go_ret
    exact ⟨rfl, (by repeat (first | (with_reducible exact hB2) | (with_reducible exact Below.refl _ _) | ((with_reducible refine below_setr ?_ ?_); focus (first | (simp; done) | (simp; omega) | omega)) | ((with_reducible refine below_allocr ?_ ?_); focus (first | (simp; done) | (simp; omega) | omega)) | (with_reducible refine Below.drew ?_) | (with_reducible refine below_drewN ?_ _) | ((with_reducible apply below_via); focus (with_reducible assumption))))⟩
  have hl1 : l.length ≤ 19 := hf1 rfl
  clear hf1
  by_cases hts : (200 : Int) < tx.size
  · go_wp2_with fail
    go_ret
    exact ⟨rfl, (by repeat (first | (with_reducible exact hB2) | (with_reducible exact Below.refl _ _) | ((with_reducible refine below_setr ?_ ?_); focus (first | (simp; done) | (simp; omega) | omega)) | ((with_reducible refine below_allocr ?_ ?_); focus (first | (simp; done) | (simp; omega) | omega)) | (with_reducible refine Below.drew ?_) | (with_reducible refine below_drewN ?_ _) | ((with_reducible apply below_via); focus (with_reducible assumption))))⟩
  go_wp2_with fail
  refine (morder ⟨A, c, l⟩ w2 (HR.out.later hB2 (Nat.le_refl _))).mono ?_
  rintro e w3 ⟨⟨oA, oc, ol⟩, rfl, hol, hor, hb3⟩
  have hB3 : Below w.heap.size w w3 := (by repeat (first | (with_reducible exact hB2) | (with_reducible exact Below.refl _ _) | ((with_reducible refine below_setr ?_ ?_); focus (first | (simp; done) | (simp; omega) | omega)) | ((with_reducible refine below_allocr ?_ ?_); focus (first | (simp; done) | (simp; omega) | omega)) | (with_reducible refine Below.drew ?_) | (with_reducible refine below_drewN ?_ _) | ((with_reducible apply below_via); focus (with_reducible assumption))))
  have HOR := Lib.hid (hor.mono (G := fun b => b < w3.heap.size) (fun b hb => hb.2))
  have HOL := Lib.hid hol
  clear hor hol hb3
  simp only
  by_cases hE : (ordN (l.map Note.d)).2 = 0
  rotate_left
  · generalize (ordN (l.map Note.d)).2 = E at *
    have e1 : (E != 0) = true := by simp [hE]
    clear hE HOL
    go_wp2_with fail
    go_ret
    exact ⟨by simp [Act.eval, go_sem], (by repeat (first | (with_reducible exact hB3) | (with_reducible exact Below.refl _ _) | ((with_reducible refine below_setr ?_ ?_); focus (first | (simp; done) | (simp; omega) | omega)) | ((with_reducible refine below_allocr ?_ ?_); focus (first | (simp; done) | (simp; omega) | omega)) | (with_reducible refine Below.drew ?_) | (with_reducible refine below_drewN ?_ _) | ((with_reducible apply below_via); focus (with_reducible assumption))))⟩
  rw [hE]
  have HE := Lib.hid hE
  have HOK := Lib.hid (ord_ok hE)
  clear hE
  have hmk := make_int12
  have hdv : dv % 12 = ((dv % 12).toNat : Int) := by omega
  have hdl : (dv % 12).toNat < 12 := by omega
  obtain ⟨o, hoo⟩ : ∃ o, (ordN (l.map Note.d)).1 = o := ⟨_, rfl⟩
  rw [hoo] at HOK
  have HOO := Lib.hid hoo
  obtain rfl : ol = natI o := by rw [← hoo]; exact HOL.out
  clear hoo HOL
  generalize (dv % 12).toNat = d at *
  go_wp2_with fail
  have hz3 : w.heap.size ≤ w3.heap.size := hB3.size
  try rw [hdv]
  clear hmk hdv
  go_loopw [14] (fun i wr => ∃ (m : Nat) (sn : List Int), m ≤ l.length ∧ i = .int .i64 m ∧ SnOK ((l.take m).map Note.d) sn ∧ Blk wr w3.heap.size 3 (dnC sn) ∧ Below w3.heap.size w3 wr) (fun i _ => l.length - (intOf i).toNat)
  case atStart => exact ⟨0, zn12, by omega, rfl, SnOK.start, Blk.new _ _ _, (by repeat (first | (with_reducible exact Below.refl _ _) | ((with_reducible refine below_setr ?_ ?_); focus (first | (simp; done) | (simp; omega) | omega)) | ((with_reducible refine below_allocr ?_ ?_); focus (first | (simp; done) | (simp; omega) | omega)) | (with_reducible refine Below.drew ?_) | (with_reducible refine below_drewN ?_ _)))⟩
  case round =>
    obtain ⟨m, sn, hm, rfl, hsn, hbk, hbt⟩ := hrel
    have hB4 : Below w.heap.size w wr := hB3.trans (hbt.mono hz3)
    by_cases hml : m < l.length
    · have hml' : (m : Int) < (l.length : Int) := by omega
      obtain ⟨b, ox, rfl, hb, hcl⟩ := HR.out.1.at1 hml
      obtain ⟨g0, g1, g2, g3, g4⟩ := Cells.c5 (hcl.keep (hB4.block b hb))
      have hxr := HOK.out.whole.right _ (List.mem_map_of_mem (f := Note.d) (List.getElem_mem hml))
      have hss := hsn.step hxr
      have htk : (l.take (m + 1)).map Note.d = (l.take m).map Note.d ++ [l[m].d] := by
        rw [List.take_succ_eq_append_getElem hml, List.map_append]; rfl
      rw [← htk] at hss
      have hrg := right_rng hxr
      clear hcl hxr htk
      generalize l[m] = x at *
      obtain ⟨xd, xq, ⟨xA, xc, xl⟩, xt, xx⟩ := x
      simp only [Note.d] at hss hrg
      obtain ⟨k, rfl⟩ := Int.eq_ofNat_of_zero_le hrg.1.1
      simp only [Int.toNat_natCast] at hss
      have hk12 : k < 12 := by omega
      have hk12' : (k : Int) < 12 := by omega
      have hck := dn_cell hbk (show k < sn.length by rw [hsn.len]; exact hk12)
      have hfz := hbk.frozen k
      have hbs := hbk.set_ k (.int .i64 (max (sn.getD k 0) (xq + 1)))
      rw [dn_set] at hbs
      have hw1 : IntKind.i64.wrap (xq + 1) = xq + 1 := by rw [IntKind.wrap_i64]; omega
      have HSS := Lib.hid hss
      have HBS := Lib.hid hbs
      clear hss hbs hrg hsn hbk
      go_wp2_with fail
      refine wp_region_T (fun w' => w'.cell? ⟨w3.heap.size, k, none⟩ = some (.int .i64 (sn.getD k 0)) ∧ (w'.cell? ⟨b, ox + m * 5, none⟩ = some (.int .i64 k) ∧ w'.cell? ⟨b, ox + m * 5 + 1, none⟩ = some (.int .i64 xq) ∧ w'.cell? ⟨b, ox + m * 5 + 2, none⟩ = some (.slice xA xl.length xc) ∧ w'.cell? ⟨b, ox + m * 5 + 3, none⟩ = some (.int .i64 xt) ∧ w'.cell? ⟨b, ox + m * 5 + 4, none⟩ = some (.string xx))) (fun i => 22 ≤ i) (by kernel_rfl) ⟨hck, g0, g1, g2, g3, g4⟩ (fun hHeld => ?_)
      refine wpAnyT_take2 (i := 0) (v := ?_) rfl rfl (by kernel_rfl) (by kernel_rfl) (by kernel_rfl) (by kernel_rfl) (fun _ _ _ h => h) (Or.inl ⟨by rfl, ?_⟩) (by first | assumption | trivial) ?_
      rotate_left
      · (intro w hSw; (try dsimp only at hSw); go_simp) <;> (with_reducible rfl)
      simp only [List.setIfInBounds_toArray, List.set_cons_zero, List.set_cons_succ]
      refine wpAnyT_take2 (i := 1) (v := ?_) rfl rfl (by kernel_rfl) (by kernel_rfl) (by kernel_rfl) (by kernel_rfl) (fun _ _ _ h => h) (Or.inl ⟨by rfl, ?_⟩) (by first | assumption | trivial) ?_
      rotate_left
      · (intro w hSw; (try dsimp only at hSw); go_simp) <;> (with_reducible rfl)
      simp only [List.setIfInBounds_toArray, List.set_cons_zero, List.set_cons_succ]
      refine wpAnyT_take2 (i := 2) (v := ?_) rfl rfl (by kernel_rfl) (by kernel_rfl) (by kernel_rfl) (by kernel_rfl) (fun _ _ _ h => h) (Or.inl ⟨by rfl, ?_⟩) (by first | assumption | trivial) ?_
      rotate_left
      · (intro w hSw; (try dsimp only at hSw); go_simp) <;> (with_reducible rfl)
      simp only [List.setIfInBounds_toArray, List.set_cons_zero, List.set_cons_succ]
      refine wpAnyT_take2 (i := 3) (v := ?_) rfl rfl (by kernel_rfl) (by kernel_rfl) (by kernel_rfl) (by kernel_rfl) (fun _ _ _ h => h) (Or.inl ⟨by rfl, ?_⟩) (by first | assumption | trivial) ?_
      rotate_left
      · (intro w hSw; (try dsimp only at hSw); go_simp) <;> (with_reducible rfl)
      simp only [List.setIfInBounds_toArray, List.set_cons_zero, List.set_cons_succ]
      refine wpAnyT_take2 (i := 4) (v := ?_) rfl rfl (by kernel_rfl) (by kernel_rfl) (by kernel_rfl) (by kernel_rfl) (fun _ _ _ h => h) (Or.inl ⟨by rfl, ?_⟩) (by first | assumption | trivial) ?_
      rotate_left
      · (intro w hSw; (try dsimp only at hSw); go_simp) <;> (with_reducible rfl)
      simp only [List.setIfInBounds_toArray, List.set_cons_zero, List.set_cons_succ]
      refine wpAnyT_take2 (i := 5) (v := ?_) rfl rfl (by kernel_rfl) (by kernel_rfl) (by kernel_rfl) (by kernel_rfl) (fun _ _ _ h => h) (Or.inl ⟨by rfl, ?_⟩) (by first | assumption | trivial) ?_
      rotate_left
      · (intro w hSw; (try dsimp only at hSw); go_simp) <;> (with_reducible rfl)
      simp only [List.setIfInBounds_toArray, List.set_cons_zero, List.set_cons_succ]
      refine wpAnyT_take2 (i := 6) (v := ?_) rfl rfl (by kernel_rfl) (by kernel_rfl) (by kernel_rfl) (by kernel_rfl) (fun _ _ _ h => h) (Or.inl ⟨by rfl, ?_⟩) (by first | assumption | trivial) ?_
      rotate_left
      · (intro w hSw; (try dsimp only at hSw); go_simp) <;> (with_reducible rfl)
      simp only [List.setIfInBounds_toArray, List.set_cons_zero, List.set_cons_succ]
      refine wpAnyT_take2 (i := 7) (v := ?_) rfl rfl (by kernel_rfl) (by kernel_rfl) (by kernel_rfl) (by kernel_rfl) (fun _ _ _ h => h) (Or.inl ⟨by rfl, ?_⟩) (by first | assumption | trivial) ?_
      rotate_left
      · (intro w hSw; (try dsimp only at hSw); go_simp) <;> (with_reducible rfl)
      simp only [List.setIfInBounds_toArray, List.set_cons_zero, List.set_cons_succ]
      refine wpAnyT_take2 (i := 8) (v := ?_) rfl rfl (by kernel_rfl) (by kernel_rfl) (by kernel_rfl) (by kernel_rfl) (fun _ _ _ h => h) (Or.inl ⟨by rfl, ?_⟩) (by first | assumption | trivial) ?_
      rotate_left
      · (intro w hSw; (try dsimp only at hSw); go_simp) <;> (with_reducible rfl)
      simp only [List.setIfInBounds_toArray, List.set_cons_zero, List.set_cons_succ]
      refine wpAnyT_take2 (i := 9) (v := ?_) rfl rfl (by kernel_rfl) (by kernel_rfl) (by kernel_rfl) (by kernel_rfl) (fun _ _ _ h => h) (Or.inl ⟨by rfl, ?_⟩) (by first | assumption | trivial) ?_
      rotate_left
      · (intro w hSw; (try dsimp only at hSw); go_simp) <;> (with_reducible rfl)
      simp only [List.setIfInBounds_toArray, List.set_cons_zero, List.set_cons_succ]
      refine wpAnyT_take2 (i := 10) (v := ?_) rfl rfl (by kernel_rfl) (by kernel_rfl) (by kernel_rfl) (by kernel_rfl) (fun _ _ _ h => h) (Or.inl ⟨by rfl, ?_⟩) (by first | assumption | trivial) ?_
      rotate_left
      · (intro w hSw; (try dsimp only at hSw); go_simp) <;> (with_reducible rfl)
      simp only [List.setIfInBounds_toArray, List.set_cons_zero, List.set_cons_succ]
      refine wpAnyT_take2 (i := 11) (v := ?_) rfl rfl (by kernel_rfl) (by kernel_rfl) (by kernel_rfl) (by kernel_rfl) (fun _ _ _ h => h) (Or.inl ⟨by rfl, ?_⟩) (by first | assumption | trivial) ?_
      rotate_left
      · (intro w hSw; (try dsimp only at hSw); go_simp) <;> (with_reducible rfl)
      simp only [List.setIfInBounds_toArray, List.set_cons_zero, List.set_cons_succ]
      refine wpAnyT_take2 (i := 12) (v := ?_) rfl rfl (by kernel_rfl) (by kernel_rfl) (by kernel_rfl) (by kernel_rfl) (fun _ _ _ h => h) (Or.inl ⟨by rfl, ?_⟩) (by first | assumption | trivial) ?_
      rotate_left
      · (intro w hSw; (try dsimp only at hSw); go_simp) <;> (with_reducible rfl)
      simp only [List.setIfInBounds_toArray, List.set_cons_zero, List.set_cons_succ]
      refine wpAnyT_take2 (i := 13) (v := ?_) rfl rfl (by kernel_rfl) (by kernel_rfl) (by kernel_rfl) (by kernel_rfl) (fun _ _ _ h => h) (Or.inl ⟨by rfl, ?_⟩) (by first | assumption | trivial) ?_
      rotate_left
      · (intro w hSw; (try dsimp only at hSw); go_simp) <;> (with_reducible rfl)
      simp only [List.setIfInBounds_toArray, List.set_cons_zero, List.set_cons_succ]
      refine wpAnyT_take2 (i := 14) (v := ?_) rfl rfl (by kernel_rfl) (by kernel_rfl) (by kernel_rfl) (by kernel_rfl) (fun _ _ _ h => h) (Or.inl ⟨by rfl, ?_⟩) (by first | assumption | trivial) ?_
      rotate_left
      · (intro w hSw; (try dsimp only at hSw); go_simp) <;> (with_reducible rfl)
      simp only [List.setIfInBounds_toArray, List.set_cons_zero, List.set_cons_succ]
      refine wpAnyT_take2 (i := 15) (v := ?_) rfl rfl (by kernel_rfl) (by kernel_rfl) (by kernel_rfl) (by kernel_rfl) (fun _ _ _ h => h) (Or.inl ⟨by rfl, ?_⟩) (by first | assumption | trivial) ?_
      rotate_left
      · (intro w hSw; (try dsimp only at hSw); go_simp) <;> (with_reducible rfl)
      simp only [List.setIfInBounds_toArray, List.set_cons_zero, List.set_cons_succ]
      refine wpAnyT_take2 (i := 16) (v := ?_) rfl rfl (by kernel_rfl) (by kernel_rfl) (by kernel_rfl) (by kernel_rfl) (fun _ _ _ h => h) (Or.inl ⟨by rfl, ?_⟩) (by first | assumption | trivial) ?_
      rotate_left
      · (intro w hSw; (try dsimp only at hSw); go_simp) <;> (with_reducible rfl)
      simp only [List.setIfInBounds_toArray, List.set_cons_zero, List.set_cons_succ]
      refine wpAnyT_take2 (i := 17) (v := ?_) rfl rfl (by kernel_rfl) (by kernel_rfl) (by kernel_rfl) (by kernel_rfl) (fun _ _ _ h => h) (Or.inl ⟨by rfl, ?_⟩) (by first | assumption | trivial) ?_
      rotate_left
      · (intro w hSw; (try dsimp only at hSw); go_simp) <;> (with_reducible rfl)
      simp only [List.setIfInBounds_toArray, List.set_cons_zero, List.set_cons_succ]
      refine wpAnyT_take2 (i := 18) (v := ?_) rfl rfl (by kernel_rfl) (by kernel_rfl) (by kernel_rfl) (by kernel_rfl) (fun _ _ _ h => h) (Or.inl ⟨by rfl, ?_⟩) (by first | assumption | trivial) ?_
      rotate_left
      · (intro w hSw; (try dsimp only at hSw); go_simp) <;> (with_reducible rfl)
      simp only [List.setIfInBounds_toArray, List.set_cons_zero, List.set_cons_succ]
      refine wpAnyT_take2 (i := 19) (v := ?_) rfl rfl (by kernel_rfl) (by kernel_rfl) (by kernel_rfl) (by kernel_rfl) (fun _ _ _ h => h) (Or.inl ⟨by rfl, ?_⟩) (by first | assumption | trivial) ?_
      rotate_left
      · (intro w hSw; (try dsimp only at hSw); go_simp) <;> (with_reducible rfl)
      simp only [List.setIfInBounds_toArray, List.set_cons_zero, List.set_cons_succ]
      refine wpAnyT_next (i := 20) (by kernel_rfl) rfl ?_
      go_wp2_with fail
      refine ⟨(by first | exact hHeld | exact fun _ => hHeld), ?_⟩
      refine wpAnyT_take2 (i := 21) (v := ?_) rfl rfl (by kernel_rfl) (by kernel_rfl) (by kernel_rfl) (by kernel_rfl) (fun _ _ _ h => h) (Or.inl ⟨by rfl, ?_⟩) (by first | assumption | trivial) ?_
      rotate_left
      · (intro w hSw; (try dsimp only at hSw); go_simp) <;> (with_reducible rfl)
      simp only [List.setIfInBounds_toArray, List.set_cons_zero, List.set_cons_succ]
      clear hHeld
      refine wpAnyT_next (i := 22) (by kernel_rfl) rfl ?_
      go_wp2_with fail
      try simp only [QT]
      try (with_reducible refine And.intro (fun h => by simp at h) ?_)
      refine wpAnyT_done (by kernel_rfl) ?_ _
      clear hck hfz g0 g1 g2 g3 g4
      go_wp2_with fail
      go_roundw
      case rel => exact ⟨m + 1, sn.set k (max (sn.getD k 0) (xq + 1)), by omega, by go_num, HSS.out, HBS.out, (by repeat (first | (with_reducible exact hbt) | (with_reducible exact Below.refl _ _) | ((with_reducible refine below_setr ?_ ?_); focus (first | (simp; done) | (simp; omega) | omega)) | ((with_reducible refine below_allocr ?_ ?_); focus (first | (simp; done) | (simp; omega) | omega)) | (with_reducible refine Below.drew ?_) | (with_reducible refine below_drewN ?_ _) | ((with_reducible apply below_via); focus (with_reducible assumption))))⟩
      case measure => simp [intOf]; omega
    · obtain rfl : m = l.length := by omega
      rw [List.take_length] at hsn
      obtain ⟨wo, hwo⟩ : ∃ x, x = wr := ⟨_, rfl⟩
      subst hwo
      have hdc := dn_cell hbk (show d < sn.length by rw [hsn.len]; exact hdl)
      have hN1 := hsn.next HOK.out.whole (by simpa using hl1) hdl (tm := tm) (tx := tx) (af := []) (by omega) (by omega) (.inl rfl)
      have hN2 := hsn.next HOK.out.whole (by simpa using hl1) hdl (tm := tm) (tx := tx) (af := sn.set d 0) (by omega) (by omega) (.inr rfl)
      have hAL := hsn.all HOK.out.whole hN2
      have hzo : w3.heap.size ≤ wo.heap.size := hbt.size
      have hlo : w3.heap.size < wo.heap.size := hbk.lt
      have hd12 : (d : Int) < 12 := by omega
      have hsl := hsn.len
      generalize sn.getD d 0 = sd at *
      have HN1 := Lib.hid hN1
      have HN2 := Lib.hid hN2
      have HAL := Lib.hid hAL
      have HSL := Lib.hid hsl
      have HBK := Lib.hid hbk
      have HBT := Lib.hid hbt
      clear hsn hbk hbt hml hm hN1 hN2 hAL hsl
      go_wp2_with fail
      obtain ⟨wb, hwb⟩ : ∃ x, x = (wo.alloc (.cells #[.int .i64 d, .int .i64 sd, .slice none 0 0, .int .i64 tm, .string tx] 61)).drew := ⟨_, rfl⟩
      have HBX : Hid (Blk wb wo.heap.size 61 #[.int .i64 d, .int .i64 sd, .slice none 0 0, .int .i64 tm, .string tx]) := Lib.hid (by rw [hwb]; exact (Blk.new _ _ _).drew)
      have HSB : Hid (Blk wb w3.heap.size 3 (dnC sn)) := Lib.hid (by rw [hwb]; exact (HBK.out.alloc _).drew)
      have HB3b : Hid (Below w3.heap.size w3 wb) := Lib.hid (by rw [hwb]; exact Below.drew (HBT.out.alloc HBT.out.size _))
      have HGB : Hid (wo.heap.size < wb.heap.size) := Lib.hid (by rw [hwb]; exact (show wo.heap.size < (wo.alloc _).heap.size by simp))
      have HRB : Hid (RdNotes (· < wb.heap.size) wb ⟨A, c, l⟩) := Lib.hid (HR.out.later (hB3.trans (HB3b.out.mono hz3)) (Nat.le_refl _))
      refine wp_region_T (fun w' => (w'.cell? ⟨wo.heap.size, 0, none⟩ = some (.int .i64 d) ∧ w'.cell? ⟨wo.heap.size, 1, none⟩ = some (.int .i64 sd) ∧ w'.cell? ⟨wo.heap.size, 2, none⟩ = some (.slice none 0 0) ∧ w'.cell? ⟨wo.heap.size, 3, none⟩ = some (.int .i64 tm) ∧ w'.cell? ⟨wo.heap.size, 4, none⟩ = some (.string tx))) (fun _ => false) (by kernel_rfl) (show _ from (by have := HBX.out.h5; rw [hwb] at this; exact this)) (fun hHeld => ?_)
      rw [← hwb] at hHeld ⊢
      clear hwb
      refine wpAnyT_take2 (i := 1) (v := ?_) rfl rfl (by kernel_rfl) (by kernel_rfl) (by kernel_rfl) (by kernel_rfl) (fun _ _ _ h => h) (Or.inl ⟨by rfl, ?_⟩) (by first | assumption | trivial) ?_
      rotate_left
      · (intro w hSw; (try dsimp only at hSw); go_simp) <;> (with_reducible rfl)
      simp only [List.setIfInBounds_toArray, List.set_cons_zero, List.set_cons_succ]
      refine wpAnyT_take2 (i := 3) (v := ?_) rfl rfl (by kernel_rfl) (by kernel_rfl) (by kernel_rfl) (by kernel_rfl) (fun _ _ _ h => h) (Or.inl ⟨by rfl, ?_⟩) (by first | assumption | trivial) ?_
      rotate_left
      · (intro w hSw; (try dsimp only at hSw); go_simp) <;> (with_reducible rfl)
      simp only [List.setIfInBounds_toArray, List.set_cons_zero, List.set_cons_succ]
      clear hHeld
      obtain ⟨W, hW⟩ : ∃ x, x = wb := ⟨_, rfl⟩
      have FK : Hid (Below wb.heap.size wb W) := Lib.hid (by rw [hW]; exact Below.refl _ _)
      rw [← hW]
      clear hW
      generalize wo.heap.size = gb at *
      have HRDF : Hid (∀ (x : World) (g : Nat), Blk x g 61 #[.int .i64 d, .int .i64 sd, .slice none 0 0, .int .i64 tm, .string tx] → Rd (· < x.heap.size) 5 Note.enc x ⟨some ⟨g, 0, none⟩, 1, [⟨d, sd, ⟨none, 0, []⟩, tm, tx⟩]⟩) := Lib.hid (fun x g h => rd_blk Note.k h (by simp) (by simp [maxLen]))
      apply cutL
      · intro fin0
        have FIN := Lib.hid fin0
        clear fin0
        refine wpAnyT_two (i := 0) (j := 4) (by kernel_rfl) rfl rfl ?_ ?_
        · skip
          go_wp2_with fail
          have hn : Own wb.heap.size 61 5 Note.enc (W.alloc (.cells #[] 61)) ⟨some ⟨W.heap.size, 0, none⟩, 0, []⟩ := Own.lit W #[] [] FK.out.size (by simp [maxLen]) rfl Note.k
          have hk : Below wb.heap.size wb (W.alloc (.cells #[] 61)) := FK.out.alloc FK.out.size _
          have hg : wb.heap.size ≤ W.heap.size := FK.out.size
          have h1 : ∀ g, Blk W g 61 #[.int .i64 d, .int .i64 sd, .slice none 0 0, .int .i64 tm, .string tx] → Blk (W.alloc (.cells #[] 61)) g 61 #[.int .i64 d, .int .i64 sd, .slice none 0 0, .int .i64 tm, .string tx] ∧ W.heap.size ≠ g := fun g h => ⟨h.alloc _, fun hc => by have := h.lt; omega⟩
          have H1 := Lib.hid h1
          clear h1
          generalize W.heap.size = g1 at hn hg H1 ⊢
          generalize W.alloc (.cells #[] 61) = W2 at hn hk H1 ⊢
          try have hne12 := (H1.out _ F1.out).2
          try replace F1 := Lib.hid (H1.out _ F1.out).1
          clear H1
          obtain ⟨W, hW⟩ : ∃ x, x = W2 := ⟨_, rfl⟩
          subst hW
          have FK := Lib.hid hk
          have F0 := Lib.hid hn
          have G1 := Lib.hid hg
          clear hk hn hg
          refine And.intro ?_ ?_
          · first
            | exact (HBX.out.below FK.out HGB.out).h5
            | exact fun _ => (HBX.out.below FK.out HGB.out).h5
          refine wpAnyT_two (i := 2) (j := 4) (by kernel_rfl) rfl rfl ?_ ?_
          · skip
            refine wpl_append_sl (base := wb.heap.size) _ rfl (.tmp 83) (.tmp 84) _ rfl Try.underlying23 infoNote (by omega) Note.k Note.one ⟨some ⟨g1, 0, none⟩, 0, []⟩ ⟨A, c, l⟩ rfl rfl F0.out (HRB.out.1.below' FK.out (Nat.le_refl _)) (by simp [maxLen]; omega) (by simp; omega) FK.out.size ?_
            intro A5 c5 W2 hown hg hat
            simp only [List.nil_append] at hown
            have hk : Below wb.heap.size wb W2 := Below.grown FK.out hg FK.out.size (by have := G1.out; simp [Value.ownBlock]; try omega)
            try replace F1 := Lib.hid (F1.out.grown hg (by simp [Value.ownBlock]; omega))
            clear F0 hg hat
            obtain ⟨W, hW⟩ : ∃ x, x = W2 := ⟨_, rfl⟩
            subst hW
            have FK := Lib.hid hk
            have F5 := Lib.hid hown
            clear hk hown
            go_wp2_with fail
            refine And.intro ?_ ?_
            · first
              | exact (HBX.out.below FK.out HGB.out).h5
              | exact fun _ => (HBX.out.below FK.out HGB.out).h5
            refine wpAnyT_next (i := 4) (by kernel_rfl) rfl ?_
            go_wp2_with fail
            have hn : Blk (W.alloc (.cells #[.int .i64 d, .int .i64 sd, .slice none 0 0, .int .i64 tm, .string tx] 61)) W.heap.size 61 #[.int .i64 d, .int .i64 sd, .slice none 0 0, .int .i64 tm, .string tx] := Blk.new _ _ _
            have hk : Below wb.heap.size wb (W.alloc (.cells #[.int .i64 d, .int .i64 sd, .slice none 0 0, .int .i64 tm, .string tx] 61)) := FK.out.alloc FK.out.size _
            have h0 : ∀ (s : Sl Note), Own wb.heap.size 61 5 Note.enc W s → Own wb.heap.size 61 5 Note.enc (W.alloc (.cells #[.int .i64 d, .int .i64 sd, .slice none 0 0, .int .i64 tm, .string tx] 61)) s ∧ ∀ g, s.A = some ⟨g, 0, none⟩ → g ≠ W.heap.size := fun s h => ⟨h.alloc _, fun g hg => Nat.ne_of_lt (h.bound g hg)⟩
            have H0 := Lib.hid h0
            clear h0
            generalize W.heap.size = g2 at hn H0 ⊢
            generalize W.alloc (.cells #[.int .i64 d, .int .i64 sd, .slice none 0 0, .int .i64 tm, .string tx] 61) = W2 at hn hk H0 ⊢
            try have hne12 := (H0.out _ F0.out).2 _ rfl
            try replace F0 := Lib.hid (H0.out _ F0.out).1
            try replace F5 := Lib.hid (H0.out _ F5.out).1
            clear H0
            obtain ⟨W, hW⟩ : ∃ x, x = W2 := ⟨_, rfl⟩
            subst hW
            have FK := Lib.hid hk
            have F1 := Lib.hid hn
            clear hk hn
            refine And.intro ?_ ?_
            · first
              | exact (HBX.out.below FK.out HGB.out).h5
              | exact fun _ => (HBX.out.below FK.out HGB.out).h5
            refine wpAnyT_next (i := 5) (by kernel_rfl) rfl ?_
            refine wpl_append_sl (base := wb.heap.size) _ rfl (.tmp 85) (.tmp 87) _ rfl Try.underlying23 infoNote (by omega) Note.k Note.one ⟨A5, c5, l⟩ ⟨some ⟨g2, 0, none⟩, 1, [⟨d, sd, ⟨none, 0, []⟩, tm, tx⟩]⟩ rfl rfl F5.out (HRDF.out _ _ F1.out) (by simp [maxLen]; omega) (by simp; omega) FK.out.size ?_
            intro LA lc W2 hown hg hat
            have hk : Below wb.heap.size wb W2 := Below.grown FK.out hg FK.out.size (by
              intro q' hq'
              rcases F5.out.form with ⟨hA, _⟩ | ⟨g, hA, h1, _⟩
              · simp only at hA; subst hA; cases hq'
              · simp only at hA; subst hA; simp only [Value.ownBlock, Option.some.injEq] at hq'; omega)
            have ALL := Lib.hid (And.intro hown hk)
            clear hown hk hg hat F5 F1 G1
            obtain ⟨W, hW⟩ : ∃ x, x = W2 := ⟨_, rfl⟩
            subst hW
            go_wp2_with fail
            refine And.intro ?_ ?_
            · first
              | exact (HBX.out.below ALL.out.2 HGB.out).h5
              | exact fun _ => (HBX.out.below ALL.out.2 HGB.out).h5
            try clear hne12
            revert ALL
            revert W
            revert lc
            revert LA
            revert g2
            revert c5
            revert A5
            revert g1
            exact FIN.out
          · skip
            go_wp2_with fail
            have hn : Blk (W.alloc (.cells #[.int .i64 d, .int .i64 sd, .slice none 0 0, .int .i64 tm, .string tx] 61)) W.heap.size 61 #[.int .i64 d, .int .i64 sd, .slice none 0 0, .int .i64 tm, .string tx] := Blk.new _ _ _
            have hk : Below wb.heap.size wb (W.alloc (.cells #[.int .i64 d, .int .i64 sd, .slice none 0 0, .int .i64 tm, .string tx] 61)) := FK.out.alloc FK.out.size _
            have h0 : ∀ (s : Sl Note), Own wb.heap.size 61 5 Note.enc W s → Own wb.heap.size 61 5 Note.enc (W.alloc (.cells #[.int .i64 d, .int .i64 sd, .slice none 0 0, .int .i64 tm, .string tx] 61)) s ∧ ∀ g, s.A = some ⟨g, 0, none⟩ → g ≠ W.heap.size := fun s h => ⟨h.alloc _, fun g hg => Nat.ne_of_lt (h.bound g hg)⟩
            have H0 := Lib.hid h0
            clear h0
            generalize W.heap.size = g2 at hn H0 ⊢
            generalize W.alloc (.cells #[.int .i64 d, .int .i64 sd, .slice none 0 0, .int .i64 tm, .string tx] 61) = W2 at hn hk H0 ⊢
            try have hne12 := (H0.out _ F0.out).2 _ rfl
            try replace F0 := Lib.hid (H0.out _ F0.out).1
            try replace F5 := Lib.hid (H0.out _ F5.out).1
            clear H0
            obtain ⟨W, hW⟩ : ∃ x, x = W2 := ⟨_, rfl⟩
            subst hW
            have FK := Lib.hid hk
            have F1 := Lib.hid hn
            clear hk hn
            refine And.intro ?_ ?_
            · first
              | exact (HBX.out.below FK.out HGB.out).h5
              | exact fun _ => (HBX.out.below FK.out HGB.out).h5
            refine wpAnyT_next (i := 2) (by kernel_rfl) rfl ?_
            refine wpl_append_sl (base := wb.heap.size) _ rfl (.tmp 83) (.tmp 84) _ rfl Try.underlying23 infoNote (by omega) Note.k Note.one ⟨some ⟨g1, 0, none⟩, 0, []⟩ ⟨A, c, l⟩ rfl rfl F0.out (HRB.out.1.below' FK.out (Nat.le_refl _)) (by simp [maxLen]; omega) (by simp; omega) FK.out.size ?_
            intro A5 c5 W2 hown hg hat
            simp only [List.nil_append] at hown
            have hk : Below wb.heap.size wb W2 := Below.grown FK.out hg FK.out.size (by have := G1.out; simp [Value.ownBlock]; try omega)
            try replace F1 := Lib.hid (F1.out.grown hg (by simp [Value.ownBlock]; omega))
            clear F0 hg hat
            obtain ⟨W, hW⟩ : ∃ x, x = W2 := ⟨_, rfl⟩
            subst hW
            have FK := Lib.hid hk
            have F5 := Lib.hid hown
            clear hk hown
            go_wp2_with fail
            refine And.intro ?_ ?_
            · first
              | exact (HBX.out.below FK.out HGB.out).h5
              | exact fun _ => (HBX.out.below FK.out HGB.out).h5
            refine wpAnyT_next (i := 5) (by kernel_rfl) rfl ?_
            refine wpl_append_sl (base := wb.heap.size) _ rfl (.tmp 85) (.tmp 87) _ rfl Try.underlying23 infoNote (by omega) Note.k Note.one ⟨A5, c5, l⟩ ⟨some ⟨g2, 0, none⟩, 1, [⟨d, sd, ⟨none, 0, []⟩, tm, tx⟩]⟩ rfl rfl F5.out (HRDF.out _ _ F1.out) (by simp [maxLen]; omega) (by simp; omega) FK.out.size ?_
            intro LA lc W2 hown hg hat
            have hk : Below wb.heap.size wb W2 := Below.grown FK.out hg FK.out.size (by
              intro q' hq'
              rcases F5.out.form with ⟨hA, _⟩ | ⟨g, hA, h1, _⟩
              · simp only at hA; subst hA; cases hq'
              · simp only at hA; subst hA; simp only [Value.ownBlock, Option.some.injEq] at hq'; omega)
            have ALL := Lib.hid (And.intro hown hk)
            clear hown hk hg hat F5 F1 G1
            obtain ⟨W, hW⟩ : ∃ x, x = W2 := ⟨_, rfl⟩
            subst hW
            go_wp2_with fail
            refine And.intro ?_ ?_
            · first
              | exact (HBX.out.below ALL.out.2 HGB.out).h5
              | exact fun _ => (HBX.out.below ALL.out.2 HGB.out).h5
            try clear hne12
            revert ALL
            revert W
            revert lc
            revert LA
            revert g2
            revert c5
            revert A5
            revert g1
            exact FIN.out
        · skip
          go_wp2_with fail
          have hn : Blk (W.alloc (.cells #[.int .i64 d, .int .i64 sd, .slice none 0 0, .int .i64 tm, .string tx] 61)) W.heap.size 61 #[.int .i64 d, .int .i64 sd, .slice none 0 0, .int .i64 tm, .string tx] := Blk.new _ _ _
          have hk : Below wb.heap.size wb (W.alloc (.cells #[.int .i64 d, .int .i64 sd, .slice none 0 0, .int .i64 tm, .string tx] 61)) := FK.out.alloc FK.out.size _
          have h0 : ∀ (s : Sl Note), Own wb.heap.size 61 5 Note.enc W s → Own wb.heap.size 61 5 Note.enc (W.alloc (.cells #[.int .i64 d, .int .i64 sd, .slice none 0 0, .int .i64 tm, .string tx] 61)) s ∧ ∀ g, s.A = some ⟨g, 0, none⟩ → g ≠ W.heap.size := fun s h => ⟨h.alloc _, fun g hg => Nat.ne_of_lt (h.bound g hg)⟩
          have H0 := Lib.hid h0
          clear h0
          generalize W.heap.size = g2 at hn H0 ⊢
          generalize W.alloc (.cells #[.int .i64 d, .int .i64 sd, .slice none 0 0, .int .i64 tm, .string tx] 61) = W2 at hn hk H0 ⊢
          try have hne12 := (H0.out _ F0.out).2 _ rfl
          try replace F0 := Lib.hid (H0.out _ F0.out).1
          try replace F5 := Lib.hid (H0.out _ F5.out).1
          clear H0
          obtain ⟨W, hW⟩ : ∃ x, x = W2 := ⟨_, rfl⟩
          subst hW
          have FK := Lib.hid hk
          have F1 := Lib.hid hn
          clear hk hn
          refine And.intro ?_ ?_
          · first
            | exact (HBX.out.below FK.out HGB.out).h5
            | exact fun _ => (HBX.out.below FK.out HGB.out).h5
          refine wpAnyT_next (i := 0) (by kernel_rfl) rfl ?_
          go_wp2_with fail
          have hn : Own wb.heap.size 61 5 Note.enc (W.alloc (.cells #[] 61)) ⟨some ⟨W.heap.size, 0, none⟩, 0, []⟩ := Own.lit W #[] [] FK.out.size (by simp [maxLen]) rfl Note.k
          have hk : Below wb.heap.size wb (W.alloc (.cells #[] 61)) := FK.out.alloc FK.out.size _
          have hg : wb.heap.size ≤ W.heap.size := FK.out.size
          have h1 : ∀ g, Blk W g 61 #[.int .i64 d, .int .i64 sd, .slice none 0 0, .int .i64 tm, .string tx] → Blk (W.alloc (.cells #[] 61)) g 61 #[.int .i64 d, .int .i64 sd, .slice none 0 0, .int .i64 tm, .string tx] ∧ W.heap.size ≠ g := fun g h => ⟨h.alloc _, fun hc => by have := h.lt; omega⟩
          have H1 := Lib.hid h1
          clear h1
          generalize W.heap.size = g1 at hn hg H1 ⊢
          generalize W.alloc (.cells #[] 61) = W2 at hn hk H1 ⊢
          try have hne12 := (H1.out _ F1.out).2
          try replace F1 := Lib.hid (H1.out _ F1.out).1
          clear H1
          obtain ⟨W, hW⟩ : ∃ x, x = W2 := ⟨_, rfl⟩
          subst hW
          have FK := Lib.hid hk
          have F0 := Lib.hid hn
          have G1 := Lib.hid hg
          clear hk hn hg
          refine And.intro ?_ ?_
          · first
            | exact (HBX.out.below FK.out HGB.out).h5
            | exact fun _ => (HBX.out.below FK.out HGB.out).h5
          refine wpAnyT_next (i := 2) (by kernel_rfl) rfl ?_
          refine wpl_append_sl (base := wb.heap.size) _ rfl (.tmp 83) (.tmp 84) _ rfl Try.underlying23 infoNote (by omega) Note.k Note.one ⟨some ⟨g1, 0, none⟩, 0, []⟩ ⟨A, c, l⟩ rfl rfl F0.out (HRB.out.1.below' FK.out (Nat.le_refl _)) (by simp [maxLen]; omega) (by simp; omega) FK.out.size ?_
          intro A5 c5 W2 hown hg hat
          simp only [List.nil_append] at hown
          have hk : Below wb.heap.size wb W2 := Below.grown FK.out hg FK.out.size (by have := G1.out; simp [Value.ownBlock]; try omega)
          try replace F1 := Lib.hid (F1.out.grown hg (by simp [Value.ownBlock]; omega))
          clear F0 hg hat
          obtain ⟨W, hW⟩ : ∃ x, x = W2 := ⟨_, rfl⟩
          subst hW
          have FK := Lib.hid hk
          have F5 := Lib.hid hown
          clear hk hown
          go_wp2_with fail
          refine And.intro ?_ ?_
          · first
            | exact (HBX.out.below FK.out HGB.out).h5
            | exact fun _ => (HBX.out.below FK.out HGB.out).h5
          refine wpAnyT_next (i := 5) (by kernel_rfl) rfl ?_
          refine wpl_append_sl (base := wb.heap.size) _ rfl (.tmp 85) (.tmp 87) _ rfl Try.underlying23 infoNote (by omega) Note.k Note.one ⟨A5, c5, l⟩ ⟨some ⟨g2, 0, none⟩, 1, [⟨d, sd, ⟨none, 0, []⟩, tm, tx⟩]⟩ rfl rfl F5.out (HRDF.out _ _ F1.out) (by simp [maxLen]; omega) (by simp; omega) FK.out.size ?_
          intro LA lc W2 hown hg hat
          have hk : Below wb.heap.size wb W2 := Below.grown FK.out hg FK.out.size (by
            intro q' hq'
            rcases F5.out.form with ⟨hA, _⟩ | ⟨g, hA, h1, _⟩
            · simp only at hA; subst hA; cases hq'
            · simp only at hA; subst hA; simp only [Value.ownBlock, Option.some.injEq] at hq'; omega)
          have ALL := Lib.hid (And.intro hown hk)
          clear hown hk hg hat F5 F1 G1
          obtain ⟨W, hW⟩ : ∃ x, x = W2 := ⟨_, rfl⟩
          subst hW
          go_wp2_with fail
          refine And.intro ?_ ?_
          · first
            | exact (HBX.out.below ALL.out.2 HGB.out).h5
            | exact fun _ => (HBX.out.below ALL.out.2 HGB.out).h5
          try clear hne12
          revert ALL
          revert W
          revert lc
          revert LA
          revert g2
          revert c5
          revert A5
          revert g1
          exact FIN.out
      · skip
        intro g1 A5 c5 g2 LA lc W ALL
        have hHeld := (HBX.out.below ALL.out.2 HGB.out).h5
        refine wpAnyT_take2 (i := 6) (v := ?_) rfl rfl (by kernel_rfl) (by kernel_rfl) (by kernel_rfl) (by kernel_rfl) (fun _ _ _ h => h) (Or.inl ⟨by rfl, ?_⟩) (by first | assumption | trivial) ?_
        rotate_left
        · (intro w hSw; (try dsimp only at hSw); go_simp) <;> (with_reducible rfl)
        simp only [List.setIfInBounds_toArray, List.set_cons_zero, List.set_cons_succ]
        refine wpAnyT_done (by kernel_rfl) ?_ _
        clear hHeld
        have hS5 := HSB.out.below ALL.out.2 (Nat.lt_trans hlo HGB.out)
        have hX5 := HBX.out.below ALL.out.2 HGB.out
        have hgb : gb < wb.heap.size := HGB.out
        have hne : w3.heap.size ≠ gb := by omega
        have hdc5 := dn_cell hS5 (show d < sn.length by rw [HSL.out]; exact hdl)
        have hfz5 := hS5.frozen d
        obtain ⟨x0, x1, x2, x3, x4, xf, xz⟩ := hX5.b5
        have hV1 := (hS5.set_ d (.int .i64 0)).far (p := ⟨gb, 2, none⟩) hne (.slice (some ⟨w3.heap.size, 0, none⟩) 12 12)
        rw [dn_set] at hV1
        have hV2 : Blk ((W.setCell ⟨w3.heap.size, d, none⟩ (.int .i64 0)).setCell ⟨gb, 2, none⟩ (.slice (some ⟨w3.heap.size, 0, none⟩) 12 12)) gb 61 #[.int .i64 d, .int .i64 sd, .slice (some ⟨w3.heap.size, 0, none⟩) 12 12, .int .i64 tm, .string tx] := (hX5.far (p := ⟨w3.heap.size, d, none⟩) (Ne.symm hne) (.int .i64 0)).set_ 2 _
        have hV3 := (ALL.out.1.far (a := ⟨w3.heap.size, d, none⟩) (Nat.lt_trans hlo hgb) (.int .i64 0)).far (a := ⟨gb, 2, none⟩) hgb (.slice (some ⟨w3.heap.size, 0, none⟩) 12 12)
        have hV4 : Below w3.heap.size w3 W := HB3b.out.trans (ALL.out.2.mono HB3b.out.size)
        have hV5 := (hV4.setCell (p := ⟨w3.heap.size, d, none⟩) (Nat.le_refl _) (.int .i64 0)).setCell (p := ⟨gb, 2, none⟩) hzo (.slice (some ⟨w3.heap.size, 0, none⟩) 12 12)
        have hV6 : wb.heap.size ≤ ((W.setCell ⟨w3.heap.size, d, none⟩ (.int .i64 0)).setCell ⟨gb, 2, none⟩ (.slice (some ⟨w3.heap.size, 0, none⟩) 12 12)).heap.size := by simpa using ALL.out.2.size
        have V1 := Lib.hid hV1
        have V2 := Lib.hid hV2
        have V3 := Lib.hid hV3
        have V5 := Lib.hid hV5
        have V6 := Lib.hid hV6
        clear hV1 hV2 hV3 hV4 hV5 hV6 hS5 hX5
        go_wp2_with fail
        clear x0 x1 x2 x3 x4 xf xz hdc5 hfz5
        have hgV : gb < W.heap.size := Nat.lt_of_lt_of_le hgb ALL.out.2.size
        have hnx : ∀ x, x = World.drew ((W.setCell ⟨w3.heap.size, d, none⟩ (.int .i64 0)).setCell ⟨gb, 2, none⟩ (.slice (some ⟨w3.heap.size, 0, none⟩) 12 12)) → Blk x gb 61 #[.int .i64 d, .int .i64 sd, .slice (some ⟨w3.heap.size, 0, none⟩) 12 12, .int .i64 tm, .string tx] ∧ Blk x w3.heap.size 3 (dnC (sn.set d 0)) ∧ Below w3.heap.size w3 x ∧ gb < x.heap.size ∧ Rd (· < x.heap.size) 5 Note.enc x ⟨LA, lc, l ++ [⟨d, sd, ⟨none, 0, []⟩, tm, tx⟩]⟩ := by
          rintro x rfl
          exact ⟨V2.out.drew, V1.out.drew, Below.drew V5.out, (by simpa using hgV), ((V3.out.drew).rd Note.k).mono (fun b hb => hb.2)⟩
        obtain ⟨wb, hwb⟩ : ∃ x, x = World.drew ((W.setCell ⟨w3.heap.size, d, none⟩ (.int .i64 0)).setCell ⟨gb, 2, none⟩ (.slice (some ⟨w3.heap.size, 0, none⟩) 12 12)) := ⟨_, rfl⟩
        obtain ⟨q1, q2, q3, q4, q5⟩ := hnx wb hwb
        have hx5 := q1.h5
        rw [hwb] at hx5
        have HBX := Lib.hid q1
        have HSB := Lib.hid q2
        have HB3b := Lib.hid q3
        have HGB := Lib.hid q4
        have HRB : Hid (RdNotes (· < wb.heap.size) wb ⟨A, c, l⟩) := Lib.hid (HR.out.later (hB3.trans (q3.mono hz3)) (Nat.le_refl _))
        have HLN : Hid (RdNotes (· < wb.heap.size) wb ⟨LA, lc, l ++ [⟨d, sd, ⟨none, 0, []⟩, tm, tx⟩]⟩) := Lib.hid (by
          refine ⟨q5, fun n hn => ?_⟩
          rcases List.mem_append.1 hn with hn | hn
          · exact HRB.out.2 n hn
          · rw [List.mem_singleton.1 hn]; exact Rd.nil _ _ _ _)
        clear V1 V2 V3 V5 V6 hnx q1 q2 q3 q4 q5 hgV hgb HBK HBT
        refine wp_region_T (fun w' => w'.cell? ⟨gb, 0, none⟩ = some (.int .i64 d) ∧ w'.cell? ⟨gb, 1, none⟩ = some (.int .i64 sd) ∧ w'.cell? ⟨gb, 2, none⟩ = some (.slice (some ⟨w3.heap.size, 0, none⟩) 12 12) ∧ w'.cell? ⟨gb, 3, none⟩ = some (.int .i64 tm) ∧ w'.cell? ⟨gb, 4, none⟩ = some (.string tx)) (fun _ => false) (by kernel_rfl) hx5 (fun hHeld => ?_)
        clear hx5
        rw [← hwb] at hHeld ⊢
        clear hwb
        refine wpAnyT_take2 (i := 1) (v := ?_) rfl rfl (by kernel_rfl) (by kernel_rfl) (by kernel_rfl) (by kernel_rfl) (fun _ _ _ h => h) (Or.inl ⟨by rfl, ?_⟩) (by first | assumption | trivial) ?_
        rotate_left
        · (intro w hSw; (try dsimp only at hSw); go_simp) <;> (with_reducible rfl)
        simp only [List.setIfInBounds_toArray, List.set_cons_zero, List.set_cons_succ]
        refine wpAnyT_take2 (i := 3) (v := ?_) rfl rfl (by kernel_rfl) (by kernel_rfl) (by kernel_rfl) (by kernel_rfl) (fun _ _ _ h => h) (Or.inl ⟨by rfl, ?_⟩) (by first | assumption | trivial) ?_
        rotate_left
        · (intro w hSw; (try dsimp only at hSw); go_simp) <;> (with_reducible rfl)
        simp only [List.setIfInBounds_toArray, List.set_cons_zero, List.set_cons_succ]
        clear hHeld ALL
        obtain ⟨W, hW⟩ : ∃ x, x = wb := ⟨_, rfl⟩
        have FK : Hid (Below wb.heap.size wb W) := Lib.hid (by rw [hW]; exact Below.refl _ _)
        rw [← hW]
        clear hW
        have HRDF : Hid (∀ (x : World) (g : Nat), Blk x g 61 #[.int .i64 d, .int .i64 sd, .slice (some ⟨w3.heap.size, 0, none⟩) 12 12, .int .i64 tm, .string tx] → Rd (· < x.heap.size) 5 Note.enc x ⟨some ⟨g, 0, none⟩, 1, [⟨d, sd, ⟨some ⟨w3.heap.size, 0, none⟩, 12, sn.set d 0⟩, tm, tx⟩]⟩) := Lib.hid (fun x g h => rd_blk Note.k (by
          have e : (sn.set d 0).length = 12 := by rw [List.length_set]; exact HSL.out
          simp only [List.flatMap_cons, List.flatMap_nil, Note.enc, e]
          exact h) (by simp) (by simp [maxLen]))
        apply cutL
        · intro fin0
          have FIN := Lib.hid fin0
          clear fin0
          refine wpAnyT_two (i := 0) (j := 4) (by kernel_rfl) rfl rfl ?_ ?_
          · skip
            go_wp2_with fail
            have hn : Own wb.heap.size 61 5 Note.enc (W.alloc (.cells #[] 61)) ⟨some ⟨W.heap.size, 0, none⟩, 0, []⟩ := Own.lit W #[] [] FK.out.size (by simp [maxLen]) rfl Note.k
            have hk : Below wb.heap.size wb (W.alloc (.cells #[] 61)) := FK.out.alloc FK.out.size _
            have hg : wb.heap.size ≤ W.heap.size := FK.out.size
            have h1 : ∀ g, Blk W g 61 #[.int .i64 d, .int .i64 sd, .slice (some ⟨w3.heap.size, 0, none⟩) 12 12, .int .i64 tm, .string tx] → Blk (W.alloc (.cells #[] 61)) g 61 #[.int .i64 d, .int .i64 sd, .slice (some ⟨w3.heap.size, 0, none⟩) 12 12, .int .i64 tm, .string tx] ∧ W.heap.size ≠ g := fun g h => ⟨h.alloc _, fun hc => by have := h.lt; omega⟩
            have H1 := Lib.hid h1
            clear h1
            generalize W.heap.size = g1 at hn hg H1 ⊢
            generalize W.alloc (.cells #[] 61) = W2 at hn hk H1 ⊢
            try have hne12 := (H1.out _ F1.out).2
            try replace F1 := Lib.hid (H1.out _ F1.out).1
            clear H1
            obtain ⟨W, hW⟩ : ∃ x, x = W2 := ⟨_, rfl⟩
            subst hW
            have FK := Lib.hid hk
            have F0 := Lib.hid hn
            have G1 := Lib.hid hg
            clear hk hn hg
            refine And.intro ?_ ?_
            · first
              | exact (HBX.out.below FK.out HGB.out).h5
              | exact fun _ => (HBX.out.below FK.out HGB.out).h5
            refine wpAnyT_two (i := 2) (j := 4) (by kernel_rfl) rfl rfl ?_ ?_
            · skip
              refine wpl_append_sl (base := wb.heap.size) _ rfl (.tmp 94) (.tmp 95) _ rfl Try.underlying23 infoNote (by omega) Note.k Note.one ⟨some ⟨g1, 0, none⟩, 0, []⟩ ⟨A, c, l⟩ rfl rfl F0.out (HRB.out.1.below' FK.out (Nat.le_refl _)) (by simp [maxLen]; omega) (by simp; omega) FK.out.size ?_
              intro A5 c5 W2 hown hg hat
              simp only [List.nil_append] at hown
              have hk : Below wb.heap.size wb W2 := Below.grown FK.out hg FK.out.size (by have := G1.out; simp [Value.ownBlock]; try omega)
              try replace F1 := Lib.hid (F1.out.grown hg (by simp [Value.ownBlock]; omega))
              clear F0 hg hat
              obtain ⟨W, hW⟩ : ∃ x, x = W2 := ⟨_, rfl⟩
              subst hW
              have FK := Lib.hid hk
              have F5 := Lib.hid hown
              clear hk hown
              go_wp2_with fail
              refine And.intro ?_ ?_
              · first
                | exact (HBX.out.below FK.out HGB.out).h5
                | exact fun _ => (HBX.out.below FK.out HGB.out).h5
              refine wpAnyT_next (i := 4) (by kernel_rfl) rfl ?_
              go_wp2_with fail
              have hn : Blk (W.alloc (.cells #[.int .i64 d, .int .i64 sd, .slice (some ⟨w3.heap.size, 0, none⟩) 12 12, .int .i64 tm, .string tx] 61)) W.heap.size 61 #[.int .i64 d, .int .i64 sd, .slice (some ⟨w3.heap.size, 0, none⟩) 12 12, .int .i64 tm, .string tx] := Blk.new _ _ _
              have hk : Below wb.heap.size wb (W.alloc (.cells #[.int .i64 d, .int .i64 sd, .slice (some ⟨w3.heap.size, 0, none⟩) 12 12, .int .i64 tm, .string tx] 61)) := FK.out.alloc FK.out.size _
              have h0 : ∀ (s : Sl Note), Own wb.heap.size 61 5 Note.enc W s → Own wb.heap.size 61 5 Note.enc (W.alloc (.cells #[.int .i64 d, .int .i64 sd, .slice (some ⟨w3.heap.size, 0, none⟩) 12 12, .int .i64 tm, .string tx] 61)) s ∧ ∀ g, s.A = some ⟨g, 0, none⟩ → g ≠ W.heap.size := fun s h => ⟨h.alloc _, fun g hg => Nat.ne_of_lt (h.bound g hg)⟩
              have H0 := Lib.hid h0
              clear h0
              generalize W.heap.size = g2 at hn H0 ⊢
              generalize W.alloc (.cells #[.int .i64 d, .int .i64 sd, .slice (some ⟨w3.heap.size, 0, none⟩) 12 12, .int .i64 tm, .string tx] 61) = W2 at hn hk H0 ⊢
              try have hne12 := (H0.out _ F0.out).2 _ rfl
              try replace F0 := Lib.hid (H0.out _ F0.out).1
              try replace F5 := Lib.hid (H0.out _ F5.out).1
              clear H0
              obtain ⟨W, hW⟩ : ∃ x, x = W2 := ⟨_, rfl⟩
              subst hW
              have FK := Lib.hid hk
              have F1 := Lib.hid hn
              clear hk hn
              refine And.intro ?_ ?_
              · first
                | exact (HBX.out.below FK.out HGB.out).h5
                | exact fun _ => (HBX.out.below FK.out HGB.out).h5
              refine wpAnyT_next (i := 5) (by kernel_rfl) rfl ?_
              refine wpl_append_sl (base := wb.heap.size) _ rfl (.tmp 96) (.tmp 98) _ rfl Try.underlying23 infoNote (by omega) Note.k Note.one ⟨A5, c5, l⟩ ⟨some ⟨g2, 0, none⟩, 1, [⟨d, sd, ⟨some ⟨w3.heap.size, 0, none⟩, 12, sn.set d 0⟩, tm, tx⟩]⟩ rfl rfl F5.out (HRDF.out _ _ F1.out) (by simp [maxLen]; omega) (by simp; omega) FK.out.size ?_
              intro LA lc W2 hown hg hat
              have hk : Below wb.heap.size wb W2 := Below.grown FK.out hg FK.out.size (by
                intro q' hq'
                rcases F5.out.form with ⟨hA, _⟩ | ⟨g, hA, h1, _⟩
                · simp only at hA; subst hA; cases hq'
                · simp only at hA; subst hA; simp only [Value.ownBlock, Option.some.injEq] at hq'; omega)
              have ALL := Lib.hid (And.intro hown hk)
              clear hown hk hg hat F5 F1 G1
              obtain ⟨W, hW⟩ : ∃ x, x = W2 := ⟨_, rfl⟩
              subst hW
              go_wp2_with fail
              refine And.intro ?_ ?_
              · first
                | exact (HBX.out.below ALL.out.2 HGB.out).h5
                | exact fun _ => (HBX.out.below ALL.out.2 HGB.out).h5
              try clear hne12
              revert ALL
              revert W
              revert lc
              revert LA
              revert g2
              revert c5
              revert A5
              revert g1
              exact FIN.out
            · skip
              go_wp2_with fail
              have hn : Blk (W.alloc (.cells #[.int .i64 d, .int .i64 sd, .slice (some ⟨w3.heap.size, 0, none⟩) 12 12, .int .i64 tm, .string tx] 61)) W.heap.size 61 #[.int .i64 d, .int .i64 sd, .slice (some ⟨w3.heap.size, 0, none⟩) 12 12, .int .i64 tm, .string tx] := Blk.new _ _ _
              have hk : Below wb.heap.size wb (W.alloc (.cells #[.int .i64 d, .int .i64 sd, .slice (some ⟨w3.heap.size, 0, none⟩) 12 12, .int .i64 tm, .string tx] 61)) := FK.out.alloc FK.out.size _
              have h0 : ∀ (s : Sl Note), Own wb.heap.size 61 5 Note.enc W s → Own wb.heap.size 61 5 Note.enc (W.alloc (.cells #[.int .i64 d, .int .i64 sd, .slice (some ⟨w3.heap.size, 0, none⟩) 12 12, .int .i64 tm, .string tx] 61)) s ∧ ∀ g, s.A = some ⟨g, 0, none⟩ → g ≠ W.heap.size := fun s h => ⟨h.alloc _, fun g hg => Nat.ne_of_lt (h.bound g hg)⟩
              have H0 := Lib.hid h0
              clear h0
              generalize W.heap.size = g2 at hn H0 ⊢
              generalize W.alloc (.cells #[.int .i64 d, .int .i64 sd, .slice (some ⟨w3.heap.size, 0, none⟩) 12 12, .int .i64 tm, .string tx] 61) = W2 at hn hk H0 ⊢
              try have hne12 := (H0.out _ F0.out).2 _ rfl
              try replace F0 := Lib.hid (H0.out _ F0.out).1
              try replace F5 := Lib.hid (H0.out _ F5.out).1
              clear H0
              obtain ⟨W, hW⟩ : ∃ x, x = W2 := ⟨_, rfl⟩
              subst hW
              have FK := Lib.hid hk
              have F1 := Lib.hid hn
              clear hk hn
              refine And.intro ?_ ?_
              · first
                | exact (HBX.out.below FK.out HGB.out).h5
                | exact fun _ => (HBX.out.below FK.out HGB.out).h5
              refine wpAnyT_next (i := 2) (by kernel_rfl) rfl ?_
              refine wpl_append_sl (base := wb.heap.size) _ rfl (.tmp 94) (.tmp 95) _ rfl Try.underlying23 infoNote (by omega) Note.k Note.one ⟨some ⟨g1, 0, none⟩, 0, []⟩ ⟨A, c, l⟩ rfl rfl F0.out (HRB.out.1.below' FK.out (Nat.le_refl _)) (by simp [maxLen]; omega) (by simp; omega) FK.out.size ?_
              intro A5 c5 W2 hown hg hat
              simp only [List.nil_append] at hown
              have hk : Below wb.heap.size wb W2 := Below.grown FK.out hg FK.out.size (by have := G1.out; simp [Value.ownBlock]; try omega)
              try replace F1 := Lib.hid (F1.out.grown hg (by simp [Value.ownBlock]; omega))
              clear F0 hg hat
              obtain ⟨W, hW⟩ : ∃ x, x = W2 := ⟨_, rfl⟩
              subst hW
              have FK := Lib.hid hk
              have F5 := Lib.hid hown
              clear hk hown
              go_wp2_with fail
              refine And.intro ?_ ?_
              · first
                | exact (HBX.out.below FK.out HGB.out).h5
                | exact fun _ => (HBX.out.below FK.out HGB.out).h5
              refine wpAnyT_next (i := 5) (by kernel_rfl) rfl ?_
              refine wpl_append_sl (base := wb.heap.size) _ rfl (.tmp 96) (.tmp 98) _ rfl Try.underlying23 infoNote (by omega) Note.k Note.one ⟨A5, c5, l⟩ ⟨some ⟨g2, 0, none⟩, 1, [⟨d, sd, ⟨some ⟨w3.heap.size, 0, none⟩, 12, sn.set d 0⟩, tm, tx⟩]⟩ rfl rfl F5.out (HRDF.out _ _ F1.out) (by simp [maxLen]; omega) (by simp; omega) FK.out.size ?_
              intro LA lc W2 hown hg hat
              have hk : Below wb.heap.size wb W2 := Below.grown FK.out hg FK.out.size (by
                intro q' hq'
                rcases F5.out.form with ⟨hA, _⟩ | ⟨g, hA, h1, _⟩
                · simp only at hA; subst hA; cases hq'
                · simp only at hA; subst hA; simp only [Value.ownBlock, Option.some.injEq] at hq'; omega)
              have ALL := Lib.hid (And.intro hown hk)
              clear hown hk hg hat F5 F1 G1
              obtain ⟨W, hW⟩ : ∃ x, x = W2 := ⟨_, rfl⟩
              subst hW
              go_wp2_with fail
              refine And.intro ?_ ?_
              · first
                | exact (HBX.out.below ALL.out.2 HGB.out).h5
                | exact fun _ => (HBX.out.below ALL.out.2 HGB.out).h5
              try clear hne12
              revert ALL
              revert W
              revert lc
              revert LA
              revert g2
              revert c5
              revert A5
              revert g1
              exact FIN.out
          · skip
            go_wp2_with fail
            have hn : Blk (W.alloc (.cells #[.int .i64 d, .int .i64 sd, .slice (some ⟨w3.heap.size, 0, none⟩) 12 12, .int .i64 tm, .string tx] 61)) W.heap.size 61 #[.int .i64 d, .int .i64 sd, .slice (some ⟨w3.heap.size, 0, none⟩) 12 12, .int .i64 tm, .string tx] := Blk.new _ _ _
            have hk : Below wb.heap.size wb (W.alloc (.cells #[.int .i64 d, .int .i64 sd, .slice (some ⟨w3.heap.size, 0, none⟩) 12 12, .int .i64 tm, .string tx] 61)) := FK.out.alloc FK.out.size _
            have h0 : ∀ (s : Sl Note), Own wb.heap.size 61 5 Note.enc W s → Own wb.heap.size 61 5 Note.enc (W.alloc (.cells #[.int .i64 d, .int .i64 sd, .slice (some ⟨w3.heap.size, 0, none⟩) 12 12, .int .i64 tm, .string tx] 61)) s ∧ ∀ g, s.A = some ⟨g, 0, none⟩ → g ≠ W.heap.size := fun s h => ⟨h.alloc _, fun g hg => Nat.ne_of_lt (h.bound g hg)⟩
            have H0 := Lib.hid h0
            clear h0
            generalize W.heap.size = g2 at hn H0 ⊢
            generalize W.alloc (.cells #[.int .i64 d, .int .i64 sd, .slice (some ⟨w3.heap.size, 0, none⟩) 12 12, .int .i64 tm, .string tx] 61) = W2 at hn hk H0 ⊢
            try have hne12 := (H0.out _ F0.out).2 _ rfl
            try replace F0 := Lib.hid (H0.out _ F0.out).1
            try replace F5 := Lib.hid (H0.out _ F5.out).1
            clear H0
            obtain ⟨W, hW⟩ : ∃ x, x = W2 := ⟨_, rfl⟩
            subst hW
            have FK := Lib.hid hk
            have F1 := Lib.hid hn
            clear hk hn
            refine And.intro ?_ ?_
            · first
              | exact (HBX.out.below FK.out HGB.out).h5
              | exact fun _ => (HBX.out.below FK.out HGB.out).h5
            refine wpAnyT_next (i := 0) (by kernel_rfl) rfl ?_
            go_wp2_with fail
            have hn : Own wb.heap.size 61 5 Note.enc (W.alloc (.cells #[] 61)) ⟨some ⟨W.heap.size, 0, none⟩, 0, []⟩ := Own.lit W #[] [] FK.out.size (by simp [maxLen]) rfl Note.k
            have hk : Below wb.heap.size wb (W.alloc (.cells #[] 61)) := FK.out.alloc FK.out.size _
            have hg : wb.heap.size ≤ W.heap.size := FK.out.size
            have h1 : ∀ g, Blk W g 61 #[.int .i64 d, .int .i64 sd, .slice (some ⟨w3.heap.size, 0, none⟩) 12 12, .int .i64 tm, .string tx] → Blk (W.alloc (.cells #[] 61)) g 61 #[.int .i64 d, .int .i64 sd, .slice (some ⟨w3.heap.size, 0, none⟩) 12 12, .int .i64 tm, .string tx] ∧ W.heap.size ≠ g := fun g h => ⟨h.alloc _, fun hc => by have := h.lt; omega⟩
            have H1 := Lib.hid h1
            clear h1
            generalize W.heap.size = g1 at hn hg H1 ⊢
            generalize W.alloc (.cells #[] 61) = W2 at hn hk H1 ⊢
            try have hne12 := (H1.out _ F1.out).2
            try replace F1 := Lib.hid (H1.out _ F1.out).1
            clear H1
            obtain ⟨W, hW⟩ : ∃ x, x = W2 := ⟨_, rfl⟩
            subst hW
            have FK := Lib.hid hk
            have F0 := Lib.hid hn
            have G1 := Lib.hid hg
            clear hk hn hg
            refine And.intro ?_ ?_
            · first
              | exact (HBX.out.below FK.out HGB.out).h5
              | exact fun _ => (HBX.out.below FK.out HGB.out).h5
            refine wpAnyT_next (i := 2) (by kernel_rfl) rfl ?_
            refine wpl_append_sl (base := wb.heap.size) _ rfl (.tmp 94) (.tmp 95) _ rfl Try.underlying23 infoNote (by omega) Note.k Note.one ⟨some ⟨g1, 0, none⟩, 0, []⟩ ⟨A, c, l⟩ rfl rfl F0.out (HRB.out.1.below' FK.out (Nat.le_refl _)) (by simp [maxLen]; omega) (by simp; omega) FK.out.size ?_
            intro A5 c5 W2 hown hg hat
            simp only [List.nil_append] at hown
            have hk : Below wb.heap.size wb W2 := Below.grown FK.out hg FK.out.size (by have := G1.out; simp [Value.ownBlock]; try omega)
            try replace F1 := Lib.hid (F1.out.grown hg (by simp [Value.ownBlock]; omega))
            clear F0 hg hat
            obtain ⟨W, hW⟩ : ∃ x, x = W2 := ⟨_, rfl⟩
            subst hW
            have FK := Lib.hid hk
            have F5 := Lib.hid hown
            clear hk hown
            go_wp2_with fail
            refine And.intro ?_ ?_
            · first
              | exact (HBX.out.below FK.out HGB.out).h5
              | exact fun _ => (HBX.out.below FK.out HGB.out).h5
            refine wpAnyT_next (i := 5) (by kernel_rfl) rfl ?_
            refine wpl_append_sl (base := wb.heap.size) _ rfl (.tmp 96) (.tmp 98) _ rfl Try.underlying23 infoNote (by omega) Note.k Note.one ⟨A5, c5, l⟩ ⟨some ⟨g2, 0, none⟩, 1, [⟨d, sd, ⟨some ⟨w3.heap.size, 0, none⟩, 12, sn.set d 0⟩, tm, tx⟩]⟩ rfl rfl F5.out (HRDF.out _ _ F1.out) (by simp [maxLen]; omega) (by simp; omega) FK.out.size ?_
            intro LA lc W2 hown hg hat
            have hk : Below wb.heap.size wb W2 := Below.grown FK.out hg FK.out.size (by
              intro q' hq'
              rcases F5.out.form with ⟨hA, _⟩ | ⟨g, hA, h1, _⟩
              · simp only at hA; subst hA; cases hq'
              · simp only at hA; subst hA; simp only [Value.ownBlock, Option.some.injEq] at hq'; omega)
            have ALL := Lib.hid (And.intro hown hk)
            clear hown hk hg hat F5 F1 G1
            obtain ⟨W, hW⟩ : ∃ x, x = W2 := ⟨_, rfl⟩
            subst hW
            go_wp2_with fail
            refine And.intro ?_ ?_
            · first
              | exact (HBX.out.below ALL.out.2 HGB.out).h5
              | exact fun _ => (HBX.out.below ALL.out.2 HGB.out).h5
            try clear hne12
            revert ALL
            revert W
            revert lc
            revert LA
            revert g2
            revert c5
            revert A5
            revert g1
            exact FIN.out
        · skip
          intro g3 A6 c6 g4 AA ac W ALL
          have hHeld := (HBX.out.below ALL.out.2 HGB.out).h5
          refine wpAnyT_take2 (i := 6) (v := ?_) rfl rfl (by kernel_rfl) (by kernel_rfl) (by kernel_rfl) (by kernel_rfl) (fun _ _ _ h => h) (Or.inl ⟨by rfl, ?_⟩) (by first | assumption | trivial) ?_
          rotate_left
          · (intro w hSw; (try dsimp only at hSw); go_simp) <;> (with_reducible rfl)
          simp only [List.setIfInBounds_toArray, List.set_cons_zero, List.set_cons_succ]
          refine wpAnyT_done (by kernel_rfl) ?_ _
          clear hHeld
          have hB5 : Below w.heap.size w W := hB3.trans ((HB3b.out.trans (ALL.out.2.mono HB3b.out.size)).mono hz3)
          have HB35 := Lib.hid (HB3b.out.trans (ALL.out.2.mono HB3b.out.size))
          have hAN : RdNotes (· < W.heap.size) W ⟨AA, ac, l ++ [⟨d, sd, ⟨some ⟨w3.heap.size, 0, none⟩, 12, sn.set d 0⟩, tm, tx⟩]⟩ := by
            refine ⟨(ALL.out.1.rd Note.k).mono (fun b hb => hb.2), fun n hn => ?_⟩
            rcases List.mem_append.1 hn with hn | hn
            · exact HR.out.2 n hn |>.below' hB5 (Nat.le_refl _)
            · rw [List.mem_singleton.1 hn]
              have hq := HSB.out.below ALL.out.2 (Nat.lt_trans hlo HGB.out)
              have e : (sn.set d 0).length = 12 := by rw [List.length_set]; exact HSL.out
              exact rd_blk ienc_k (by rw [dnC_flat]; exact hq) (by simp only [e]; omega) (by simp [maxLen])
          have hLN := HLN.out.later ALL.out.2 (Nat.le_refl _)
          have hall : (ordN ((l ++ [(⟨d, sd, ⟨some ⟨w3.heap.size, 0, none⟩, 12, sn.set d 0⟩, tm, tx⟩ : Note)]).map Note.d)) = (o ++ [l.length], 0) := by
            rw [List.map_append]
            have h1 := (ord_later HE.out HN2.out (by simp; omega)).1
            have h2 := ord_last HE.out HN2.out (by simp; omega) HAL.out
            rw [List.length_map] at h2
            rw [HOO.out] at h2
            exact Prod.ext h2 h1
          have c7 := morder_at (s := ⟨AA, ac, l ++ [⟨d, sd, ⟨some ⟨w3.heap.size, 0, none⟩, 12, sn.set d 0⟩, tm, tx⟩]⟩) hAN hall
          have hlone := ord_later HE.out HN1.out (by simp; omega)
          simp only [List.length_append, List.length_singleton] at c7
          clear hall hAN
          have HC7 := Lib.hid c7
          have HLO := Lib.hid hlone
          have HLN2 := Lib.hid hLN
          clear c7 hlone hLN HLN HRDF HSB HB3b HGB HRB HBX ALL
          go_wp2_with fail
          refine HC7.out.mono ?_
          rintro e w7 ⟨⟨pA, pc, pl⟩, rfl, hpl, hpr, hb7⟩
          have hB7 : Below w.heap.size w w7 := (by repeat (first | (with_reducible exact hB5) | (with_reducible exact Below.refl _ _) | ((with_reducible refine below_setr ?_ ?_); focus (first | (simp; done) | (simp; omega) | omega)) | ((with_reducible refine below_allocr ?_ ?_); focus (first | (simp; done) | (simp; omega) | omega)) | (with_reducible refine Below.drew ?_) | (with_reducible refine below_drewN ?_ _) | ((with_reducible apply below_via); focus (with_reducible assumption))))
          have HB37 := Lib.hid (HB35.out.trans (hb7.mono HB35.out.size))
          clear HB35
          simp only at hpl
          subst hpl
          have hLN := HLN2.out.later hb7 (Nat.le_refl _)
          have HPR := Lib.hid (hpr.mono (G := fun b => b < w7.heap.size) (fun b hb => hb.2))
          have hop : natI (o ++ [l.length]) = natI o ++ [(l.length : Int)] := natI_app _ _
          have hol : o.length = l.length := by have := HOK.out.len; simpa using this
          rw [hop] at HPR ⊢
          have hnol : (natI o).length = l.length := by rw [natI_len, hol]
          have c8 := morder ⟨LA, lc, l ++ [⟨d, sd, ⟨none, 0, []⟩, tm, tx⟩]⟩ w7 hLN
          obtain ⟨l1, l2, l3⟩ := HLO.out
          rw [show (l.map Note.d) ++ [⟨d, sd, [], tm, tx⟩] = (l ++ [(⟨d, sd, ⟨none, 0, []⟩, tm, tx⟩ : Note)]).map Note.d by simp [Note.d]] at l1 l2 l3
          simp only [List.length_map] at l2 l3
          rw [HOO.out] at l2
          have hpair : (ordN ((l ++ [(⟨d, sd, ⟨none, 0, []⟩, tm, tx⟩ : Note)]).map Note.d)) = ((ordN ((l ++ [(⟨d, sd, ⟨none, 0, []⟩, tm, tx⟩ : Note)]).map Note.d)).1, 0) := Prod.ext rfl l1
          have c8 := morder_at (s := ⟨LA, lc, l ++ [⟨d, sd, ⟨none, 0, []⟩, tm, tx⟩]⟩) hLN hpair
          simp only [List.length_append, List.length_singleton] at c8
          generalize (ordN ((l ++ [(⟨d, sd, ⟨none, 0, []⟩, tm, tx⟩ : Note)]).map Note.d)).1 = q at *
          have HC8 := Lib.hid c8
          have HL2 := Lib.hid l2
          have HL3 := Lib.hid l3
          have HNOL := Lib.hid hnol
          clear c8 l1 l2 l3 hpair hLN HLO HLN2 HC7 hpr hb7 hop hol hnol
          have hpl2 : (natI o ++ [(l.length : Int)]).length = l.length + 1 := by simp [HNOL.out]
          rw [hpl2]
          clear hpl2
          go_wp2_with fail
          refine HC8.out.mono ?_
          rintro e w8 ⟨⟨qA, qc, ql⟩, rfl, hql, hqr, hb8⟩
          have hB8 : Below w.heap.size w w8 := (by repeat (first | (with_reducible exact hB7) | (with_reducible exact Below.refl _ _) | ((with_reducible refine below_setr ?_ ?_); focus (first | (simp; done) | (simp; omega) | omega)) | ((with_reducible refine below_allocr ?_ ?_); focus (first | (simp; done) | (simp; omega) | omega)) | (with_reducible refine Below.drew ?_) | (with_reducible refine below_drewN ?_ _) | ((with_reducible apply below_via); focus (with_reducible assumption))))
          have HB38 := Lib.hid (HB37.out.trans (hb8.mono HB37.out.size))
          clear HB37
          simp only at hql
          subst hql
          have HQR := Lib.hid (hqr.mono (G := fun b => b < w8.heap.size) (fun b hb => hb.2))
          have HPR8 := Lib.hid (HPR.out.below' hb8 (Nat.le_refl _))
          have hnq : (natI q).length = l.length + 1 := by rw [natI_len]; simpa using HL3.out
          rw [hnq]
          clear hb8 hqr HPR HC8 hnq
          have hlp : (natI o ++ [(l.length : Int)]).length = l.length + 1 := by simp [HNOL.out]
          have hpc : l.length ≤ pc := by have := HPR8.out.lecap; simp only [hlp] at this; omega
          obtain ⟨bp, op, hA1, hbp, hcp⟩ := HPR8.out.at1 (show l.length < (natI o ++ [(l.length : Int)]).length by rw [hlp]; omega)
          simp only at hA1
          subst hA1
          have ep : (natI o ++ [(l.length : Int)])[l.length]'(by rw [hlp]; omega) = (l.length : Int) := by
            rw [List.getElem_append_right (by rw [HNOL.out]; omega)]; simp
          have cp := hcp.c1
          simp only [Nat.mul_one] at cp
          rw [ep] at cp
          have hpt := rdTake HPR8.out l.length
          rw [show (natI o ++ [(l.length : Int)]).take l.length = natI o by rw [← HNOL.out, List.take_left]] at hpt
          have HOR8 := Lib.hid (HOR.out.below' HB38.out (Nat.le_refl _))
          have c9 := rints ⟨some ⟨bp, op, none⟩, pc, natI o⟩ ⟨oA, oc, natI o⟩ w8 hpt HOR8.out
          simp only [decide_true, HNOL.out] at c9
          have HC9 := Lib.hid c9
          have HCP := Lib.hid cp
          rw [HNOL.out]
          clear hpt ep hcp cp c9 hlp HPR8 hbp
          go_wp2_with fail
          refine HC9.out.mono ?_
          rintro e w9 ⟨rfl, hb9⟩
          have hB9 : Below w.heap.size w w9 := (by repeat (first | (with_reducible exact hB8) | (with_reducible exact Below.refl _ _) | ((with_reducible refine below_setr ?_ ?_); focus (first | (simp; done) | (simp; omega) | omega)) | ((with_reducible refine below_allocr ?_ ?_); focus (first | (simp; done) | (simp; omega) | omega)) | (with_reducible refine Below.drew ?_) | (with_reducible refine below_drewN ?_ _) | ((with_reducible apply below_via); focus (with_reducible assumption))))
          have HQR9 := Lib.hid (HQR.out.below' hb9 (Nat.le_refl _))
          have HOR9 := Lib.hid (HOR8.out.below' hb9 (Nat.le_refl _))
          have cp := keep_cell hb9 HCP.out
          clear HC9 HCP HOR8 HQR hb9
          have hw1 : IntKind.i64.wrap ((l.length : Int) + 1) = (l.length : Int) + 1 := by rw [IntKind.wrap_i64]; omega
          go_wp2_with fail
          have hz9 : w.heap.size ≤ w9.heap.size := hB9.size
          have hql : q.length = l.length + 1 := by simpa using HL3.out
          have HQL := Lib.hid hql
          clear cp hpc hw1 hql HB38 HN1 HN2 HAL HSL
          go_loopw [22, 23] (fun b i wr => ∃ (k : Nat) (RA : Option Addr) (rc : Nat), k ≤ l.length + 1 ∧ i = .int .i64 k ∧ b = .slice RA (natI (notN l.length (q.take k))).length rc ∧ Own w9.heap.size 3 1 ienc wr ⟨RA, rc, natI (notN l.length (q.take k))⟩ ∧ Below w9.heap.size w9 wr) (fun _ i _ => l.length + 1 - (intOf i).toNat)
          case atStart => exact ⟨0, none, 0, by omega, rfl, rfl, Own.nil _ _ _ _ _, Below.refl _ _⟩
          case round =>
            obtain ⟨k, RA, rc, hk, rfl, rfl, hown, hbel⟩ := hrel
            have hB10 : Below w.heap.size w wr := hB9.trans (hbel.mono hz9)
            by_cases hkl : k < l.length + 1
            · have hkl' : (k : Int) < (l.length : Int) + 1 := by omega
              have hkq : k < q.length := by rw [HQL.out]; exact hkl
              obtain ⟨bq, oq, hA2, hbq, hcq⟩ := HQR9.out.at1 (show k < (natI q).length by rw [natI_len]; exact hkq)
              simp only at hA2
              subst hA2
              have eq' : (natI q)[k]'(by rw [natI_len]; exact hkq) = ((q[k] : Nat) : Int) := by unfold natI; simp
              have cq := (hcq.keep (hbel.block bq hbq)).c1
              simp only [Nat.mul_one] at cq
              rw [eq'] at cq
              have hrl := natI_notN_len l.length q k
              have hz10 : w9.heap.size ≤ wr.heap.size := hbel.size
              by_cases hN : q[k] = l.length
              · have hnx := natI_notN2 hkq hN
                have e1 : (((q[k] : Nat) : Int) != (l.length : Int)) = false := by simp [hN]
                generalize q[k] = qk at *
                have HNX := Lib.hid hnx
                have HOW := Lib.hid hown
                clear hcq eq' hN hnx hown hkq
                generalize natI (notN l.length (q.take k)) = rl at *
                go_wp2_with fail
                go_roundw
                case rel => exact ⟨k + 1, RA, rc, by omega, by go_num, by rw [HNX.out], by rw [HNX.out]; exact HOW.out, hbel⟩
                case measure => simp [intOf]; omega
              · have hnx := natI_notN hkq hN
                have e1 : (((q[k] : Nat) : Int) != (l.length : Int)) = true := by simp; omega
                generalize q[k] = qk at *
                have HNX := Lib.hid hnx
                have HOW := Lib.hid hown
                clear hcq eq' hN hnx hown hkq
                generalize natI (notN l.length (q.take k)) = rl at *
                have hrl2 : rl.length ≤ 20 := by omega
                go_wp2_with (at_builtin; go_must (refine wpl_append_sl (base := w9.heap.size) _ rfl (.tmp 164) (.tmp 169) _ rfl Try.underlying24 infoInt (by omega) ienc_k ienc_one ⟨RA, rc, rl⟩ ⟨some ⟨wr.heap.size, 0, none⟩, 1, [(qk : Int)]⟩ rfl rfl (HOW.out.alloc _) (rdOne (Blk.new _ _ _)) (by simp [maxLen]; omega) (by simp; omega) (by simp; omega) ?_); intro A6 c6 w6 hown6 hg6 hat6; apply Hid.out)
                refine Lib.hid ?_
                have hB6 : Below w9.heap.size w9 w6 := Below.grown (hbel.alloc hbel.size _) hg6 (by simp; omega) (by
                  intro q' hq'
                  rcases HOW.out.form with ⟨hA, _⟩ | ⟨g, hA, h1, _⟩
                  · simp only at hA; subst hA; cases hq'
                  · simp only at hA; subst hA; simp only [Value.ownBlock, Option.some.injEq] at hq'; omega)
                have HO6 := Lib.hid hown6
                clear hown6 hg6 hat6
                go_wp2_with fail
                go_roundw
                case rel => exact ⟨k + 1, A6, c6, by omega, by go_num, by rw [HNX.out]; simp [Act.eval, go_sem], by rw [HNX.out]; exact HO6.out, hB6⟩
                case measure => simp [intOf]; omega
            · obtain rfl : k = l.length + 1 := by omega
              have hfull : natI (notN l.length (q.take (l.length + 1))) = natI o := by
                rw [← HQL.out, List.take_length, HL2.out]
              rw [hfull] at hown ⊢
              have c11 := rints ⟨RA, rc, natI o⟩ ⟨oA, oc, natI o⟩ wr ((hown.rd ienc_k).mono (fun b hb => hb.2)) (HOR9.out.below' hbel (Nat.le_refl _))
              simp only [decide_true, HNOL.out] at c11
              rw [HNOL.out]
              clear hown hfull hkl
              go_wp2_with fail
              refine c11.mono ?_
              rintro e w11 ⟨rfl, hb11⟩
              have hB11 : Below w.heap.size w w11 := (by repeat (first | (with_reducible exact hB10) | (with_reducible exact Below.refl _ _) | ((with_reducible refine below_setr ?_ ?_); focus (first | (simp; done) | (simp; omega) | omega)) | ((with_reducible refine below_allocr ?_ ?_); focus (first | (simp; done) | (simp; omega) | omega)) | (with_reducible refine Below.drew ?_) | (with_reducible refine below_drewN ?_ _) | ((with_reducible apply below_via); focus (with_reducible assumption))))
              go_wp2_with fail
              go_ret
              exact ⟨rfl, hB11⟩
end Go.Proofs.Ythnblhbdfpmolaa
