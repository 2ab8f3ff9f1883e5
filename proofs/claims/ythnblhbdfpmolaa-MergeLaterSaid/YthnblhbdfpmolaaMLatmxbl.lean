/- Walk of the reference's missing. -/
import Derived.Test.YthnblhbdfpmolaaMLatmxbi
import Derived.Test.YthnblhbdfpmolaaMLatmxbg
namespace Go.Proofs.Ythnblhbdfpmolaa
open Go.RowKit
theorem atN_any {l : List NoteD} {d s : Int} : atN l d s = none ↔ l.any (isK d s) = false := by
  unfold atN
  rw [List.findIdx?_eq_none_iff, List.any_eq_false]
  constructor
  · intro h x hx; rw [h x hx]; simp
  · intro h x hx
    have := h x hx
    simpa using this
theorem at!_map2 {l : List Note} {i : Nat} (h : i < l.length) : at! (l.map Note.d) i = l[i].d := by rw [at!_eq (by simpa using h)]; simp
theorem first_apart {l : List NoteD} (h : ∀ j, j < l.length → atN l (at! l j).dev (at! l j).seq = some j) : l.Pairwise ApartN := by
  rw [List.pairwise_iff_getElem]
  rintro i j hi hj hij ⟨hd, hs⟩
  have h1 := h i hi
  have h2 := h j hj
  rw [at!_eq hi, hd, hs] at h1
  rw [at!_eq hj, h1] at h2
  injection h2 with h2
  omega
theorem atN_le {l : List NoteD} {k : Nat} (hk : k < l.length) : ∃ j, atN l (at! l k).dev (at! l k).seq = some j ∧ j ≤ k := by
  rcases h : atN l (at! l k).dev (at! l k).seq with _ | j
  · rw [atN_any, List.any_eq_false] at h
    have := h (l[k]) (List.getElem_mem hk)
    rw [at!_eq hk] at this
    exact absurd (isK_iff.2 ⟨rfl, rfl⟩) this
  · refine ⟨j, rfl, ?_⟩
    unfold atN at h
    rw [List.findIdx?_eq_some_iff_getElem] at h
    obtain ⟨hj, _, hno⟩ := h
    rcases Nat.lt_or_ge k j with hc | hc
    · have := hno k hc
      rw [at!_eq hk] at this
      exact absurd (isK_iff.2 ⟨rfl, rfl⟩) (by simpa using this)
    · exact hc
theorem missOne_no {l : List NoteD} {n : NoteD} (h1 : ¬ (0 < n.seq ∧ l.any (isK n.dev (n.seq - 1)) = false)) (h2 : ∀ k : Nat, k < n.af.length → ¬ (0 < seenN n.af k ∧ l.any (isK k (seenN n.af k - 1)) = false)) : missOne l n = false := by
  unfold missOne
  rw [Bool.or_eq_false_iff]
  constructor
  · rcases h : (decide (0 < n.seq) && !l.any (isK n.dev (n.seq - 1)))
    · rfl
    · simp only [Bool.and_eq_true, decide_eq_true_eq, Bool.not_eq_true'] at h
      exact absurd h h1
  · rw [List.any_eq_false]
    intro k hk
    have := h2 k (List.mem_range.1 hk)
    simp only [Bool.and_eq_true, decide_eq_true_eq, Bool.not_eq_true']
    exact this
theorem missOne_a {l : List NoteD} {n : NoteD} (h1 : 0 < n.seq) (h2 : l.any (isK n.dev (n.seq - 1)) = false) : missOne l n = true := by
  unfold missOne
  rw [Bool.or_eq_true]
  left
  rw [h2]; simp; exact h1
theorem missOne_b {l : List NoteD} {n : NoteD} {k : Nat} (hk : k < n.af.length) (h1 : 0 < seenN n.af k) (h2 : l.any (isK k (seenN n.af k - 1)) = false) : missOne l n = true := by
  unfold missOne
  rw [Bool.or_eq_true]
  right
  rw [List.any_eq_true]
  exact ⟨k, List.mem_range.2 hk, by rw [h2]; simp; exact h1⟩
set_option maxHeartbeats 1000000 in
theorem rmissing (s : Sl Note) (w : World) (hr : RdNotes (· < w.heap.size) w s) (hok : notesR (s.l.map Note.d) = true) :
    Calls Try.prog 88 #[.slice s.A s.l.length s.c] w fun e w' => e = .returned (.int .i64 (placesE (s.l.map Note.d))) ∧ Below w.heap.size w w' := by
  have hall : ∀ n, n ∈ s.l → n.d.right = true := by
    simp only [notesR, Bool.and_eq_true, List.all_eq_true] at hok
    exact fun n hn => hok.2 _ (List.mem_map_of_mem (f := Note.d) hn)
  have hlen : s.l.length ≤ 10000 := by simp only [notesR, Bool.and_eq_true, decide_eq_true_eq, List.length_map] at hok; exact hok.1
  have HR := Lib.hid hr
  have HALL := Lib.hid hall
  clear hr hok hall
  obtain ⟨A, c, l⟩ := s
  simp only at hlen
  simp only
  go_enter Try.func88, Try.ntmps88
  go_wp2_with fail
  go_loopw [3] (fun i wr => ∃ (k : Nat), k ≤ l.length ∧ i = .int .i64 k ∧ Below w.heap.size w wr ∧ (∀ j, j < k → atN (l.map Note.d) (at! (l.map Note.d) j).dev (at! (l.map Note.d) j).seq = some j)) (fun i _ => l.length - (intOf i).toNat)
  case atStart => exact ⟨0, by omega, rfl, Below.refl _ _, fun j hj => absurd hj (Nat.not_lt_zero _)⟩
  case round =>
    obtain ⟨k, hk, rfl, hbel, hfi⟩ := hrel
    have HFI := Lib.hid hfi
    clear hfi
    by_cases hlt : k < l.length
    · have hra : Rd (· < wr.heap.size) 5 Note.enc wr ⟨A, c, l⟩ := HR.out.1.below' hbel (Nat.le_refl _)
      obtain ⟨b, o, rfl, hb, hcl⟩ := HR.out.1.at1 hlt
      obtain ⟨g0, g1, g2, g3, g4⟩ := Cells.c5 (hcl.keep (hbel.block b hb))
      have hxd := at!_map2 hlt
      obtain ⟨j, hj, hjk⟩ := atN_le (show k < (l.map Note.d).length by simpa using hlt)
      clear hcl
      generalize l[k] = x at *
      obtain ⟨xd, xq, ⟨xA, xc, xl⟩, xt, xx⟩ := x
      have hj0 := hj
      rw [hxd] at hj
      simp only [Note.d] at hj
      have hAt : Calls Try.prog 84 #[.slice (some ⟨b, o, none⟩) l.length c, .int .i64 xd, .int .i64 xq] wr.drew fun e w' => e = .returned (.int .i64 (j : Int)) ∧ wr.drew = w' := by
        have := rAt ⟨some ⟨b, o, none⟩, c, l⟩ xd xq wr.drew hra
        rw [show (⟨some ⟨b, o, none⟩, c, l⟩ : Sl Note).l = l from rfl] at this
        rw [hj] at this; exact this
      have HJ := Lib.hid hj0
      have HXD := Lib.hid hxd
      clear hj hj0 hxd hra
      go_wp2_with fail
      refine wp_region_T (fun w' => w'.cell? ⟨b, o + k * 5, none⟩ = some (.int .i64 xd) ∧ w'.cell? ⟨b, o + k * 5 + 1, none⟩ = some (.int .i64 xq)) (fun _ => false) (by kernel_rfl) ⟨g0, g1⟩ (fun hHeld => ?_)
      refine wpAnyT_take2 (i := 0) (v := ?_) rfl rfl (by kernel_rfl) (by kernel_rfl) (by kernel_rfl) (by kernel_rfl) (fun _ _ _ h => h) (Or.inl ⟨by rfl, ?_⟩) (by first | assumption | trivial) ?_
      rotate_left
      · (intro w hSw; (try dsimp only at hSw); go_simp) <;> (with_reducible rfl)
      simp only [List.setIfInBounds_toArray, List.set_cons_zero, List.set_cons_succ]
      refine wpAnyT_take2 (i := 1) (v := ?_) rfl rfl (by kernel_rfl) (by kernel_rfl) (by kernel_rfl) (by kernel_rfl) (fun _ _ _ h => h) (Or.inl ⟨by rfl, ?_⟩) (by first | assumption | trivial) ?_
      rotate_left
      · (intro w hSw; (try dsimp only at hSw); go_simp) <;> (with_reducible rfl)
      simp only [List.setIfInBounds_toArray, List.set_cons_zero, List.set_cons_succ]
      refine wpAnyT_take2 (i := 2) (v := ?_) rfl rfl (by kernel_rfl) (by kernel_rfl) (by kernel_rfl) (by kernel_rfl) (fun _ _ _ h => h) (Or.inl ⟨by rfl, ?_⟩) (by first | assumption | trivial) ?_
      rotate_left
      · (intro w hSw; (try dsimp only at hSw); go_simp) <;> (with_reducible rfl)
      simp only [List.setIfInBounds_toArray, List.set_cons_zero, List.set_cons_succ]
      refine wpAnyT_take2 (i := 3) (v := ?_) rfl rfl (by kernel_rfl) (by kernel_rfl) (by kernel_rfl) (by kernel_rfl) (fun _ _ _ h => h) (Or.inl ⟨by rfl, ?_⟩) (by first | assumption | trivial) ?_
      rotate_left
      · (intro w hSw; (try dsimp only at hSw); go_simp) <;> (with_reducible rfl)
      simp only [List.setIfInBounds_toArray, List.set_cons_zero, List.set_cons_succ]
      refine wpAnyT_take2 (i := 4) (v := ?_) rfl rfl (by kernel_rfl) (by kernel_rfl) (by kernel_rfl) (by kernel_rfl) (fun _ _ _ h => h) (Or.inl ⟨by rfl, ?_⟩) (by first | assumption | trivial) ?_
      rotate_left
      · (intro w hSw; (try dsimp only at hSw); go_simp) <;> (with_reducible rfl)
      simp only [List.setIfInBounds_toArray, List.set_cons_zero, List.set_cons_succ]
      refine wpAnyT_take2 (i := 5) (v := ?_) rfl rfl (by kernel_rfl) (by kernel_rfl) (by kernel_rfl) (by kernel_rfl) (fun _ _ _ h => h) (Or.inl ⟨by rfl, ?_⟩) (by first | assumption | trivial) ?_
      rotate_left
      · (intro w hSw; (try dsimp only at hSw); go_simp) <;> (with_reducible rfl)
      simp only [List.setIfInBounds_toArray, List.set_cons_zero, List.set_cons_succ]
      refine wpAnyT_take2 (i := 6) (v := ?_) rfl rfl (by kernel_rfl) (by kernel_rfl) (by kernel_rfl) (by kernel_rfl) (fun _ _ _ h => h) (Or.inl ⟨by rfl, ?_⟩) (by first | assumption | trivial) ?_
      rotate_left
      · (intro w hSw; (try dsimp only at hSw); go_simp) <;> (with_reducible rfl)
      simp only [List.setIfInBounds_toArray, List.set_cons_zero, List.set_cons_succ]
      refine wpAnyT_take2 (i := 7) (v := ?_) rfl rfl (by kernel_rfl) (by kernel_rfl) (by kernel_rfl) (by kernel_rfl) (fun _ _ _ h => h) (Or.inl ⟨by rfl, ?_⟩) (by first | assumption | trivial) ?_
      rotate_left
      · (intro w hSw; (try dsimp only at hSw); go_simp) <;> (with_reducible rfl)
      simp only [List.setIfInBounds_toArray, List.set_cons_zero, List.set_cons_succ]
      refine wpAnyT_take2 (i := 8) (v := ?_) rfl rfl (by kernel_rfl) (by kernel_rfl) (by kernel_rfl) (by kernel_rfl) (fun _ _ _ h => h) (Or.inl ⟨by rfl, ?_⟩) (by first | assumption | trivial) ?_
      rotate_left
      · (intro w hSw; (try dsimp only at hSw); go_simp) <;> (with_reducible rfl)
      simp only [List.setIfInBounds_toArray, List.set_cons_zero, List.set_cons_succ]
      refine wpAnyT_take2 (i := 9) (v := ?_) rfl rfl (by kernel_rfl) (by kernel_rfl) (by kernel_rfl) (by kernel_rfl) (fun _ _ _ h => h) (Or.inl ⟨by rfl, ?_⟩) (by first | assumption | trivial) ?_
      rotate_left
      · (intro w hSw; (try dsimp only at hSw); go_simp) <;> (with_reducible rfl)
      simp only [List.setIfInBounds_toArray, List.set_cons_zero, List.set_cons_succ]
      refine wpAnyT_take2 (i := 10) (v := ?_) rfl rfl (by kernel_rfl) (by kernel_rfl) (by kernel_rfl) (by kernel_rfl) (fun _ _ _ h => h) (Or.inl ⟨by rfl, ?_⟩) (by first | assumption | trivial) ?_
      rotate_left
      · (intro w hSw; (try dsimp only at hSw); go_simp) <;> (with_reducible rfl)
      simp only [List.setIfInBounds_toArray, List.set_cons_zero, List.set_cons_succ]
      refine wpAnyT_take2 (i := 12) (v := ?_) rfl rfl (by kernel_rfl) (by kernel_rfl) (by kernel_rfl) (by kernel_rfl) (fun _ _ _ h => h) (Or.inl ⟨by rfl, ?_⟩) (by first | assumption | trivial) ?_
      rotate_left
      · (intro w hSw; (try dsimp only at hSw); go_simp) <;> (with_reducible rfl)
      simp only [List.setIfInBounds_toArray, List.set_cons_zero, List.set_cons_succ]
      refine wpAnyT_next (i := 11) (by kernel_rfl) rfl ?_
      go_wp2_with fail
      refine hAt.mono ?_
      rintro e w5 ⟨rfl, rfl⟩
      clear hAt
      go_wp2_with fail
      refine ⟨(by first | exact hHeld | exact fun _ => hHeld), ?_⟩
      refine wpAnyT_take2 (i := 13) (v := ?_) rfl rfl (by kernel_rfl) (by kernel_rfl) (by kernel_rfl) (by kernel_rfl) (fun _ _ _ h => h) (Or.inl ⟨by rfl, ?_⟩) (by first | assumption | trivial) ?_
      rotate_left
      · (intro w hSw; (try dsimp only at hSw); go_simp) <;> (with_reducible rfl)
      simp only [List.setIfInBounds_toArray, List.set_cons_zero, List.set_cons_succ]
      refine wpAnyT_done (by kernel_rfl) ?_ _
      clear hHeld g0 g1 g2 g3 g4
      by_cases hjk2 : j = k
      · subst hjk2
        have e1 : ((j : Int) != (j : Int)) = false := by simp
        go_wp2_with fail
        go_roundw
        case rel =>
          refine ⟨j + 1, by omega, by go_num, (by repeat (first | (with_reducible exact hbel) | (with_reducible exact Below.refl _ _) | ((with_reducible refine below_setr ?_ ?_); focus (first | (simp; done) | (simp; omega) | omega)) | ((with_reducible refine below_allocr ?_ ?_); focus (first | (simp; done) | (simp; omega) | omega)) | (with_reducible refine Below.drew ?_) | (with_reducible refine below_drewN ?_ _) | ((with_reducible apply below_via); focus (with_reducible assumption)))), fun i hi => ?_⟩
          rcases Nat.lt_or_ge i j with h1 | h1
          · exact HFI.out i h1
          · obtain rfl : i = j := by omega
            exact HJ.out
        case measure => simp [intOf]; omega
      · have e1 : ((j : Int) != (k : Int)) = true := by simp; omega
        have hjk3 : j < k := by omega
        have hE : placesE (l.map Note.d) = 5 := by
          obtain ⟨hjl, hd, hs⟩ := atN_some HJ.out
          exact placesE_dup hjk3 (by simpa using hlt) (by rw [at!_eq hjl]; exact hd) (by rw [at!_eq hjl]; exact hs)
        have HE := Lib.hid hE
        clear hE
        go_wp2_with fail
        go_ret
        exact ⟨ret_int HE.out.symm, (by repeat (first | (with_reducible exact hbel) | (with_reducible exact Below.refl _ _) | ((with_reducible refine below_setr ?_ ?_); focus (first | (simp; done) | (simp; omega) | omega)) | ((with_reducible refine below_allocr ?_ ?_); focus (first | (simp; done) | (simp; omega) | omega)) | (with_reducible refine Below.drew ?_) | (with_reducible refine below_drewN ?_ _) | ((with_reducible apply below_via); focus (with_reducible assumption))))⟩
    · obtain rfl : k = l.length := by omega
      have hap : (l.map Note.d).Pairwise ApartN := first_apart (fun j hj => HFI.out j (by simpa using hj))
      have HAP := Lib.hid hap
      have HB := Lib.hid hbel
      clear HFI hap hbel hlt
      go_wp2_with fail
      obtain ⟨wo, hwo⟩ : ∃ x, x = wr := ⟨_, rfl⟩
      subst hwo
      go_loopw [4] (fun i wr => ∃ (k : Nat), k ≤ l.length ∧ i = .int .i64 k ∧ Below w.heap.size w wr ∧ (∀ j n, j < k → l[j]? = some n → missOne (l.map Note.d) n.d = false)) (fun i _ => l.length - (intOf i).toNat)
      case atStart => exact ⟨0, by omega, rfl, HB.out, fun j n hj => absurd hj (Nat.not_lt_zero _)⟩
      case round =>
        obtain ⟨k, hk, rfl, hbel, hms⟩ := hrel
        have HMS := Lib.hid hms
        clear hms
        by_cases hlt : k < l.length
        · have hra : Rd (· < wr.heap.size) 5 Note.enc wr ⟨A, c, l⟩ := HR.out.1.below' hbel (Nat.le_refl _)
          obtain ⟨b, o, rfl, hb, hcl⟩ := HR.out.1.at1 hlt
          have HCL := Lib.hid hcl
          obtain ⟨g0, g1, g2, g3, g4⟩ := Cells.c5 (hcl.keep (hbel.block b hb))
          have hxk : l[k]? = some l[k] := List.getElem?_eq_getElem hlt
          have hxm : l[k].d ∈ l.map Note.d := List.mem_map_of_mem (f := Note.d) (List.getElem_mem hlt)
          have hxr := HALL.out _ (List.getElem_mem hlt)
          have hxa := HR.out.2 _ (List.getElem_mem hlt)
          clear hcl
          generalize l[k] = x at *
          obtain ⟨xd, xq, ⟨xA, xc, xl⟩, xt, xx⟩ := x
          have hrg := right_rng hxr
          simp only [Note.d] at hrg
          have HXK := Lib.hid hxk
          have HXM := Lib.hid hxm
          have HXR := Lib.hid hxr
          have HXA := Lib.hid hxa
          have hw1 : IntKind.i64.wrap (xq - 1) = xq - 1 := by rw [IntKind.wrap_i64]; omega
          have hAt : Calls Try.prog 84 #[.slice (some ⟨b, o, none⟩) l.length c, .int .i64 xd, .int .i64 (xq - 1)] wr.drew fun e w' => e = .returned (.int .i64 (oi (atN (l.map Note.d) xd (xq - 1)))) ∧ wr.drew = w' := rAt ⟨some ⟨b, o, none⟩, c, l⟩ xd (xq - 1) wr.drew hra
          clear hxk hxm hxr hxa hra
          by_cases hq0 : 0 < xq
          · have e1 : decide (0 < xq) = true := by simp [hq0]
            go_wp2_with fail
            refine wp_region_T (fun w' => (w'.cell? ⟨b, o + k * 5, none⟩ = some (.int .i64 xd) ∧ w'.cell? ⟨b, o + k * 5 + 1, none⟩ = some (.int .i64 xq) ∧ w'.cell? ⟨b, o + k * 5 + 2, none⟩ = some (.slice xA xl.length xc) ∧ w'.cell? ⟨b, o + k * 5 + 3, none⟩ = some (.int .i64 xt) ∧ w'.cell? ⟨b, o + k * 5 + 4, none⟩ = some (.string xx))) (fun _ => false) (by kernel_rfl) ⟨g0, g1, g2, g3, g4⟩ (fun hHeld => ?_)
            refine wpAnyT_take2 (i := 0) (v := ?_) rfl rfl (by kernel_rfl) (by kernel_rfl) (by kernel_rfl) (by kernel_rfl) (fun _ _ _ h => h) (Or.inl ⟨by rfl, ?_⟩) (by first | assumption | trivial) ?_
            rotate_left
            · (intro w hSw; (try dsimp only at hSw); go_simp) <;> (with_reducible rfl)
            simp only [List.setIfInBounds_toArray, List.set_cons_zero, List.set_cons_succ]
            refine wpAnyT_take2 (i := 1) (v := ?_) rfl rfl (by kernel_rfl) (by kernel_rfl) (by kernel_rfl) (by kernel_rfl) (fun _ _ _ h => h) (Or.inl ⟨by rfl, ?_⟩) (by first | assumption | trivial) ?_
            rotate_left
            · (intro w hSw; (try dsimp only at hSw); go_simp) <;> (with_reducible rfl)
            simp only [List.setIfInBounds_toArray, List.set_cons_zero, List.set_cons_succ]
            refine wpAnyT_take2 (i := 2) (v := ?_) rfl rfl (by kernel_rfl) (by kernel_rfl) (by kernel_rfl) (by kernel_rfl) (fun _ _ _ h => h) (Or.inl ⟨by rfl, ?_⟩) (by first | assumption | trivial) ?_
            rotate_left
            · (intro w hSw; (try dsimp only at hSw); go_simp) <;> (with_reducible rfl)
            simp only [List.setIfInBounds_toArray, List.set_cons_zero, List.set_cons_succ]
            refine wpAnyT_take2 (i := 3) (v := ?_) rfl rfl (by kernel_rfl) (by kernel_rfl) (by kernel_rfl) (by kernel_rfl) (fun _ _ _ h => h) (Or.inl ⟨by rfl, ?_⟩) (by first | assumption | trivial) ?_
            rotate_left
            · (intro w hSw; (try dsimp only at hSw); go_simp) <;> (with_reducible rfl)
            simp only [List.setIfInBounds_toArray, List.set_cons_zero, List.set_cons_succ]
            refine wpAnyT_take2 (i := 4) (v := ?_) rfl rfl (by kernel_rfl) (by kernel_rfl) (by kernel_rfl) (by kernel_rfl) (fun _ _ _ h => h) (Or.inl ⟨by rfl, ?_⟩) (by first | assumption | trivial) ?_
            rotate_left
            · (intro w hSw; (try dsimp only at hSw); go_simp) <;> (with_reducible rfl)
            simp only [List.setIfInBounds_toArray, List.set_cons_zero, List.set_cons_succ]
            refine wpAnyT_take2 (i := 5) (v := ?_) rfl rfl (by kernel_rfl) (by kernel_rfl) (by kernel_rfl) (by kernel_rfl) (fun _ _ _ h => h) (Or.inl ⟨by rfl, ?_⟩) (by first | assumption | trivial) ?_
            rotate_left
            · (intro w hSw; (try dsimp only at hSw); go_simp) <;> (with_reducible rfl)
            simp only [List.setIfInBounds_toArray, List.set_cons_zero, List.set_cons_succ]
            refine wpAnyT_take2 (i := 6) (v := ?_) rfl rfl (by kernel_rfl) (by kernel_rfl) (by kernel_rfl) (by kernel_rfl) (fun _ _ _ h => h) (Or.inl ⟨by rfl, ?_⟩) (by first | assumption | trivial) ?_
            rotate_left
            · (intro w hSw; (try dsimp only at hSw); go_simp) <;> (with_reducible rfl)
            simp only [List.setIfInBounds_toArray, List.set_cons_zero, List.set_cons_succ]
            refine wpAnyT_take2 (i := 7) (v := ?_) rfl rfl (by kernel_rfl) (by kernel_rfl) (by kernel_rfl) (by kernel_rfl) (fun _ _ _ h => h) (Or.inl ⟨by rfl, ?_⟩) (by first | assumption | trivial) ?_
            rotate_left
            · (intro w hSw; (try dsimp only at hSw); go_simp) <;> (with_reducible rfl)
            simp only [List.setIfInBounds_toArray, List.set_cons_zero, List.set_cons_succ]
            refine wpAnyT_take2 (i := 8) (v := ?_) rfl rfl (by kernel_rfl) (by kernel_rfl) (by kernel_rfl) (by kernel_rfl) (fun _ _ _ h => h) (Or.inl ⟨by rfl, ?_⟩) (by first | assumption | trivial) ?_
            rotate_left
            · (intro w hSw; (try dsimp only at hSw); go_simp) <;> (with_reducible rfl)
            simp only [List.setIfInBounds_toArray, List.set_cons_zero, List.set_cons_succ]
            refine wpAnyT_take2 (i := 9) (v := ?_) rfl rfl (by kernel_rfl) (by kernel_rfl) (by kernel_rfl) (by kernel_rfl) (fun _ _ _ h => h) (Or.inl ⟨by rfl, ?_⟩) (by first | assumption | trivial) ?_
            rotate_left
            · (intro w hSw; (try dsimp only at hSw); go_simp) <;> (with_reducible rfl)
            simp only [List.setIfInBounds_toArray, List.set_cons_zero, List.set_cons_succ]
            refine wpAnyT_take2 (i := 10) (v := ?_) rfl rfl (by kernel_rfl) (by kernel_rfl) (by kernel_rfl) (by kernel_rfl) (fun _ _ _ h => h) (Or.inl ⟨by rfl, ?_⟩) (by first | assumption | trivial) ?_
            rotate_left
            · (intro w hSw; (try dsimp only at hSw); go_simp) <;> (with_reducible rfl)
            simp only [List.setIfInBounds_toArray, List.set_cons_zero, List.set_cons_succ]
            refine wpAnyT_take2 (i := 11) (v := ?_) rfl rfl (by kernel_rfl) (by kernel_rfl) (by kernel_rfl) (by kernel_rfl) (fun _ _ _ h => h) (Or.inl ⟨by rfl, ?_⟩) (by first | assumption | trivial) ?_
            rotate_left
            · (intro w hSw; (try dsimp only at hSw); go_simp) <;> (with_reducible rfl)
            simp only [List.setIfInBounds_toArray, List.set_cons_zero, List.set_cons_succ]
            refine wpAnyT_take2 (i := 12) (v := ?_) rfl rfl (by kernel_rfl) (by kernel_rfl) (by kernel_rfl) (by kernel_rfl) (fun _ _ _ h => h) (Or.inl ⟨by rfl, ?_⟩) (by first | assumption | trivial) ?_
            rotate_left
            · (intro w hSw; (try dsimp only at hSw); go_simp) <;> (with_reducible rfl)
            simp only [List.setIfInBounds_toArray, List.set_cons_zero, List.set_cons_succ]
            refine wpAnyT_take2 (i := 13) (v := ?_) rfl rfl (by kernel_rfl) (by kernel_rfl) (by kernel_rfl) (by kernel_rfl) (fun _ _ _ h => h) (Or.inl ⟨by rfl, ?_⟩) (by first | assumption | trivial) ?_
            rotate_left
            · (intro w hSw; (try dsimp only at hSw); go_simp) <;> (with_reducible rfl)
            simp only [List.setIfInBounds_toArray, List.set_cons_zero, List.set_cons_succ]
            refine wpAnyT_take2 (i := 14) (v := ?_) rfl rfl (by kernel_rfl) (by kernel_rfl) (by kernel_rfl) (by kernel_rfl) (fun _ _ _ h => h) (Or.inl ⟨by rfl, ?_⟩) (by first | assumption | trivial) ?_
            rotate_left
            · (intro w hSw; (try dsimp only at hSw); go_simp) <;> (with_reducible rfl)
            simp only [List.setIfInBounds_toArray, List.set_cons_zero, List.set_cons_succ]
            refine wpAnyT_take2 (i := 15) (v := ?_) rfl rfl (by kernel_rfl) (by kernel_rfl) (by kernel_rfl) (by kernel_rfl) (fun _ _ _ h => h) (Or.inl ⟨by rfl, ?_⟩) (by first | assumption | trivial) ?_
            rotate_left
            · (intro w hSw; (try dsimp only at hSw); go_simp) <;> (with_reducible rfl)
            simp only [List.setIfInBounds_toArray, List.set_cons_zero, List.set_cons_succ]
            refine wpAnyT_take2 (i := 16) (v := ?_) rfl rfl (by kernel_rfl) (by kernel_rfl) (by kernel_rfl) (by kernel_rfl) (fun _ _ _ h => h) (Or.inl ⟨by rfl, ?_⟩) (by first | assumption | trivial) ?_
            rotate_left
            · (intro w hSw; (try dsimp only at hSw); go_simp) <;> (with_reducible rfl)
            simp only [List.setIfInBounds_toArray, List.set_cons_zero, List.set_cons_succ]
            refine wpAnyT_take2 (i := 17) (v := ?_) rfl rfl (by kernel_rfl) (by kernel_rfl) (by kernel_rfl) (by kernel_rfl) (fun _ _ _ h => h) (Or.inl ⟨by rfl, ?_⟩) (by first | assumption | trivial) ?_
            rotate_left
            · (intro w hSw; (try dsimp only at hSw); go_simp) <;> (with_reducible rfl)
            simp only [List.setIfInBounds_toArray, List.set_cons_zero, List.set_cons_succ]
            refine wpAnyT_take2 (i := 18) (v := ?_) rfl rfl (by kernel_rfl) (by kernel_rfl) (by kernel_rfl) (by kernel_rfl) (fun _ _ _ h => h) (Or.inl ⟨by rfl, ?_⟩) (by first | assumption | trivial) ?_
            rotate_left
            · (intro w hSw; (try dsimp only at hSw); go_simp) <;> (with_reducible rfl)
            simp only [List.setIfInBounds_toArray, List.set_cons_zero, List.set_cons_succ]
            refine wpAnyT_next (i := 19) (by kernel_rfl) rfl ?_
            go_wp2_with fail
            refine hAt.mono ?_
            rintro e w5 ⟨rfl, rfl⟩
            clear hAt
            rcases hat : atN (l.map Note.d) xd (xq - 1) with _ | j
            · have hE : placesE (l.map Note.d) = 18 := placesE_miss HAP.out HXM.out (missOne_a hq0 (atN_any.1 hat))
              have HE := Lib.hid hE
              clear hE hat
              simp only [oi]
              go_wp2_with fail
              refine ⟨(by first | exact hHeld | exact fun _ => hHeld), ?_⟩
              refine wpAnyT_take2 (i := 20) (v := ?_) rfl rfl (by kernel_rfl) (by kernel_rfl) (by kernel_rfl) (by kernel_rfl) (fun _ _ _ h => h) (Or.inl ⟨by rfl, ?_⟩) (by first | assumption | trivial) ?_
              rotate_left
              · (intro w hSw; (try dsimp only at hSw); go_simp) <;> (with_reducible rfl)
              simp only [List.setIfInBounds_toArray, List.set_cons_zero, List.set_cons_succ]
              refine wpAnyT_take2 (i := 21) (v := ?_) rfl rfl (by kernel_rfl) (by kernel_rfl) (by kernel_rfl) (by kernel_rfl) (fun _ _ _ h => h) (Or.inl ⟨by rfl, ?_⟩) (by first | assumption | trivial) ?_
              rotate_left
              · (intro w hSw; (try dsimp only at hSw); go_simp) <;> (with_reducible rfl)
              simp only [List.setIfInBounds_toArray, List.set_cons_zero, List.set_cons_succ]
              refine wpAnyT_done (by kernel_rfl) ?_ _
              clear hHeld
              go_wp2_with fail
              go_ret
              exact ⟨ret_int HE.out.symm, (by repeat (first | (with_reducible exact hbel) | (with_reducible exact Below.refl _ _) | ((with_reducible refine below_setr ?_ ?_); focus (first | (simp; done) | (simp; omega) | omega)) | ((with_reducible refine below_allocr ?_ ?_); focus (first | (simp; done) | (simp; omega) | omega)) | (with_reducible refine Below.drew ?_) | (with_reducible refine below_drewN ?_ _) | ((with_reducible apply below_via); focus (with_reducible assumption))))⟩
            · have hno : ¬ (0 < (Note.d ⟨xd, xq, ⟨xA, xc, xl⟩, xt, xx⟩).seq ∧ (l.map Note.d).any (isK (Note.d ⟨xd, xq, ⟨xA, xc, xl⟩, xt, xx⟩).dev ((Note.d ⟨xd, xq, ⟨xA, xc, xl⟩, xt, xx⟩).seq - 1)) = false) := by
                rintro ⟨_, h⟩
                rw [← atN_any] at h
                have h2 : atN (l.map Note.d) xd (xq - 1) = none := h
                rw [hat] at h2; cases h2
              have HNO := Lib.hid hno
              clear hno hat
              have e2 : ¬ ((j : Int) < 0) := by omega
              simp only [oi]
              go_wp2_with fail
              refine ⟨(by first | exact hHeld | exact fun _ => hHeld), ?_⟩
              refine wpAnyT_take2 (i := 20) (v := ?_) rfl rfl (by kernel_rfl) (by kernel_rfl) (by kernel_rfl) (by kernel_rfl) (fun _ _ _ h => h) (Or.inl ⟨by rfl, ?_⟩) (by first | assumption | trivial) ?_
              rotate_left
              · (intro w hSw; (try dsimp only at hSw); go_simp) <;> (with_reducible rfl)
              simp only [List.setIfInBounds_toArray, List.set_cons_zero, List.set_cons_succ]
              refine wpAnyT_take2 (i := 21) (v := ?_) rfl rfl (by kernel_rfl) (by kernel_rfl) (by kernel_rfl) (by kernel_rfl) (fun _ _ _ h => h) (Or.inl ⟨by rfl, ?_⟩) (by first | assumption | trivial) ?_
              rotate_left
              · (intro w hSw; (try dsimp only at hSw); go_simp) <;> (with_reducible rfl)
              simp only [List.setIfInBounds_toArray, List.set_cons_zero, List.set_cons_succ]
              refine wpAnyT_done (by kernel_rfl) ?_ _
              clear hHeld g0 g1 g2 g3 g4
              go_wp2_with fail
              have hbd : Below w.heap.size w wr.drew := Below.drew hbel
              obtain ⟨wq, hwq⟩ : ∃ x, x = wr.drew := ⟨_, rfl⟩
              rw [← hwq] at hbd
              rw [← hwq]
              have HBD := Lib.hid hbd
              clear hbd hwq
              go_loopw [5] (fun i wr => ∃ (m : Nat), m ≤ xl.length ∧ i = .int .i64 m ∧ Below w.heap.size w wr ∧ (∀ m' : Nat, m' < m → ¬ (0 < seenN xl m' ∧ (l.map Note.d).any (isK m' (seenN xl m' - 1)) = false))) (fun i _ => xl.length - (intOf i).toNat)
              case atStart => exact ⟨0, by omega, rfl, HBD.out, fun m' hm' => absurd hm' (Nat.not_lt_zero _)⟩
              case round =>
                obtain ⟨m, hm, rfl, hbm, hnm⟩ := hrel
                have HNM := Lib.hid hnm
                clear hnm
                obtain ⟨g0, g1, g2, g3, g4⟩ := Cells.c5 (HCL.out.keep (hbm.block b hb))
                have hra : Rd (· < wr.heap.size) 5 Note.enc wr ⟨some ⟨b, o, none⟩, c, l⟩ := HR.out.1.below' hbm (Nat.le_refl _)
                by_cases hml : m < xl.length
                · have hxa2 := HXA.out
                  try simp only at hxa2
                  obtain ⟨bx, ox, hA, hbx, hcx⟩ := hxa2.at1 hml
                  have q0 := (hcx.keep (hbm.block bx hbx)).c1
                  simp only [Nat.mul_one] at q0
                  have hsv : seenN xl m = xl[m] := seenN_at hml
                  have hsr := seen_rng HXR.out m
                  simp only [Note.d] at hsr
                  rw [hsv] at hsr
                  try simp only at hA
                  subst hA
                  clear hcx
                  try simp only at q0
                  generalize xl[m] = v at *
                  have HSV := Lib.hid hsv
                  clear hsv
                  have hw2 : IntKind.i64.wrap (v - 1) = v - 1 := by rw [IntKind.wrap_i64]; omega
                  have hAt : Calls Try.prog 84 #[.slice (some ⟨b, o, none⟩) l.length c, .int .i64 (m : Int), .int .i64 (v - 1)] wr fun e w' => e = .returned (.int .i64 (oi (atN (l.map Note.d) m (v - 1)))) ∧ wr = w' := rAt ⟨some ⟨b, o, none⟩, c, l⟩ m (v - 1) wr hra
                  by_cases hv0 : 0 < v
                  · rcases hat : atN (l.map Note.d) m (v - 1) with _ | j
                    · rw [hat] at hAt
                      simp only [oi] at hAt
                      have hE : placesE (l.map Note.d) = 18 := placesE_miss HAP.out HXM.out (missOne_b (k := m) hml (by show 0 < seenN xl m; rw [HSV.out]; exact hv0) (by show (l.map Note.d).any (isK m (seenN xl m - 1)) = false; rw [HSV.out]; exact atN_any.1 hat))
                      have HE := Lib.hid hE
                      clear hE hat
                      go_wp2_with (go_at_call 84; refine hAt.mono ?_; rintro e w' ⟨rfl, rfl⟩)
                      go_ret
                      exact ⟨ret_int HE.out.symm, hbm⟩
                    · rw [hat] at hAt
                      simp only [oi] at hAt
                      have hok : ¬ (0 < seenN xl m ∧ (l.map Note.d).any (isK m (seenN xl m - 1)) = false) := by
                        rw [HSV.out]
                        rintro ⟨_, h⟩
                        rw [← atN_any, hat] at h; cases h
                      have HOK := Lib.hid hok
                      clear hok hat
                      go_wp2_with (go_at_call 84; refine hAt.mono ?_; rintro e w' ⟨rfl, rfl⟩)
                      go_roundw
                      case rel =>
                        refine ⟨m + 1, by omega, by go_num, hbm, fun m' hm' => ?_⟩
                        rcases Nat.lt_or_ge m' m with h1 | h1
                        · exact HNM.out m' h1
                        · obtain rfl : m' = m := by omega
                          exact HOK.out
                      case measure => simp [intOf]; omega
                  · have hok : ¬ (0 < seenN xl m ∧ (l.map Note.d).any (isK m (seenN xl m - 1)) = false) := by rw [HSV.out]; exact fun h => hv0 h.1
                    have HOK := Lib.hid hok
                    clear hok hAt
                    go_wp2_with fail
                    go_roundw
                    case rel =>
                      refine ⟨m + 1, by omega, by go_num, hbm, fun m' hm' => ?_⟩
                      rcases Nat.lt_or_ge m' m with h1 | h1
                      · exact HNM.out m' h1
                      · obtain rfl : m' = m := by omega
                        exact HOK.out
                    case measure => simp [intOf]; omega
                · have hmo : missOne (l.map Note.d) (Note.d ⟨xd, xq, ⟨xA, xc, xl⟩, xt, xx⟩) = false := missOne_no HNO.out (fun k' hk' => HNM.out k' (by simp only [Note.d] at hk'; omega))
                  have HMO := Lib.hid hmo
                  clear hmo hra
                  go_wp2_with fail
                  go_roundw
                  case rel =>
                    refine ⟨k + 1, by omega, by go_num, hbm, fun j n hj hn => ?_⟩
                    rcases Nat.lt_or_ge j k with h1 | h1
                    · exact HMS.out j n h1 hn
                    · obtain rfl : j = k := by omega
                      rw [HXK.out] at hn; injection hn with hn; subst hn; exact HMO.out
                  case measure => simp [intOf]; omega
          · have hno : ¬ (0 < (Note.d ⟨xd, xq, ⟨xA, xc, xl⟩, xt, xx⟩).seq ∧ (l.map Note.d).any (isK (Note.d ⟨xd, xq, ⟨xA, xc, xl⟩, xt, xx⟩).dev ((Note.d ⟨xd, xq, ⟨xA, xc, xl⟩, xt, xx⟩).seq - 1)) = false) := fun h => hq0 h.1
            have HNO := Lib.hid hno
            clear hno hAt
            have e1 : decide (0 < xq) = false := by simp; omega
            go_wp2_with fail
            refine wp_region_T (fun w' => (w'.cell? ⟨b, o + k * 5, none⟩ = some (.int .i64 xd) ∧ w'.cell? ⟨b, o + k * 5 + 1, none⟩ = some (.int .i64 xq) ∧ w'.cell? ⟨b, o + k * 5 + 2, none⟩ = some (.slice xA xl.length xc) ∧ w'.cell? ⟨b, o + k * 5 + 3, none⟩ = some (.int .i64 xt) ∧ w'.cell? ⟨b, o + k * 5 + 4, none⟩ = some (.string xx))) (fun _ => false) (by kernel_rfl) ⟨g0, g1, g2, g3, g4⟩ (fun hHeld => ?_)
            refine wpAnyT_take2 (i := 0) (v := ?_) rfl rfl (by kernel_rfl) (by kernel_rfl) (by kernel_rfl) (by kernel_rfl) (fun _ _ _ h => h) (Or.inl ⟨by rfl, ?_⟩) (by first | assumption | trivial) ?_
            rotate_left
            · (intro w hSw; (try dsimp only at hSw); go_simp) <;> (with_reducible rfl)
            simp only [List.setIfInBounds_toArray, List.set_cons_zero, List.set_cons_succ]
            refine wpAnyT_take2 (i := 1) (v := ?_) rfl rfl (by kernel_rfl) (by kernel_rfl) (by kernel_rfl) (by kernel_rfl) (fun _ _ _ h => h) (Or.inl ⟨by rfl, ?_⟩) (by first | assumption | trivial) ?_
            rotate_left
            · (intro w hSw; (try dsimp only at hSw); go_simp) <;> (with_reducible rfl)
            simp only [List.setIfInBounds_toArray, List.set_cons_zero, List.set_cons_succ]
            refine wpAnyT_take2 (i := 2) (v := ?_) rfl rfl (by kernel_rfl) (by kernel_rfl) (by kernel_rfl) (by kernel_rfl) (fun _ _ _ h => h) (Or.inl ⟨by rfl, ?_⟩) (by first | assumption | trivial) ?_
            rotate_left
            · (intro w hSw; (try dsimp only at hSw); go_simp) <;> (with_reducible rfl)
            simp only [List.setIfInBounds_toArray, List.set_cons_zero, List.set_cons_succ]
            refine wpAnyT_take2 (i := 3) (v := ?_) rfl rfl (by kernel_rfl) (by kernel_rfl) (by kernel_rfl) (by kernel_rfl) (fun _ _ _ h => h) (Or.inl ⟨by rfl, ?_⟩) (by first | assumption | trivial) ?_
            rotate_left
            · (intro w hSw; (try dsimp only at hSw); go_simp) <;> (with_reducible rfl)
            simp only [List.setIfInBounds_toArray, List.set_cons_zero, List.set_cons_succ]
            refine wpAnyT_take2 (i := 4) (v := ?_) rfl rfl (by kernel_rfl) (by kernel_rfl) (by kernel_rfl) (by kernel_rfl) (fun _ _ _ h => h) (Or.inl ⟨by rfl, ?_⟩) (by first | assumption | trivial) ?_
            rotate_left
            · (intro w hSw; (try dsimp only at hSw); go_simp) <;> (with_reducible rfl)
            simp only [List.setIfInBounds_toArray, List.set_cons_zero, List.set_cons_succ]
            refine wpAnyT_take2 (i := 5) (v := .bool false) rfl rfl (by kernel_rfl) (by kernel_rfl) (by kernel_rfl) (by kernel_rfl) (fun _ _ _ h => h) (Or.inl ⟨by rfl, ?_⟩) (by first | assumption | trivial) ?_
            · (intro w hSw; (try dsimp only at hSw); go_simp) <;> (first | (with_reducible rfl) | assumption | (simp; done) | (simp [*]; done) | (simp; omega))
            simp only [List.setIfInBounds_toArray, List.set_cons_zero, List.set_cons_succ]
            refine wpAnyT_take2 (i := 6) (v := ?_) rfl rfl (by kernel_rfl) (by kernel_rfl) (by kernel_rfl) (by kernel_rfl) (fun _ _ _ h => h) (Or.inl ⟨by rfl, ?_⟩) (by first | assumption | trivial) ?_
            rotate_left
            · (intro w hSw; (try dsimp only at hSw); go_simp) <;> (with_reducible rfl)
            simp only [List.setIfInBounds_toArray, List.set_cons_zero, List.set_cons_succ]
            refine wpAnyT_take2 (i := 7) (v := undef) rfl rfl (by kernel_rfl) (by kernel_rfl) (by kernel_rfl) (by kernel_rfl) (fun _ _ _ h => h) (Or.inr ⟨by rfl, rfl⟩) (by first | assumption | trivial) ?_
            simp only [List.setIfInBounds_toArray, List.set_cons_zero, List.set_cons_succ]
            refine wpAnyT_take2 (i := 8) (v := undef) rfl rfl (by kernel_rfl) (by kernel_rfl) (by kernel_rfl) (by kernel_rfl) (fun _ _ _ h => h) (Or.inr ⟨by rfl, rfl⟩) (by first | assumption | trivial) ?_
            simp only [List.setIfInBounds_toArray, List.set_cons_zero, List.set_cons_succ]
            refine wpAnyT_take2 (i := 9) (v := undef) rfl rfl (by kernel_rfl) (by kernel_rfl) (by kernel_rfl) (by kernel_rfl) (fun _ _ _ h => h) (Or.inr ⟨by rfl, rfl⟩) (by first | assumption | trivial) ?_
            simp only [List.setIfInBounds_toArray, List.set_cons_zero, List.set_cons_succ]
            refine wpAnyT_take2 (i := 10) (v := undef) rfl rfl (by kernel_rfl) (by kernel_rfl) (by kernel_rfl) (by kernel_rfl) (fun _ _ _ h => h) (Or.inr ⟨by rfl, rfl⟩) (by first | assumption | trivial) ?_
            simp only [List.setIfInBounds_toArray, List.set_cons_zero, List.set_cons_succ]
            refine wpAnyT_take2 (i := 11) (v := undef) rfl rfl (by kernel_rfl) (by kernel_rfl) (by kernel_rfl) (by kernel_rfl) (fun _ _ _ h => h) (Or.inr ⟨by rfl, rfl⟩) (by first | assumption | trivial) ?_
            simp only [List.setIfInBounds_toArray, List.set_cons_zero, List.set_cons_succ]
            refine wpAnyT_take2 (i := 12) (v := undef) rfl rfl (by kernel_rfl) (by kernel_rfl) (by kernel_rfl) (by kernel_rfl) (fun _ _ _ h => h) (Or.inr ⟨by rfl, rfl⟩) (by first | assumption | trivial) ?_
            simp only [List.setIfInBounds_toArray, List.set_cons_zero, List.set_cons_succ]
            refine wpAnyT_take2 (i := 13) (v := undef) rfl rfl (by kernel_rfl) (by kernel_rfl) (by kernel_rfl) (by kernel_rfl) (fun _ _ _ h => h) (Or.inr ⟨by rfl, rfl⟩) (by first | assumption | trivial) ?_
            simp only [List.setIfInBounds_toArray, List.set_cons_zero, List.set_cons_succ]
            refine wpAnyT_take2 (i := 14) (v := undef) rfl rfl (by kernel_rfl) (by kernel_rfl) (by kernel_rfl) (by kernel_rfl) (fun _ _ _ h => h) (Or.inr ⟨by rfl, rfl⟩) (by first | assumption | trivial) ?_
            simp only [List.setIfInBounds_toArray, List.set_cons_zero, List.set_cons_succ]
            refine wpAnyT_take2 (i := 15) (v := undef) rfl rfl (by kernel_rfl) (by kernel_rfl) (by kernel_rfl) (by kernel_rfl) (fun _ _ _ h => h) (Or.inr ⟨by rfl, rfl⟩) (by first | assumption | trivial) ?_
            simp only [List.setIfInBounds_toArray, List.set_cons_zero, List.set_cons_succ]
            refine wpAnyT_take2 (i := 16) (v := undef) rfl rfl (by kernel_rfl) (by kernel_rfl) (by kernel_rfl) (by kernel_rfl) (fun _ _ _ h => h) (Or.inr ⟨by rfl, rfl⟩) (by first | assumption | trivial) ?_
            simp only [List.setIfInBounds_toArray, List.set_cons_zero, List.set_cons_succ]
            refine wpAnyT_take2 (i := 17) (v := undef) rfl rfl (by kernel_rfl) (by kernel_rfl) (by kernel_rfl) (by kernel_rfl) (fun _ _ _ h => h) (Or.inr ⟨by rfl, rfl⟩) (by first | assumption | trivial) ?_
            simp only [List.setIfInBounds_toArray, List.set_cons_zero, List.set_cons_succ]
            refine wpAnyT_take2 (i := 18) (v := undef) rfl rfl (by kernel_rfl) (by kernel_rfl) (by kernel_rfl) (by kernel_rfl) (fun _ _ _ h => h) (Or.inr ⟨by rfl, rfl⟩) (by first | assumption | trivial) ?_
            simp only [List.setIfInBounds_toArray, List.set_cons_zero, List.set_cons_succ]
            refine wpAnyT_take2 (i := 19) (v := undef) rfl rfl (by kernel_rfl) (by kernel_rfl) (by kernel_rfl) (by kernel_rfl) (fun _ _ _ h => h) (Or.inr ⟨by rfl, rfl⟩) (by first | assumption | trivial) ?_
            simp only [List.setIfInBounds_toArray, List.set_cons_zero, List.set_cons_succ]
            refine wpAnyT_take2 (i := 20) (v := undef) rfl rfl (by kernel_rfl) (by kernel_rfl) (by kernel_rfl) (by kernel_rfl) (fun _ _ _ h => h) (Or.inr ⟨by rfl, rfl⟩) (by first | assumption | trivial) ?_
            simp only [List.setIfInBounds_toArray, List.set_cons_zero, List.set_cons_succ]
            refine wpAnyT_take2 (i := 21) (v := ?_) rfl rfl (by kernel_rfl) (by kernel_rfl) (by kernel_rfl) (by kernel_rfl) (fun _ _ _ h => h) (Or.inl ⟨by rfl, ?_⟩) (by first | assumption | trivial) ?_
            rotate_left
            · (intro w hSw; (try dsimp only at hSw); go_simp) <;> (with_reducible rfl)
            simp only [List.setIfInBounds_toArray, List.set_cons_zero, List.set_cons_succ]
            refine wpAnyT_done (by kernel_rfl) ?_ _
            clear hHeld g0 g1 g2 g3 g4
            go_wp2_with fail
            have hbd : Below w.heap.size w wr.drew := Below.drew hbel
            obtain ⟨wq, hwq⟩ : ∃ x, x = wr.drew := ⟨_, rfl⟩
            rw [← hwq] at hbd
            rw [← hwq]
            have HBD := Lib.hid hbd
            clear hbd hwq
            go_loopw [5] (fun i wr => ∃ (m : Nat), m ≤ xl.length ∧ i = .int .i64 m ∧ Below w.heap.size w wr ∧ (∀ m' : Nat, m' < m → ¬ (0 < seenN xl m' ∧ (l.map Note.d).any (isK m' (seenN xl m' - 1)) = false))) (fun i _ => xl.length - (intOf i).toNat)
            case atStart => exact ⟨0, by omega, rfl, HBD.out, fun m' hm' => absurd hm' (Nat.not_lt_zero _)⟩
            case round =>
              obtain ⟨m, hm, rfl, hbm, hnm⟩ := hrel
              have HNM := Lib.hid hnm
              clear hnm
              obtain ⟨g0, g1, g2, g3, g4⟩ := Cells.c5 (HCL.out.keep (hbm.block b hb))
              have hra : Rd (· < wr.heap.size) 5 Note.enc wr ⟨some ⟨b, o, none⟩, c, l⟩ := HR.out.1.below' hbm (Nat.le_refl _)
              by_cases hml : m < xl.length
              · have hxa2 := HXA.out
                try simp only at hxa2
                obtain ⟨bx, ox, hA, hbx, hcx⟩ := hxa2.at1 hml
                have q0 := (hcx.keep (hbm.block bx hbx)).c1
                simp only [Nat.mul_one] at q0
                have hsv : seenN xl m = xl[m] := seenN_at hml
                have hsr := seen_rng HXR.out m
                simp only [Note.d] at hsr
                rw [hsv] at hsr
                try simp only at hA
                subst hA
                clear hcx
                try simp only at q0
                generalize xl[m] = v at *
                have HSV := Lib.hid hsv
                clear hsv
                have hw2 : IntKind.i64.wrap (v - 1) = v - 1 := by rw [IntKind.wrap_i64]; omega
                have hAt : Calls Try.prog 84 #[.slice (some ⟨b, o, none⟩) l.length c, .int .i64 (m : Int), .int .i64 (v - 1)] wr fun e w' => e = .returned (.int .i64 (oi (atN (l.map Note.d) m (v - 1)))) ∧ wr = w' := rAt ⟨some ⟨b, o, none⟩, c, l⟩ m (v - 1) wr hra
                by_cases hv0 : 0 < v
                · rcases hat : atN (l.map Note.d) m (v - 1) with _ | j
                  · rw [hat] at hAt
                    simp only [oi] at hAt
                    have hE : placesE (l.map Note.d) = 18 := placesE_miss HAP.out HXM.out (missOne_b (k := m) hml (by show 0 < seenN xl m; rw [HSV.out]; exact hv0) (by show (l.map Note.d).any (isK m (seenN xl m - 1)) = false; rw [HSV.out]; exact atN_any.1 hat))
                    have HE := Lib.hid hE
                    clear hE hat
                    go_wp2_with (go_at_call 84; refine hAt.mono ?_; rintro e w' ⟨rfl, rfl⟩)
                    go_ret
                    exact ⟨ret_int HE.out.symm, hbm⟩
                  · rw [hat] at hAt
                    simp only [oi] at hAt
                    have hok : ¬ (0 < seenN xl m ∧ (l.map Note.d).any (isK m (seenN xl m - 1)) = false) := by
                      rw [HSV.out]
                      rintro ⟨_, h⟩
                      rw [← atN_any, hat] at h; cases h
                    have HOK := Lib.hid hok
                    clear hok hat
                    go_wp2_with (go_at_call 84; refine hAt.mono ?_; rintro e w' ⟨rfl, rfl⟩)
                    go_roundw
                    case rel =>
                      refine ⟨m + 1, by omega, by go_num, hbm, fun m' hm' => ?_⟩
                      rcases Nat.lt_or_ge m' m with h1 | h1
                      · exact HNM.out m' h1
                      · obtain rfl : m' = m := by omega
                        exact HOK.out
                    case measure => simp [intOf]; omega
                · have hok : ¬ (0 < seenN xl m ∧ (l.map Note.d).any (isK m (seenN xl m - 1)) = false) := by rw [HSV.out]; exact fun h => hv0 h.1
                  have HOK := Lib.hid hok
                  clear hok hAt
                  go_wp2_with fail
                  go_roundw
                  case rel =>
                    refine ⟨m + 1, by omega, by go_num, hbm, fun m' hm' => ?_⟩
                    rcases Nat.lt_or_ge m' m with h1 | h1
                    · exact HNM.out m' h1
                    · obtain rfl : m' = m := by omega
                      exact HOK.out
                  case measure => simp [intOf]; omega
              · have hmo : missOne (l.map Note.d) (Note.d ⟨xd, xq, ⟨xA, xc, xl⟩, xt, xx⟩) = false := missOne_no HNO.out (fun k' hk' => HNM.out k' (by simp only [Note.d] at hk'; omega))
                have HMO := Lib.hid hmo
                clear hmo hra
                go_wp2_with fail
                go_roundw
                case rel =>
                  refine ⟨k + 1, by omega, by go_num, hbm, fun j n hj hn => ?_⟩
                  rcases Nat.lt_or_ge j k with h1 | h1
                  · exact HMS.out j n h1 hn
                  · obtain rfl : j = k := by omega
                    rw [HXK.out] at hn; injection hn with hn; subst hn; exact HMO.out
                case measure => simp [intOf]; omega
        · have hE : placesE (l.map Note.d) = 0 := by
            refine placesE_ok HAP.out (fun n hn => ?_)
            obtain ⟨m, hm, rfl⟩ := List.mem_map.1 hn
            obtain ⟨j, hj⟩ := List.getElem?_of_mem hm
            have := (List.getElem?_eq_some_iff.1 hj).1
            exact HMS.out j m (by omega) hj
          have HE := Lib.hid hE
          clear hE
          go_wp2_with fail
          go_ret
          exact ⟨ret_int HE.out.symm, (by repeat (first | (with_reducible exact hbel) | (with_reducible exact Below.refl _ _) | ((with_reducible refine below_setr ?_ ?_); focus (first | (simp; done) | (simp; omega) | omega)) | ((with_reducible refine below_allocr ?_ ?_); focus (first | (simp; done) | (simp; omega) | omega)) | (with_reducible refine Below.drew ?_) | (with_reducible refine below_drewN ?_ _) | ((with_reducible apply below_via); focus (with_reducible assumption))))⟩
end Go.Proofs.Ythnblhbdfpmolaa
