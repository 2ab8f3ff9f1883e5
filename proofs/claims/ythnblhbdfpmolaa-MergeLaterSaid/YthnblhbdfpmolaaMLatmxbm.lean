/- Walk of the reference's Order. -/
import Derived.Test.YthnblhbdfpmolaaMLatmxbk
import Derived.Test.YthnblhbdfpmolaaMLatmxbl
import Derived.Laws.MakeOwn
namespace Go.Proofs.Ythnblhbdfpmolaa
open Go.RowKit
def dbC (n : Nat) (ol : List Nat) : Array Value := ((List.range n).map fun i => Value.bool (decide (i ∈ ol))).toArray
section
variable {w : World} {g n : Nat} {t : TypeId} {ol : List Nat}
theorem db_cell (h : Blk w g t (dbC n ol)) {i : Nat} (hi : i < n) : w.cell? ⟨g, i, none⟩ = some (.bool (decide (i ∈ ol))) := by
  rw [h.cell]
  unfold dbC
  rw [List.getElem?_toArray, List.getElem?_map, List.getElem?_range hi]; rfl
theorem db_set (b : Nat) : (dbC n ol).setIfInBounds b (.bool true) = dbC n (ol ++ [b]) := by
  unfold dbC
  rw [List.setIfInBounds_toArray]
  congr 1
  apply List.ext_getElem?
  intro i
  rw [List.getElem?_set]
  rcases Nat.lt_or_ge i n with hi | hi
  · rw [List.getElem?_map, List.getElem?_map, List.getElem?_range hi]
    split
    · rename_i h; subst h; simp [hi]
    · rename_i h
      have h' : ¬ i = b := fun hc => h hc.symm
      simp [h']
  · rw [List.getElem?_eq_none (by simpa using hi), List.getElem?_eq_none (by simpa using hi)]
    split
    · rename_i h; subst h; simp; omega
    · rfl
end
def rdyU (l : List NoteD) (out : List Nat) (i m : Nat) : Bool := !decide (i ∈ out) && (List.range m).all (fun k => decide (k ∈ out) || !beforeN (at! l k) (at! l i))
theorem rdyU_all {l : List NoteD} {out : List Nat} {i : Nat} : rdyU l out i l.length = rdyR l out i := by unfold rdyU rdyR; simp only [List.contains_eq_mem]
theorem rdyU_zero {l : List NoteD} {out : List Nat} {i : Nat} : rdyU l out i 0 = !decide (i ∈ out) := by unfold rdyU; simp
theorem rdyU_succ {l : List NoteD} {out : List Nat} {i m : Nat} : rdyU l out i (m + 1) = (rdyU l out i m && (decide (m ∈ out) || !beforeN (at! l m) (at! l i))) := by
  unfold rdyU; rw [List.range_succ, List.all_append]; simp [Bool.and_assoc]
theorem rdyU_false {l : List NoteD} {out : List Nat} {i m : Nat} (h : rdyU l out i m = false) : ∀ j, rdyU l out i (m + j) = false
  | 0 => h
  | j + 1 => by rw [show m + (j + 1) = (m + j) + 1 by omega, rdyU_succ, rdyU_false h j]; rfl
theorem rdyR_false {l : List NoteD} {out : List Nat} {i m : Nat} (h : rdyU l out i m = false) (hm : m ≤ l.length) : rdyR l out i = false := by
  have := rdyU_false h (l.length - m)
  rw [show m + (l.length - m) = l.length by omega, rdyU_all] at this
  exact this
def sliceLen : Value → Nat
  | .slice _ n _ => n
  | _ => 0
/-- What the loop of the reference's Order keeps. -/
structure ROState (w w2 wr : World) (L : List NoteD) (k : Nat) (OA : Option Addr) (OC : Nat) (ol : List Nat) : Prop where
  own : Own (w2.heap.size + 1) 3 1 ienc wr ⟨OA, OC, natI ol⟩
  blk : Blk wr w2.heap.size 4 (dbC L.length ol)
  bel : Below w.heap.size w wr
  loop : ordLoopR L L.length [] = ordLoopR L (L.length - k) ol
  olen : ol.length = k
section
variable {w w2 wr : World} {k : Nat} {L : List NoteD} {OA : Option Addr} {OC : Nat} {ol : List Nat}
theorem ROState.below {w4 : World} (h : ROState w w2 wr L k OA OC ol) (hb : Below wr.heap.size wr w4) : ROState w w2 w4 L k OA OC ol where
  own := h.own.below hb
  blk := h.blk.later hb
  bel := h.bel.trans (hb.mono h.bel.size)
  loop := h.loop
  olen := h.olen
theorem ROState.stop (h : ROState w w2 wr L k OA OC ol) (hk : k < L.length) (hb : bestR L ol L.length = none) : ordLoopR L L.length [] = ([], 25) := by
  rw [h.loop, show L.length - k = (L.length - (k + 1)) + 1 by omega, ordLoopR, hb]
theorem ROState.next {w6 : World} {OA' : Option Addr} {OC' b : Nat} (h : ROState w w2 wr L k OA OC ol) (hk : k < L.length) (hb : bestR L ol L.length = some b)
    (hown : Own (w2.heap.size + 1) 3 1 ienc w6 ⟨OA', OC', natI ol ++ [(b : Int)]⟩) (hblk : Blk w6 w2.heap.size 4 (dbC L.length (ol ++ [b]))) (hbel : Below w.heap.size w w6) :
    ROState w w2 w6 L (k + 1) OA' OC' (ol ++ [b]) where
  own := by unfold natI at *; rw [List.map_append]; exact hown
  blk := hblk
  bel := hbel
  loop := by rw [h.loop, show L.length - k = (L.length - (k + 1)) + 1 by omega, ordLoopR, hb]
  olen := by rw [List.length_append, h.olen]; rfl
end
theorem bestR_no {L : List NoteD} {ol : List Nat} {i : Nat} (h : rdyR L ol i = false) : bestR L ol (i + 1) = bestR L ol i := by rw [bestR, h]; rfl
theorem bestR_first {L : List NoteD} {ol : List Nat} {i : Nat} (h : rdyR L ol i = true) (hb : bestR L ol i = none) : bestR L ol (i + 1) = some i := by rw [bestR, h, hb]; rfl
theorem bestR_more {L : List NoteD} {ol : List Nat} {i b : Nat} (h : rdyR L ol i = true) (hb : bestR L ol i = some b) : bestR L ol (i + 1) = if firstN (at! L i) (at! L b) then some i else some b := by
  rw [bestR, h, hb]; simp
theorem bestR_lt {L : List NoteD} {ol : List Nat} : ∀ {D b : Nat}, bestR L ol D = some b → b < D
  | D + 1, b, h => by
    rcases hr : rdyR L ol D
    · rw [bestR_no hr] at h
      exact Nat.lt_succ_of_lt (bestR_lt h)
    · rcases hb : bestR L ol D with _ | c
      · rw [bestR_first hr hb] at h
        injection h with h; omega
      · rw [bestR_more hr hb] at h
        split at h
        · injection h with h; omega
        · injection h with h; subst h; exact Nat.lt_succ_of_lt (bestR_lt hb)
theorem infoBool : Info Try.prog 4 (.bool false) 1 1 := info_mk (by kernel_rfl) rfl
theorem make_bools (n : Nat) (hn : n ≤ 10000) (w : World) : (Instr.makeSlice 129 (.int .i64 (n : Int)) (.int .i64 (n : Int))).run Try.prog w = .ok (.slice (some ⟨w.heap.size, 0, none⟩) n n) (w.alloc (.cells (dbC n []) 4)) := by
  obtain ⟨i, hi, hz, hsize, hby, hzs⟩ := infoBool
  have h := run_makeSlice w 129 4 i _ Try.underlying129 hi hz .i64 .i64 (n : Int) (n : Int) (by omega) (Int.le_refl _) (by rw [hsize]; omega) (by rw [hby]; omega) (by omega)
  have hc : madeCells (Value.bool false).cells n = dbC n [] := by
    unfold dbC madeCells
    apply Array.ext_getElem?
    intro j
    rcases Nat.lt_or_ge j n with hj | hj
    · rw [Array.getElem?_map, Array.getElem?_range, if_pos hj, List.getElem?_toArray, List.getElem?_map, List.getElem?_range hj]
      simp [Value.cells, Nat.mod_one]
    · rw [Array.getElem?_eq_none (by simpa using hj), Array.getElem?_eq_none (by simpa using hj)]
  rw [h, hsize]
  simp only [Int.toNat_natCast, Nat.mul_one, hc]
set_option maxHeartbeats 600000 in
theorem rorder_no (s : Sl Note) (w : World) (hr : RdNotes (· < w.heap.size) w s) (h : notesR (s.l.map Note.d) = false) :
    Calls Try.prog 38 #[.slice s.A s.l.length s.c] w fun e w' => OrderP w (ordN (s.l.map Note.d)) e w' := by
  have hv : ordN (s.l.map Note.d) = ([], 1) := by unfold ordN; rw [h]; rfl
  rw [hv]
  have HR := Lib.hid hr
  have HF := Lib.hid h
  clear hr h hv
  obtain ⟨A, c, l⟩ := s
  simp only
  go_enter Try.func38, Try.ntmps38
  go_wp2_with fail
  refine (rright41 ⟨A, c, l⟩ w HR.out).mono ?_
  rintro e w1 ⟨rfl, hb1⟩
  rw [HF.out]
  go_wp2_with fail
  try simp only [Exit.inBlock, Exit.then]
  refine bodyPost_ret (v := .tuple #[.slice none 0 0, .int .i64 1]) ?_ rfl (OrderP.no (E := 1) rfl rfl (by repeat (first | (with_reducible exact Below.refl _ _) | ((with_reducible refine below_setr ?_ ?_); focus (first | (simp; done) | (simp; omega) | omega)) | ((with_reducible refine below_allocr ?_ ?_); focus (first | (simp; done) | (simp; omega) | omega)) | (with_reducible refine Below.drew ?_) | (with_reducible refine below_drewN ?_ _) | ((with_reducible apply below_via); focus (with_reducible assumption)))))
  simp [results, Try.results38, go_sem, ]
set_option maxHeartbeats 600000 in
theorem rorder_miss (s : Sl Note) (w : World) (hr : RdNotes (· < w.heap.size) w s) (h : notesR (s.l.map Note.d) = true) (hp : placesE (s.l.map Note.d) ≠ 0) :
    Calls Try.prog 38 #[.slice s.A s.l.length s.c] w fun e w' => OrderP w (ordN (s.l.map Note.d)) e w' := by
  have hv : ordN (s.l.map Note.d) = ([], placesE (s.l.map Note.d)) := by unfold ordN; rw [h, if_pos rfl, if_neg hp]
  rw [hv]
  have HR := Lib.hid hr
  have HF := Lib.hid h
  have HP := Lib.hid hp
  clear hr h hv hp
  obtain ⟨A, c, l⟩ := s
  simp only
  go_enter Try.func38, Try.ntmps38
  go_wp2_with fail
  refine (rright41 ⟨A, c, l⟩ w HR.out).mono ?_
  rintro e w1 ⟨rfl, hb1⟩
  rw [HF.out]
  go_wp2_with fail
  refine (rmissing ⟨A, c, l⟩ w1 (HR.out.later hb1 (Nat.le_refl _)) HF.out).mono ?_
  rintro e w2 ⟨rfl, hb2⟩
  have h4 : placesE (l.map Note.d) ≠ 0 := HP.out
  simp only
  generalize hpe : placesE (l.map Note.d) = pe at *
  have HPE := Lib.hid hpe
  have e1 : (pe != 0) = true := by simp [h4]
  have hB2 : Below w.heap.size w w2 := (by repeat (first | (with_reducible exact Below.refl _ _) | ((with_reducible refine below_setr ?_ ?_); focus (first | (simp; done) | (simp; omega) | omega)) | ((with_reducible refine below_allocr ?_ ?_); focus (first | (simp; done) | (simp; omega) | omega)) | (with_reducible refine Below.drew ?_) | (with_reducible refine below_drewN ?_ _) | ((with_reducible apply below_via); focus (with_reducible assumption))))
  clear hb1 hb2 hpe h4
  go_wp2_with fail
  try simp only [Exit.inBlock, Exit.then]
  refine bodyPost_ret (v := .tuple #[.slice none 0 0, .int .i64 pe]) ?_ rfl (OrderP.no (E := pe) rfl (by rw [HPE.out]) hB2)
  simp [results, Try.results38, go_sem, ]
set_option maxHeartbeats 1000000 in
set_option maxRecDepth 100000 in
theorem rorder_yes (s : Sl Note) (w : World) (hr : RdNotes (· < w.heap.size) w s) (h : notesR (s.l.map Note.d) = true) (hp : placesE (s.l.map Note.d) = 0) :
    Calls Try.prog 38 #[.slice s.A s.l.length s.c] w fun e w' => OrderP w (ordN (s.l.map Note.d)) e w' := by
  have hv : ordN (s.l.map Note.d) = ordLoopR (s.l.map Note.d) s.l.length [] := by rw [ordN_R, h, if_pos rfl, if_pos hp, List.length_map]
  rw [hv]
  have hlen : s.l.length ≤ 10000 := by simp only [notesR, Bool.and_eq_true, decide_eq_true_eq, List.length_map] at h; exact h.1
  have HR := Lib.hid hr
  have HF := Lib.hid h
  have HP := Lib.hid hp
  clear hr h hv hp
  obtain ⟨A, c, l⟩ := s
  simp only at hlen
  simp only
  go_enter Try.func38, Try.ntmps38
  go_wp2_with fail
  refine (rright41 ⟨A, c, l⟩ w HR.out).mono ?_
  rintro e w1 ⟨rfl, hb1⟩
  rw [HF.out]
  go_wp2_with fail
  refine (rmissing ⟨A, c, l⟩ w1 (HR.out.later hb1 (Nat.le_refl _)) HF.out).mono ?_
  rintro e w2 ⟨rfl, hb2⟩
  rw [HP.out]
  have hB2 : Below w.heap.size w w2 := (by repeat (first | (with_reducible exact Below.refl _ _) | ((with_reducible refine below_setr ?_ ?_); focus (first | (simp; done) | (simp; omega) | omega)) | ((with_reducible refine below_allocr ?_ ?_); focus (first | (simp; done) | (simp; omega) | omega)) | (with_reducible refine Below.drew ?_) | (with_reducible refine below_drewN ?_ _) | ((with_reducible apply below_via); focus (with_reducible assumption))))
  clear hb1 hb2
  have hmk := make_bools l.length hlen
  go_wp2_with fail
  have hz2 : w.heap.size ≤ w2.heap.size := hB2.size
  clear hmk
  go_loopw [6] (fun o wr => ∃ (k : Nat) (OA : Option Addr) (OC : Nat) (ol : List Nat), k ≤ l.length ∧ o = .slice OA (natI ol).length OC ∧ ROState w w2 wr (l.map Note.d) k OA OC ol) (fun o _ => l.length - sliceLen o)
  case atStart =>
    refine ⟨0, none, 0, [], by omega, rfl, Own.nil _ _ _ _ _, ?_, (by repeat (first | (with_reducible exact hB2) | (with_reducible exact Below.refl _ _) | ((with_reducible refine below_setr ?_ ?_); focus (first | (simp; done) | (simp; omega) | omega)) | ((with_reducible refine below_allocr ?_ ?_); focus (first | (simp; done) | (simp; omega) | omega)) | (with_reducible refine Below.drew ?_) | (with_reducible refine below_drewN ?_ _))), by rw [List.length_map]; rfl, rfl⟩
    rw [List.length_map]; exact Blk.new _ _ _
  case round =>
    obtain ⟨k, OA, OC, ol, hk, rfl, hS⟩ := hrel
    have hnl : (natI ol).length = k := by rw [natI_len]; exact hS.olen
    by_cases hlt : k < l.length
    · have hlt2 : ((natI ol).length : Int) < (l.length : Int) := by omega
      have HS := Lib.hid hS
      have HNL := Lib.hid hnl
      clear hS hnl
      go_wp2_with fail
      obtain ⟨wo, hwo⟩ : ∃ x, x = wr := ⟨_, rfl⟩
      subst hwo
      go_loopw [7, 8] (fun o i' wr => ∃ (i : Nat), i ≤ l.length ∧ i' = .int .i64 i ∧ o = .int .i64 (oi (bestR (l.map Note.d) ol i)) ∧ Below wo.heap.size wo wr) (fun _ i _ => l.length - (intOf i).toNat)
      case atStart => exact ⟨0, by omega, rfl, rfl, Below.refl _ _⟩
      case round =>
        obtain ⟨i, hi, rfl, rfl, hbo⟩ := hrel
        have hT := HS.out.below hbo
        by_cases hil : i < l.length
        · have hil' : (i : Int) < (l.length : Int) := by omega
          have hdi := db_cell hT.blk (show i < (l.map Note.d).length by simpa using hil)
          obtain ⟨b, o, rfl, hb, hcl⟩ := HR.out.1.at1 hil
          have hxa := HR.out.2 _ (List.getElem_mem hil)
          have hxd := at!_map2 hil
          generalize l[i] = x at *
          obtain ⟨xd, xq, ⟨xA, xc, xl⟩, xt, xx⟩ := x
          have HCL := Lib.hid hcl
          have HXA := Lib.hid hxa
          have HXD := Lib.hid hxd
          have HT := Lib.hid hT
          have hzo : wo.heap.size ≤ wr.heap.size := hbo.size
          have HBO := Lib.hid hbo
          clear hcl hxa hxd hT hbo
          go_wp2_with fail
          obtain ⟨wp, hwp⟩ : ∃ x, x = wr := ⟨_, rfl⟩
          subst hwp
          go_loopw [9, 10] (fun v m' wr => ∃ (m : Nat), m ≤ l.length ∧ m' = .int .i64 m ∧ v = .bool (rdyU (l.map Note.d) ol i m) ∧ Below wp.heap.size wp wr) (fun _ m _ => l.length - (intOf m).toNat)
          case atStart => exact ⟨0, by omega, rfl, by rw [rdyU_zero], Below.refl _ _⟩
          case round =>
            obtain ⟨m, hm, rfl, rfl, hbi⟩ := hrel
            have hbw : Below wo.heap.size wo wr := HBO.out.trans (hbi.mono hzo)
            by_cases hml : m < l.length
            · have hml' : (m : Int) < (l.length : Int) := by omega
              rcases hrv : rdyU (l.map Note.d) ol i m with _ | _
              · have hrr := rdyR_false hrv (by simp; omega)
                have HRR := Lib.hid hrr
                clear hrr hrv hdi
                go_wp2_with fail
                have hbu := bestR_no HRR.out
                have HBU := Lib.hid hbu
                have hBB : Below wo.heap.size wo wr := hbw
                clear hbu
                go_wp2_with fail
                refine wp_region_T (fun _ => True) (fun _ => false) (by kernel_rfl) trivial (fun hHeld => ?_)
                refine wpAnyT_take2 (i := 0) (v := ?_) rfl rfl (by kernel_rfl) (by kernel_rfl) (by kernel_rfl) (by kernel_rfl) (fun _ _ _ h => h) (Or.inl ⟨by rfl, ?_⟩) (by first | assumption | trivial) ?_
                rotate_left
                · (intro w hSw; (try dsimp only at hSw); go_simp) <;> (with_reducible rfl)
                simp only [List.setIfInBounds_toArray, List.set_cons_zero, List.set_cons_succ]
                refine wpAnyT_take2 (i := 1) (v := ?_) rfl rfl (by kernel_rfl) (by kernel_rfl) (by kernel_rfl) (by kernel_rfl) (fun _ _ _ h => h) (Or.inl ⟨by rfl, ?_⟩) (by first | assumption | trivial) ?_
                rotate_left
                · (intro w hSw; (try dsimp only at hSw); go_simp) <;> (with_reducible rfl)
                simp only [List.setIfInBounds_toArray, List.set_cons_zero, List.set_cons_succ]
                refine wpAnyT_take2 (i := 2) (v := undef) rfl rfl (by kernel_rfl) (by kernel_rfl) (by kernel_rfl) (by kernel_rfl) (fun _ _ _ h => h) (Or.inr ⟨by rfl, rfl⟩) (by first | assumption | trivial) ?_
                simp only [List.setIfInBounds_toArray, List.set_cons_zero, List.set_cons_succ]
                refine wpAnyT_take2 (i := 3) (v := undef) rfl rfl (by kernel_rfl) (by kernel_rfl) (by kernel_rfl) (by kernel_rfl) (fun _ _ _ h => h) (Or.inr ⟨by rfl, rfl⟩) (by first | assumption | trivial) ?_
                simp only [List.setIfInBounds_toArray, List.set_cons_zero, List.set_cons_succ]
                refine wpAnyT_take2 (i := 4) (v := undef) rfl rfl (by kernel_rfl) (by kernel_rfl) (by kernel_rfl) (by kernel_rfl) (fun _ _ _ h => h) (Or.inr ⟨by rfl, rfl⟩) (by first | assumption | trivial) ?_
                simp only [List.setIfInBounds_toArray, List.set_cons_zero, List.set_cons_succ]
                refine wpAnyT_take2 (i := 5) (v := undef) rfl rfl (by kernel_rfl) (by kernel_rfl) (by kernel_rfl) (by kernel_rfl) (fun _ _ _ h => h) (Or.inr ⟨by rfl, rfl⟩) (by first | assumption | trivial) ?_
                simp only [List.setIfInBounds_toArray, List.set_cons_zero, List.set_cons_succ]
                refine wpAnyT_take2 (i := 6) (v := undef) rfl rfl (by kernel_rfl) (by kernel_rfl) (by kernel_rfl) (by kernel_rfl) (fun _ _ _ h => h) (Or.inr ⟨by rfl, rfl⟩) (by first | assumption | trivial) ?_
                simp only [List.setIfInBounds_toArray, List.set_cons_zero, List.set_cons_succ]
                refine wpAnyT_take2 (i := 7) (v := undef) rfl rfl (by kernel_rfl) (by kernel_rfl) (by kernel_rfl) (by kernel_rfl) (fun _ _ _ h => h) (Or.inr ⟨by rfl, rfl⟩) (by first | assumption | trivial) ?_
                simp only [List.setIfInBounds_toArray, List.set_cons_zero, List.set_cons_succ]
                refine wpAnyT_take2 (i := 8) (v := undef) rfl rfl (by kernel_rfl) (by kernel_rfl) (by kernel_rfl) (by kernel_rfl) (fun _ _ _ h => h) (Or.inr ⟨by rfl, rfl⟩) (by first | assumption | trivial) ?_
                simp only [List.setIfInBounds_toArray, List.set_cons_zero, List.set_cons_succ]
                refine wpAnyT_take2 (i := 9) (v := undef) rfl rfl (by kernel_rfl) (by kernel_rfl) (by kernel_rfl) (by kernel_rfl) (fun _ _ _ h => h) (Or.inr ⟨by rfl, rfl⟩) (by first | assumption | trivial) ?_
                simp only [List.setIfInBounds_toArray, List.set_cons_zero, List.set_cons_succ]
                refine wpAnyT_take2 (i := 10) (v := undef) rfl rfl (by kernel_rfl) (by kernel_rfl) (by kernel_rfl) (by kernel_rfl) (fun _ _ _ h => h) (Or.inr ⟨by rfl, rfl⟩) (by first | assumption | trivial) ?_
                simp only [List.setIfInBounds_toArray, List.set_cons_zero, List.set_cons_succ]
                refine wpAnyT_take2 (i := 11) (v := undef) rfl rfl (by kernel_rfl) (by kernel_rfl) (by kernel_rfl) (by kernel_rfl) (fun _ _ _ h => h) (Or.inr ⟨by rfl, rfl⟩) (by first | assumption | trivial) ?_
                simp only [List.setIfInBounds_toArray, List.set_cons_zero, List.set_cons_succ]
                refine wpAnyT_take2 (i := 12) (v := undef) rfl rfl (by kernel_rfl) (by kernel_rfl) (by kernel_rfl) (by kernel_rfl) (fun _ _ _ h => h) (Or.inr ⟨by rfl, rfl⟩) (by first | assumption | trivial) ?_
                simp only [List.setIfInBounds_toArray, List.set_cons_zero, List.set_cons_succ]
                refine wpAnyT_take2 (i := 13) (v := undef) rfl rfl (by kernel_rfl) (by kernel_rfl) (by kernel_rfl) (by kernel_rfl) (fun _ _ _ h => h) (Or.inr ⟨by rfl, rfl⟩) (by first | assumption | trivial) ?_
                simp only [List.setIfInBounds_toArray, List.set_cons_zero, List.set_cons_succ]
                refine wpAnyT_take2 (i := 14) (v := undef) rfl rfl (by kernel_rfl) (by kernel_rfl) (by kernel_rfl) (by kernel_rfl) (fun _ _ _ h => h) (Or.inr ⟨by rfl, rfl⟩) (by first | assumption | trivial) ?_
                simp only [List.setIfInBounds_toArray, List.set_cons_zero, List.set_cons_succ]
                refine wpAnyT_take2 (i := 15) (v := undef) rfl rfl (by kernel_rfl) (by kernel_rfl) (by kernel_rfl) (by kernel_rfl) (fun _ _ _ h => h) (Or.inr ⟨by rfl, rfl⟩) (by first | assumption | trivial) ?_
                simp only [List.setIfInBounds_toArray, List.set_cons_zero, List.set_cons_succ]
                refine wpAnyT_take2 (i := 16) (v := ?_) rfl rfl (by kernel_rfl) (by kernel_rfl) (by kernel_rfl) (by kernel_rfl) (fun _ _ _ h => h) (Or.inl ⟨by rfl, ?_⟩) (by first | assumption | trivial) ?_
                rotate_left
                · (intro w hSw; (try dsimp only at hSw); go_simp) <;> (with_reducible rfl)
                simp only [List.setIfInBounds_toArray, List.set_cons_zero, List.set_cons_succ]
                refine wpAnyT_done (by kernel_rfl) ?_ _
                clear hHeld
                go_wp2_with fail
                go_roundw
                case rel => exact ⟨i + 1, by omega, by go_num, by first | (rw [HBU.out]; done) | (rw [HBU.out]; simp [oi]; done), (Below.drew hBB)⟩
                case measure => simp [intOf]; omega
              · have hsu : rdyU (l.map Note.d) ol i (m + 1) = (decide (m ∈ ol) || !beforeN (at! (l.map Note.d) m) (at! (l.map Note.d) i)) := by rw [rdyU_succ, hrv, Bool.true_and]
                have hT2 := HT.out.below hbi
                have hdm := db_cell hT2.blk (show m < (l.map Note.d).length by simpa using hml)
                obtain ⟨g0, g1, g2, g3, g4⟩ := Cells.c5 (HCL.out.keep (hT2.bel.block b hb))
                obtain ⟨b', o', hA', hb', hcl'⟩ := HR.out.1.at1 hml
                simp only [Option.some.injEq, Addr.mk.injEq, and_true] at hA'
                obtain ⟨rfl, rfl⟩ := hA'
                obtain ⟨j0, j1, j2, j3, j4⟩ := Cells.c5 (hcl'.keep (hT2.bel.block b hb))
                have hya := (HR.out.2 _ (List.getElem_mem hml)).below' hT2.bel (Nat.le_refl _)
                have hxa := HXA.out.below' hT2.bel (Nat.le_refl _)
                have hyd := at!_map2 hml
                generalize l[m] = y at *
                obtain ⟨yd, yq, ⟨yA, yc, yl⟩, yt, yx⟩ := y
                rw [hyd, HXD.out] at hsu
                have HYA := Lib.hid hya
                have HXA2 := Lib.hid hxa
                clear hcl' hya hxa hyd hT2 hrv hdi
                have hNEXT : ∀ (w7 : World), Below wp.heap.size wp w7 → True := fun _ _ => trivial
                clear hNEXT
                by_cases hmo : m ∈ ol
                · have e1 : decide (m ∈ ol) = true := by simp [hmo]
                  rw [e1, Bool.true_or] at hsu
                  rw [e1] at hdm
                  have HSU := Lib.hid hsu
                  clear hsu e1
                  go_wp2_with fail
                  refine wp_region_T (fun w' => w'.cell? ⟨w2.heap.size, m, none⟩ = some (.bool true)) (fun _ => false) (by kernel_rfl) hdm (fun hHeld => ?_)
                  refine wpAnyT_take2 (i := 0) (v := ?_) rfl rfl (by kernel_rfl) (by kernel_rfl) (by kernel_rfl) (by kernel_rfl) (fun _ _ _ h => h) (Or.inl ⟨by rfl, ?_⟩) (by first | assumption | trivial) ?_
                  rotate_left
                  · (intro w hSw; (try dsimp only at hSw); go_simp) <;> (with_reducible rfl)
                  simp only [List.setIfInBounds_toArray, List.set_cons_zero, List.set_cons_succ]
                  refine wpAnyT_take2 (i := 1) (v := ?_) rfl rfl (by kernel_rfl) (by kernel_rfl) (by kernel_rfl) (by kernel_rfl) (fun _ _ _ h => h) (Or.inl ⟨by rfl, ?_⟩) (by first | assumption | trivial) ?_
                  rotate_left
                  · (intro w hSw; (try dsimp only at hSw); go_simp) <;> (with_reducible rfl)
                  simp only [List.setIfInBounds_toArray, List.set_cons_zero, List.set_cons_succ]
                  refine wpAnyT_take2 (i := 2) (v := ?_) rfl rfl (by kernel_rfl) (by kernel_rfl) (by kernel_rfl) (by kernel_rfl) (fun _ _ _ h => h) (Or.inl ⟨by rfl, ?_⟩) (by first | assumption | trivial) ?_
                  rotate_left
                  · (intro w hSw; (try dsimp only at hSw); go_simp) <;> (with_reducible rfl)
                  simp only [List.setIfInBounds_toArray, List.set_cons_zero, List.set_cons_succ]
                  refine wpAnyT_take2 (i := 3) (v := ?_) rfl rfl (by kernel_rfl) (by kernel_rfl) (by kernel_rfl) (by kernel_rfl) (fun _ _ _ h => h) (Or.inl ⟨by rfl, ?_⟩) (by first | assumption | trivial) ?_
                  rotate_left
                  · (intro w hSw; (try dsimp only at hSw); go_simp) <;> (with_reducible rfl)
                  simp only [List.setIfInBounds_toArray, List.set_cons_zero, List.set_cons_succ]
                  refine wpAnyT_take2 (i := 4) (v := ?_) rfl rfl (by kernel_rfl) (by kernel_rfl) (by kernel_rfl) (by kernel_rfl) (fun _ _ _ h => h) (Or.inl ⟨by rfl, ?_⟩) (by first | assumption | trivial) ?_
                  rotate_left
                  · (intro w hSw; (try dsimp only at hSw); go_simp) <;> (with_reducible rfl)
                  simp only [List.setIfInBounds_toArray, List.set_cons_zero, List.set_cons_succ]
                  refine wpAnyT_take2 (i := 5) (v := undef) rfl rfl (by kernel_rfl) (by kernel_rfl) (by kernel_rfl) (by kernel_rfl) (fun _ _ _ h => h) (Or.inr ⟨by rfl, rfl⟩) (by first | assumption | trivial) ?_
                  simp only [List.setIfInBounds_toArray, List.set_cons_zero, List.set_cons_succ]
                  refine wpAnyT_take2 (i := 6) (v := undef) rfl rfl (by kernel_rfl) (by kernel_rfl) (by kernel_rfl) (by kernel_rfl) (fun _ _ _ h => h) (Or.inr ⟨by rfl, rfl⟩) (by first | assumption | trivial) ?_
                  simp only [List.setIfInBounds_toArray, List.set_cons_zero, List.set_cons_succ]
                  refine wpAnyT_take2 (i := 7) (v := undef) rfl rfl (by kernel_rfl) (by kernel_rfl) (by kernel_rfl) (by kernel_rfl) (fun _ _ _ h => h) (Or.inr ⟨by rfl, rfl⟩) (by first | assumption | trivial) ?_
                  simp only [List.setIfInBounds_toArray, List.set_cons_zero, List.set_cons_succ]
                  refine wpAnyT_take2 (i := 8) (v := undef) rfl rfl (by kernel_rfl) (by kernel_rfl) (by kernel_rfl) (by kernel_rfl) (fun _ _ _ h => h) (Or.inr ⟨by rfl, rfl⟩) (by first | assumption | trivial) ?_
                  simp only [List.setIfInBounds_toArray, List.set_cons_zero, List.set_cons_succ]
                  refine wpAnyT_take2 (i := 9) (v := undef) rfl rfl (by kernel_rfl) (by kernel_rfl) (by kernel_rfl) (by kernel_rfl) (fun _ _ _ h => h) (Or.inr ⟨by rfl, rfl⟩) (by first | assumption | trivial) ?_
                  simp only [List.setIfInBounds_toArray, List.set_cons_zero, List.set_cons_succ]
                  refine wpAnyT_take2 (i := 10) (v := undef) rfl rfl (by kernel_rfl) (by kernel_rfl) (by kernel_rfl) (by kernel_rfl) (fun _ _ _ h => h) (Or.inr ⟨by rfl, rfl⟩) (by first | assumption | trivial) ?_
                  simp only [List.setIfInBounds_toArray, List.set_cons_zero, List.set_cons_succ]
                  refine wpAnyT_take2 (i := 11) (v := undef) rfl rfl (by kernel_rfl) (by kernel_rfl) (by kernel_rfl) (by kernel_rfl) (fun _ _ _ h => h) (Or.inr ⟨by rfl, rfl⟩) (by first | assumption | trivial) ?_
                  simp only [List.setIfInBounds_toArray, List.set_cons_zero, List.set_cons_succ]
                  refine wpAnyT_take2 (i := 12) (v := undef) rfl rfl (by kernel_rfl) (by kernel_rfl) (by kernel_rfl) (by kernel_rfl) (fun _ _ _ h => h) (Or.inr ⟨by rfl, rfl⟩) (by first | assumption | trivial) ?_
                  simp only [List.setIfInBounds_toArray, List.set_cons_zero, List.set_cons_succ]
                  refine wpAnyT_take2 (i := 13) (v := undef) rfl rfl (by kernel_rfl) (by kernel_rfl) (by kernel_rfl) (by kernel_rfl) (fun _ _ _ h => h) (Or.inr ⟨by rfl, rfl⟩) (by first | assumption | trivial) ?_
                  simp only [List.setIfInBounds_toArray, List.set_cons_zero, List.set_cons_succ]
                  refine wpAnyT_take2 (i := 14) (v := undef) rfl rfl (by kernel_rfl) (by kernel_rfl) (by kernel_rfl) (by kernel_rfl) (fun _ _ _ h => h) (Or.inr ⟨by rfl, rfl⟩) (by first | assumption | trivial) ?_
                  simp only [List.setIfInBounds_toArray, List.set_cons_zero, List.set_cons_succ]
                  refine wpAnyT_take2 (i := 15) (v := ?_) rfl rfl (by kernel_rfl) (by kernel_rfl) (by kernel_rfl) (by kernel_rfl) (fun _ _ _ h => h) (Or.inl ⟨by rfl, ?_⟩) (by first | assumption | trivial) ?_
                  rotate_left
                  · (intro w hSw; (try dsimp only at hSw); go_simp) <;> (with_reducible rfl)
                  simp only [List.setIfInBounds_toArray, List.set_cons_zero, List.set_cons_succ]
                  refine wpAnyT_take2 (i := 16) (v := ?_) rfl rfl (by kernel_rfl) (by kernel_rfl) (by kernel_rfl) (by kernel_rfl) (fun _ _ _ h => h) (Or.inl ⟨by rfl, ?_⟩) (by first | assumption | trivial) ?_
                  rotate_left
                  · (intro w hSw; (try dsimp only at hSw); go_simp) <;> (with_reducible rfl)
                  simp only [List.setIfInBounds_toArray, List.set_cons_zero, List.set_cons_succ]
                  refine wpAnyT_done (by kernel_rfl) ?_ _
                  clear hHeld
                  go_wp2_with fail
                  go_roundw
                  case rel => exact ⟨m + 1, by omega, by go_num, by rw [HSU.out], Below.drew hbi⟩
                  case measure => simp [intOf]; omega
                · have e1 : decide (m ∈ ol) = false := by simp [hmo]
                  rw [e1, Bool.false_or] at hsu
                  rw [e1] at hdm
                  have HSU := Lib.hid hsu
                  clear hsu e1
                  go_wp2_with fail
                  refine wp_region_T (fun w' => w'.cell? ⟨w2.heap.size, m, none⟩ = some (.bool false) ∧ (w'.cell? ⟨b, o + m * 5, none⟩ = some (.int .i64 yd) ∧ w'.cell? ⟨b, o + m * 5 + 1, none⟩ = some (.int .i64 yq) ∧ w'.cell? ⟨b, o + m * 5 + 2, none⟩ = some (.slice yA yl.length yc) ∧ w'.cell? ⟨b, o + m * 5 + 3, none⟩ = some (.int .i64 yt) ∧ w'.cell? ⟨b, o + m * 5 + 4, none⟩ = some (.string yx)) ∧ (w'.cell? ⟨b, o + i * 5, none⟩ = some (.int .i64 xd) ∧ w'.cell? ⟨b, o + i * 5 + 1, none⟩ = some (.int .i64 xq) ∧ w'.cell? ⟨b, o + i * 5 + 2, none⟩ = some (.slice xA xl.length xc) ∧ w'.cell? ⟨b, o + i * 5 + 3, none⟩ = some (.int .i64 xt) ∧ w'.cell? ⟨b, o + i * 5 + 4, none⟩ = some (.string xx))) (fun _ => false) (by kernel_rfl) ⟨hdm, ⟨j0, j1, j2, j3, j4⟩, g0, g1, g2, g3, g4⟩ (fun hHeld => ?_)
                  refine wpAnyT_take2 (i := 0) (v := ?_) rfl rfl (by kernel_rfl) (by kernel_rfl) (by kernel_rfl) (by kernel_rfl) (fun _ _ _ h => h) (Or.inl ⟨by rfl, ?_⟩) (by first | assumption | trivial) ?_
                  rotate_left
                  · (intro w hSw; (try dsimp only at hSw); go_simp) <;> (with_reducible rfl)
                  simp only [List.setIfInBounds_toArray, List.set_cons_zero, List.set_cons_succ]
                  refine wpAnyT_take2 (i := 1) (v := ?_) rfl rfl (by kernel_rfl) (by kernel_rfl) (by kernel_rfl) (by kernel_rfl) (fun _ _ _ h => h) (Or.inl ⟨by rfl, ?_⟩) (by first | assumption | trivial) ?_
                  rotate_left
                  · (intro w hSw; (try dsimp only at hSw); go_simp) <;> (with_reducible rfl)
                  simp only [List.setIfInBounds_toArray, List.set_cons_zero, List.set_cons_succ]
                  refine wpAnyT_take2 (i := 2) (v := ?_) rfl rfl (by kernel_rfl) (by kernel_rfl) (by kernel_rfl) (by kernel_rfl) (fun _ _ _ h => h) (Or.inl ⟨by rfl, ?_⟩) (by first | assumption | trivial) ?_
                  rotate_left
                  · (intro w hSw; (try dsimp only at hSw); go_simp) <;> (with_reducible rfl)
                  simp only [List.setIfInBounds_toArray, List.set_cons_zero, List.set_cons_succ]
                  refine wpAnyT_take2 (i := 3) (v := ?_) rfl rfl (by kernel_rfl) (by kernel_rfl) (by kernel_rfl) (by kernel_rfl) (fun _ _ _ h => h) (Or.inl ⟨by rfl, ?_⟩) (by first | assumption | trivial) ?_
                  rotate_left
                  · (intro w hSw; (try dsimp only at hSw); go_simp) <;> (with_reducible rfl)
                  simp only [List.setIfInBounds_toArray, List.set_cons_zero, List.set_cons_succ]
                  refine wpAnyT_take2 (i := 4) (v := ?_) rfl rfl (by kernel_rfl) (by kernel_rfl) (by kernel_rfl) (by kernel_rfl) (fun _ _ _ h => h) (Or.inl ⟨by rfl, ?_⟩) (by first | assumption | trivial) ?_
                  rotate_left
                  · (intro w hSw; (try dsimp only at hSw); go_simp) <;> (with_reducible rfl)
                  simp only [List.setIfInBounds_toArray, List.set_cons_zero, List.set_cons_succ]
                  refine wpAnyT_take2 (i := 5) (v := ?_) rfl rfl (by kernel_rfl) (by kernel_rfl) (by kernel_rfl) (by kernel_rfl) (fun _ _ _ h => h) (Or.inl ⟨by rfl, ?_⟩) (by first | assumption | trivial) ?_
                  rotate_left
                  · (intro w hSw; (try dsimp only at hSw); go_simp) <;> (with_reducible rfl)
                  simp only [List.setIfInBounds_toArray, List.set_cons_zero, List.set_cons_succ]
                  refine wpAnyT_take2 (i := 6) (v := ?_) rfl rfl (by kernel_rfl) (by kernel_rfl) (by kernel_rfl) (by kernel_rfl) (fun _ _ _ h => h) (Or.inl ⟨by rfl, ?_⟩) (by first | assumption | trivial) ?_
                  rotate_left
                  · (intro w hSw; (try dsimp only at hSw); go_simp) <;> (with_reducible rfl)
                  simp only [List.setIfInBounds_toArray, List.set_cons_zero, List.set_cons_succ]
                  refine wpAnyT_take2 (i := 7) (v := ?_) rfl rfl (by kernel_rfl) (by kernel_rfl) (by kernel_rfl) (by kernel_rfl) (fun _ _ _ h => h) (Or.inl ⟨by rfl, ?_⟩) (by first | assumption | trivial) ?_
                  rotate_left
                  · (intro w hSw; (try dsimp only at hSw); go_simp) <;> (with_reducible rfl)
                  simp only [List.setIfInBounds_toArray, List.set_cons_zero, List.set_cons_succ]
                  refine wpAnyT_take2 (i := 8) (v := ?_) rfl rfl (by kernel_rfl) (by kernel_rfl) (by kernel_rfl) (by kernel_rfl) (fun _ _ _ h => h) (Or.inl ⟨by rfl, ?_⟩) (by first | assumption | trivial) ?_
                  rotate_left
                  · (intro w hSw; (try dsimp only at hSw); go_simp) <;> (with_reducible rfl)
                  simp only [List.setIfInBounds_toArray, List.set_cons_zero, List.set_cons_succ]
                  refine wpAnyT_take2 (i := 9) (v := ?_) rfl rfl (by kernel_rfl) (by kernel_rfl) (by kernel_rfl) (by kernel_rfl) (fun _ _ _ h => h) (Or.inl ⟨by rfl, ?_⟩) (by first | assumption | trivial) ?_
                  rotate_left
                  · (intro w hSw; (try dsimp only at hSw); go_simp) <;> (with_reducible rfl)
                  simp only [List.setIfInBounds_toArray, List.set_cons_zero, List.set_cons_succ]
                  refine wpAnyT_take2 (i := 10) (v := ?_) rfl rfl (by kernel_rfl) (by kernel_rfl) (by kernel_rfl) (by kernel_rfl) (fun _ _ _ h => h) (Or.inl ⟨by rfl, ?_⟩) (by first | assumption | trivial) ?_
                  rotate_left
                  · (intro w hSw; (try dsimp only at hSw); go_simp) <;> (with_reducible rfl)
                  simp only [List.setIfInBounds_toArray, List.set_cons_zero, List.set_cons_succ]
                  refine wpAnyT_take2 (i := 11) (v := ?_) rfl rfl (by kernel_rfl) (by kernel_rfl) (by kernel_rfl) (by kernel_rfl) (fun _ _ _ h => h) (Or.inl ⟨by rfl, ?_⟩) (by first | assumption | trivial) ?_
                  rotate_left
                  · (intro w hSw; (try dsimp only at hSw); go_simp) <;> (with_reducible rfl)
                  simp only [List.setIfInBounds_toArray, List.set_cons_zero, List.set_cons_succ]
                  refine wpAnyT_take2 (i := 12) (v := ?_) rfl rfl (by kernel_rfl) (by kernel_rfl) (by kernel_rfl) (by kernel_rfl) (fun _ _ _ h => h) (Or.inl ⟨by rfl, ?_⟩) (by first | assumption | trivial) ?_
                  rotate_left
                  · (intro w hSw; (try dsimp only at hSw); go_simp) <;> (with_reducible rfl)
                  simp only [List.setIfInBounds_toArray, List.set_cons_zero, List.set_cons_succ]
                  clear hHeld
                  refine wpAnyT_next (i := 13) (by kernel_rfl) rfl ?_
                  go_wp2_with fail
                  refine (rbefore ⟨yd, yq, ⟨yA, yc, yl⟩, yt, yx⟩ ⟨xd, xq, ⟨xA, xc, xl⟩, xt, xx⟩ wr.drew HYA.out HXA2.out).mono ?_
                  rintro e w5 ⟨rfl, hb5⟩
                  have hB5 : Below wr.heap.size wr w5 := (by repeat (first | (with_reducible exact Below.refl _ _) | ((with_reducible refine below_setr ?_ ?_); focus (first | (simp; done) | (simp; omega) | omega)) | ((with_reducible refine below_allocr ?_ ?_); focus (first | (simp; done) | (simp; omega) | omega)) | (with_reducible refine Below.drew ?_) | (with_reducible refine below_drewN ?_ _) | ((with_reducible apply below_via); focus (with_reducible assumption))))
                  have hbi5 : Below wp.heap.size wp w5 := hbi.trans (hB5.mono hbi.size)
                  have hbw5 : Below wo.heap.size wo w5 := hbw.trans (hB5.mono hbw.size)
                  generalize hbf : beforeN (Note.d ⟨yd, yq, ⟨yA, yc, yl⟩, yt, yx⟩) (Note.d ⟨xd, xq, ⟨xA, xc, xl⟩, xt, xx⟩) = bf at *
                  clear hb5 hbf
                  go_wp2_with fail
                  refine ⟨(by first | exact ⟨keep_cell hB5 hdm, ⟨keep_cell hB5 j0, keep_cell hB5 j1, keep_cell hB5 j2, keep_cell hB5 j3, keep_cell hB5 j4⟩, keep_cell hB5 g0, keep_cell hB5 g1, keep_cell hB5 g2, keep_cell hB5 g3, keep_cell hB5 g4⟩ | exact fun _ => ⟨keep_cell hB5 hdm, ⟨keep_cell hB5 j0, keep_cell hB5 j1, keep_cell hB5 j2, keep_cell hB5 j3, keep_cell hB5 j4⟩, keep_cell hB5 g0, keep_cell hB5 g1, keep_cell hB5 g2, keep_cell hB5 g3, keep_cell hB5 g4⟩), ?_⟩
                  have hHeld := And.intro (keep_cell hB5 hdm) (And.intro (And.intro (keep_cell hB5 j0) (And.intro (keep_cell hB5 j1) (And.intro (keep_cell hB5 j2) (And.intro (keep_cell hB5 j3) (keep_cell hB5 j4))))) (And.intro (keep_cell hB5 g0) (And.intro (keep_cell hB5 g1) (And.intro (keep_cell hB5 g2) (And.intro (keep_cell hB5 g3) (keep_cell hB5 g4))))))
                  refine wpAnyT_take2 (i := 14) (v := ?_) rfl rfl (by kernel_rfl) (by kernel_rfl) (by kernel_rfl) (by kernel_rfl) (fun _ _ _ h => h) (Or.inl ⟨by rfl, ?_⟩) (by first | assumption | trivial) ?_
                  rotate_left
                  · (intro w hSw; (try dsimp only at hSw); go_simp) <;> (with_reducible rfl)
                  simp only [List.setIfInBounds_toArray, List.set_cons_zero, List.set_cons_succ]
                  refine wpAnyT_take2 (i := 15) (v := ?_) rfl rfl (by kernel_rfl) (by kernel_rfl) (by kernel_rfl) (by kernel_rfl) (fun _ _ _ h => h) (Or.inl ⟨by rfl, ?_⟩) (by first | assumption | trivial) ?_
                  rotate_left
                  · (intro w hSw; (try dsimp only at hSw); go_simp) <;> (with_reducible rfl)
                  simp only [List.setIfInBounds_toArray, List.set_cons_zero, List.set_cons_succ]
                  refine wpAnyT_take2 (i := 16) (v := ?_) rfl rfl (by kernel_rfl) (by kernel_rfl) (by kernel_rfl) (by kernel_rfl) (fun _ _ _ h => h) (Or.inl ⟨by rfl, ?_⟩) (by first | assumption | trivial) ?_
                  rotate_left
                  · (intro w hSw; (try dsimp only at hSw); go_simp) <;> (with_reducible rfl)
                  simp only [List.setIfInBounds_toArray, List.set_cons_zero, List.set_cons_succ]
                  refine wpAnyT_done (by kernel_rfl) ?_ _
                  clear hHeld hdm j0 j1 j2 j3 j4 g0 g1 g2 g3 g4
                  go_wp2_with fail
                  go_roundw
                  case rel => exact ⟨m + 1, by omega, by go_num, by rw [HSU.out], hbi5⟩
                  case measure => simp [intOf]; omega
            · obtain rfl : m = l.length := by omega
              have hra : rdyU (l.map Note.d) ol i l.length = rdyR (l.map Note.d) ol i := by rw [← rdyU_all, List.length_map]
              rw [hra]
              clear hra hdi
              rcases hrr : rdyR (l.map Note.d) ol i with _ | _
              · have HRR := Lib.hid hrr
                clear hrr
                go_wp2_with fail
                have hbu := bestR_no HRR.out
                have HBU := Lib.hid hbu
                have hBB : Below wo.heap.size wo wr := hbw
                clear hbu
                go_wp2_with fail
                refine wp_region_T (fun _ => True) (fun _ => false) (by kernel_rfl) trivial (fun hHeld => ?_)
                refine wpAnyT_take2 (i := 0) (v := ?_) rfl rfl (by kernel_rfl) (by kernel_rfl) (by kernel_rfl) (by kernel_rfl) (fun _ _ _ h => h) (Or.inl ⟨by rfl, ?_⟩) (by first | assumption | trivial) ?_
                rotate_left
                · (intro w hSw; (try dsimp only at hSw); go_simp) <;> (with_reducible rfl)
                simp only [List.setIfInBounds_toArray, List.set_cons_zero, List.set_cons_succ]
                refine wpAnyT_take2 (i := 1) (v := ?_) rfl rfl (by kernel_rfl) (by kernel_rfl) (by kernel_rfl) (by kernel_rfl) (fun _ _ _ h => h) (Or.inl ⟨by rfl, ?_⟩) (by first | assumption | trivial) ?_
                rotate_left
                · (intro w hSw; (try dsimp only at hSw); go_simp) <;> (with_reducible rfl)
                simp only [List.setIfInBounds_toArray, List.set_cons_zero, List.set_cons_succ]
                refine wpAnyT_take2 (i := 2) (v := undef) rfl rfl (by kernel_rfl) (by kernel_rfl) (by kernel_rfl) (by kernel_rfl) (fun _ _ _ h => h) (Or.inr ⟨by rfl, rfl⟩) (by first | assumption | trivial) ?_
                simp only [List.setIfInBounds_toArray, List.set_cons_zero, List.set_cons_succ]
                refine wpAnyT_take2 (i := 3) (v := undef) rfl rfl (by kernel_rfl) (by kernel_rfl) (by kernel_rfl) (by kernel_rfl) (fun _ _ _ h => h) (Or.inr ⟨by rfl, rfl⟩) (by first | assumption | trivial) ?_
                simp only [List.setIfInBounds_toArray, List.set_cons_zero, List.set_cons_succ]
                refine wpAnyT_take2 (i := 4) (v := undef) rfl rfl (by kernel_rfl) (by kernel_rfl) (by kernel_rfl) (by kernel_rfl) (fun _ _ _ h => h) (Or.inr ⟨by rfl, rfl⟩) (by first | assumption | trivial) ?_
                simp only [List.setIfInBounds_toArray, List.set_cons_zero, List.set_cons_succ]
                refine wpAnyT_take2 (i := 5) (v := undef) rfl rfl (by kernel_rfl) (by kernel_rfl) (by kernel_rfl) (by kernel_rfl) (fun _ _ _ h => h) (Or.inr ⟨by rfl, rfl⟩) (by first | assumption | trivial) ?_
                simp only [List.setIfInBounds_toArray, List.set_cons_zero, List.set_cons_succ]
                refine wpAnyT_take2 (i := 6) (v := undef) rfl rfl (by kernel_rfl) (by kernel_rfl) (by kernel_rfl) (by kernel_rfl) (fun _ _ _ h => h) (Or.inr ⟨by rfl, rfl⟩) (by first | assumption | trivial) ?_
                simp only [List.setIfInBounds_toArray, List.set_cons_zero, List.set_cons_succ]
                refine wpAnyT_take2 (i := 7) (v := undef) rfl rfl (by kernel_rfl) (by kernel_rfl) (by kernel_rfl) (by kernel_rfl) (fun _ _ _ h => h) (Or.inr ⟨by rfl, rfl⟩) (by first | assumption | trivial) ?_
                simp only [List.setIfInBounds_toArray, List.set_cons_zero, List.set_cons_succ]
                refine wpAnyT_take2 (i := 8) (v := undef) rfl rfl (by kernel_rfl) (by kernel_rfl) (by kernel_rfl) (by kernel_rfl) (fun _ _ _ h => h) (Or.inr ⟨by rfl, rfl⟩) (by first | assumption | trivial) ?_
                simp only [List.setIfInBounds_toArray, List.set_cons_zero, List.set_cons_succ]
                refine wpAnyT_take2 (i := 9) (v := undef) rfl rfl (by kernel_rfl) (by kernel_rfl) (by kernel_rfl) (by kernel_rfl) (fun _ _ _ h => h) (Or.inr ⟨by rfl, rfl⟩) (by first | assumption | trivial) ?_
                simp only [List.setIfInBounds_toArray, List.set_cons_zero, List.set_cons_succ]
                refine wpAnyT_take2 (i := 10) (v := undef) rfl rfl (by kernel_rfl) (by kernel_rfl) (by kernel_rfl) (by kernel_rfl) (fun _ _ _ h => h) (Or.inr ⟨by rfl, rfl⟩) (by first | assumption | trivial) ?_
                simp only [List.setIfInBounds_toArray, List.set_cons_zero, List.set_cons_succ]
                refine wpAnyT_take2 (i := 11) (v := undef) rfl rfl (by kernel_rfl) (by kernel_rfl) (by kernel_rfl) (by kernel_rfl) (fun _ _ _ h => h) (Or.inr ⟨by rfl, rfl⟩) (by first | assumption | trivial) ?_
                simp only [List.setIfInBounds_toArray, List.set_cons_zero, List.set_cons_succ]
                refine wpAnyT_take2 (i := 12) (v := undef) rfl rfl (by kernel_rfl) (by kernel_rfl) (by kernel_rfl) (by kernel_rfl) (fun _ _ _ h => h) (Or.inr ⟨by rfl, rfl⟩) (by first | assumption | trivial) ?_
                simp only [List.setIfInBounds_toArray, List.set_cons_zero, List.set_cons_succ]
                refine wpAnyT_take2 (i := 13) (v := undef) rfl rfl (by kernel_rfl) (by kernel_rfl) (by kernel_rfl) (by kernel_rfl) (fun _ _ _ h => h) (Or.inr ⟨by rfl, rfl⟩) (by first | assumption | trivial) ?_
                simp only [List.setIfInBounds_toArray, List.set_cons_zero, List.set_cons_succ]
                refine wpAnyT_take2 (i := 14) (v := undef) rfl rfl (by kernel_rfl) (by kernel_rfl) (by kernel_rfl) (by kernel_rfl) (fun _ _ _ h => h) (Or.inr ⟨by rfl, rfl⟩) (by first | assumption | trivial) ?_
                simp only [List.setIfInBounds_toArray, List.set_cons_zero, List.set_cons_succ]
                refine wpAnyT_take2 (i := 15) (v := undef) rfl rfl (by kernel_rfl) (by kernel_rfl) (by kernel_rfl) (by kernel_rfl) (fun _ _ _ h => h) (Or.inr ⟨by rfl, rfl⟩) (by first | assumption | trivial) ?_
                simp only [List.setIfInBounds_toArray, List.set_cons_zero, List.set_cons_succ]
                refine wpAnyT_take2 (i := 16) (v := ?_) rfl rfl (by kernel_rfl) (by kernel_rfl) (by kernel_rfl) (by kernel_rfl) (fun _ _ _ h => h) (Or.inl ⟨by rfl, ?_⟩) (by first | assumption | trivial) ?_
                rotate_left
                · (intro w hSw; (try dsimp only at hSw); go_simp) <;> (with_reducible rfl)
                simp only [List.setIfInBounds_toArray, List.set_cons_zero, List.set_cons_succ]
                refine wpAnyT_done (by kernel_rfl) ?_ _
                clear hHeld
                go_wp2_with fail
                go_roundw
                case rel => exact ⟨i + 1, by omega, by go_num, by first | (rw [HBU.out]; done) | (rw [HBU.out]; simp [oi]; done), (Below.drew hBB)⟩
                case measure => simp [intOf]; omega
              · have hT2 := HT.out.below hbi
                obtain ⟨g0, g1, g2, g3, g4⟩ := Cells.c5 (HCL.out.keep (hT2.bel.block b hb))
                rcases hbe : bestR (l.map Note.d) ol i with _ | bb
                · have hbu := bestR_first hrr hbe
                  have HBU := Lib.hid hbu
                  clear hbu hbe hrr hT2
                  simp only [oi]
                  go_wp2_with fail
                  refine wp_region_T (fun _ => True) (fun _ => false) (by kernel_rfl) trivial (fun hHeld => ?_)
                  refine wpAnyT_take2 (i := 0) (v := ?_) rfl rfl (by kernel_rfl) (by kernel_rfl) (by kernel_rfl) (by kernel_rfl) (fun _ _ _ h => h) (Or.inl ⟨by rfl, ?_⟩) (by first | assumption | trivial) ?_
                  rotate_left
                  · (intro w hSw; (try dsimp only at hSw); go_simp) <;> (with_reducible rfl)
                  simp only [List.setIfInBounds_toArray, List.set_cons_zero, List.set_cons_succ]
                  refine wpAnyT_take2 (i := 1) (v := ?_) rfl rfl (by kernel_rfl) (by kernel_rfl) (by kernel_rfl) (by kernel_rfl) (fun _ _ _ h => h) (Or.inl ⟨by rfl, ?_⟩) (by first | assumption | trivial) ?_
                  rotate_left
                  · (intro w hSw; (try dsimp only at hSw); go_simp) <;> (with_reducible rfl)
                  simp only [List.setIfInBounds_toArray, List.set_cons_zero, List.set_cons_succ]
                  refine wpAnyT_take2 (i := 2) (v := ?_) rfl rfl (by kernel_rfl) (by kernel_rfl) (by kernel_rfl) (by kernel_rfl) (fun _ _ _ h => h) (Or.inl ⟨by rfl, ?_⟩) (by first | assumption | trivial) ?_
                  rotate_left
                  · (intro w hSw; (try dsimp only at hSw); go_simp) <;> (with_reducible rfl)
                  simp only [List.setIfInBounds_toArray, List.set_cons_zero, List.set_cons_succ]
                  refine wpAnyT_take2 (i := 3) (v := ?_) rfl rfl (by kernel_rfl) (by kernel_rfl) (by kernel_rfl) (by kernel_rfl) (fun _ _ _ h => h) (Or.inl ⟨by rfl, ?_⟩) (by first | assumption | trivial) ?_
                  rotate_left
                  · (intro w hSw; (try dsimp only at hSw); go_simp) <;> (with_reducible rfl)
                  simp only [List.setIfInBounds_toArray, List.set_cons_zero, List.set_cons_succ]
                  refine wpAnyT_take2 (i := 4) (v := ?_) rfl rfl (by kernel_rfl) (by kernel_rfl) (by kernel_rfl) (by kernel_rfl) (fun _ _ _ h => h) (Or.inl ⟨by rfl, ?_⟩) (by first | assumption | trivial) ?_
                  rotate_left
                  · (intro w hSw; (try dsimp only at hSw); go_simp) <;> (with_reducible rfl)
                  simp only [List.setIfInBounds_toArray, List.set_cons_zero, List.set_cons_succ]
                  refine wpAnyT_take2 (i := 5) (v := undef) rfl rfl (by kernel_rfl) (by kernel_rfl) (by kernel_rfl) (by kernel_rfl) (fun _ _ _ h => h) (Or.inr ⟨by rfl, rfl⟩) (by first | assumption | trivial) ?_
                  simp only [List.setIfInBounds_toArray, List.set_cons_zero, List.set_cons_succ]
                  refine wpAnyT_take2 (i := 6) (v := undef) rfl rfl (by kernel_rfl) (by kernel_rfl) (by kernel_rfl) (by kernel_rfl) (fun _ _ _ h => h) (Or.inr ⟨by rfl, rfl⟩) (by first | assumption | trivial) ?_
                  simp only [List.setIfInBounds_toArray, List.set_cons_zero, List.set_cons_succ]
                  refine wpAnyT_take2 (i := 7) (v := undef) rfl rfl (by kernel_rfl) (by kernel_rfl) (by kernel_rfl) (by kernel_rfl) (fun _ _ _ h => h) (Or.inr ⟨by rfl, rfl⟩) (by first | assumption | trivial) ?_
                  simp only [List.setIfInBounds_toArray, List.set_cons_zero, List.set_cons_succ]
                  refine wpAnyT_take2 (i := 8) (v := undef) rfl rfl (by kernel_rfl) (by kernel_rfl) (by kernel_rfl) (by kernel_rfl) (fun _ _ _ h => h) (Or.inr ⟨by rfl, rfl⟩) (by first | assumption | trivial) ?_
                  simp only [List.setIfInBounds_toArray, List.set_cons_zero, List.set_cons_succ]
                  refine wpAnyT_take2 (i := 9) (v := undef) rfl rfl (by kernel_rfl) (by kernel_rfl) (by kernel_rfl) (by kernel_rfl) (fun _ _ _ h => h) (Or.inr ⟨by rfl, rfl⟩) (by first | assumption | trivial) ?_
                  simp only [List.setIfInBounds_toArray, List.set_cons_zero, List.set_cons_succ]
                  refine wpAnyT_take2 (i := 10) (v := undef) rfl rfl (by kernel_rfl) (by kernel_rfl) (by kernel_rfl) (by kernel_rfl) (fun _ _ _ h => h) (Or.inr ⟨by rfl, rfl⟩) (by first | assumption | trivial) ?_
                  simp only [List.setIfInBounds_toArray, List.set_cons_zero, List.set_cons_succ]
                  refine wpAnyT_take2 (i := 11) (v := undef) rfl rfl (by kernel_rfl) (by kernel_rfl) (by kernel_rfl) (by kernel_rfl) (fun _ _ _ h => h) (Or.inr ⟨by rfl, rfl⟩) (by first | assumption | trivial) ?_
                  simp only [List.setIfInBounds_toArray, List.set_cons_zero, List.set_cons_succ]
                  refine wpAnyT_take2 (i := 12) (v := undef) rfl rfl (by kernel_rfl) (by kernel_rfl) (by kernel_rfl) (by kernel_rfl) (fun _ _ _ h => h) (Or.inr ⟨by rfl, rfl⟩) (by first | assumption | trivial) ?_
                  simp only [List.setIfInBounds_toArray, List.set_cons_zero, List.set_cons_succ]
                  refine wpAnyT_take2 (i := 13) (v := undef) rfl rfl (by kernel_rfl) (by kernel_rfl) (by kernel_rfl) (by kernel_rfl) (fun _ _ _ h => h) (Or.inr ⟨by rfl, rfl⟩) (by first | assumption | trivial) ?_
                  simp only [List.setIfInBounds_toArray, List.set_cons_zero, List.set_cons_succ]
                  refine wpAnyT_take2 (i := 14) (v := undef) rfl rfl (by kernel_rfl) (by kernel_rfl) (by kernel_rfl) (by kernel_rfl) (fun _ _ _ h => h) (Or.inr ⟨by rfl, rfl⟩) (by first | assumption | trivial) ?_
                  simp only [List.setIfInBounds_toArray, List.set_cons_zero, List.set_cons_succ]
                  refine wpAnyT_take2 (i := 15) (v := ?_) rfl rfl (by kernel_rfl) (by kernel_rfl) (by kernel_rfl) (by kernel_rfl) (fun _ _ _ h => h) (Or.inl ⟨by rfl, ?_⟩) (by first | assumption | trivial) ?_
                  rotate_left
                  · (intro w hSw; (try dsimp only at hSw); go_simp) <;> (with_reducible rfl)
                  simp only [List.setIfInBounds_toArray, List.set_cons_zero, List.set_cons_succ]
                  refine wpAnyT_take2 (i := 16) (v := ?_) rfl rfl (by kernel_rfl) (by kernel_rfl) (by kernel_rfl) (by kernel_rfl) (fun _ _ _ h => h) (Or.inl ⟨by rfl, ?_⟩) (by first | assumption | trivial) ?_
                  rotate_left
                  · (intro w hSw; (try dsimp only at hSw); go_simp) <;> (with_reducible rfl)
                  simp only [List.setIfInBounds_toArray, List.set_cons_zero, List.set_cons_succ]
                  refine wpAnyT_done (by kernel_rfl) ?_ _
                  clear hHeld g0 g1 g2 g3 g4
                  go_wp2_with fail
                  go_roundw
                  case rel => exact ⟨i + 1, by omega, by go_num, by first | (rw [HBU.out]; done) | (rw [HBU.out]; simp [oi]; done), (Below.drew hbw)⟩
                  case measure => simp [intOf]; omega
                · have hbi2 := bestR_lt hbe
                  have hbl : bb < l.length := by omega
                  have hbl' : (bb : Int) < (l.length : Int) := by omega
                  have hb0 : ¬ ((bb : Int) < 0) := by omega
                  obtain ⟨b', o', hA', hb', hcl'⟩ := HR.out.1.at1 hbl
                  simp only [Option.some.injEq, Addr.mk.injEq, and_true] at hA'
                  obtain ⟨rfl, rfl⟩ := hA'
                  obtain ⟨j0, j1, j2, j3, j4⟩ := Cells.c5 (hcl'.keep (hT2.bel.block b hb))
                  have hyd := at!_map2 hbl
                  have hbu := bestR_more hrr hbe
                  generalize l[bb] = y at *
                  obtain ⟨yd, yq, ⟨yA, yc, yl⟩, yt, yx⟩ := y
                  rw [hyd, HXD.out] at hbu
                  clear hcl' hyd hbe hrr hT2
                  simp only [oi]
                  go_wp2_with fail
                  refine wp_region_T (fun w' => (w'.cell? ⟨b, o + bb * 5, none⟩ = some (.int .i64 yd) ∧ w'.cell? ⟨b, o + bb * 5 + 1, none⟩ = some (.int .i64 yq) ∧ w'.cell? ⟨b, o + bb * 5 + 2, none⟩ = some (.slice yA yl.length yc) ∧ w'.cell? ⟨b, o + bb * 5 + 3, none⟩ = some (.int .i64 yt) ∧ w'.cell? ⟨b, o + bb * 5 + 4, none⟩ = some (.string yx)) ∧ (w'.cell? ⟨b, o + i * 5, none⟩ = some (.int .i64 xd) ∧ w'.cell? ⟨b, o + i * 5 + 1, none⟩ = some (.int .i64 xq) ∧ w'.cell? ⟨b, o + i * 5 + 2, none⟩ = some (.slice xA xl.length xc) ∧ w'.cell? ⟨b, o + i * 5 + 3, none⟩ = some (.int .i64 xt) ∧ w'.cell? ⟨b, o + i * 5 + 4, none⟩ = some (.string xx))) (fun _ => false) (by kernel_rfl) ⟨⟨j0, j1, j2, j3, j4⟩, g0, g1, g2, g3, g4⟩ (fun hHeld => ?_)
                  refine wpAnyT_take2 (i := 0) (v := ?_) rfl rfl (by kernel_rfl) (by kernel_rfl) (by kernel_rfl) (by kernel_rfl) (fun _ _ _ h => h) (Or.inl ⟨by rfl, ?_⟩) (by first | assumption | trivial) ?_
                  rotate_left
                  · (intro w hSw; (try dsimp only at hSw); go_simp) <;> (with_reducible rfl)
                  simp only [List.setIfInBounds_toArray, List.set_cons_zero, List.set_cons_succ]
                  refine wpAnyT_take2 (i := 1) (v := ?_) rfl rfl (by kernel_rfl) (by kernel_rfl) (by kernel_rfl) (by kernel_rfl) (fun _ _ _ h => h) (Or.inl ⟨by rfl, ?_⟩) (by first | assumption | trivial) ?_
                  rotate_left
                  · (intro w hSw; (try dsimp only at hSw); go_simp) <;> (with_reducible rfl)
                  simp only [List.setIfInBounds_toArray, List.set_cons_zero, List.set_cons_succ]
                  refine wpAnyT_take2 (i := 2) (v := ?_) rfl rfl (by kernel_rfl) (by kernel_rfl) (by kernel_rfl) (by kernel_rfl) (fun _ _ _ h => h) (Or.inl ⟨by rfl, ?_⟩) (by first | assumption | trivial) ?_
                  rotate_left
                  · (intro w hSw; (try dsimp only at hSw); go_simp) <;> (with_reducible rfl)
                  simp only [List.setIfInBounds_toArray, List.set_cons_zero, List.set_cons_succ]
                  refine wpAnyT_take2 (i := 3) (v := ?_) rfl rfl (by kernel_rfl) (by kernel_rfl) (by kernel_rfl) (by kernel_rfl) (fun _ _ _ h => h) (Or.inl ⟨by rfl, ?_⟩) (by first | assumption | trivial) ?_
                  rotate_left
                  · (intro w hSw; (try dsimp only at hSw); go_simp) <;> (with_reducible rfl)
                  simp only [List.setIfInBounds_toArray, List.set_cons_zero, List.set_cons_succ]
                  refine wpAnyT_take2 (i := 4) (v := ?_) rfl rfl (by kernel_rfl) (by kernel_rfl) (by kernel_rfl) (by kernel_rfl) (fun _ _ _ h => h) (Or.inl ⟨by rfl, ?_⟩) (by first | assumption | trivial) ?_
                  rotate_left
                  · (intro w hSw; (try dsimp only at hSw); go_simp) <;> (with_reducible rfl)
                  simp only [List.setIfInBounds_toArray, List.set_cons_zero, List.set_cons_succ]
                  refine wpAnyT_take2 (i := 5) (v := ?_) rfl rfl (by kernel_rfl) (by kernel_rfl) (by kernel_rfl) (by kernel_rfl) (fun _ _ _ h => h) (Or.inl ⟨by rfl, ?_⟩) (by first | assumption | trivial) ?_
                  rotate_left
                  · (intro w hSw; (try dsimp only at hSw); go_simp) <;> (with_reducible rfl)
                  simp only [List.setIfInBounds_toArray, List.set_cons_zero, List.set_cons_succ]
                  refine wpAnyT_take2 (i := 6) (v := ?_) rfl rfl (by kernel_rfl) (by kernel_rfl) (by kernel_rfl) (by kernel_rfl) (fun _ _ _ h => h) (Or.inl ⟨by rfl, ?_⟩) (by first | assumption | trivial) ?_
                  rotate_left
                  · (intro w hSw; (try dsimp only at hSw); go_simp) <;> (with_reducible rfl)
                  simp only [List.setIfInBounds_toArray, List.set_cons_zero, List.set_cons_succ]
                  refine wpAnyT_take2 (i := 7) (v := ?_) rfl rfl (by kernel_rfl) (by kernel_rfl) (by kernel_rfl) (by kernel_rfl) (fun _ _ _ h => h) (Or.inl ⟨by rfl, ?_⟩) (by first | assumption | trivial) ?_
                  rotate_left
                  · (intro w hSw; (try dsimp only at hSw); go_simp) <;> (with_reducible rfl)
                  simp only [List.setIfInBounds_toArray, List.set_cons_zero, List.set_cons_succ]
                  refine wpAnyT_take2 (i := 8) (v := ?_) rfl rfl (by kernel_rfl) (by kernel_rfl) (by kernel_rfl) (by kernel_rfl) (fun _ _ _ h => h) (Or.inl ⟨by rfl, ?_⟩) (by first | assumption | trivial) ?_
                  rotate_left
                  · (intro w hSw; (try dsimp only at hSw); go_simp) <;> (with_reducible rfl)
                  simp only [List.setIfInBounds_toArray, List.set_cons_zero, List.set_cons_succ]
                  refine wpAnyT_take2 (i := 9) (v := ?_) rfl rfl (by kernel_rfl) (by kernel_rfl) (by kernel_rfl) (by kernel_rfl) (fun _ _ _ h => h) (Or.inl ⟨by rfl, ?_⟩) (by first | assumption | trivial) ?_
                  rotate_left
                  · (intro w hSw; (try dsimp only at hSw); go_simp) <;> (with_reducible rfl)
                  simp only [List.setIfInBounds_toArray, List.set_cons_zero, List.set_cons_succ]
                  refine wpAnyT_take2 (i := 10) (v := ?_) rfl rfl (by kernel_rfl) (by kernel_rfl) (by kernel_rfl) (by kernel_rfl) (fun _ _ _ h => h) (Or.inl ⟨by rfl, ?_⟩) (by first | assumption | trivial) ?_
                  rotate_left
                  · (intro w hSw; (try dsimp only at hSw); go_simp) <;> (with_reducible rfl)
                  simp only [List.setIfInBounds_toArray, List.set_cons_zero, List.set_cons_succ]
                  refine wpAnyT_next (i := 11) (by kernel_rfl) rfl ?_
                  go_wp2_with fail
                  refine ⟨(by first | exact hHeld | exact fun _ => hHeld), ?_⟩
                  refine wpAnyT_take2 (i := 12) (v := ?_) rfl rfl (by kernel_rfl) (by kernel_rfl) (by kernel_rfl) (by kernel_rfl) (fun _ _ _ h => h) (Or.inl ⟨by rfl, ?_⟩) (by first | assumption | trivial) ?_
                  rotate_left
                  · (intro w hSw; (try dsimp only at hSw); go_simp) <;> (with_reducible rfl)
                  simp only [List.setIfInBounds_toArray, List.set_cons_zero, List.set_cons_succ]
                  refine wpAnyT_take2 (i := 13) (v := ?_) rfl rfl (by kernel_rfl) (by kernel_rfl) (by kernel_rfl) (by kernel_rfl) (fun _ _ _ h => h) (Or.inl ⟨by rfl, ?_⟩) (by first | assumption | trivial) ?_
                  rotate_left
                  · (intro w hSw; (try dsimp only at hSw); go_simp) <;> (with_reducible rfl)
                  simp only [List.setIfInBounds_toArray, List.set_cons_zero, List.set_cons_succ]
                  clear hHeld
                  refine wpAnyT_next (i := 14) (by kernel_rfl) rfl ?_
                  go_wp2_with fail
                  refine (rfirst ⟨xd, xq, ⟨xA, xc, xl⟩, xt, xx⟩ ⟨yd, yq, ⟨yA, yc, yl⟩, yt, yx⟩ wr.drew).mono ?_
                  rintro e w5 ⟨rfl, hb5⟩
                  have hB5 : Below wr.heap.size wr w5 := (by repeat (first | (with_reducible exact Below.refl _ _) | ((with_reducible refine below_setr ?_ ?_); focus (first | (simp; done) | (simp; omega) | omega)) | ((with_reducible refine below_allocr ?_ ?_); focus (first | (simp; done) | (simp; omega) | omega)) | (with_reducible refine Below.drew ?_) | (with_reducible refine below_drewN ?_ _) | ((with_reducible apply below_via); focus (with_reducible assumption))))
                  have hbw5 : Below wo.heap.size wo w5 := hbw.trans (hB5.mono hbw.size)
                  generalize hbf : firstN (Note.d ⟨xd, xq, ⟨xA, xc, xl⟩, xt, xx⟩) (Note.d ⟨yd, yq, ⟨yA, yc, yl⟩, yt, yx⟩) = bf at *
                  clear hb5 hbf
                  go_wp2_with fail
                  refine ⟨(by first | exact ⟨⟨keep_cell hB5 j0, keep_cell hB5 j1, keep_cell hB5 j2, keep_cell hB5 j3, keep_cell hB5 j4⟩, keep_cell hB5 g0, keep_cell hB5 g1, keep_cell hB5 g2, keep_cell hB5 g3, keep_cell hB5 g4⟩ | exact fun _ => ⟨⟨keep_cell hB5 j0, keep_cell hB5 j1, keep_cell hB5 j2, keep_cell hB5 j3, keep_cell hB5 j4⟩, keep_cell hB5 g0, keep_cell hB5 g1, keep_cell hB5 g2, keep_cell hB5 g3, keep_cell hB5 g4⟩), ?_⟩
                  have hHeld := And.intro (And.intro (keep_cell hB5 j0) (And.intro (keep_cell hB5 j1) (And.intro (keep_cell hB5 j2) (And.intro (keep_cell hB5 j3) (keep_cell hB5 j4))))) (And.intro (keep_cell hB5 g0) (And.intro (keep_cell hB5 g1) (And.intro (keep_cell hB5 g2) (And.intro (keep_cell hB5 g3) (keep_cell hB5 g4)))))
                  refine wpAnyT_take2 (i := 15) (v := ?_) rfl rfl (by kernel_rfl) (by kernel_rfl) (by kernel_rfl) (by kernel_rfl) (fun _ _ _ h => h) (Or.inl ⟨by rfl, ?_⟩) (by first | assumption | trivial) ?_
                  rotate_left
                  · (intro w hSw; (try dsimp only at hSw); go_simp) <;> (with_reducible rfl)
                  simp only [List.setIfInBounds_toArray, List.set_cons_zero, List.set_cons_succ]
                  refine wpAnyT_take2 (i := 16) (v := ?_) rfl rfl (by kernel_rfl) (by kernel_rfl) (by kernel_rfl) (by kernel_rfl) (fun _ _ _ h => h) (Or.inl ⟨by rfl, ?_⟩) (by first | assumption | trivial) ?_
                  rotate_left
                  · (intro w hSw; (try dsimp only at hSw); go_simp) <;> (with_reducible rfl)
                  simp only [List.setIfInBounds_toArray, List.set_cons_zero, List.set_cons_succ]
                  refine wpAnyT_done (by kernel_rfl) ?_ _
                  clear hHeld j0 j1 j2 j3 j4 g0 g1 g2 g3 g4
                  rcases bf with _ | _
                  · simp only [Bool.false_eq_true, if_false] at hbu
                    have HBU := Lib.hid hbu
                    clear hbu
                    go_wp2_with fail
                    go_roundw
                    case rel => exact ⟨i + 1, by omega, by go_num, by first | (rw [HBU.out]; done) | (rw [HBU.out]; simp [oi]; done), hbw5⟩
                    case measure => simp [intOf]; omega
                  · simp only [if_true] at hbu
                    have HBU := Lib.hid hbu
                    clear hbu
                    go_wp2_with fail
                    go_roundw
                    case rel => exact ⟨i + 1, by omega, by go_num, by first | (rw [HBU.out]; done) | (rw [HBU.out]; simp [oi]; done), hbw5⟩
                    case measure => simp [intOf]; omega
        · obtain rfl : i = l.length := by omega
          rcases hbe : bestR (l.map Note.d) ol l.length with _ | bb
          · have hst := hT.stop (by simpa using hlt) (by rw [List.length_map]; exact hbe)
            rw [List.length_map] at hst
            have HST := Lib.hid hst
            have hbF := hT.bel
            clear hst hT hbe
            simp only [oi]
            go_wp2_with fail
            try simp only [Exit.inBlock, Exit.then]
            refine bodyPost_ret (v := .tuple #[.slice none 0 0, .int .i64 25]) ?_ rfl (OrderP.no (E := 25) rfl HST.out hbF)
            simp [results, Try.results38, go_sem, ]
          · have hbl : bb < l.length := bestR_lt hbe
            have hbl' : (bb : Int) < (l.length : Int) := by omega
            have hb0 : ¬ ((bb : Int) < 0) := by omega
            have hdi := db_cell hT.blk (show bb < (l.map Note.d).length by simpa using hbl)
            have hfz := hT.blk.frozen bb
            have hbk := hT.blk.set_ bb (.bool true)
            rw [db_set] at hbk
            have hz3 : w2.heap.size < wr.heap.size := hT.blk.lt
            have HBK := Lib.hid hbk
            have HT := Lib.hid hT
            have HBE := Lib.hid hbe
            clear hbk hT hbe
            simp only [oi]
            have hk64 : (natI ol).length ≤ 10000 := by have := HNL.out; omega
            go_wp2_with (at_builtin; go_must (refine wpl_append_sl (base := w2.heap.size + 1) _ rfl (.tmp 86) (.tmp 88) _ rfl Try.underlying24 infoInt (by omega) ienc_k ienc_one ⟨OA, OC, natI ol⟩ ⟨some ⟨wr.heap.size, 0, none⟩, 1, [(bb : Int)]⟩ rfl rfl ((HT.out.own.far (by simp) _).alloc _) (rdOne (Blk.new' (by simp))) (by simp [maxLen]; omega) (by simp; omega) (by simp; omega) ?_); intro A6 c6 w6 hown6 hg6 hat6; apply Hid.out)
            refine Lib.hid ?_
            have hlow : ∀ q', (Value.slice OA (natI ol).length OC).ownBlock = some q' → w2.heap.size + 1 ≤ q' := by
              intro q' hq'
              rcases HT.out.own.form with ⟨hA, _⟩ | ⟨g, hA, h1, _⟩
              · simp only at hA; subst hA; cases hq'
              · simp only at hA; subst hA; simp only [Value.ownBlock, Option.some.injEq] at hq'; omega
            have hne2 : some w2.heap.size ≠ (Value.slice OA (natI ol).length OC).ownBlock := fun hc => by have := hlow _ hc.symm; omega
            have hB6 : Below w.heap.size w w6 := Below.grown ((HT.out.bel.setCell (by simpa using hz2) _).alloc (by simp; omega) _) hg6 (by simp; omega) (fun q' hq' => by have := hlow q' hq'; omega)
            have hnx := HT.out.next (w6 := w6) (OA' := A6) (OC' := c6) (by simpa using hlt) (by rw [List.length_map]; exact HBE.out) hown6 ((HBK.out.alloc _).grown hg6 hne2) hB6
            have HNX := Lib.hid hnx
            clear hown6 hg6 hat6 hlow hne2 hnx hdi hfz hb0 hbl' hlt2 hi hil hz3
            go_wp2_with fail
            go_roundw
            case rel => exact ⟨k + 1, A6, c6, ol ++ [bb], by omega, by simp [Act.eval, go_sem, natI], HNX.out⟩
            case measure => have := HNL.out; simp [sliceLen]; omega
    · obtain rfl : k = l.length := by omega
      have hlp := hS.loop
      rw [List.length_map, Nat.sub_self, ordLoopR] at hlp
      have hfin : OrderP w (ordLoopR (l.map Note.d) l.length []) (.returned (.tuple #[.slice OA (natI ol).length OC, .int .i64 0])) wr := by
        rw [hlp]
        exact ⟨⟨OA, OC, natI ol⟩, rfl, rfl, (hS.own.rd ienc_k).mono (fun b hb => ⟨by have := hb.1; omega, hb.2⟩), hS.bel⟩
      have HFIN := Lib.hid hfin
      have hlt2 : ¬ (((natI ol).length : Int) < (l.length : Int)) := by omega
      clear hfin hlp hS hlt hnl
      go_wp2_with fail
      try simp only [Exit.inBlock, Exit.then]
      refine bodyPost_ret (v := .tuple #[.slice OA (natI ol).length OC, .int .i64 0]) ?_ rfl HFIN.out
      simp [results, Try.results38, go_sem, ]
theorem rorder (s : Sl Note) (w : World) (hr : RdNotes (· < w.heap.size) w s) :
    Calls Try.prog 38 #[.slice s.A s.l.length s.c] w fun e w' => OrderP w (ordN (s.l.map Note.d)) e w' := by
  rcases h : notesR (s.l.map Note.d)
  · exact rorder_no s w hr h
  · by_cases hp : placesE (s.l.map Note.d) = 0
    · exact rorder_yes s w hr h hp
    · exact rorder_miss s w hr h hp
end Go.Proofs.Ythnblhbdfpmolaa
