/- Walk of merge.Order. -/
import Derived.Test.YthnblhbdfpmolaaPNotemxbb
import Derived.Test.YthnblhbdfpmolaaPNotemxbc
import Derived.Test.YthnblhbdfpmolaaPNotemxac
namespace Go.Proofs.Ythnblhbdfpmolaa
open Go.RowKit
def natI (l : List Nat) : List Int := l.map fun (i : Nat) => (i : Int)
def OrderP (w : World) (r : List Nat × Int) (e : Ending) (w' : World) : Prop :=
  ∃ x : Sl Int, e = .returned (.tuple #[.slice x.A x.l.length x.c, .int .i64 r.2]) ∧ x.l = natI r.1 ∧ Rd (fun b => w.heap.size ≤ b ∧ b < w'.heap.size) 1 ienc w' x ∧ Below w.heap.size w w'
theorem OrderP.no {w w' : World} {r : List Nat × Int} {E : Int} {e : Ending} (he : e = .returned (.tuple #[.slice none 0 0, .int .i64 E])) (hr : r = ([], E)) (hb : Below w.heap.size w w') : OrderP w r e w' := by
  subst hr
  exact ⟨⟨none, 0, []⟩, he, rfl, Rd.nil _ _ _ _, hb⟩
def dnC (dn : List Int) : Array Value := (dn.map (Value.int .i64)).toArray
section
variable {w : World} {g : Nat} {t : TypeId} {dn : List Int}
theorem dn_cell (h : Blk w g t (dnC dn)) {d : Nat} (hd : d < dn.length) : w.cell? ⟨g, d, none⟩ = some (.int .i64 (dn.getD d 0)) := by
  rw [h.cell]
  unfold dnC
  rw [List.getElem?_toArray, List.getElem?_map, List.getElem?_eq_getElem hd]
  simp [List.getD, hd]
theorem dn_rd (h : Blk w g t (dnC dn)) (hl : dn.length ≤ maxLen) : Rd (· < w.heap.size) 1 ienc w ⟨some ⟨g, 0, none⟩, dn.length, dn⟩ := by
  refine ⟨Nat.le_refl _, hl, fun hc => (by cases hc), fun i x hx => ⟨g, 0, rfl, h.lt, ?_⟩⟩
  have hi : i < dn.length := (List.getElem?_eq_some_iff.1 hx).1
  have := dn_cell h hi
  intro j u hu
  simp only [ienc] at hu
  cases j with
  | zero =>
    simp only [List.getElem?_cons_zero, Option.some.injEq] at hu
    subst hu
    simp only [Nat.mul_one, Nat.add_zero, Nat.zero_add]
    rw [this]
    simp only at hx
    simp [List.getD, hx]
  | succ j => simp at hu
theorem dn_set (d : Nat) (v : Int) : (dnC dn).setIfInBounds d (.int .i64 v) = dnC (dn.set d v) := by
  unfold dnC
  rw [List.setIfInBounds_toArray, List.map_set]
end
/-- What the loop of merge.Order keeps. -/
structure OState (w w2 wr : World) (gm : Nat) (L : List NoteD) (k : Nat) (dn : List Int) (OA : Option Addr) (OC : Nat) (ol : List Nat) : Prop where
  own : Own (w2.heap.size + 1) 3 1 ienc wr ⟨OA, OC, natI ol⟩
  map : MapB wr gm (mapI L L.length)
  blk : Blk wr w2.heap.size 126 (dnC dn)
  bel : Below w.heap.size w wr
  len : dn.length = 12
  bnd : ∀ d, 0 ≤ dn.getD d 0 ∧ dn.getD d 0 ≤ k
  loop : ordLoop L L.length (List.replicate 12 0) [] = ordLoop L (L.length - k) dn ol
  olen : ol.length = k
section
variable {w w2 wr : World} {gm k : Nat} {L : List NoteD} {dn : List Int} {OA : Option Addr} {OC : Nat} {ol : List Nat}
theorem OState.below {w4 : World} (h : OState w w2 wr gm L k dn OA OC ol) (hb : Below wr.heap.size wr w4) : OState w w2 w4 gm L k dn OA OC ol where
  own := h.own.below hb
  map := h.map.later hb
  blk := h.blk.later hb
  bel := h.bel.trans (hb.mono h.bel.size)
  len := h.len
  bnd := h.bnd
  loop := h.loop
  olen := h.olen
theorem OState.stop (h : OState w w2 wr gm L k dn OA OC ol) (hk : k < L.length) (hb : bestU L dn 12 = none) : ordLoop L L.length (List.replicate 12 0) [] = ([], 25) := by
  rw [h.loop, show L.length - k = (L.length - (k + 1)) + 1 by omega, ordLoop, hb]
theorem OState.next {w6 : World} {OA' : Option Addr} {OC' b : Nat} (h : OState w w2 wr gm L k dn OA OC ol) (hk : k < L.length) (hb : bestU L dn 12 = some b) (hdv : (at! L b).dev.toNat < 12)
    (hown : Own (w2.heap.size + 1) 3 1 ienc w6 ⟨OA', OC', natI ol ++ [(b : Int)]⟩) (hmap : MapB w6 gm (mapI L L.length)) (hblk : Blk w6 w2.heap.size 126 (dnC (bumpN dn (at! L b).dev))) (hbel : Below w.heap.size w w6) :
    OState w w2 w6 gm L (k + 1) (bumpN dn (at! L b).dev) OA' OC' (ol ++ [b]) where
  own := by unfold natI at *; rw [List.map_append]; exact hown
  map := hmap
  blk := hblk
  bel := hbel
  len := by unfold bumpN; rw [List.length_set]; exact h.len
  bnd d := by
    rw [getD_bumpN (by rw [h.len]; exact hdv)]
    have := h.bnd d
    split <;> omega
  loop := by rw [h.loop, show L.length - k = (L.length - (k + 1)) + 1 by omega, ordLoop, hb]
  olen := by rw [List.length_append, h.olen]; rfl
end
theorem bestU_lt {L : List NoteD} {dn : List Int} {D b : Nat} (h : bestU L dn D = some b) : b < L.length := by
  have := bestU_spec (l := L) (dn := dn) D
  rw [h] at this
  obtain ⟨⟨d, _, hd⟩, _⟩ := this
  exact (cand_spec hd).1
theorem rdOne {W : World} {g : Nat} {e : TypeId} {n : Int} (h : Blk W g e #[.int .i64 n]) : Rd (· < W.heap.size) 1 ienc W ⟨some ⟨g, 0, none⟩, 1, [n]⟩ := by
  refine ⟨Nat.le_refl _, by simp [maxLen], fun hc => (by cases hc), fun i x hx => ?_⟩
  cases i with
  | zero =>
    simp only [List.getElem?_cons_zero, Option.some.injEq] at hx
    subst hx
    refine ⟨g, 0, rfl, h.lt, fun j u hu => ?_⟩
    rw [h.cell]
    simpa [ienc] using hu
  | succ i => simp at hx
theorem natI_len (l : List Nat) : (natI l).length = l.length := by unfold natI; simp
set_option maxHeartbeats 600000 in
theorem morder_no (s : Sl Note) (w : World) (hr : RdNotes (· < w.heap.size) w s) (h : notesR (s.l.map Note.d) = false) :
    Calls Try.prog 37 #[.slice s.A s.l.length s.c] w fun e w' => OrderP w (ordN (s.l.map Note.d)) e w' := by
  have hv : ordN (s.l.map Note.d) = ([], 1) := by unfold ordN; rw [h]; rfl
  rw [hv]
  have HR := Lib.hid hr
  have HF := Lib.hid h
  clear hr h hv
  obtain ⟨A, c, l⟩ := s
  simp only
  go_enter Try.func37, Try.ntmps37
  go_wp2_with fail
  refine (merge_right ⟨A, c, l⟩ w HR.out).mono ?_
  rintro e w1 ⟨rfl, hb1⟩
  rw [HF.out]
  go_wp2_with fail
  try simp only [Exit.inBlock, Exit.then]
  refine bodyPost_ret (v := .tuple #[.slice none 0 0, .int .i64 1]) ?_ rfl (OrderP.no (E := 1) rfl rfl qbv)
  simp [results, Try.results37, go_sem, ]
set_option maxHeartbeats 600000 in
theorem morder_miss (s : Sl Note) (w : World) (hr : RdNotes (· < w.heap.size) w s) (h : notesR (s.l.map Note.d) = true) (hp : placesE (s.l.map Note.d) ≠ 0) :
    Calls Try.prog 37 #[.slice s.A s.l.length s.c] w fun e w' => OrderP w (ordN (s.l.map Note.d)) e w' := by
  have hv : ordN (s.l.map Note.d) = ([], placesE (s.l.map Note.d)) := by unfold ordN; rw [h, if_pos rfl, if_neg hp]
  rw [hv]
  have HR := Lib.hid hr
  have HF := Lib.hid h
  have HP := Lib.hid hp
  clear hr h hv hp
  obtain ⟨A, c, l⟩ := s
  simp only
  go_enter Try.func37, Try.ntmps37
  go_wp2_with fail
  refine (merge_right ⟨A, c, l⟩ w HR.out).mono ?_
  rintro e w1 ⟨rfl, hb1⟩
  rw [HF.out]
  go_wp2_with fail
  refine (mplaces ⟨A, c, l⟩ w1 (HR.out.later hb1 (Nat.le_refl _)) HF.out).mono ?_
  rintro e w2 ⟨hb2, h2⟩
  have h3 : e = .returned (.tuple #[.map none, .int .i64 (placesE (l.map Note.d))]) := by
    rcases h2 with ⟨h2, _⟩ | ⟨_, h2⟩
    · exact absurd h2 HP.out
    · exact h2
  subst h3
  have h4 : placesE (l.map Note.d) ≠ 0 := HP.out
  generalize hpe : placesE (l.map Note.d) = pe at *
  have HPE := Lib.hid hpe
  have e1 : (pe != 0) = true := by simp [h4]
  have hB2 : Below w.heap.size w w2 := qbv
  clear hb1 hb2 h2 hpe h4
  go_wp2_with fail
  try simp only [Exit.inBlock, Exit.then]
  refine bodyPost_ret (v := .tuple #[.slice none 0 0, .int .i64 pe]) ?_ rfl (OrderP.no (E := pe) rfl (by rw [HPE.out]) hB2)
  simp [results, Try.results37, go_sem, ]
set_option maxHeartbeats 1000000 in
theorem morder_yes (s : Sl Note) (w : World) (hr : RdNotes (· < w.heap.size) w s) (h : notesR (s.l.map Note.d) = true) (hp : placesE (s.l.map Note.d) = 0) :
    Calls Try.prog 37 #[.slice s.A s.l.length s.c] w fun e w' => OrderP w (ordN (s.l.map Note.d)) e w' := by
  have hv : ordN (s.l.map Note.d) = ordLoop (s.l.map Note.d) s.l.length (List.replicate 12 0) [] := by unfold ordN; rw [h, if_pos rfl, if_pos hp, List.length_map]
  rw [hv]
  have hlen : s.l.length ≤ 10000 := by simp only [notesR, Bool.and_eq_true, decide_eq_true_eq, List.length_map] at h; exact h.1
  have HW := Lib.hid (whole_of h hp)
  have HR := Lib.hid hr
  have HF := Lib.hid h
  have HP := Lib.hid hp
  clear hr h hv hp
  obtain ⟨A, c, l⟩ := s
  simp only at hlen
  simp only
  go_enter Try.func37, Try.ntmps37
  go_wp2_with fail
  refine (merge_right ⟨A, c, l⟩ w HR.out).mono ?_
  rintro e w1 ⟨rfl, hb1⟩
  rw [HF.out]
  go_wp2_with fail
  refine (mplaces ⟨A, c, l⟩ w1 (HR.out.later hb1 (Nat.le_refl _)) HF.out).mono ?_
  rintro e w2 ⟨hb2, h2⟩
  have h3 : ∃ g, e = .returned (.tuple #[.map (some g), .int .i64 0]) ∧ MapB w2 g (mapI (l.map Note.d) l.length) ∧ w1.heap.size ≤ g := by
    rcases h2 with ⟨_, g, h2, h3, h4⟩ | ⟨h2, _⟩
    · exact ⟨g, h2, by simpa using h3, h4⟩
    · exact absurd HP.out h2
  obtain ⟨gm, rfl, hM, hgm⟩ := h3
  have hB2 : Below w.heap.size w w2 := qbv
  have hgw : w.heap.size ≤ gm := Nat.le_trans hb1.size hgm
  clear hb1 hb2 h2 hgm
  have HM := Lib.hid hM
  have hglt := hM.lt
  clear hM
  go_wp2_with fail
  have hz2 : w.heap.size ≤ w2.heap.size := hB2.size
  go_loopw [7, 25] (fun o i wr => ∃ (k : Nat) (dn : List Int) (OA : Option Addr) (OC : Nat) (ol : List Nat), k ≤ l.length ∧ o = .slice OA (natI ol).length OC ∧ i = .int .i64 k ∧ OState w w2 wr gm (l.map Note.d) k dn OA OC ol) (fun _ i _ => l.length - (intOf i).toNat)
  case atStart =>
    refine ⟨0, List.replicate 12 0, none, 0, [], by omega, rfl, rfl, Own.nil _ _ _ _ _, ?_, Blk.new _ _ _, qbh, by simp, fun d => ?_, by rw [List.length_map]; rfl, rfl⟩
    · rw [List.length_map]; exact HM.out.alloc _
    · have : (List.replicate 12 (0 : Int)).getD d 0 = 0 := by simp only [List.getD_eq_getElem?_getD, List.getElem?_replicate]; split <;> rfl
      rw [this]; omega
  case round =>
    obtain ⟨k, dn, OA, OC, ol, hk, rfl, rfl, hS⟩ := hrel
    by_cases hlt : k < l.length
    · have HS := Lib.hid hS
      clear hS
      go_wp2_with fail
      obtain ⟨wo, hwo⟩ : ∃ x, x = wr := ⟨_, rfl⟩
      subst hwo
      go_loopw [8, 27] (fun o i wr => ∃ (d : Nat), d ≤ 12 ∧ i = .int .i64 d ∧ o = .int .i64 (oi (bestU (l.map Note.d) dn d)) ∧ Below wo.heap.size wo wr) (fun _ i _ => 12 - (intOf i).toNat)
      case atStart => exact ⟨0, by omega, rfl, rfl, Below.refl _ _⟩
      case round =>
        obtain ⟨d, hd, rfl, rfl, hbi⟩ := hrel
        have hT := HS.out.below hbi
        by_cases hdl : d < 12
        · have hdl' : (d : Int) < 12 := by omega
          have hI1 : I64 (d : Int) := by unfold I64; omega
          have hc := dn_cell hT.blk (show d < dn.length by rw [hT.len]; exact hdl)
          have hbd := hT.bnd d
          have hrd : Rd (· < wr.heap.size) 1 ienc wr ⟨some ⟨w2.heap.size, 0, none⟩, dn.length, dn⟩ := dn_rd hT.blk (by rw [hT.len]; decide)
          rw [hT.len] at hrd
          have hcand : candN (l.map Note.d) dn d = match atN (l.map Note.d) d (dn.getD d 0) with | some i => if rdyN (at! (l.map Note.d) i) dn then some i else none | none => none := rfl
          generalize hq : dn.getD d 0 = q at *
          have hI2 : I64 q := by unfold I64; omega
          have HT := Lib.hid hT
          have HRD := Lib.hid hrd
          have HQ := Lib.hid hq
          clear hT hrd hbd hq
          by_cases hex : ∃ j, j < l.length ∧ (at! (l.map Note.d) j).dev = (d : Int) ∧ (at! (l.map Note.d) j).seq = q
          · obtain ⟨j, hj, hjd, hjs⟩ := hex
            have hat : atN (l.map Note.d) d q = some j := by
              have := atN_of HW.out.apart (show j < (l.map Note.d).length by simpa using hj)
              rw [at!_eq (by simpa using hj)] at hjd hjs
              rw [hjd, hjs] at this; exact this
            rw [hat] at hcand
            simp only at hcand
            have HV := Lib.hid (mapI_yes (k := (l.map Note.d).length) (by simpa using hj) hjd hjs)
            have HU := Lib.hid (mapI_one (apartK_of HW.out.apart (Nat.le_refl _)) (by simpa using hj) hjd hjs)
            obtain ⟨b, o, rfl, hb, hcl⟩ := HR.out.1.at1 hj
            obtain ⟨g0, g1, g2, g3, g4⟩ := Cells.c5 (hcl.keep (HT.out.bel.block b hb))
            have hxa := (HR.out.2 _ (List.getElem_mem hj)).below' HT.out.bel (Nat.le_refl _)
            have hxd := at!_map hj
            have hxk : l[j]? = some l[j] := List.getElem?_eq_getElem hj
            clear hcl hjd hjs hat
            generalize l[j] = x at *
            obtain ⟨xd, xq, ⟨xA, xc, xl⟩, xt, xx⟩ := x
            have HXA := Lib.hid hxa
            have HXD := Lib.hid hxd
            have HXK := Lib.hid hxk
            rw [hxd] at hcand
            clear hxa hxd hxk
            go_wp2_with (at_lookup; refine wpl_look_yes rfl (.tmp 31) (.tmp 36) 123 rfl 3 (.int .i64 (j : Int)) Try.underlying123 HT.out.map rfl rfl hI1 hI2 HV.out HU.out ?_)
            have hj' : (j : Int) < (l.length : Int) := by omega
            have hrdy : Calls Try.prog 87 #[.agg #[.int .i64 xd, .int .i64 xq, .slice xA xl.length xc, .int .i64 xt, .string xx], .slice (some ⟨w2.heap.size, 0, none⟩) 12 12] wr.drew fun e w' => e = .returned (.bool (rdyN (Note.d ⟨xd, xq, ⟨xA, xc, xl⟩, xt, xx⟩) dn)) ∧ Below wr.drew.heap.size wr.drew w' := by
              have := mready ⟨xd, xq, ⟨xA, xc, xl⟩, xt, xx⟩ ⟨some ⟨w2.heap.size, 0, none⟩, 12, dn⟩ wr.drew HXA.out HRD.out
              simp only [HT.out.len] at this
              exact this
            refine wp_region_T (fun w' => (w'.cell? ⟨b, o + j * 5, none⟩ = some (.int .i64 xd) ∧ w'.cell? ⟨b, o + j * 5 + 1, none⟩ = some (.int .i64 xq) ∧ w'.cell? ⟨b, o + j * 5 + 2, none⟩ = some (.slice xA xl.length xc) ∧ w'.cell? ⟨b, o + j * 5 + 3, none⟩ = some (.int .i64 xt) ∧ w'.cell? ⟨b, o + j * 5 + 4, none⟩ = some (.string xx))) (fun _ => false) (by kernel_rfl) ⟨g0, g1, g2, g3, g4⟩ (fun hHeld => ?_)
            refine qtq 0 ?_
            simp only [qsa, qsb, qsc]
            refine qtq 1 ?_
            simp only [qsa, qsb, qsc]
            refine qtq 2 ?_
            simp only [qsa, qsb, qsc]
            refine qtq 3 ?_
            simp only [qsa, qsb, qsc]
            refine qtq 4 ?_
            simp only [qsa, qsb, qsc]
            refine qtq 5 ?_
            simp only [qsa, qsb, qsc]
            refine qtq 6 ?_
            simp only [qsa, qsb, qsc]
            refine qtq 7 ?_
            simp only [qsa, qsb, qsc]
            clear hHeld
            refine wpAnyT_next (i := 8) (by kernel_rfl) rfl ?_
            go_wp2_with fail
            refine hrdy.mono ?_
            rintro e w5 ⟨rfl, hb5⟩
            have hB5 : Below wr.heap.size wr w5 := qbv
            have hbi5 : Below wo.heap.size wo w5 := hbi.trans (hB5.mono hbi.size)
            have hz5 : wr.heap.size ≤ w5.heap.size := hB5.size
            generalize hrv : rdyN (Note.d ⟨xd, xq, ⟨xA, xc, xl⟩, xt, xx⟩) dn = rv at *
            have HRV := Lib.hid hrv
            clear hrdy hb5 hrv
            go_wp2_with fail
            refine ⟨(by first | exact ⟨keep_cell hB5 g0, keep_cell hB5 g1, keep_cell hB5 g2, keep_cell hB5 g3, keep_cell hB5 g4⟩ | exact fun _ => ⟨keep_cell hB5 g0, keep_cell hB5 g1, keep_cell hB5 g2, keep_cell hB5 g3, keep_cell hB5 g4⟩), ?_⟩
            have hHeld := And.intro (keep_cell hB5 g0) (And.intro (keep_cell hB5 g1) (And.intro (keep_cell hB5 g2) (And.intro (keep_cell hB5 g3) (keep_cell hB5 g4))))
            refine qtq 9 ?_
            simp only [qsa, qsb, qsc]
            refine qtq 10 ?_
            simp only [qsa, qsb, qsc]
            refine wpAnyT_done (by kernel_rfl) ?_ _
            clear hHeld
            have k3 := keep_cell hB5 g3
            clear g0 g1 g2 g3 g4
            rcases rv with _ | _
            · have hbu : bestU (l.map Note.d) dn (d + 1) = bestU (l.map Note.d) dn d := by
                rw [bestU, hcand]; rfl
              have HBU := Lib.hid hbu
              clear hbu hcand
              go_wp2_with fail
              go_roundw
              case rel => exact ⟨d + 1, by omega, by go_num, by first | (rw [HBU.out]; done) | (rw [HBU.out]; simp [oi]; done), hbi5⟩
              case measure => simp [intOf]; omega
            · simp only [if_true] at hcand
              have hbu : bestU (l.map Note.d) dn (d + 1) = upN (l.map Note.d) (bestU (l.map Note.d) dn d) j := by rw [bestU, hcand]
              clear hcand
              rcases hbe : bestU (l.map Note.d) dn d with _ | bb
              · rw [hbe] at hbu
                simp only [upN] at hbu
                have HBU := Lib.hid hbu
                clear hbu hbe
                simp only [oi]
                go_wp2_with fail
                refine wp_region_T (fun w' => w'.cell? ⟨b, o + j * 5 + 3, none⟩ = some (.int .i64 xt)) (fun _ => false) (by kernel_rfl) k3 (fun hHeld => ?_)
                refine qtq 0 ?_
                simp only [qsa, qsb, qsc]
                refine qtq 1 ?_
                simp only [qsa, qsb, qsc]
                refine qtq 2 ?_
                simp only [qsa, qsb, qsc]
                refine qtn 3 ?_
                simp only [qsa, qsb, qsc]
                refine qtn 4 ?_
                simp only [qsa, qsb, qsc]
                refine qtn 5 ?_
                simp only [qsa, qsb, qsc]
                refine qtn 6 ?_
                simp only [qsa, qsb, qsc]
                refine qtn 7 ?_
                simp only [qsa, qsb, qsc]
                refine qtn 8 ?_
                simp only [qsa, qsb, qsc]
                refine qtn 9 ?_
                simp only [qsa, qsb, qsc]
                refine qtn 10 ?_
                simp only [qsa, qsb, qsc]
                refine qtn 11 ?_
                simp only [qsa, qsb, qsc]
                refine qtn 12 ?_
                simp only [qsa, qsb, qsc]
                refine qtn 13 ?_
                simp only [qsa, qsb, qsc]
                refine qtq 14 ?_
                simp only [qsa, qsb, qsc]
                refine wpAnyT_done (by kernel_rfl) ?_ _
                clear hHeld
                go_wp2_with fail
                go_roundw
                case rel => exact ⟨d + 1, by omega, by go_num, by first | (rw [HBU.out]; done) | (rw [HBU.out]; simp [oi]; done), (Below.drew hbi5)⟩
                case measure => simp [intOf]; omega
              · have hbl : bb < l.length := by simpa using bestU_lt hbe
                have hbl' : (bb : Int) < (l.length : Int) := by omega
                have hb0 : ¬ ((bb : Int) < 0) := by omega
                obtain ⟨b', o', hA', hb', hcl'⟩ := HR.out.1.at1 hbl
                simp only [Option.some.injEq, Addr.mk.injEq, and_true] at hA'
                obtain ⟨rfl, rfl⟩ := hA'
                have q3 := (Cells.c5 (hcl'.keep ((HT.out.below hB5).bel.block b hb))).2.2.2.1
                have hyd := at!_map hbl
                clear hcl'
                generalize l[bb] = y at *
                obtain ⟨yd, yq, ⟨yA, yc, yl⟩, yt, yx⟩ := y
                rw [hbe] at hbu
                have hup : upN (l.map Note.d) (some bb) j = if xt < yt then some j else some bb := by
                  simp only [upN, hyd, HXD.out, Note.d]
                rw [hup] at hbu
                clear hup hyd hbe
                simp only [oi]
                go_wp2_with fail
                refine wp_region_T (fun w' => w'.cell? ⟨b, o + j * 5 + 3, none⟩ = some (.int .i64 xt) ∧ w'.cell? ⟨b, o + bb * 5 + 3, none⟩ = some (.int .i64 yt)) (fun _ => false) (by kernel_rfl) ⟨k3, q3⟩ (fun hHeld => ?_)
                refine qtq 0 ?_
                simp only [qsa, qsb, qsc]
                refine qtq 1 ?_
                simp only [qsa, qsb, qsc]
                refine qtq 2 ?_
                simp only [qsa, qsb, qsc]
                refine qtq 3 ?_
                simp only [qsa, qsb, qsc]
                refine qtq 4 ?_
                simp only [qsa, qsb, qsc]
                refine qtq 5 ?_
                simp only [qsa, qsb, qsc]
                refine qtq 6 ?_
                simp only [qsa, qsb, qsc]
                refine qtq 7 ?_
                simp only [qsa, qsb, qsc]
                refine qtq 8 ?_
                simp only [qsa, qsb, qsc]
                refine qtq 9 ?_
                simp only [qsa, qsb, qsc]
                refine qtq 10 ?_
                simp only [qsa, qsb, qsc]
                refine qtq 11 ?_
                simp only [qsa, qsb, qsc]
                refine qtq 12 ?_
                simp only [qsa, qsb, qsc]
                refine qtq 13 ?_
                simp only [qsa, qsb, qsc]
                refine qtq 14 ?_
                simp only [qsa, qsb, qsc]
                refine wpAnyT_done (by kernel_rfl) ?_ _
                clear hHeld k3 q3
                by_cases htt : xt < yt
                · rw [if_pos htt] at hbu
                  have HBU := Lib.hid hbu
                  clear hbu
                  go_wp2_with fail
                  go_roundw
                  case rel => exact ⟨d + 1, by omega, by go_num, by first | (rw [HBU.out]; done) | (rw [HBU.out]; simp [oi]; done), (Below.drew hbi5)⟩
                  case measure => simp [intOf]; omega
                · rw [if_neg htt] at hbu
                  have HBU := Lib.hid hbu
                  clear hbu
                  go_wp2_with fail
                  go_roundw
                  case rel => exact ⟨d + 1, by omega, by go_num, by first | (rw [HBU.out]; done) | (rw [HBU.out]; simp [oi]; done), (Below.drew hbi5)⟩
                  case measure => simp [intOf]; omega
          · have hat : atN (l.map Note.d) d q = none := by
              refine atN_none (fun j hj => ?_)
              rcases h : isK d q (l.map Note.d)[j]
              · rfl
              · exact absurd ⟨j, by simpa using hj, by rw [at!_eq hj]; exact isK_iff.1 h⟩ hex
            rw [hat] at hcand
            simp only at hcand
            have hbu : bestU (l.map Note.d) dn (d + 1) = bestU (l.map Note.d) dn d := by
              rw [bestU, hcand]
            have HBU := Lib.hid hbu
            have HNO := Lib.hid (mapI_no (k := (l.map Note.d).length) (by simpa using hex))
            clear hbu hcand hat hex
            go_wp2_with (at_lookup; refine wpl_look_no rfl (.tmp 31) (.tmp 36) 123 rfl 3 _ Try.underlying123 Try.zeroValue3 HT.out.map rfl rfl hI1 hI2 HNO.out ?_)
            refine wp_region_T (fun _ => True) (fun _ => false) (by kernel_rfl) trivial (fun hHeld => ?_)
            refine qtq 0 ?_
            simp only [qsa, qsb, qsc]
            refine qtq 1 ?_
            simp only [qsa, qsb, qsc]
            refine qtq 2 ?_
            simp only [qsa, qsb, qsc]
            refine qtn 3 ?_
            simp only [qsa, qsb, qsc]
            refine qtn 4 ?_
            simp only [qsa, qsb, qsc]
            refine qtn 5 ?_
            simp only [qsa, qsb, qsc]
            refine qtn 6 ?_
            simp only [qsa, qsb, qsc]
            refine qtn 7 ?_
            simp only [qsa, qsb, qsc]
            refine qtn 8 ?_
            simp only [qsa, qsb, qsc]
            refine qtn 9 ?_
            simp only [qsa, qsb, qsc]
            refine qtq 10 ?_
            simp only [qsa, qsb, qsc]
            refine wpAnyT_done (by kernel_rfl) ?_ _
            clear hHeld
            go_wp2_with fail
            go_roundw
            case rel => exact ⟨d + 1, by omega, by go_num, by first | (rw [HBU.out]; done) | (rw [HBU.out]; simp [oi]; done), (Below.drew hbi)⟩
            case measure => simp [intOf]; omega
        · obtain rfl : d = 12 := by omega
          rcases hbe : bestU (l.map Note.d) dn 12 with _ | bb
          · have hst := hT.stop (by simpa using hlt) hbe
            have HST := Lib.hid hst
            have HBE := Lib.hid hbe
            have hbF := hT.bel
            rw [List.length_map] at HST
            clear hst hT hbe
            simp only [oi]
            go_wp2_with fail
            try simp only [Exit.inBlock, Exit.then]
            refine bodyPost_ret (v := .tuple #[.slice none 0 0, .int .i64 25]) ?_ rfl (OrderP.no (E := 25) rfl HST.out hbF)
            simp [results, Try.results37, go_sem, ]
          · have hbl : bb < l.length := by simpa using bestU_lt hbe
            have hbl' : (bb : Int) < (l.length : Int) := by omega
            have hb0 : ¬ ((bb : Int) < 0) := by omega
            obtain ⟨b, o, rfl, hb, hcl⟩ := HR.out.1.at1 hbl
            have g0 := (Cells.c5 (hcl.keep (hT.bel.block b hb))).1
            have hyd := at!_map hbl
            have hyr := right_rng (HW.out.right _ (List.mem_map_of_mem (f := Note.d) (List.getElem_mem hbl)))
            clear hcl
            generalize l[bb] = y at *
            obtain ⟨yd, yq, ⟨yA, yc, yl⟩, yt, yx⟩ := y
            simp only [Note.d] at hyr hyd
            obtain ⟨dv, rfl⟩ := Int.eq_ofNat_of_zero_le hyr.1.1
            have hdv : dv < 12 := by omega
            have hdv' : (dv : Int) < 12 := by omega
            have hc := dn_cell hT.blk (show dv < dn.length by rw [hT.len]; exact hdv)
            have hfz := hT.blk.frozen dv
            have hbd := hT.bnd dv
            have hbmp : bumpN dn (at! (l.map Note.d) bb).dev = dn.set dv (dn.getD dv 0 + 1) := by rw [hyd]; unfold bumpN; simp
            have hbk := hT.blk.set_ dv (.int .i64 (dn.getD dv 0 + 1))
            rw [dn_set] at hbk
            rw [← hbmp] at hbk
            have hdvt : (at! (l.map Note.d) bb).dev.toNat < 12 := by rw [hyd]; simpa using hdv
            generalize hq : dn.getD dv 0 = q at *
            have hw : IntKind.i64.wrap (q + 1) = q + 1 := by rw [IntKind.wrap_i64]; omega
            have hmp := hT.map
            have hbl2 := hT.bel
            have hown := hT.own
            have hol := hT.olen
            have hnl : (natI ol).length = k := by rw [natI_len]; exact hol
            have hz3 : w2.heap.size < wr.heap.size := hT.blk.lt
            have HBK := Lib.hid hbk
            have HMP := Lib.hid hmp
            have HBL := Lib.hid hbl2
            have HOW := Lib.hid hown
            have HT := Lib.hid hT
            have HBE := Lib.hid hbe
            have HDT := Lib.hid hdvt
            have HNL := Lib.hid hnl
            clear hbk hmp hbl2 hown hT hbe hbmp hyd hq hyr hdvt hol
            simp only [oi]
            have hk64 : (natI ol).length ≤ 10000 := by omega
            clear hnl
            go_wp2_with (at_builtin; go_must (refine wpl_append_sl (base := w2.heap.size + 1) _ rfl (.tmp 79) (.tmp 81) _ rfl Try.underlying24 infoInt (by omega) ienc_k ienc_one ⟨OA, OC, natI ol⟩ ⟨some ⟨wr.heap.size, 0, none⟩, 1, [(bb : Int)]⟩ rfl rfl ((HOW.out.far (by simp) _).alloc _) (rdOne (Blk.new' (by simp))) (by simp [maxLen]; omega) (by simp; omega) (by simp; omega) ?_); intro A6 c6 w6 hown6 hg6 hat6; apply Hid.out)
            refine Lib.hid ?_
            have hlow : ∀ q', (Value.slice OA (natI ol).length OC).ownBlock = some q' → w2.heap.size + 1 ≤ q' := by
              intro q' hq'
              rcases HOW.out.form with ⟨hA, _⟩ | ⟨g, hA, h1, _⟩
              · simp only at hA; subst hA; cases hq'
              · simp only at hA; subst hA; simp only [Value.ownBlock, Option.some.injEq] at hq'; omega
            have hne1 : some gm ≠ (Value.slice OA (natI ol).length OC).ownBlock := fun hc => by have := hlow gm hc.symm; omega
            have hne2 : some w2.heap.size ≠ (Value.slice OA (natI ol).length OC).ownBlock := fun hc => by have := hlow _ hc.symm; omega
            have hB6 : Below w.heap.size w w6 := Below.grown ((HBL.out.setCell (by simpa using hz2) _).alloc (by simp; omega) _) hg6 (by simp; omega) (fun q' hq' => by have := hlow q' hq'; omega)
            have hnx := HT.out.next (w6 := w6) (OA' := A6) (OC' := c6) (by simpa using hlt) HBE.out HDT.out hown6 (((HMP.out.set_ (by simp; omega) _).alloc _).grown hg6 hne1) ((HBK.out.alloc _).grown hg6 hne2) hB6
            have HNX := Lib.hid hnx
            clear hown6 hg6 hat6 hlow hne1 hne2 hnx
            go_wp2_with fail
            go_roundw
            case rel => exact ⟨k + 1, _, A6, c6, ol ++ [bb], by omega, by simp [Act.eval, go_sem, natI], by go_num, HNX.out⟩
            case measure => simp [intOf]; omega
    · obtain rfl : k = l.length := by omega
      have hlp := hS.loop
      rw [List.length_map, Nat.sub_self, ordLoop] at hlp
      have hfin : OrderP w (ordLoop (l.map Note.d) l.length (List.replicate 12 0) []) (.returned (.tuple #[.slice OA (natI ol).length OC, .int .i64 0])) wr := by
        rw [hlp]
        exact ⟨⟨OA, OC, natI ol⟩, rfl, rfl, (hS.own.rd ienc_k).mono (fun b hb => ⟨by have := hb.1; omega, hb.2⟩), hS.bel⟩
      have HFIN := Lib.hid hfin
      clear hfin hlp hS hlt
      go_wp2_with fail
      try simp only [Exit.inBlock, Exit.then]
      refine bodyPost_ret (v := .tuple #[.slice OA (natI ol).length OC, .int .i64 0]) ?_ rfl HFIN.out
      simp [results, Try.results37, go_sem, ]
theorem morder (s : Sl Note) (w : World) (hr : RdNotes (· < w.heap.size) w s) :
    Calls Try.prog 37 #[.slice s.A s.l.length s.c] w fun e w' => OrderP w (ordN (s.l.map Note.d)) e w' := by
  rcases h : notesR (s.l.map Note.d)
  · exact morder_no s w hr h
  · by_cases hp : placesE (s.l.map Note.d) = 0
    · exact morder_yes s w hr h hp
    · exact morder_miss s w hr h hp
end Go.Proofs.Ythnblhbdfpmolaa
