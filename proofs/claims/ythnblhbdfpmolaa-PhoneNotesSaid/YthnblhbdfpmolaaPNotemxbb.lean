/- Walk of merge.places. -/
import Derived.Test.YthnblhbdfpmolaaPNotemxba
import Derived.Test.YthnblhbdfpmolaaPNotemxay
namespace Go.Proofs.Ythnblhbdfpmolaa
open Go.RowKit
/-- The first k notes' places, as the map holds them. -/
def mapI (l : List NoteD) (k : Nat) : List ((Int × Int) × Value) := (List.range k).map fun (i : Nat) => (((at! l i).dev, (at! l i).seq), .int .i64 (i : Int))
theorem mapI_succ (l : List NoteD) (k : Nat) : mapI l (k + 1) = mapI l k ++ [(((at! l k).dev, (at! l k).seq), .int .i64 (k : Int))] := by unfold mapI; rw [List.range_succ, List.map_append]; rfl
theorem mapI_no {l : List NoteD} {k : Nat} {d s : Int} (h : ¬ ∃ j, j < k ∧ (at! l j).dev = d ∧ (at! l j).seq = s) : ∀ p, p ∈ mapI l k → p.1 ≠ (d, s) := by
  intro p hp hc
  obtain ⟨j, hj, rfl⟩ := List.mem_map.1 hp
  simp only [Prod.mk.injEq] at hc
  exact h ⟨j, List.mem_range.1 hj, hc⟩
theorem mapI_yes {l : List NoteD} {k j : Nat} {d s : Int} (hj : j < k) (hd : (at! l j).dev = d) (hs : (at! l j).seq = s) : ((d, s), (Value.int .i64 (j : Int))) ∈ mapI l k := by
  unfold mapI
  rw [List.mem_map]
  exact ⟨j, List.mem_range.2 hj, by rw [hd, hs]⟩
theorem mapI_one {l : List NoteD} {k j : Nat} {d s : Int} (ha : ApartK l k) (hj : j < k) (hd : (at! l j).dev = d) (hs : (at! l j).seq = s) : ∀ p, p ∈ mapI l k → p.1 = (d, s) → p.2 = (Value.int .i64 (j : Int)) := by
  intro p hp hc
  obtain ⟨i, hi, rfl⟩ := List.mem_map.1 hp
  simp only [Prod.mk.injEq] at hc
  have hi' := List.mem_range.1 hi
  rcases Nat.lt_trichotomy i j with h | h | h
  · exact absurd ⟨hc.1.trans hd.symm, hc.2.trans hs.symm⟩ (ha i j h hj)
  · rw [h]
  · exact absurd ⟨hd.trans hc.1.symm, hs.trans hc.2.symm⟩ (ha j i h hi')
def PlacesP (w : World) (l : List NoteD) (e : Ending) (w' : World) : Prop :=
  Below w.heap.size w w' ∧ ((placesE l = 0 ∧ ∃ g, e = .returned (.tuple #[.map (some g), .int .i64 0]) ∧ MapB w' g (mapI l l.length) ∧ w.heap.size ≤ g) ∨ (placesE l ≠ 0 ∧ e = .returned (.tuple #[.map none, .int .i64 (placesE l)])))
theorem PlacesP.no {w w' : World} {l : List NoteD} {E : Int} {e : Ending} (he : e = .returned (.tuple #[.map none, .int .i64 E])) (hE : placesE l = E) (h0 : E ≠ 0) (hb : Below w.heap.size w w') : PlacesP w l e w' :=
  ⟨hb, .inr ⟨by rw [hE]; exact h0, by rw [hE]; exact he⟩⟩
theorem at!_map {l : List Note} {i : Nat} (h : i < l.length) : at! (l.map Note.d) i = l[i].d := by rw [at!_eq (by simpa using h)]; simp
set_option maxHeartbeats 1000000 in
theorem mplaces (s : Sl Note) (w : World) (hr : RdNotes (· < w.heap.size) w s) (hok : notesR (s.l.map Note.d) = true) :
    Calls Try.prog 86 #[.slice s.A s.l.length s.c] w fun e w' => PlacesP w (s.l.map Note.d) e w' := by
  have hall : ∀ n, n ∈ s.l → n.d.right = true := by
    simp only [notesR, Bool.and_eq_true, List.all_eq_true] at hok
    exact fun n hn => hok.2 _ (List.mem_map_of_mem (f := Note.d) hn)
  have hlen : s.l.length ≤ 10000 := by simp only [notesR, Bool.and_eq_true, decide_eq_true_eq, List.length_map] at hok; exact hok.1
  have HR := Lib.hid hr
  have HALL := Lib.hid hall
  clear hr hok hall
  obtain ⟨A, c, l⟩ := s
  simp only at hlen
  have hmm := @run_makeMap Try.prog
  simp only
  go_enter Try.func86, Try.ntmps86
  go_wp2_with fail
  go_loopw [19] (fun i wr => ∃ (k : Nat), k ≤ l.length ∧ i = .int .i64 k ∧ MapB wr w.heap.size (mapI (l.map Note.d) k) ∧ ApartK (l.map Note.d) k ∧ Below w.heap.size w wr) (fun i _ => l.length - (intOf i).toNat)
  case atStart => exact ⟨0, by omega, rfl, MapB.made w, fun i j hij hj => absurd hj (Nat.not_lt_zero _), qbl⟩
  case round =>
    obtain ⟨k, hk, rfl, hM, ha, hbel⟩ := hrel
    by_cases hlt : k < l.length
    · obtain ⟨b, o, rfl, hb, hcl⟩ := HR.out.1.at1 hlt
      obtain ⟨g0, g1, g2, g3, g4⟩ := Cells.c5 (hcl.keep (hbel.block b hb))
      have hat := at!_map hlt
      have hrg := right_rng (HALL.out _ (List.getElem_mem hlt))
      clear hcl
      generalize l[k] = x at *
      obtain ⟨xd, xq, ⟨xA, xc, xl⟩, xt, xx⟩ := x
      simp only [Note.d] at hrg
      have hID : I64 xd := by unfold I64; omega
      have hIQ : I64 xq := by unfold I64; omega
      have HAT := Lib.hid hat
      have HM := Lib.hid hM
      have HA := Lib.hid ha
      have glt := hM.lt
      clear hat hM ha hrg
      by_cases hex : ∃ j, j < k ∧ (at! (l.map Note.d) j).dev = xd ∧ (at! (l.map Note.d) j).seq = xq
      · obtain ⟨j, hjk, hjd, hjs⟩ := hex
        have hE : placesE (l.map Note.d) = 5 := placesE_dup (i := j) (j := k) hjk (by simpa using hlt) (by rw [HAT.out]; exact hjd) (by rw [HAT.out]; exact hjs)
        have HE := Lib.hid hE
        have HV := Lib.hid (mapI_yes hjk hjd hjs)
        have HU := Lib.hid (mapI_one HA.out hjk hjd hjs)
        clear hE hjd hjs
        go_wp2_with (at_lookup; refine wpl_look_yes rfl (.tmp 30) (.tmp 31) 123 rfl 3 (.int .i64 (j : Int)) Try.underlying123 (by repeat (first | (with_reducible exact HM.out) | ((with_reducible refine mapB_setr ?_ ?_); focus (first | (simp; done) | (simp; omega) | omega)) | (with_reducible refine mapB_allocr ?_))) rfl rfl hID hIQ HV.out HU.out ?_)
        try simp only [Exit.inBlock, Exit.then]
        refine bodyPost_ret (v := .tuple #[.map none, .int .i64 5]) ?_ rfl (PlacesP.no (E := 5) rfl HE.out (by decide) qbv)
        simp [results, Try.results86, go_sem, ]
      · have HNO := Lib.hid (mapI_no hex)
        have HEX := Lib.hid hex
        clear hex
        go_wp2_with (first | (at_lookup; refine wpl_look_no rfl (.tmp 30) (.tmp 31) 123 rfl 3 _ Try.underlying123 Try.zeroValue3 (by repeat (first | (with_reducible exact HM.out) | ((with_reducible refine mapB_setr ?_ ?_); focus (first | (simp; done) | (simp; omega) | omega)) | (with_reducible refine mapB_allocr ?_))) rfl rfl hID hIQ HNO.out ?_) | (at_mapUpdate; refine wpl_store_new rfl (.tmp 36) (.tmp 37) (.tmp 38) 123 rfl 3 (.int .i64 (k : Int)) Try.underlying123 (by repeat (first | (with_reducible exact HM.out) | ((with_reducible refine mapB_setr ?_ ?_); focus (first | (simp; done) | (simp; omega) | omega)) | (with_reducible refine mapB_allocr ?_))) rfl rfl rfl hID hIQ HNO.out ?_; intro w5 hM5 hg5; apply Hid.out))
        refine Lib.hid ?_
        have hB5 : Below w.heap.size w w5 := Below.grown (B := w.heap.size) qbv hg5 (by have := hbel.size; simp; omega) (by simp)
        have hM6 : MapB w5 w.heap.size (mapI (l.map Note.d) (k + 1)) := by
          rw [mapI_succ, HAT.out]; exact hM5
        have hA6 : ApartK (l.map Note.d) (k + 1) := by
          intro i j hij hj
          rcases Nat.lt_or_ge j k with h | h
          · exact HA.out i j hij h
          · obtain rfl : j = k := by omega
            intro hc
            rw [HAT.out] at hc
            exact HEX.out ⟨i, hij, hc⟩
        have HM6 := Lib.hid hM6
        have HA6 := Lib.hid hA6
        clear hM5 hM6 hA6 hg5
        go_wp2_with fail
        go_roundw
        case rel => exact ⟨k + 1, by omega, by go_num, HM6.out, HA6.out, hB5⟩
        case measure => simp [intOf]; omega
    · obtain rfl : k = l.length := by omega
      have HM := Lib.hid hM
      have hap : (l.map Note.d).Pairwise ApartN := apartK_all (by simpa using ha)
      have HAP := Lib.hid hap
      have HA := Lib.hid ha
      have HB := Lib.hid hbel
      clear hM ha hap hbel hlt
      go_wp2_with fail
      obtain ⟨wo, hwo⟩ : ∃ x, x = wr := ⟨_, rfl⟩
      subst hwo
      go_loopw [42] (fun i wr => ∃ (k : Nat), k ≤ l.length ∧ i = .int .i64 k ∧ Below wo.heap.size wo wr ∧ (∀ j n, j < k → l[j]? = some n → missOne (l.map Note.d) n.d = false)) (fun i _ => l.length - (intOf i).toNat)
      case atStart => exact ⟨0, by omega, rfl, Below.refl _ _, fun j n hj => absurd hj (Nat.not_lt_zero _)⟩
      case round =>
        obtain ⟨k, hk, rfl, hbo, hms⟩ := hrel
        have HMS := Lib.hid hms
        clear hms
        have hM2 := HM.out.below hbo HM.out.lt
        have hbw := HB.out.trans (hbo.mono HB.out.size)
        by_cases hlt : k < l.length
        · obtain ⟨b, o, rfl, hb, hcl⟩ := HR.out.1.at1 hlt
          obtain ⟨g0, g1, g2, g3, g4⟩ := Cells.c5 (hcl.keep (hbw.block b hb))
          have hxk : l[k]? = some l[k] := List.getElem?_eq_getElem hlt
          have hxm : l[k].d ∈ l.map Note.d := List.mem_map_of_mem (f := Note.d) (List.getElem_mem hlt)
          have hxr := HALL.out _ (List.getElem_mem hlt)
          have hxa := (HR.out.2 _ (List.getElem_mem hlt)).below' hbw (Nat.le_refl _)
          clear hcl
          generalize l[k] = x at *
          obtain ⟨xd, xq, ⟨xA, xc, xl⟩, xt, xx⟩ := x
          have hrg := right_rng hxr
          simp only [Note.d] at hrg
          have HXK := Lib.hid hxk
          have HXM := Lib.hid hxm
          have HXR := Lib.hid hxr
          have HXA := Lib.hid hxa
          have HM2 := Lib.hid hM2
          have HBW := Lib.hid hbw
          have HBO := Lib.hid hbo
          have glt := hM2.lt
          have hzo : wo.heap.size ≤ wr.heap.size := hbo.size
          have hq1 : -1 ≤ xq - 1 ∧ xq - 1 ≤ 9999 := by omega
          clear hxk hxm hxr hxa hM2 hbw hbo hrg
          go_wp2_with fail
          obtain ⟨wq, hwq⟩ : ∃ x, x = wr := ⟨_, rfl⟩
          subst hwq
          go_loopw [46] (fun i wr => ∃ (d : Nat), d ≤ 12 ∧ i = .int .i64 d ∧ Blk wr wq.heap.size 61 #[.int .i64 xd, .int .i64 xq, .slice xA xl.length xc, .int .i64 xt, .string xx] ∧ Below wq.heap.size wq wr ∧ (∀ d' : Nat, d' < d → ¬ (0 ≤ sqN (Note.d ⟨xd, xq, ⟨xA, xc, xl⟩, xt, xx⟩) d' ∧ (l.map Note.d).any (isK d' (sqN (Note.d ⟨xd, xq, ⟨xA, xc, xl⟩, xt, xx⟩) d')) = false))) (fun i _ => 12 - (intOf i).toNat)
          case atStart => exact ⟨0, by omega, rfl, Blk.new _ _ _, qbl, fun d' hd' => absurd hd' (Nat.not_lt_zero _)⟩
          case round =>
            obtain ⟨d, hd, rfl, hblk, hbi, hnd⟩ := hrel
            obtain ⟨a0, a1, a2, a3, a4, af, az⟩ := hblk.b5
            have B_a := Lib.hid hblk
            have HND := Lib.hid hnd
            clear hblk hnd
            have hzz : w.heap.size ≤ wq.heap.size := Nat.le_of_lt glt
            by_cases hdl : d < 12
            · have hdl' : (d : Int) < 12 := by omega
              have hI1 : I64 (d : Int) := by unfold I64; omega
              have hM4 := HM2.out.below hbi glt
              have hsr := seen_rng HXR.out d
              simp only [Note.d] at hsr
              have hw2 : IntKind.i64.wrap (xq - 1) = xq - 1 := by rw [IntKind.wrap_i64]; omega
              go_wp2_with fail
              refine (mafter ⟨xd, xq, ⟨xA, xc, xl⟩, xt, xx⟩ d (by omega) _ (HXA.out.below' hbi (Nat.le_refl _))).mono ?_
              rintro e w5 ⟨rfl, hb5⟩
              simp only at hsr ⊢
              generalize hva : seenN xl d = va at *
              have HVA := Lib.hid hva
              have hw1 : IntKind.i64.wrap (va - 1) = va - 1 := by rw [IntKind.wrap_i64]; omega
              have hM5 := hM4.later hb5
              clear a0 a1 a2 a3 a4 af hva hM4
              have K_a : Blk _ (wq.heap.size) 61 #[.int .i64 xd, .int .i64 xq, .slice xA xl.length xc, .int .i64 xt, .string xx] := qkc B_a hb5
              obtain ⟨a0, a1, a2, a3, a4, af, az⟩ := Blk.b5 K_a
              have B_a := Lib.hid K_a
              clear K_a
              have hB5 : Below wq.heap.size wq w5 := qbv
              have hz5 : wq.heap.size ≤ w5.heap.size := hB5.size
              have hne : wq.heap.size ≠ w5.heap.size := by omega
              clear hb5
              by_cases hdd : (d : Int) = xd
              · have e1 : ((d : Int) == xd) = true := by simp [hdd]
                have HSQ : Hid (sqN (Note.d ⟨xd, xq, ⟨xA, xc, xl⟩, xt, xx⟩) d = xq - 1) := Lib.hid (by unfold sqN; exact if_pos hdd)
                clear hdd hw1
                have hI2 : I64 (xq - 1) := by unfold I64; omega
                rcases Int.lt_or_le (xq - 1) 0 with hs | hs
                · have hok : ¬ (0 ≤ sqN (Note.d ⟨xd, xq, ⟨xA, xc, xl⟩, xt, xx⟩) d ∧ (l.map Note.d).any (isK d (sqN (Note.d ⟨xd, xq, ⟨xA, xc, xl⟩, xt, xx⟩) d)) = false) := by rw [HSQ.out]; omega
                  have HOK := Lib.hid hok
                  clear hok
                  by_cases hex : ∃ j, j < l.length ∧ (at! (l.map Note.d) j).dev = (d : Int) ∧ (at! (l.map Note.d) j).seq = xq - 1
                  · skip
                    obtain ⟨j, hj, hjd, hjs⟩ := hex
                    have HV := Lib.hid (mapI_yes hj hjd hjs)
                    have HU := Lib.hid (mapI_one HA.out hj hjd hjs)
                    clear hj hjd hjs
                    go_wp2_with (at_lookup; refine wpl_look_yes rfl (.tmp 64) (.tmp 65) 123 rfl 3 (.int .i64 (j : Int)) Try.underlying123 (by repeat (first | (with_reducible exact hM5) | ((with_reducible refine mapB_setr ?_ ?_); focus (first | (simp; done) | (simp; omega) | omega)) | (with_reducible refine mapB_allocr ?_))) rfl rfl hI1 hI2 HV.out HU.out ?_)
                    go_roundw
                    case rel =>
                      refine ⟨d + 1, by omega, by go_num, blk_here (by simp [hp_past, hp_at, hp_other, B_a.out.eq, B_a.out.lt, hne]), qbv, fun d' hd' => ?_⟩
                      rcases Nat.lt_or_ge d' d with h1 | h1
                      · exact HND.out d' h1
                      · obtain rfl : d' = d := by omega
                        exact HOK.out
                    case measure => simp [intOf]; omega
                  · skip
                    have HNO := Lib.hid (mapI_no hex)
                    clear hex
                    go_wp2_with (at_lookup; refine wpl_look_no rfl (.tmp 64) (.tmp 65) 123 rfl 3 _ Try.underlying123 Try.zeroValue3 (by repeat (first | (with_reducible exact hM5) | ((with_reducible refine mapB_setr ?_ ?_); focus (first | (simp; done) | (simp; omega) | omega)) | (with_reducible refine mapB_allocr ?_))) rfl rfl hI1 hI2 HNO.out ?_)
                    go_roundw
                    case rel =>
                      refine ⟨d + 1, by omega, by go_num, blk_here (by simp [hp_past, hp_at, hp_other, B_a.out.eq, B_a.out.lt, hne]), qbv, fun d' hd' => ?_⟩
                      rcases Nat.lt_or_ge d' d with h1 | h1
                      · exact HND.out d' h1
                      · obtain rfl : d' = d := by omega
                        exact HOK.out
                    case measure => simp [intOf]; omega
                · by_cases hex : ∃ j, j < l.length ∧ (at! (l.map Note.d) j).dev = (d : Int) ∧ (at! (l.map Note.d) j).seq = xq - 1
                  · have hok : ¬ (0 ≤ sqN (Note.d ⟨xd, xq, ⟨xA, xc, xl⟩, xt, xx⟩) d ∧ (l.map Note.d).any (isK d (sqN (Note.d ⟨xd, xq, ⟨xA, xc, xl⟩, xt, xx⟩) d)) = false) := by
                      rw [HSQ.out, any_isK.2 (let ⟨j, hj, h⟩ := hex; ⟨j, (by simpa using hj), h⟩)]; simp
                    have HOK := Lib.hid hok
                    clear hok
                    obtain ⟨j, hj, hjd, hjs⟩ := hex
                    have HV := Lib.hid (mapI_yes hj hjd hjs)
                    have HU := Lib.hid (mapI_one HA.out hj hjd hjs)
                    clear hj hjd hjs
                    go_wp2_with (at_lookup; refine wpl_look_yes rfl (.tmp 64) (.tmp 65) 123 rfl 3 (.int .i64 (j : Int)) Try.underlying123 (by repeat (first | (with_reducible exact hM5) | ((with_reducible refine mapB_setr ?_ ?_); focus (first | (simp; done) | (simp; omega) | omega)) | (with_reducible refine mapB_allocr ?_))) rfl rfl hI1 hI2 HV.out HU.out ?_)
                    go_roundw
                    case rel =>
                      refine ⟨d + 1, by omega, by go_num, blk_here (by simp [hp_past, hp_at, hp_other, B_a.out.eq, B_a.out.lt, hne]), qbv, fun d' hd' => ?_⟩
                      rcases Nat.lt_or_ge d' d with h1 | h1
                      · exact HND.out d' h1
                      · obtain rfl : d' = d := by omega
                        exact HOK.out
                    case measure => simp [intOf]; omega
                  · have hE : placesE (l.map Note.d) = 18 := by
                      refine placesE_miss HAP.out HXM.out ((missOne_iff HXR.out).2 ⟨d, hdl, by rw [HSQ.out]; exact hs, ?_⟩)
                      rw [HSQ.out]
                      rcases h : (l.map Note.d).any (isK d (xq - 1))
                      · rfl
                      · exact absurd (let ⟨j, hj, h⟩ := any_isK.1 h; ⟨j, (by simpa using hj), h⟩) hex
                    have HE := Lib.hid hE
                    clear hE
                    have HNO := Lib.hid (mapI_no hex)
                    clear hex
                    go_wp2_with (at_lookup; refine wpl_look_no rfl (.tmp 64) (.tmp 65) 123 rfl 3 _ Try.underlying123 Try.zeroValue3 (by repeat (first | (with_reducible exact hM5) | ((with_reducible refine mapB_setr ?_ ?_); focus (first | (simp; done) | (simp; omega) | omega)) | (with_reducible refine mapB_allocr ?_))) rfl rfl hI1 hI2 HNO.out ?_)
                    try simp only [Exit.inBlock, Exit.then]
                    refine bodyPost_ret (v := .tuple #[.map none, .int .i64 18]) ?_ rfl (PlacesP.no (E := 18) rfl HE.out (by decide) (HBW.out.trans (Below.mono qbv hzz)))
                    simp [results, Try.results86, go_sem, ]
              · have e1 : ((d : Int) == xd) = false := by simp [hdd]
                have HSQ : Hid (sqN (Note.d ⟨xd, xq, ⟨xA, xc, xl⟩, xt, xx⟩) d = va - 1) := Lib.hid (by unfold sqN; rw [← HVA.out]; exact if_neg hdd)
                clear hdd hw2
                have hI2 : I64 (va - 1) := by unfold I64; omega
                rcases Int.lt_or_le (va - 1) 0 with hs | hs
                · have hok : ¬ (0 ≤ sqN (Note.d ⟨xd, xq, ⟨xA, xc, xl⟩, xt, xx⟩) d ∧ (l.map Note.d).any (isK d (sqN (Note.d ⟨xd, xq, ⟨xA, xc, xl⟩, xt, xx⟩) d)) = false) := by rw [HSQ.out]; omega
                  have HOK := Lib.hid hok
                  clear hok
                  by_cases hex : ∃ j, j < l.length ∧ (at! (l.map Note.d) j).dev = (d : Int) ∧ (at! (l.map Note.d) j).seq = va - 1
                  · skip
                    obtain ⟨j, hj, hjd, hjs⟩ := hex
                    have HV := Lib.hid (mapI_yes hj hjd hjs)
                    have HU := Lib.hid (mapI_one HA.out hj hjd hjs)
                    clear hj hjd hjs
                    go_wp2_with (at_lookup; refine wpl_look_yes rfl (.tmp 64) (.tmp 65) 123 rfl 3 (.int .i64 (j : Int)) Try.underlying123 (by repeat (first | (with_reducible exact hM5) | ((with_reducible refine mapB_setr ?_ ?_); focus (first | (simp; done) | (simp; omega) | omega)) | (with_reducible refine mapB_allocr ?_))) rfl rfl hI1 hI2 HV.out HU.out ?_)
                    go_roundw
                    case rel =>
                      refine ⟨d + 1, by omega, by go_num, blk_here (by simp [hp_past, hp_at, hp_other, B_a.out.eq, B_a.out.lt, hne]), qbv, fun d' hd' => ?_⟩
                      rcases Nat.lt_or_ge d' d with h1 | h1
                      · exact HND.out d' h1
                      · obtain rfl : d' = d := by omega
                        exact HOK.out
                    case measure => simp [intOf]; omega
                  · skip
                    have HNO := Lib.hid (mapI_no hex)
                    clear hex
                    go_wp2_with (at_lookup; refine wpl_look_no rfl (.tmp 64) (.tmp 65) 123 rfl 3 _ Try.underlying123 Try.zeroValue3 (by repeat (first | (with_reducible exact hM5) | ((with_reducible refine mapB_setr ?_ ?_); focus (first | (simp; done) | (simp; omega) | omega)) | (with_reducible refine mapB_allocr ?_))) rfl rfl hI1 hI2 HNO.out ?_)
                    go_roundw
                    case rel =>
                      refine ⟨d + 1, by omega, by go_num, blk_here (by simp [hp_past, hp_at, hp_other, B_a.out.eq, B_a.out.lt, hne]), qbv, fun d' hd' => ?_⟩
                      rcases Nat.lt_or_ge d' d with h1 | h1
                      · exact HND.out d' h1
                      · obtain rfl : d' = d := by omega
                        exact HOK.out
                    case measure => simp [intOf]; omega
                · by_cases hex : ∃ j, j < l.length ∧ (at! (l.map Note.d) j).dev = (d : Int) ∧ (at! (l.map Note.d) j).seq = va - 1
                  · have hok : ¬ (0 ≤ sqN (Note.d ⟨xd, xq, ⟨xA, xc, xl⟩, xt, xx⟩) d ∧ (l.map Note.d).any (isK d (sqN (Note.d ⟨xd, xq, ⟨xA, xc, xl⟩, xt, xx⟩) d)) = false) := by
                      rw [HSQ.out, any_isK.2 (let ⟨j, hj, h⟩ := hex; ⟨j, (by simpa using hj), h⟩)]; simp
                    have HOK := Lib.hid hok
                    clear hok
                    obtain ⟨j, hj, hjd, hjs⟩ := hex
                    have HV := Lib.hid (mapI_yes hj hjd hjs)
                    have HU := Lib.hid (mapI_one HA.out hj hjd hjs)
                    clear hj hjd hjs
                    go_wp2_with (at_lookup; refine wpl_look_yes rfl (.tmp 64) (.tmp 65) 123 rfl 3 (.int .i64 (j : Int)) Try.underlying123 (by repeat (first | (with_reducible exact hM5) | ((with_reducible refine mapB_setr ?_ ?_); focus (first | (simp; done) | (simp; omega) | omega)) | (with_reducible refine mapB_allocr ?_))) rfl rfl hI1 hI2 HV.out HU.out ?_)
                    go_roundw
                    case rel =>
                      refine ⟨d + 1, by omega, by go_num, blk_here (by simp [hp_past, hp_at, hp_other, B_a.out.eq, B_a.out.lt, hne]), qbv, fun d' hd' => ?_⟩
                      rcases Nat.lt_or_ge d' d with h1 | h1
                      · exact HND.out d' h1
                      · obtain rfl : d' = d := by omega
                        exact HOK.out
                    case measure => simp [intOf]; omega
                  · have hE : placesE (l.map Note.d) = 18 := by
                      refine placesE_miss HAP.out HXM.out ((missOne_iff HXR.out).2 ⟨d, hdl, by rw [HSQ.out]; exact hs, ?_⟩)
                      rw [HSQ.out]
                      rcases h : (l.map Note.d).any (isK d (va - 1))
                      · rfl
                      · exact absurd (let ⟨j, hj, h⟩ := any_isK.1 h; ⟨j, (by simpa using hj), h⟩) hex
                    have HE := Lib.hid hE
                    clear hE
                    have HNO := Lib.hid (mapI_no hex)
                    clear hex
                    go_wp2_with (at_lookup; refine wpl_look_no rfl (.tmp 64) (.tmp 65) 123 rfl 3 _ Try.underlying123 Try.zeroValue3 (by repeat (first | (with_reducible exact hM5) | ((with_reducible refine mapB_setr ?_ ?_); focus (first | (simp; done) | (simp; omega) | omega)) | (with_reducible refine mapB_allocr ?_))) rfl rfl hI1 hI2 HNO.out ?_)
                    try simp only [Exit.inBlock, Exit.then]
                    refine bodyPost_ret (v := .tuple #[.map none, .int .i64 18]) ?_ rfl (PlacesP.no (E := 18) rfl HE.out (by decide) (HBW.out.trans (Below.mono qbv hzz)))
                    simp [results, Try.results86, go_sem, ]
            · have hdl' : ¬ ((d : Int) < 12) := by omega
              have hmo : missOne (l.map Note.d) (Note.d ⟨xd, xq, ⟨xA, xc, xl⟩, xt, xx⟩) = false := by
                rcases h : missOne (l.map Note.d) (Note.d ⟨xd, xq, ⟨xA, xc, xl⟩, xt, xx⟩)
                · rfl
                · obtain ⟨d', hd', h1, h2⟩ := (missOne_iff HXR.out).1 h
                  exact absurd ⟨h1, h2⟩ (HND.out d' (by omega))
              have HMO := Lib.hid hmo
              clear hmo
              go_wp2_with fail
              go_roundw
              case rel =>
                refine ⟨k + 1, by omega, by go_num, HBO.out.trans (hbi.mono hzo), fun j n hj hn => ?_⟩
                rcases Nat.lt_or_ge j k with h1 | h1
                · exact HMS.out j n h1 hn
                · obtain rfl : j = k := by omega
                  rw [HXK.out] at hn; injection hn with hn; subst hn; exact HMO.out
              case measure => simp [intOf]; omega
        · have hE : placesE (l.map Note.d) = 0 := by
            refine placesE_ok HAP.out (fun n hn => ?_)
            obtain ⟨m, hm, rfl⟩ := List.mem_map.1 hn
            obtain ⟨j, hj⟩ := List.getElem?_of_mem hm
            have := (List.getElem?_eq_some_iff.1 hj).1
            exact HMS.out j m (by omega) hj
          have hfin : PlacesP w (l.map Note.d) (.returned (.tuple #[.map (some w.heap.size), .int .i64 0])) wr := ⟨hbw, .inl ⟨hE, _, rfl, by simpa using hM2, Nat.le_refl _⟩⟩
          have HFIN := Lib.hid hfin
          clear hfin hE hM2 hbw
          go_wp2_with fail
          try simp only [Exit.inBlock, Exit.then]
          refine bodyPost_ret (v := .tuple #[.map (some w.heap.size), .int .i64 0]) ?_ rfl HFIN.out
          simp [results, Try.results86, go_sem, ]
end Go.Proofs.Ythnblhbdfpmolaa
