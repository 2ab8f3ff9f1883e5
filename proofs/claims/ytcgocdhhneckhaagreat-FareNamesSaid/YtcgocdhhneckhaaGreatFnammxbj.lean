/- Walk: units.Of. -/
import Derived.Test.YtcgocdhhneckhaaGreatFnammxba
import Derived.Test.YtcgocdhhneckhaaGreatFnammxbi
namespace Go.Proofs.YtcgocdhhneckhaaGreat
open Go.RowKit
/-- units.Of, but for the path. -/
def ofU (L : List LT) (e : PT) : Int × Int :=
  if rexp e = true ∧ (L.length : Int) ≤ 20 ∧ L.all (fun x => rexp x.b) = true then (if (unU L (scU L) 12 e).2 = 0 then (unU L (scU L) 12 e).1 else 0, (unU L (scU L) 12 e).2) else (0, 1)
theorem ofU_arg {L : List LT} {e : PT} (h : ¬ (rexp e = true ∧ (L.length : Int) ≤ 20 ∧ L.all (fun x => rexp x.b) = true)) : ofU L e = (0, 1) := by unfold ofU; rw [if_neg h]
theorem ofU_ok {L : List LT} {e : PT} (h : rexp e = true ∧ (L.length : Int) ≤ 20 ∧ L.all (fun x => rexp x.b) = true) : ofU L e = (if (unU L (scU L) 12 e).2 = 0 then (unU L (scU L) 12 e).1 else 0, (unU L (scU L) 12 e).2) := by unfold ofU; rw [if_pos h]
def OfP (w w' : World) (x : Int × Int) (e : Ending) : Prop := (∃ (A : Option Addr) (n c : Nat), e = .returned (.tuple #[.int .i64 x.1, .slice A n c, .int .i64 x.2])) ∧ Below w.heap.size w w'
theorem OfP.cast {w w' : World} {x y : Int × Int} {e : Ending} (h : x = y) (k : OfP w w' y e) : OfP w w' x e := by rw [h]; exact k
theorem xes_of {w W : World} {xo xm xu : Int} {xs : ByteArray} {xA : Option Addr} {xc n : Nat} (h : Blk W w.heap.size 25 #[.int .i64 xo, .int .i64 xm, .int .i64 xu, .string xs, .slice xA n xc]) :
    W.cell? ⟨w.heap.size, 0, none⟩ = some (.int .i64 xo) ∧ W.cell? ⟨w.heap.size, 1, none⟩ = some (.int .i64 xm) ∧ W.cell? ⟨w.heap.size, 2, none⟩ = some (.int .i64 xu) ∧ W.cell? ⟨w.heap.size, 3, none⟩ = some (.string xs) ∧ W.cell? ⟨w.heap.size, 4, none⟩ = some (.slice xA n xc) :=
  ⟨h.cell 0, h.cell 1, h.cell 2, h.cell 3, h.cell 4⟩
theorem un_unitV (L : List LT) (ls : Sl LT) (us : Sl Int) (e : PT) (w : World) (V : Int × Int) (hk : rexp e = true) (he : PT.At (· < w.heap.size) w e) (hls : ls.l = L) (hus : us.l = scU L) (hla : LetsAt (· < w.heap.size) w ls) (hur : Rd (· < w.heap.size) 1 ienc w us) (hV : (if (unU L (scU L) 12 e).2 = 0 then (unU L (scU L) 12 e).1 else 0, (unU L (scU L) 12 e).2) = V) :
    Calls Tryz.prog 63 #[ScV ls us, e.v] w fun r w' => (∃ (A : Option Addr) (n c : Nat), r = .returned (.tuple #[.int .i64 V.1, .agg #[.slice A n c, .int .i64 V.2]])) ∧ Below w.heap.size w w' := by
  have h := un_unit ls us e w hk he hla hur (by rw [hls, hus]; exact scN_len L _ (Nat.le_refl _))
  rw [hls, hus] at h
  subst hV
  exact h
set_option maxRecDepth 100000 in
set_option maxHeartbeats 3200000 in
theorem un_Of (L : Sl LT) (e : PT) (w : World) (hL : LetsAt (· < w.heap.size) w L) (he : PT.At (· < w.heap.size) w e) :
    Calls Tryz.prog 39 #[.slice L.A L.l.length L.c, e.v] w fun r w' => OfP w w' (ofU L.l e) r := by
  have HL := Lib.hid hL
  have HE := Lib.hid he
  have hln := hL.rd.len
  clear hL he
  obtain ⟨V, hV⟩ : ∃ V, ofU L.l e = V := ⟨_, rfl⟩
  have HV := Lib.hid hV
  rw [hV]
  clear hV
  obtain ⟨xo, xm, xu, xs, xA, xc, xl⟩ := e
  simp only [PT.v]
  go_enter Tryz.func39, Tryz.ntmps39
  go_wp2_with fail
  have HB1 : Hid (Below w.heap.size w (w.alloc (.cells #[.int .i64 xo, .int .i64 xm, .int .i64 xu, .string xs, .slice xA xl.length xc] 25))) := Lib.hid qbl
  have HX1 : Hid (Blk (w.alloc (.cells #[.int .i64 xo, .int .i64 xm, .int .i64 xu, .string xs, .slice xA xl.length xc] 25)) w.heap.size 25 #[.int .i64 xo, .int .i64 xm, .int .i64 xu, .string xs, .slice xA xl.length xc]) := Lib.hid (Blk.new _ _ _)
  generalize w.alloc (.cells #[.int .i64 xo, .int .i64 xm, .int .i64 xu, .string xs, .slice xA xl.length xc] 25) = w1 at *
  refine (syn_rexp ⟨xo, xm, xu, xs, xA, xc, xl⟩ _ (HE.out.later HB1.out)).mono ?_
  rintro e w2 ⟨rfl, hb2⟩
  have HB2 : Hid (Below w.heap.size w w2) := Lib.hid (HB1.out.trans (hb2.mono HB1.out.size))
  have HX2 := Lib.hid (HX1.out.later hb2)
  clear hb2 HX1 HB1
  obtain ⟨t1, ht1⟩ : ∃ t, rexp ⟨xo, xm, xu, xs, xA, xc, xl⟩ = t := ⟨_, rfl⟩
  rw [ht1]
  rcases t1
  · have HFF := Lib.hid ((ofU_arg (e := ⟨xo, xm, xu, xs, xA, xc, xl⟩) (L := L.l) (fun h => by simp_all)).symm.trans HV.out)
    go_wp2_with fail
    try simp only [Exit.inBlock, Exit.then]
    refine bodyPost_ret (v := .tuple #[.int .i64 0, .slice none 0 0, .int .i64 1]) ?_ rfl (OfP.cast HFF.out.symm ⟨⟨none, 0, 0, rfl⟩, HB2.out⟩)
    simp [results, Tryz.results39, go_sem, ]
  · have HT1 := Lib.hid ht1
    clear ht1
    by_cases h20 : (L.l.length : Int) ≤ 20
    · have HLL := Lib.hid (HL.out.later HB2.out)
      go_wp2_with fail
      refine (hasL_of L (fun x => !rexp x.b) 0 w2 HLL.out.rd (fun W x hx hW => un_bad_of x W ((HLL.out.later hW).all x hx))).mono ?_
      rintro e w3 ⟨rfl, hb3⟩
      have HB3 : Hid (Below w.heap.size w w3) := Lib.hid (HB2.out.trans (hb3.mono HB2.out.size))
      have HX3 := Lib.hid (HX2.out.later hb3)
      clear hb3 HLL HX2
      obtain ⟨t2, ht2⟩ : ∃ t, L.l.any (fun x => !rexp x.b) = t := ⟨_, rfl⟩
      rw [ht2]
      have HAL := Lib.hid (any_not (fun x : LT => rexp x.b) L.l)
      rw [ht2] at HAL
      clear ht2
      rcases t2
      · have HT2 : Hid (L.l.all (fun x => rexp x.b) = true) := Lib.hid (by rw [← HAL.out]; rfl)
        have HFF := Lib.hid ((ofU_ok ⟨HT1.out, h20, HT2.out⟩).symm.trans HV.out)
        have h20n : L.l.length ≤ 20 := by omega
        have HKK : Hid (∀ x, x ∈ L.l → rexp x.b = true) := Lib.hid (fun x hx => by have := HT2.out; rw [List.all_eq_true] at this; exact this x hx)
        clear HAL h20
        go_wp2_with fail
        refine wp_region_T (fun W => W.cell? ⟨w.heap.size, 0, none⟩ = some (.int .i64 xo) ∧ W.cell? ⟨w.heap.size, 1, none⟩ = some (.int .i64 xm) ∧ W.cell? ⟨w.heap.size, 2, none⟩ = some (.int .i64 xu) ∧ W.cell? ⟨w.heap.size, 3, none⟩ = some (.string xs) ∧ W.cell? ⟨w.heap.size, 4, none⟩ = some (.slice xA xl.length xc)) (fun _ => false) (by kernel_rfl) (xes_of HX3.out.drew) (fun hHeld => ?_)
        refine qtq 0 ?_
        simp only [qsa, qsb, qsc]
        refine qtq 2 ?_
        simp only [qsa, qsb, qsc]
        clear hHeld
        have HX4 := Lib.hid HX3.out.drew
        have HB4 : Hid (Below w.heap.size w w3.drew) := Lib.hid (HB3.out.drew)
        clear HX3 HB3
        generalize w3.drew = w4 at *
        apply cutT
        · intro fin0
          have FIN := Lib.hid fin0
          clear fin0
          refine wpAnyT_two (i := 1) (j := 7) (by kernel_rfl) rfl rfl ?_ ?_
          · skip
            go_wp2_with fail
            refine (un_scoped L _ (HL.out.later HB4.out) HKK.out h20n).mono ?_
            rintro e w5 ⟨⟨lA, lc, ll⟩, ⟨uA, uc, ul⟩, rfl, hls, hus, hla, hur, hb5⟩
            have HB5 : Hid (Below w.heap.size w w5) := Lib.hid (HB4.out.trans (hb5.mono HB4.out.size))
            have HX5 := Lib.hid (HX4.out.later hb5)
            have HLS := Lib.hid hls
            have HUS := Lib.hid hus
            have HLA := Lib.hid hla
            have HUR := Lib.hid hur
            clear hls hus hla hur hb5
            go_wp2_with fail
            refine And.intro (by first | exact fun _ => (xes_of HX5.out) | exact (xes_of HX5.out)) ?_
            refine wpAnyT_two (i := 3) (j := 7) (by kernel_rfl) rfl rfl ?_ ?_
            · skip
              have hcall := un_unitV L.l ⟨lA, lc, ll⟩ ⟨uA, uc, ul⟩ ⟨xo, xm, xu, xs, xA, xc, xl⟩ w5 V HT1.out (HE.out.later HB5.out) HLS.out HUS.out HLA.out HUR.out HFF.out
              simp only [ScV, PT.v] at hcall
              go_wp2_with fail
              refine hcall.mono ?_
              clear hcall
              rintro e w6 ⟨⟨RA, rn, rc, rfl⟩, hb6⟩
              have HB6 : Hid (Below w.heap.size w w6) := Lib.hid (HB5.out.trans (hb6.mono HB5.out.size))
              have HX6 := Lib.hid (HX5.out.later hb6)
              go_wp2_with fail
              refine And.intro (by first | exact fun _ => (xes_of HX6.out) | exact (xes_of HX6.out)) ?_
              have hHeld := xes_of HX6.out
              refine qtq 4 ?_
              simp only [qsa, qsb, qsc]
              refine qtq 5 ?_
              simp only [qsa, qsb, qsc]
              refine qtq 6 ?_
              simp only [qsa, qsb, qsc]
              clear hHeld
              refine wpAnyT_next (i := 7) (by kernel_rfl) rfl ?_
              go_wp2_with fail
              refine And.intro (by first | exact fun _ => (xes_of (HX6.out.alloc _)) | exact (xes_of (HX6.out.alloc _))) ?_
              have HG9 : Hid (Blk (w6.alloc (.cells #[.slice none 0 0, .int .i64 0] 100)) w6.heap.size 100 #[.slice none 0 0, .int .i64 0]) := Lib.hid (Blk.new _ _ _)
              have HB9 : Hid (Below w.heap.size w (w6.alloc (.cells #[.slice none 0 0, .int .i64 0] 100))) := Lib.hid (HB6.out.alloc HB6.out.size _)
              have HX9 : Hid (Blk (w6.alloc (.cells #[.slice none 0 0, .int .i64 0] 100)) w.heap.size 25 #[.int .i64 xo, .int .i64 xm, .int .i64 xu, .string xs, .slice xA xl.length xc]) := Lib.hid (HX6.out.alloc _)
              have HN9 : Hid (w.heap.size < w6.heap.size) := Lib.hid HX6.out.lt
              clear HX5 HLS HUS HLA HUR HB5 hb6 HB6 HX6
              generalize w6.alloc (.cells #[.slice none 0 0, .int .i64 0] 100) = w9 at *
              generalize w6.heap.size = g9 at *
              revert HN9
              revert HX9
              revert HB9
              revert HG9
              revert w9
              revert g9
              revert rc
              revert rn
              revert RA
              clear w6 w5
              revert ul
              revert uc
              revert uA
              revert ll
              revert lc
              revert lA
              exact FIN.out
            · skip
              go_wp2_with fail
              refine And.intro (by first | exact fun _ => (xes_of (HX5.out.alloc _)) | exact (xes_of (HX5.out.alloc _))) ?_
              have HG7 : Hid (Blk (w5.alloc (.cells #[.slice none 0 0, .int .i64 0] 100)) w5.heap.size 100 #[.slice none 0 0, .int .i64 0]) := Lib.hid (Blk.new _ _ _)
              have HB7 : Hid (Below w.heap.size w (w5.alloc (.cells #[.slice none 0 0, .int .i64 0] 100))) := Lib.hid (HB5.out.alloc HB5.out.size _)
              have HX7 : Hid (Blk (w5.alloc (.cells #[.slice none 0 0, .int .i64 0] 100)) w.heap.size 25 #[.int .i64 xo, .int .i64 xm, .int .i64 xu, .string xs, .slice xA xl.length xc]) := Lib.hid (HX5.out.alloc _)
              have HN9 : Hid (w.heap.size < w5.heap.size) := Lib.hid HX5.out.lt
              have HLA7 := Lib.hid (HLA.out.later (show Below w5.heap.size w5 (w5.alloc (.cells #[.slice none 0 0, .int .i64 0] 100)) from qbl))
              have HUR7 := Lib.hid (HUR.out.later (show Below w5.heap.size w5 (w5.alloc (.cells #[.slice none 0 0, .int .i64 0] 100)) from qbl))
              clear HX5 HB5 HLA HUR
              generalize w5.alloc (.cells #[.slice none 0 0, .int .i64 0] 100) = w7 at *
              generalize w5.heap.size = g9 at *
              refine wpAnyT_next (i := 3) (by kernel_rfl) rfl ?_
              have hcall := un_unitV L.l ⟨lA, lc, ll⟩ ⟨uA, uc, ul⟩ ⟨xo, xm, xu, xs, xA, xc, xl⟩ w7 V HT1.out (HE.out.later HB7.out) HLS.out HUS.out HLA7.out HUR7.out HFF.out
              simp only [ScV, PT.v] at hcall
              go_wp2_with fail
              refine hcall.mono ?_
              clear hcall
              rintro e w6 ⟨⟨RA, rn, rc, rfl⟩, hb6⟩
              have HB6 : Hid (Below w.heap.size w w6) := Lib.hid (HB7.out.trans (hb6.mono HB7.out.size))
              have HX6 := Lib.hid (HX7.out.later hb6)
              go_wp2_with fail
              refine And.intro (by first | exact fun _ => (xes_of HX6.out) | exact (xes_of HX6.out)) ?_
              have hHeld := xes_of HX6.out
              refine qtq 4 ?_
              simp only [qsa, qsb, qsc]
              refine qtq 5 ?_
              simp only [qsa, qsb, qsc]
              refine qtq 6 ?_
              simp only [qsa, qsb, qsc]
              clear hHeld
              have HG9 := Lib.hid (HG7.out.later hb6)
              exact wpAnyT_listed (by kernel_rfl) (FIN.out _ _ _ _ _ _ _ _ _ _ _ HG9 HB6 HX6 HN9)
          · skip
            go_wp2_with fail
            refine And.intro (by first | exact fun _ => (xes_of (HX4.out.alloc _)) | exact (xes_of (HX4.out.alloc _))) ?_
            have HG7 : Hid (Blk (w4.alloc (.cells #[.slice none 0 0, .int .i64 0] 100)) w4.heap.size 100 #[.slice none 0 0, .int .i64 0]) := Lib.hid (Blk.new _ _ _)
            have HB7 : Hid (Below w.heap.size w (w4.alloc (.cells #[.slice none 0 0, .int .i64 0] 100))) := Lib.hid (HB4.out.alloc HB4.out.size _)
            have HX7 : Hid (Blk (w4.alloc (.cells #[.slice none 0 0, .int .i64 0] 100)) w.heap.size 25 #[.int .i64 xo, .int .i64 xm, .int .i64 xu, .string xs, .slice xA xl.length xc]) := Lib.hid (HX4.out.alloc _)
            have HN9 : Hid (w.heap.size < w4.heap.size) := Lib.hid HX4.out.lt
            clear HX4 HB4
            generalize w4.alloc (.cells #[.slice none 0 0, .int .i64 0] 100) = w7 at *
            generalize w4.heap.size = g9 at *
            refine wpAnyT_next (i := 1) (by kernel_rfl) rfl ?_
            go_wp2_with fail
            refine (un_scoped L _ (HL.out.later HB7.out) HKK.out h20n).mono ?_
            rintro e w5 ⟨⟨lA, lc, ll⟩, ⟨uA, uc, ul⟩, rfl, hls, hus, hla, hur, hb5⟩
            have HB5 : Hid (Below w.heap.size w w5) := Lib.hid (HB7.out.trans (hb5.mono HB7.out.size))
            have HX5 := Lib.hid (HX7.out.later hb5)
            have HLS := Lib.hid hls
            have HUS := Lib.hid hus
            have HLA := Lib.hid hla
            have HUR := Lib.hid hur
            have HG5 := Lib.hid (HG7.out.later hb5)
            clear hls hus hla hur hb5 HG7
            go_wp2_with fail
            refine And.intro (by first | exact fun _ => (xes_of HX5.out) | exact (xes_of HX5.out)) ?_
            refine wpAnyT_next (i := 3) (by kernel_rfl) rfl ?_
            have hcall := un_unitV L.l ⟨lA, lc, ll⟩ ⟨uA, uc, ul⟩ ⟨xo, xm, xu, xs, xA, xc, xl⟩ w5 V HT1.out (HE.out.later HB5.out) HLS.out HUS.out HLA.out HUR.out HFF.out
            simp only [ScV, PT.v] at hcall
            go_wp2_with fail
            refine hcall.mono ?_
            clear hcall
            rintro e w6 ⟨⟨RA, rn, rc, rfl⟩, hb6⟩
            have HB6 : Hid (Below w.heap.size w w6) := Lib.hid (HB5.out.trans (hb6.mono HB5.out.size))
            have HX6 := Lib.hid (HX5.out.later hb6)
            go_wp2_with fail
            refine And.intro (by first | exact fun _ => (xes_of HX6.out) | exact (xes_of HX6.out)) ?_
            have hHeld := xes_of HX6.out
            refine qtq 4 ?_
            simp only [qsa, qsb, qsc]
            refine qtq 5 ?_
            simp only [qsa, qsb, qsc]
            refine qtq 6 ?_
            simp only [qsa, qsb, qsc]
            clear hHeld
            have HG9 := Lib.hid (HG5.out.later hb6)
            exact wpAnyT_listed (by kernel_rfl) (FIN.out _ _ _ _ _ _ _ _ _ _ _ HG9 HB6 HX6 HN9)
        · intro lA lc ll uA uc ul RA rn rc g9 w9 HG9 HB9 HX9 HN9
          have hHeld := xes_of HX9.out
          refine qtq 8 ?_
          simp only [qsa, qsb, qsc]
          clear hHeld
          obtain ⟨s0, s1, sf, sz⟩ := HG9.out.b2
          have hn9 : w.heap.size ≠ g9 := Nat.ne_of_lt HN9.out
          have hle9 : w.heap.size ≤ g9 := Nat.le_of_lt HN9.out
          refine wpAnyT_next (i := 9) (by kernel_rfl) rfl ?_
          go_wp2_with fail
          refine And.intro (by first | exact fun _ => (xes_of ((HX9.out.far hn9 _).far hn9 _)) | exact (xes_of ((HX9.out.far hn9 _).far hn9 _))) ?_
          have HG10 : Hid (Blk ((w9.setCell ⟨g9, 0, none⟩ (.slice RA rn rc)).setCell ⟨g9, 1, none⟩ (.int .i64 V.2)) g9 100 #[.slice RA rn rc, .int .i64 V.2]) := Lib.hid (by simpa using (HG9.out.set_ 0 (.slice RA rn rc)).set_ 1 (.int .i64 V.2))
          have HB10 : Hid (Below w.heap.size w ((w9.setCell ⟨g9, 0, none⟩ (.slice RA rn rc)).setCell ⟨g9, 1, none⟩ (.int .i64 V.2))) := Lib.hid ((HB9.out.setCell hle9 _).setCell hle9 _)
          clear HG9 HB9 HX9 s0 s1 sf sz
          generalize (w9.setCell ⟨g9, 0, none⟩ (.slice RA rn rc)).setCell ⟨g9, 1, none⟩ (.int .i64 V.2) = w10 at *
          refine wpAnyT_done (by kernel_rfl) ?_ _
          go_wp2_with fail
          obtain ⟨s0, s1, sf, sz⟩ := HG10.out.b2
          refine wp_region_T (fun W => W.cell? ⟨g9, 0, none⟩ = some (.slice RA rn rc) ∧ W.cell? ⟨g9, 1, none⟩ = some (.int .i64 V.2)) (fun _ => false) (by kernel_rfl) ⟨s0, s1⟩ (fun hHeld => ?_)
          refine qtq 0 ?_
          simp only [qsa, qsb, qsc]
          refine qtq 1 ?_
          simp only [qsa, qsb, qsc]
          refine qtq 2 ?_
          simp only [qsa, qsb, qsc]
          refine qtq 3 ?_
          simp only [qsa, qsb, qsc]
          refine qtq 4 ?_
          simp only [qsa, qsb, qsc]
          refine qtq 5 ?_
          simp only [qsa, qsb, qsc]
          refine qtq 6 ?_
          simp only [qsa, qsb, qsc]
          refine qtq 7 ?_
          simp only [qsa, qsb, qsc]
          refine wpAnyT_done (by kernel_rfl) ?_ _
          clear hHeld
          go_wp2_with fail
          try simp only [Exit.inBlock, Exit.then]
          refine bodyPost_ret (v := .tuple #[.int .i64 V.1, .slice RA rn rc, .int .i64 V.2]) ?_ rfl ⟨⟨RA, rn, rc, rfl⟩, HB10.out.drew⟩
          simp [results, Tryz.results39, go_sem, ]
      · have hno : L.l.all (fun x => rexp x.b) = false := by rw [← HAL.out]; rfl
        have HFF := Lib.hid ((ofU_arg (e := ⟨xo, xm, xu, xs, xA, xc, xl⟩) (L := L.l) (fun h => by simp_all)).symm.trans HV.out)
        go_wp2_with fail
        try simp only [Exit.inBlock, Exit.then]
        refine bodyPost_ret (v := .tuple #[.int .i64 0, .slice none 0 0, .int .i64 1]) ?_ rfl (OfP.cast HFF.out.symm ⟨⟨none, 0, 0, rfl⟩, HB3.out⟩)
        simp [results, Tryz.results39, go_sem, ]
    · have HFF := Lib.hid ((ofU_arg (e := ⟨xo, xm, xu, xs, xA, xc, xl⟩) (L := L.l) (fun h => h20 h.2.1)).symm.trans HV.out)
      go_wp2_with fail
      try simp only [Exit.inBlock, Exit.then]
      refine bodyPost_ret (v := .tuple #[.int .i64 0, .slice none 0 0, .int .i64 1]) ?_ rfl (OfP.cast HFF.out.symm ⟨⟨none, 0, 0, rfl⟩, HB2.out⟩)
      simp [results, Tryz.results39, go_sem, ]
end Go.Proofs.YtcgocdhhneckhaaGreat
