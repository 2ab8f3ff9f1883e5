/- Walk: units.Check. -/
import Derived.Test.YtcgocdhhneckhaaGreatFnammxbj
namespace Go.Proofs.YtcgocdhhneckhaaGreat
open Go.RowKit
def firstE : List Int → Int
  | [] => 0
  | e :: r => if e ≠ 0 then e else firstE r
theorem firstE_app : ∀ a b : List Int, firstE (a ++ b) = if firstE a ≠ 0 then firstE a else firstE b
  | [], b => by simp [firstE]
  | e :: r, b => by
    by_cases h : e = 0
    · simp [firstE, h, firstE_app r b]
    · simp [firstE, h]
theorem firstE_zero {f : Nat → Int} : ∀ n, (∀ i, i < n → f i = 0) → firstE ((List.range n).map f) = 0
  | 0, _ => rfl
  | n + 1, h => by
    rw [List.range_succ, List.map_append, firstE_app, firstE_zero n fun i hi => h i (by omega)]
    simp [firstE, h n (by omega)]
theorem firstE_at {f : Nat → Int} {k : Nat} (h : ∀ i, i < k → f i = 0) (he : f k ≠ 0) : ∀ n, k < n → firstE ((List.range n).map f) = f k
  | 0, hk => absurd hk (by omega)
  | n + 1, hk => by
    rw [List.range_succ, List.map_append, firstE_app]
    by_cases hn : k = n
    · subst hn
      rw [firstE_zero _ h]
      simp [firstE]
      omega
    · rw [firstE_at h he n (by omega), if_pos he]
/-- The errno of the k-th let. -/
def letE (L : List LT) (k : Nat) : Int := match L[k]? with
  | some x => (ofU (L.take k) x.b).2
  | none => 0
/-- The errno of the k-th rule. -/
def fourE (L : List LT) (xs : List PT) (k : Nat) : Int := match xs[k]? with
  | some x => if (ofU L x).2 ≠ 0 then (ofU L x).2 else if (ofU L x).1 ≠ (if k = 0 then 3 else 1) then 13 else 0
  | none => 0
/-- units.Check. -/
def chkU (b : Byl) : Int := if bylB b = true then firstE ((List.range b.lets.l.length).map (letE b.lets.l) ++ (List.range 4).map (fourE b.lets.l [b.ad, b.fa, b.la, b.no])) else 1
theorem letE_at {L : List LT} {k : Nat} {x : LT} (h : L[k]? = some x) : letE L k = (ofU (L.take k) x.b).2 := by unfold letE; rw [h]
theorem fourE_at {L : List LT} {xs : List PT} {k : Nat} {x : PT} (h : xs[k]? = some x) : fourE L xs k = if (ofU L x).2 ≠ 0 then (ofU L x).2 else if (ofU L x).1 ≠ (if k = 0 then 3 else 1) then 13 else 0 := by unfold fourE; rw [h]
section
variable {b : Byl}
theorem chkU_no (h : bylB b = false) : chkU b = 1 := by unfold chkU; rw [h]; rfl
theorem chkU_let (h : bylB b = true) {k : Nat} (hk : k < b.lets.l.length) (h0 : ∀ i, i < k → letE b.lets.l i = 0) (he : letE b.lets.l k ≠ 0) : chkU b = letE b.lets.l k := by
  unfold chkU
  rw [if_pos h, firstE_app, firstE_at h0 he _ hk, if_pos he]
theorem chkU_four (h : bylB b = true) (h0 : ∀ i, i < b.lets.l.length → letE b.lets.l i = 0) {k : Nat} (hk : k < 4) (h1 : ∀ i, i < k → fourE b.lets.l [b.ad, b.fa, b.la, b.no] i = 0) (he : fourE b.lets.l [b.ad, b.fa, b.la, b.no] k ≠ 0) : chkU b = fourE b.lets.l [b.ad, b.fa, b.la, b.no] k := by
  unfold chkU
  rw [if_pos h, firstE_app, firstE_zero _ h0, firstE_at h1 he _ hk]
  simp
theorem chkU_ok (h : bylB b = true) (h0 : ∀ i, i < b.lets.l.length → letE b.lets.l i = 0) (h1 : ∀ i, i < 4 → fourE b.lets.l [b.ad, b.fa, b.la, b.no] i = 0) : chkU b = 0 := by
  unfold chkU
  rw [if_pos h, firstE_app, firstE_zero _ h0, firstE_zero _ h1]
  simp
end
set_option maxRecDepth 100000 in
set_option maxHeartbeats 3200000 in
theorem un_Check (b : Byl) (w : World) (hb : Byl.At (· < w.heap.size) w b) (h40 : b.lets.l.length ≤ 1000000) :
    Calls Tryz.prog 26 #[b.v] w fun r w' => r = .returned (.int .i64 (chkU b)) ∧ Below w.heap.size w w' := by
  have HP := Lib.hid hb
  clear hb
  obtain ⟨V, hV⟩ : ∃ V, chkU b = V := ⟨_, rfl⟩
  have HV := Lib.hid hV
  rw [hV]
  clear hV
  obtain ⟨nm, ⟨LA, Lc, L⟩, ⟨o, n, u, s, A, c, l⟩, ⟨oB, nB, uB, sB, AB, cB, lB⟩, ⟨oC, nC, uC, sC, AC, cC, lC⟩, ⟨oD, nD, uD, sD, AD, cD, lD⟩, q, sh, ch⟩ := b
  simp only at h40
  simp only [Byl.v]
  have HB : Hid (Below w.heap.size w (w.alloc (.cells #[.string nm, .slice LA L.length Lc, .int .i64 o, .int .i64 n, .int .i64 u, .string s, .slice A l.length c, .int .i64 oB, .int .i64 nB, .int .i64 uB, .string sB, .slice AB lB.length cB, .int .i64 oC, .int .i64 nC, .int .i64 uC, .string sC, .slice AC lC.length cC, .int .i64 oD, .int .i64 nD, .int .i64 uD, .string sD, .slice AD lD.length cD, .int .i64 q, .int .i64 sh, .int .i64 ch] 27))) := Lib.hid qbl
  have HA : Hid (Blk (w.alloc (.cells #[.string nm, .slice LA L.length Lc, .int .i64 o, .int .i64 n, .int .i64 u, .string s, .slice A l.length c, .int .i64 oB, .int .i64 nB, .int .i64 uB, .string sB, .slice AB lB.length cB, .int .i64 oC, .int .i64 nC, .int .i64 uC, .string sC, .slice AC lC.length cC, .int .i64 oD, .int .i64 nD, .int .i64 uD, .string sD, .slice AD lD.length cD, .int .i64 q, .int .i64 sh, .int .i64 ch] 27)) w.heap.size 27 #[.string nm, .slice LA L.length Lc, .int .i64 o, .int .i64 n, .int .i64 u, .string s, .slice A l.length c, .int .i64 oB, .int .i64 nB, .int .i64 uB, .string sB, .slice AB lB.length cB, .int .i64 oC, .int .i64 nC, .int .i64 uC, .string sC, .slice AC lC.length cC, .int .i64 oD, .int .i64 nD, .int .i64 uD, .string sD, .slice AD lD.length cD, .int .i64 q, .int .i64 sh, .int .i64 ch]) := Lib.hid (Blk.new _ _ _)
  have hr := syn_Right (⟨nm, ⟨LA, Lc, L⟩, ⟨o, n, u, s, A, c, l⟩, ⟨oB, nB, uB, sB, AB, cB, lB⟩, ⟨oC, nC, uC, sC, AC, cC, lC⟩, ⟨oD, nD, uD, sD, AD, cD, lD⟩, q, sh, ch⟩ : Byl) _ (HP.out.later HB.out) h40
  simp only [Byl.v] at hr
  go_enter Tryz.func26, Tryz.ntmps26
  go_wp2_with (refine wpList_load_row rfl 27 (.tmp 1) rfl w.heap.size rfl 27 #[.string nm, .slice LA L.length Lc, .int .i64 o, .int .i64 n, .int .i64 u, .string s, .slice A l.length c, .int .i64 oB, .int .i64 nB, .int .i64 uB, .string sB, .slice AB lB.length cB, .int .i64 oC, .int .i64 nC, .int .i64 uC, .string sC, .slice AC lC.length cC, .int .i64 oD, .int .i64 nD, .int .i64 uD, .string sD, .slice AD lD.length cD, .int .i64 q, .int .i64 sh, .int .i64 ch] (0, 0) _ HA.out Tryz.underlying27 rfl (by kernel_rfl) ?_)
  refine hr.mono ?_
  clear hr
  generalize w.alloc (.cells #[.string nm, .slice LA L.length Lc, .int .i64 o, .int .i64 n, .int .i64 u, .string s, .slice A l.length c, .int .i64 oB, .int .i64 nB, .int .i64 uB, .string sB, .slice AB lB.length cB, .int .i64 oC, .int .i64 nC, .int .i64 uC, .string sC, .slice AC lC.length cC, .int .i64 oD, .int .i64 nD, .int .i64 uD, .string sD, .slice AD lD.length cD, .int .i64 q, .int .i64 sh, .int .i64 ch] 27) = w1 at *
  rintro e w2 ⟨rfl, hb2⟩
  have HB2 : Hid (Below w.heap.size w w2) := Lib.hid (HB.out.trans (hb2.mono HB.out.size))
  have HA2 := Lib.hid (HA.out.later hb2)
  clear hb2 HA HB
  obtain ⟨r, hr⟩ : ∃ r, bylB (⟨nm, ⟨LA, Lc, L⟩, ⟨o, n, u, s, A, c, l⟩, ⟨oB, nB, uB, sB, AB, cB, lB⟩, ⟨oC, nC, uC, sC, AC, cC, lC⟩, ⟨oD, nD, uD, sD, AD, cD, lD⟩, q, sh, ch⟩ : Byl) = r := ⟨_, rfl⟩
  rw [hr]
  rcases r
  · have HF := Lib.hid ((chkU_no hr).symm.trans HV.out)
    clear hr
    go_wp2_with fail
    go_ret
    exact ⟨ret_int HF.out, HB2.out⟩
  · have HR := Lib.hid hr
    clear hr
    have y1 := HA2.out.cell 1
    have yz := HA2.out.lt
    go_wp2_with fail
    go_loopw [20] (fun i wr => ∃ (j : Nat), j ≤ L.length ∧ i = .int .i64 j ∧ Below w2.heap.size w2 wr ∧ Hid (∀ i, i < j → letE L i = 0)) (fun i _ => L.length - (intOf i).toNat)
    case atStart => exact ⟨0, by omega, rfl, Below.refl _ _, Lib.hid (fun i hi => absurd hi (by omega))⟩
    case round =>
      obtain ⟨j, hj, rfl, hbel, HZ⟩ := hrel
      have hhe : w2.heap.size ≤ wr.heap.size := hbel.size
      have HBR : Hid (Below w.heap.size w wr) := Lib.hid (HB2.out.trans (hbel.mono HB2.out.size))
      have HAR := Lib.hid (HA2.out.later hbel)
      clear y1 yz
      by_cases hlt : j < L.length
      · have hLW := HP.out.lets.later HBR.out
        obtain ⟨b, q, hA, hbl, hcl⟩ := hLW.rd.at1 hlt
        have HX := Lib.hid (hLW.all _ (List.getElem_mem hlt)).b
        have HLE := Lib.hid (letE_at (List.getElem?_eq_getElem hlt))
        have hlc := hLW.rd.lecap
        simp only at hA hcl HX HLE hlc
        clear hLW
        have hlen : (L.take j).length = j := by rw [List.length_take]; omega
        have HLN := Lib.hid hlen
        clear hlen
        generalize L[j] = x at *
        obtain ⟨xn, xo, xm, xu, xs, xA, xc, xl⟩ := x
        obtain ⟨g0, g1, g2, g3, g4, g5⟩ := Cells.c6 hcl
        have y1 := HAR.out.cell 1
        have yz := HAR.out.lt
        clear hcl
        subst hA
        go_wp2_with fail
        have HW3 : Hid (Below wr.heap.size wr (wr.alloc (.cells #[.string xn, .int .i64 xo, .int .i64 xm, .int .i64 xu, .string xs, .slice xA xl.length xc] 57))) := Lib.hid qbl
        have HG3 : Hid (Blk (wr.alloc (.cells #[.string xn, .int .i64 xo, .int .i64 xm, .int .i64 xu, .string xs, .slice xA xl.length xc] 57)) wr.heap.size 57 #[.string xn, .int .i64 xo, .int .i64 xm, .int .i64 xu, .string xs, .slice xA xl.length xc]) := Lib.hid (Blk.new _ _ _)
        generalize wr.alloc (.cells #[.string xn, .int .i64 xo, .int .i64 xm, .int .i64 xu, .string xs, .slice xA xl.length xc] 57) = w3 at *
        have HX3 := Lib.hid (HX.out.later HW3.out)
        have hs3 := HW3.out.size
        have HB23 : Hid (Below w2.heap.size w2 w3) := Lib.hid (hbel.trans (HW3.out.mono hhe))
        have HA3 := Lib.hid (HAR.out.later HW3.out)
        have HB3 : Hid (Below w.heap.size w w3) := Lib.hid (HBR.out.trans (HW3.out.mono HBR.out.size))
        generalize wr.heap.size = g3 at *
        clear y1 yz g0 g1 g2 g4 g5
        have y1 := HA3.out.cell 1
        obtain ⟨z1, z2, z3, z4, z5⟩ : w3.cell? ⟨g3, 1, none⟩ = some (.int .i64 xo) ∧ w3.cell? ⟨g3, 2, none⟩ = some (.int .i64 xm) ∧ w3.cell? ⟨g3, 3, none⟩ = some (.int .i64 xu) ∧ w3.cell? ⟨g3, 4, none⟩ = some (.string xs) ∧ w3.cell? ⟨g3, 5, none⟩ = some (.slice xA xl.length xc) := ⟨HG3.out.cell 1, HG3.out.cell 2, HG3.out.cell 3, HG3.out.cell 4, HG3.out.cell 5⟩
        have hji : (j : Int) ≤ (Lc : Int) := by omega
        refine wp_region_T (fun W => W.cell? ⟨w.heap.size, 1, none⟩ = some (.slice (some ⟨b, q, none⟩) L.length Lc) ∧ W.cell? ⟨g3, 1, none⟩ = some (.int .i64 xo) ∧ W.cell? ⟨g3, 2, none⟩ = some (.int .i64 xm) ∧ W.cell? ⟨g3, 3, none⟩ = some (.int .i64 xu) ∧ W.cell? ⟨g3, 4, none⟩ = some (.string xs) ∧ W.cell? ⟨g3, 5, none⟩ = some (.slice xA xl.length xc)) (fun _ => false) (by kernel_rfl) ⟨y1, z1, z2, z3, z4, z5⟩ (fun hHeld => ?_)
        refine qtq 0 ?_
        simp only [qsa, qsb, qsc]
        refine qtq 1 ?_
        simp only [qsa, qsb, qsc]
        refine qtq 2 ?_
        simp only [qsa, qsb, qsc]
        refine qtq 3 ?_
        simp only [qsa, qsb, qsc]
        refine qtq 4 ?_
        simp only [qsa, qsb, qsc]
        refine qtq 5 ?_
        simp only [qsa, qsb, qsc]
        clear hHeld
        have hcall := un_Of ⟨some ⟨b, q, none⟩, Lc, L.take j⟩ ⟨xo, xm, xu, xs, xA, xc, xl⟩ w3.drew
          ⟨((HP.out.lets.later HB3.out).rd.takeN j).keep (fun _ _ => rfl), fun y hy => ((HP.out.lets.later HB3.out).all y (List.mem_of_mem_take hy)).keep (fun _ _ => rfl) (fun _ h => h)⟩
          (HX3.out.keep (fun _ _ => rfl) (fun _ h => h))
        simp only [HLN.out, PT.v] at hcall
        obtain ⟨U, hU⟩ : ∃ U, ofU (L.take j) ⟨xo, xm, xu, xs, xA, xc, xl⟩ = U := ⟨_, rfl⟩
        have hle := HLE.out
        rw [hU] at hcall hle
        have HLU := Lib.hid hle
        clear hU hle HLE
        refine wpAnyT_next (i := 6) (by kernel_rfl) rfl ?_
        go_wp2_with fail
        refine hcall.mono ?_
        clear hcall
        rintro e w4 ⟨⟨RA, rn, rc, rfl⟩, hb4⟩
        have hb34 : Below w3.heap.size w3 w4 := Below.trans (Below.drew (Below.refl _ _)) hb4
        have HA4 := Lib.hid (HA3.out.later hb34)
        have HG4 := Lib.hid (HG3.out.later hb34)
        have HB4 : Hid (Below w2.heap.size w2 w4) := Lib.hid (HB23.out.trans (hb34.mono (Nat.le_trans hhe hs3)))
        clear hb4 hb34 y1 z1 z2 z3 z4 z5
        have y1 := HA4.out.cell 1
        obtain ⟨z1, z2, z3, z4, z5⟩ : w4.cell? ⟨g3, 1, none⟩ = some (.int .i64 xo) ∧ w4.cell? ⟨g3, 2, none⟩ = some (.int .i64 xm) ∧ w4.cell? ⟨g3, 3, none⟩ = some (.int .i64 xu) ∧ w4.cell? ⟨g3, 4, none⟩ = some (.string xs) ∧ w4.cell? ⟨g3, 5, none⟩ = some (.slice xA xl.length xc) := ⟨HG4.out.cell 1, HG4.out.cell 2, HG4.out.cell 3, HG4.out.cell 4, HG4.out.cell 5⟩
        go_wp2_with fail
        refine And.intro (by first | exact fun _ => ⟨y1, z1, z2, z3, z4, z5⟩ | exact ⟨y1, z1, z2, z3, z4, z5⟩) ?_
        have hHeld := (⟨y1, z1, z2, z3, z4, z5⟩ : w4.cell? ⟨w.heap.size, 1, none⟩ = some (.slice (some ⟨b, q, none⟩) L.length Lc) ∧ w4.cell? ⟨g3, 1, none⟩ = some (.int .i64 xo) ∧ w4.cell? ⟨g3, 2, none⟩ = some (.int .i64 xm) ∧ w4.cell? ⟨g3, 3, none⟩ = some (.int .i64 xu) ∧ w4.cell? ⟨g3, 4, none⟩ = some (.string xs) ∧ w4.cell? ⟨g3, 5, none⟩ = some (.slice xA xl.length xc))
        refine qtq 7 ?_
        simp only [qsa, qsb, qsc]
        refine qtq 8 ?_
        simp only [qsa, qsb, qsc]
        refine qtq 9 ?_
        simp only [qsa, qsb, qsc]
        refine qtq 10 ?_
        simp only [qsa, qsb, qsc]
        refine qtq 11 ?_
        simp only [qsa, qsb, qsc]
        refine qtq 12 ?_
        simp only [qsa, qsb, qsc]
        refine qtq 13 ?_
        simp only [qsa, qsb, qsc]
        refine wpAnyT_done (by kernel_rfl) ?_ _
        clear hHeld
        by_cases hu : U.2 = 0
        · have HZ2 : Hid (∀ i, i < j + 1 → letE L i = 0) := Lib.hid (fun i hi => by
            rcases Nat.lt_or_ge i j with h | h
            · exact HZ.out i h
            · obtain rfl : i = j := by omega
              rw [HLU.out, hu])
          rw [hu]
          clear hu
          go_wp2_with fail
          go_roundw
          case rel => exact ⟨j + 1, by omega, by go_num, HB4.out, HZ2⟩
          case measure => simp [intOf]; omega
        · have HVV := Lib.hid ((chkU_let HR.out hlt HZ.out (by rw [HLU.out]; exact hu)).symm.trans HV.out)
          have HVW := Lib.hid (HLU.out.symm.trans HVV.out)
          go_wp2_with fail
          go_ret
          exact ⟨ret_int HVW.out, HB2.out.trans (HB4.out.mono HB2.out.size)⟩
      · have hjL : j = L.length := by omega
        have HZL : Hid (∀ i, i < L.length → letE L i = 0) := Lib.hid (by rw [← hjL]; exact HZ.out)
        clear HZ hjL
        obtain ⟨y0, y1, y2, y3, y4, y5, y6, y7, y8, y9, y10, y11, y12, y13, y14, y15, y16, y17, y18, y19, y20, y21, y22, y23, y24, yf, yz⟩ := HAR.out.b25
        go_wp2_with fail
        have hf4 : Own wr.heap.size 25 5 PT.enc (wr.alloc (.cells #[.int .i64 o, .int .i64 n, .int .i64 u, .string s, .slice A l.length c, .int .i64 oB, .int .i64 nB, .int .i64 uB, .string sB, .slice AB lB.length cB, .int .i64 oC, .int .i64 nC, .int .i64 uC, .string sC, .slice AC lC.length cC, .int .i64 oD, .int .i64 nD, .int .i64 uD, .string sD, .slice AD lD.length cD] 25)) ⟨some ⟨wr.heap.size, 0, none⟩, 4, [PT.mk o n u s A c l, PT.mk oB nB uB sB AB cB lB, PT.mk oC nC uC sC AC cC lC, PT.mk oD nD uD sD AD cD lD]⟩ := Own.lit wr #[.int .i64 o, .int .i64 n, .int .i64 u, .string s, .slice A l.length c, .int .i64 oB, .int .i64 nB, .int .i64 uB, .string sB, .slice AB lB.length cB, .int .i64 oC, .int .i64 nC, .int .i64 uC, .string sC, .slice AC lC.length cC, .int .i64 oD, .int .i64 nD, .int .i64 uD, .string sD, .slice AD lD.length cD] [PT.mk o n u s A c l, PT.mk oB nB uB sB AB cB lB, PT.mk oC nC uC sC AC cC lC, PT.mk oD nD uD sD AD cD lD] (Nat.le_refl _) (by unfold maxLen; simp) rfl PT.enc_k
        have HF4 := Lib.hid hf4
        clear hf4 y0 y1 y2 y3 y4 y5 y6 y7 y8 y9 y10 y11 y12 y13 y14 y15 y16 y17 y18 y19 y20 y21 y22 y23 y24 yf yz
        have HK0 : Hid (Below wr.heap.size wr (wr.alloc (.cells #[.int .i64 o, .int .i64 n, .int .i64 u, .string s, .slice A l.length c, .int .i64 oB, .int .i64 nB, .int .i64 uB, .string sB, .slice AB lB.length cB, .int .i64 oC, .int .i64 nC, .int .i64 uC, .string sC, .slice AC lC.length cC, .int .i64 oD, .int .i64 nD, .int .i64 uD, .string sD, .slice AD lD.length cD] 25))) := Lib.hid qbl
        have HA5 := Lib.hid (HAR.out.later HK0.out)
        have HB5 : Hid (Below w.heap.size w (wr.alloc (.cells #[.int .i64 o, .int .i64 n, .int .i64 u, .string s, .slice A l.length c, .int .i64 oB, .int .i64 nB, .int .i64 uB, .string sB, .slice AB lB.length cB, .int .i64 oC, .int .i64 nC, .int .i64 uC, .string sC, .slice AC lC.length cC, .int .i64 oD, .int .i64 nD, .int .i64 uD, .string sD, .slice AD lD.length cD] 25))) := Lib.hid (HBR.out.trans (HK0.out.mono HBR.out.size))
        have hsz5 : wr.heap.size < (wr.alloc (.cells #[.int .i64 o, .int .i64 n, .int .i64 u, .string s, .slice A l.length c, .int .i64 oB, .int .i64 nB, .int .i64 uB, .string sB, .slice AB lB.length cB, .int .i64 oC, .int .i64 nC, .int .i64 uC, .string sC, .slice AC lC.length cC, .int .i64 oD, .int .i64 nD, .int .i64 uD, .string sD, .slice AD lD.length cD] 25)).heap.size := by simp
        generalize wr.alloc (.cells #[.int .i64 o, .int .i64 n, .int .i64 u, .string s, .slice A l.length c, .int .i64 oB, .int .i64 nB, .int .i64 uB, .string sB, .slice AB lB.length cB, .int .i64 oC, .int .i64 nC, .int .i64 uC, .string sC, .slice AC lC.length cC, .int .i64 oD, .int .i64 nD, .int .i64 uD, .string sD, .slice AD lD.length cD] 25) = w5 at *
        generalize wr.heap.size = g4 at *
        clear hbel hhe HBR HAR HK0
        clear wr
        go_loopw [50] (fun i wz => ∃ (k : Nat), k ≤ 4 ∧ i = .int .i64 k ∧ Below w5.heap.size w5 wz ∧ Hid (∀ i, i < k → fourE L [PT.mk o n u s A c l, PT.mk oB nB uB sB AB cB lB, PT.mk oC nC uC sC AC cC lC, PT.mk oD nD uD sD AD cD lD] i = 0)) (fun i _ => 4 - (intOf i).toNat)
        case atStart => exact ⟨0, by omega, rfl, Below.refl _ _, Lib.hid (fun i hi => absurd hi (by omega))⟩
        case round =>
          obtain ⟨k, hk, rfl, hbelz, HZ⟩ := hrel
          have HBZ : Hid (Below w.heap.size w wr) := Lib.hid (HB5.out.trans (hbelz.mono HB5.out.size))
          have HAZ := Lib.hid (HA5.out.later hbelz)
          by_cases hlt : k < 4
          · have hrd := ((HF4.out.below hbelz).rd PT.enc_k)
            obtain ⟨b, p, hA, hbl, hcl⟩ := hrd.at1 (i := k) hlt
            injection hA with hA
            injection hA with h1 h2
            subst h1 h2
            have HX : Hid (PT.At (· < wr.heap.size) wr ([PT.mk o n u s A c l, PT.mk oB nB uB sB AB cB lB, PT.mk oC nC uC sC AC cC lC, PT.mk oD nD uD sD AD cD lD][k]'hlt)) := Lib.hid (by
              have hm : ([PT.mk o n u s A c l, PT.mk oB nB uB sB AB cB lB, PT.mk oC nC uC sC AC cC lC, PT.mk oD nD uD sD AD cD lD][k]'hlt) ∈ [PT.mk o n u s A c l, PT.mk oB nB uB sB AB cB lB, PT.mk oC nC uC sC AC cC lC, PT.mk oD nD uD sD AD cD lD] := List.getElem_mem hlt
              simp only [List.mem_cons, List.not_mem_nil, or_false] at hm
              have HP6 := HP.out.later HBZ.out
              rcases hm with h | h | h | h <;> rw [h]
              · exact HP6.ad
              · exact HP6.fa
              · exact HP6.la
              · exact HP6.no)
            have HLE := Lib.hid (fourE_at (L := L) (xs := [PT.mk o n u s A c l, PT.mk oB nB uB sB AB cB lB, PT.mk oC nC uC sC AC cC lC, PT.mk oD nD uD sD AD cD lD]) (List.getElem?_eq_getElem hlt))
            simp only at hcl HX HLE
            clear hrd
            generalize [PT.mk o n u s A c l, PT.mk oB nB uB sB AB cB lB, PT.mk oC nC uC sC AC cC lC, PT.mk oD nD uD sD AD cD lD][k]'hlt = x at *
            obtain ⟨xo, xm, xu, xs, xA, xc, xl⟩ := x
            obtain ⟨g0, g1, g2, g3, g5⟩ := Cells.c5 hcl
            have hbz := hbl.2
            simp only [Nat.zero_add] at g0 g1 g2 g3 g5
            have y1 := HAZ.out.cell 1
            have yz := HAZ.out.lt
            obtain ⟨U, hU⟩ : ∃ U, ofU L ⟨xo, xm, xu, xs, xA, xc, xl⟩ = U := ⟨_, rfl⟩
            have hle := HLE.out
            rw [hU] at hle
            have HLU := Lib.hid hle
            have HUU := Lib.hid hU
            clear hcl hbl hU hle HLE
            by_cases hk0 : (k : Int) = 0
            · have hkz : k = 0 := by omega
              have HWT := Lib.hid HLU.out
              rw [if_pos hkz] at HWT
              subst hkz
              simp only [Nat.zero_mul] at g0 g1 g2 g3 g5
              go_wp2_with fail
              have HWZ : Hid (Below wr.heap.size wr (wr.alloc (.cells #[.int .i64 xo, .int .i64 xm, .int .i64 xu, .string xs, .slice xA xl.length xc] 25))) := Lib.hid qbl
              have hsz := hbelz.size
              have HBN : Hid (Below w5.heap.size w5 (wr.alloc (.cells #[.int .i64 xo, .int .i64 xm, .int .i64 xu, .string xs, .slice xA xl.length xc] 25))) := Lib.hid (hbelz.trans (HWZ.out.mono hsz))
              have HBM : Hid (Below w.heap.size w (wr.alloc (.cells #[.int .i64 xo, .int .i64 xm, .int .i64 xu, .string xs, .slice xA xl.length xc] 25))) := Lib.hid (HBZ.out.trans (HWZ.out.mono HBZ.out.size))
              have hcall := un_Of ⟨LA, Lc, L⟩ ⟨xo, xm, xu, xs, xA, xc, xl⟩ _ (HP.out.lets.later HBM.out) (HX.out.later HWZ.out)
              rw [HUU.out] at hcall
              simp only [PT.v] at hcall
              refine hcall.mono ?_
              clear hcall
              generalize wr.alloc (.cells #[.int .i64 xo, .int .i64 xm, .int .i64 xu, .string xs, .slice xA xl.length xc] 25) = w6 at *
              rintro e w7 ⟨⟨RA, rn, rc, rfl⟩, hb7⟩
              have HB7 : Hid (Below w5.heap.size w5 w7) := Lib.hid (HBN.out.trans (hb7.mono HBN.out.size))
              have HBW : Hid (Below w.heap.size w w7) := Lib.hid (HBM.out.trans (hb7.mono HBM.out.size))
              clear hb7 g0 g1 g2 g3 g5 y1 yz
              by_cases hu : U.2 = 0
              · by_cases hw : U.1 = 3
                · have HZ2 : Hid (∀ i, i < 0 + 1 → fourE L [PT.mk o n u s A c l, PT.mk oB nB uB sB AB cB lB, PT.mk oC nC uC sC AC cC lC, PT.mk oD nD uD sD AD cD lD] i = 0) := Lib.hid (fun i hi => by
                    rcases Nat.lt_or_ge i 0 with h | h
                    · exact HZ.out i h
                    · obtain rfl : i = 0 := by omega
                      rw [HWT.out, if_neg (fun h => h hu), if_neg (fun h => h hw)])
                  rw [hu, hw]
                  clear hu hw
                  go_wp2_with fail
                  go_roundw
                  case rel => exact ⟨0 + 1, by omega, by go_num, HB7.out, HZ2⟩
                  case measure => first | (simp [intOf]; done) | (simp [intOf]; omega)
                · have he13 : fourE L [PT.mk o n u s A c l, PT.mk oB nB uB sB AB cB lB, PT.mk oC nC uC sC AC cC lC, PT.mk oD nD uD sD AD cD lD] 0 = 13 := by rw [HWT.out, if_neg (fun h => h hu), if_pos hw]
                  have HVV := Lib.hid ((chkU_four HR.out HZL.out hlt HZ.out (by rw [he13]; decide)).symm.trans HV.out)
                  have HVW := Lib.hid (he13.symm.trans HVV.out)
                  rw [hu]
                  clear he13 hu
                  go_wp2_with fail
                  go_ret
                  exact ⟨ret_int HVW.out, HBW.out⟩
              · have heu : fourE L [PT.mk o n u s A c l, PT.mk oB nB uB sB AB cB lB, PT.mk oC nC uC sC AC cC lC, PT.mk oD nD uD sD AD cD lD] 0 = U.2 := by rw [HWT.out, if_pos hu]
                have HVV := Lib.hid ((chkU_four HR.out HZL.out hlt HZ.out (by rw [heu]; exact hu)).symm.trans HV.out)
                have HVW := Lib.hid (heu.symm.trans HVV.out)
                clear heu
                go_wp2_with fail
                go_ret
                exact ⟨ret_int HVW.out, HBW.out⟩
            · have hkz : ¬ k = 0 := by omega
              have HWT := Lib.hid HLU.out
              rw [if_neg hkz] at HWT
              go_wp2_with fail
              have HWZ : Hid (Below wr.heap.size wr (wr.alloc (.cells #[.int .i64 xo, .int .i64 xm, .int .i64 xu, .string xs, .slice xA xl.length xc] 25))) := Lib.hid qbl
              have hsz := hbelz.size
              have HBN : Hid (Below w5.heap.size w5 (wr.alloc (.cells #[.int .i64 xo, .int .i64 xm, .int .i64 xu, .string xs, .slice xA xl.length xc] 25))) := Lib.hid (hbelz.trans (HWZ.out.mono hsz))
              have HBM : Hid (Below w.heap.size w (wr.alloc (.cells #[.int .i64 xo, .int .i64 xm, .int .i64 xu, .string xs, .slice xA xl.length xc] 25))) := Lib.hid (HBZ.out.trans (HWZ.out.mono HBZ.out.size))
              have hcall := un_Of ⟨LA, Lc, L⟩ ⟨xo, xm, xu, xs, xA, xc, xl⟩ _ (HP.out.lets.later HBM.out) (HX.out.later HWZ.out)
              rw [HUU.out] at hcall
              simp only [PT.v] at hcall
              refine hcall.mono ?_
              clear hcall
              generalize wr.alloc (.cells #[.int .i64 xo, .int .i64 xm, .int .i64 xu, .string xs, .slice xA xl.length xc] 25) = w6 at *
              rintro e w7 ⟨⟨RA, rn, rc, rfl⟩, hb7⟩
              have HB7 : Hid (Below w5.heap.size w5 w7) := Lib.hid (HBN.out.trans (hb7.mono HBN.out.size))
              have HBW : Hid (Below w.heap.size w w7) := Lib.hid (HBM.out.trans (hb7.mono HBM.out.size))
              clear hb7 g0 g1 g2 g3 g5 y1 yz
              by_cases hu : U.2 = 0
              · by_cases hw : U.1 = 1
                · have HZ2 : Hid (∀ i, i < k + 1 → fourE L [PT.mk o n u s A c l, PT.mk oB nB uB sB AB cB lB, PT.mk oC nC uC sC AC cC lC, PT.mk oD nD uD sD AD cD lD] i = 0) := Lib.hid (fun i hi => by
                    rcases Nat.lt_or_ge i k with h | h
                    · exact HZ.out i h
                    · obtain rfl : i = k := by omega
                      rw [HWT.out, if_neg (fun h => h hu), if_neg (fun h => h hw)])
                  rw [hu, hw]
                  clear hu hw
                  go_wp2_with fail
                  go_roundw
                  case rel => exact ⟨k + 1, by omega, by go_num, HB7.out, HZ2⟩
                  case measure => first | (simp [intOf]; done) | (simp [intOf]; omega)
                · have he13 : fourE L [PT.mk o n u s A c l, PT.mk oB nB uB sB AB cB lB, PT.mk oC nC uC sC AC cC lC, PT.mk oD nD uD sD AD cD lD] k = 13 := by rw [HWT.out, if_neg (fun h => h hu), if_pos hw]
                  have HVV := Lib.hid ((chkU_four HR.out HZL.out hlt HZ.out (by rw [he13]; decide)).symm.trans HV.out)
                  have HVW := Lib.hid (he13.symm.trans HVV.out)
                  rw [hu]
                  clear he13 hu
                  go_wp2_with fail
                  go_ret
                  exact ⟨ret_int HVW.out, HBW.out⟩
              · have heu : fourE L [PT.mk o n u s A c l, PT.mk oB nB uB sB AB cB lB, PT.mk oC nC uC sC AC cC lC, PT.mk oD nD uD sD AD cD lD] k = U.2 := by rw [HWT.out, if_pos hu]
                have HVV := Lib.hid ((chkU_four HR.out HZL.out hlt HZ.out (by rw [heu]; exact hu)).symm.trans HV.out)
                have HVW := Lib.hid (heu.symm.trans HVV.out)
                clear heu
                go_wp2_with fail
                go_ret
                exact ⟨ret_int HVW.out, HBW.out⟩
          · have hk4 : k = 4 := by omega
            have HV0 := Lib.hid ((chkU_ok HR.out HZL.out (by rw [hk4] at HZ; exact HZ.out)).symm.trans HV.out)
            go_wp2_with fail
            go_ret
            exact ⟨ret_int HV0.out, HBZ.out⟩
end Go.Proofs.YtcgocdhhneckhaaGreat
