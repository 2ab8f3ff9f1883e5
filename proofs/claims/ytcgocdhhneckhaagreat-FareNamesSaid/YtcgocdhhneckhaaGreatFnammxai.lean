/- Walk: syntax.Right. -/
import Derived.Test.YtcgocdhhneckhaaGreatFnammxah
namespace Go.Proofs.YtcgocdhhneckhaaGreat
open Go.RowKit
theorem PT.enc_k : ∀ x : PT, x.enc.length = 5 | ⟨_, _, _, _, _, _, _⟩ => rfl
theorem rd_ones {W : World} {g : Nat} {t : TypeId} {x : ByteArray} (h : Blk W g t #[.string x]) : Rd (· < W.heap.size) 1 senc W ⟨some ⟨g, 0, none⟩, 1, [x]⟩ :=
  ⟨Nat.le_refl _, by unfold maxLen; simp, fun h => by simp at h, fun i y hy => by
    have hi : i = 0 := by
      rcases i with _ | i
      · rfl
      · simp at hy
    subst hi
    have hxy : x = y := by simpa using hy
    subst hxy
    exact ⟨g, 0, rfl, h.lt, fun j u hu => by
      rw [Nat.zero_mul, Nat.add_zero, Nat.zero_add, h.cell]
      simpa [senc] using hu⟩⟩
theorem all_no {L : List LT} {x : LT} (hx : x ∈ L) (h : rexp x.b = false) : L.all (fun x => rexp x.b) = false := List.all_eq_false.2 ⟨x, hx, by simp [h]⟩
theorem bylB_no {b : Byl} (h : b.lets.l.all (fun x => rexp x.b) = false) : bylB b = false := by unfold bylB; rw [h]; rfl
theorem bylB_is {b : Byl} (h : b.lets.l.all (fun x => rexp x.b) = true) : bylB b = (nameB b.nm && [b.q, b.sh].all (inB 0 1000) && inB 1 1000 b.ch && (uniqB [] (namesL b.lets.l) && decide (((namesL b.lets.l).length : Int) ≤ 20)) && [b.ad, b.fa, b.la, b.no].all rexp) := by
  unfold bylB; rw [h, Bool.true_and, namesL, List.length_map]; simp only [List.all_cons, List.all_nil, Bool.and_true]
theorem and5a (b c d e : Bool) : false = (false && b && c && d && e) := rfl
theorem and5b (a c d e : Bool) : false = (a && false && c && d && e) := by cases a <;> rfl
theorem and5c (a b d e : Bool) : false = (a && b && false && d && e) := by cases a <;> cases b <;> rfl
theorem and5d (a b c e : Bool) : false = (a && b && c && false && e) := by cases a <;> cases b <;> cases c <;> rfl
theorem and5e (e : Bool) : (true && true && true && true && e) = e := rfl
theorem names_sz {F : Nat → Prop} {w : World} {s : Sl LT} (h : LetsAt F w s) : ∀ x, x ∈ namesL s.l → x.size ≤ 9223372036854775807 := by
  intro x hx
  obtain ⟨y, hy, rfl⟩ := List.mem_map.1 hx
  exact (h.all y hy).nm
theorem Cells.c6 {w : World} {b o : Nat} {x y z s t u : Value} (h : Cells w b o [x, y, z, s, t, u]) :
    w.cell? ⟨b, o, none⟩ = some x ∧ w.cell? ⟨b, o + 1, none⟩ = some y ∧ w.cell? ⟨b, o + 2, none⟩ = some z ∧ w.cell? ⟨b, o + 3, none⟩ = some s ∧ w.cell? ⟨b, o + 4, none⟩ = some t ∧ w.cell? ⟨b, o + 5, none⟩ = some u := ⟨h 0 _ rfl, h 1 _ rfl, h 2 _ rfl, h 3 _ rfl, h 4 _ rfl, h 5 _ rfl⟩
set_option maxRecDepth 100000 in
set_option maxHeartbeats 3200000 in
theorem syn_Right (b : Byl) (w : World) (hb : Byl.At (· < w.heap.size) w b) (h40 : b.lets.l.length ≤ 1000000) :
    Calls Tryz.prog 38 #[b.v] w fun e w' => e = .returned (.bool (bylB b)) ∧ Below w.heap.size w w' := by
  have HP := Lib.hid hb
  clear hb
  obtain ⟨V, hV⟩ : ∃ V, bylB b = V := ⟨_, rfl⟩
  have HV := Lib.hid hV
  rw [hV]
  clear hV
  obtain ⟨nm, ⟨LA, Lc, L⟩, ⟨o, n, u, s, A, c, l⟩, ⟨oB, nB, uB, sB, AB, cB, lB⟩, ⟨oC, nC, uC, sC, AC, cC, lC⟩, ⟨oD, nD, uD, sD, AD, cD, lD⟩, q, sh, ch⟩ := b
  simp only at h40
  simp only [Byl.v]
  go_enter Tryz.func38, Tryz.ntmps38
  go_wp2_with fail
  have HB : Hid (Below w.heap.size w (w.alloc (.cells #[.string nm, .slice LA L.length Lc, .int .i64 o, .int .i64 n, .int .i64 u, .string s, .slice A l.length c, .int .i64 oB, .int .i64 nB, .int .i64 uB, .string sB, .slice AB lB.length cB, .int .i64 oC, .int .i64 nC, .int .i64 uC, .string sC, .slice AC lC.length cC, .int .i64 oD, .int .i64 nD, .int .i64 uD, .string sD, .slice AD lD.length cD, .int .i64 q, .int .i64 sh, .int .i64 ch] 27))) := Lib.hid qbl
  have HA : Hid (Blk (w.alloc (.cells #[.string nm, .slice LA L.length Lc, .int .i64 o, .int .i64 n, .int .i64 u, .string s, .slice A l.length c, .int .i64 oB, .int .i64 nB, .int .i64 uB, .string sB, .slice AB lB.length cB, .int .i64 oC, .int .i64 nC, .int .i64 uC, .string sC, .slice AC lC.length cC, .int .i64 oD, .int .i64 nD, .int .i64 uD, .string sD, .slice AD lD.length cD, .int .i64 q, .int .i64 sh, .int .i64 ch] 27)) w.heap.size 27 #[.string nm, .slice LA L.length Lc, .int .i64 o, .int .i64 n, .int .i64 u, .string s, .slice A l.length c, .int .i64 oB, .int .i64 nB, .int .i64 uB, .string sB, .slice AB lB.length cB, .int .i64 oC, .int .i64 nC, .int .i64 uC, .string sC, .slice AC lC.length cC, .int .i64 oD, .int .i64 nD, .int .i64 uD, .string sD, .slice AD lD.length cD, .int .i64 q, .int .i64 sh, .int .i64 ch]) := Lib.hid (Blk.new _ _ _)
  generalize w.alloc (.cells #[.string nm, .slice LA L.length Lc, .int .i64 o, .int .i64 n, .int .i64 u, .string s, .slice A l.length c, .int .i64 oB, .int .i64 nB, .int .i64 uB, .string sB, .slice AB lB.length cB, .int .i64 oC, .int .i64 nC, .int .i64 uC, .string sC, .slice AC lC.length cC, .int .i64 oD, .int .i64 nD, .int .i64 uD, .string sD, .slice AD lD.length cD, .int .i64 q, .int .i64 sh, .int .i64 ch] 27) = w1 at *
  go_loopw [3, 10] (fun t i wr => ∃ (k : Nat) (B : Option Addr) (d : Nat) (nl : List ByteArray), k ≤ L.length ∧ nl.length = k ∧ i = .int .i64 k ∧ t = .slice B nl.length d ∧ Hid (Own w1.heap.size 9 1 senc wr ⟨B, d, nl⟩) ∧ Below w1.heap.size w1 wr ∧ Hid ((L.take k).all (fun x => rexp x.b) = true ∧ nl = namesL (L.take k))) (fun _ i _ => L.length - (intOf i).toNat)
  case atStart => exact ⟨0, none, 0, [], by omega, rfl, rfl, rfl, Lib.hid (Own.nil _ _ _ _ _), Below.refl _ _, Lib.hid (by simp [namesL])⟩
  case round =>
    obtain ⟨k, B, d, nl, hk, hnl, rfl, rfl, HW, hbel, HG⟩ := hrel
    have hhe : w1.heap.size ≤ wr.heap.size := hbel.size
    by_cases hlt : k < L.length
    · have hLW := (HP.out.later (HB.out.trans (hbel.mono HB.out.size))).lets
      obtain ⟨b, p, hA, hbl, hcl⟩ := hLW.rd.at1 hlt
      have HX := Lib.hid (hLW.all _ (List.getElem_mem hlt))
      have HM := Lib.hid (List.getElem_mem hlt)
      simp only at hA hcl HX
      subst hA
      have ht : L.take (k + 1) = L.take k ++ [L[k]] := by rw [List.take_succ_eq_append_getElem hlt]
      have HT := Lib.hid ht
      have HN := Lib.hid hnl
      have hnb : nl.length + 1 ≤ 1000001 := by omega
      clear hLW ht hnl
      generalize L[k] = x at *
      obtain ⟨xn, xo, xm, xu, xs, xA, xc, xl⟩ := x
      obtain ⟨g0, g1, g2, g3, g4, g5⟩ := Cells.c6 hcl
      clear hcl
      go_wp2_with fail
      refine (syn_rexp ⟨xo, xm, xu, xs, xA, xc, xl⟩ _ (HX.out.b.later qbl)).mono ?_
      rintro e w3 ⟨rfl, hb3⟩
      have f0 : w3.cell? ⟨wr.heap.size, 0, none⟩ = some (.string xn) := ((Blk.new wr _ _).later hb3).cell 0
      have hbw : Below wr.heap.size wr w3 := Below.trans qbl (hb3.mono (by first | omega | (simp; done) | (simp; omega)))
      have hbs := hbw.size
      clear hb3 g0 g1 g2 g3 g4 g5
      rcases hrx : rexp ⟨xo, xm, xu, xs, xA, xc, xl⟩
      · have HF : Hid (false = V) := Lib.hid ((bylB_no (all_no HM.out hrx)).symm.trans HV.out)
        clear hrx
        go_wp2_with fail
        go_ret
        exact ⟨ret_bool HF.out, HB.out.trans ((hbel.trans (hbw.mono hhe)).mono HB.out.size)⟩
      · have HRX := Lib.hid hrx
        clear hrx
        go_wp2_with (at_builtin
                     go_must (refine wpl_append_sl _ rfl (.tmp 18) (.tmp 21) _ rfl Tryz.underlying65 infoStr (by omega) senc_k senc_one ⟨B, d, nl⟩ ⟨some ⟨w3.heap.size, 0, none⟩, 1, [xn]⟩ rfl rfl ((HW.out.below hbw).alloc _) (rd_ones (Blk.new w3 _ _)) (by simp [maxLen]; omega) (by simp; omega) (by simp; omega) ?_)
                     intro A2 c2 w4 hown hg _)
        go_roundw
        case measure => simp [intOf]; omega
        case rel =>
          refine ⟨k + 1, A2, c2, nl ++ [xn], by omega, by rw [List.length_append, HN.out]; rfl, by go_num, by simp, Lib.hid hown, ?_, Lib.hid ⟨?_, ?_⟩⟩
          · exact (Below.alloc (hbel.trans (hbw.mono hhe)) (by omega) _).grown hg (by simp; omega) (fun k hk => by have := World.ownsRow.lt HW.out k hk; omega)
          · rw [HT.out, List.all_append, HG.out.1]; simp [HRX.out]
          · rw [HT.out, HG.out.2]; simp [namesL]
    · have hkl : L.take k = L := List.take_of_length_le (by omega)
      have hgo := HG.out
      rw [hkl] at hgo
      obtain ⟨hall, hnl2⟩ := hgo
      have HZ := Lib.hid (names_sz HP.out.lets)
      simp only at HZ
      rw [← hnl2] at HZ
      have HV2 := Lib.hid (HV.out.symm.trans (bylB_is hall))
      simp only at HV2
      rw [← hnl2] at HV2
      clear HG hall hnl2 hkl HV hnl
      obtain ⟨y0, y1, y2, y3, y4, y5, y6, y7, y8, y9, y10, y11, y12, y13, y14, y15, y16, y17, y18, y19, y20, y21, y22, y23, y24, yf, yz⟩ := (HA.out.later hbel).b25
      go_wp2_with fail
      have hf4 : Own wr.heap.size 25 5 PT.enc (wr.alloc (.cells #[.int .i64 o, .int .i64 n, .int .i64 u, .string s, .slice A l.length c, .int .i64 oB, .int .i64 nB, .int .i64 uB, .string sB, .slice AB lB.length cB, .int .i64 oC, .int .i64 nC, .int .i64 uC, .string sC, .slice AC lC.length cC, .int .i64 oD, .int .i64 nD, .int .i64 uD, .string sD, .slice AD lD.length cD] 25)) ⟨some ⟨wr.heap.size, 0, none⟩, 4, [PT.mk o n u s A c l, PT.mk oB nB uB sB AB cB lB, PT.mk oC nC uC sC AC cC lC, PT.mk oD nD uD sD AD cD lD]⟩ := Own.lit wr #[.int .i64 o, .int .i64 n, .int .i64 u, .string s, .slice A l.length c, .int .i64 oB, .int .i64 nB, .int .i64 uB, .string sB, .slice AB lB.length cB, .int .i64 oC, .int .i64 nC, .int .i64 uC, .string sC, .slice AC lC.length cC, .int .i64 oD, .int .i64 nD, .int .i64 uD, .string sD, .slice AD lD.length cD] [PT.mk o n u s A c l, PT.mk oB nB uB sB AB cB lB, PT.mk oC nC uC sC AC cC lC, PT.mk oD nD uD sD AD cD lD] (Nat.le_refl _) (by unfold maxLen; simp) rfl PT.enc_k
      have HF4 := Lib.hid hf4
      clear hf4 y0 y1 y2 y3 y4 y5 y6 y7 y8 y9 y10 y11 y12 y13 y14 y15 y16 y17 y18 y19 y20 y21 y22 y23 y24 yf yz
      have HK0 : Hid (Below wr.heap.size wr (wr.alloc (.cells #[.int .i64 o, .int .i64 n, .int .i64 u, .string s, .slice A l.length c, .int .i64 oB, .int .i64 nB, .int .i64 uB, .string sB, .slice AB lB.length cB, .int .i64 oC, .int .i64 nC, .int .i64 uC, .string sC, .slice AC lC.length cC, .int .i64 oD, .int .i64 nD, .int .i64 uD, .string sD, .slice AD lD.length cD] 25))) := Lib.hid qbl
      generalize wr.alloc (.cells #[.int .i64 o, .int .i64 n, .int .i64 u, .string s, .slice A l.length c, .int .i64 oB, .int .i64 nB, .int .i64 uB, .string sB, .slice AB lB.length cB, .int .i64 oC, .int .i64 nC, .int .i64 uC, .string sC, .slice AC lC.length cC, .int .i64 oD, .int .i64 nD, .int .i64 uD, .string sD, .slice AD lD.length cD] 25) = w2 at *
      have hk0 := HK0.out.size
      refine (syn_name nm _ HP.out.nm).mono ?_
      rintro e w3 ⟨rfl, hb3⟩
      have HQ3 : Hid (Below wr.heap.size wr w3) := Lib.hid (HK0.out.trans (hb3.mono hk0))
      have H23 : Hid (Below w2.heap.size w2 w3) := Lib.hid hb3
      have hk3 := hb3.size
      clear hb3
      have y22 : (w3).cell? ⟨w.heap.size, 22, none⟩ = some (.int .i64 q) := (HA.out.later (hbel.trans ((HQ3.out).mono hhe))).cell 22
      have y23 : (w3).cell? ⟨w.heap.size, 23, none⟩ = some (.int .i64 sh) := (HA.out.later (hbel.trans ((HQ3.out).mono hhe))).cell 23
      have y24 : (w3).cell? ⟨w.heap.size, 24, none⟩ = some (.int .i64 ch) := (HA.out.later (hbel.trans ((HQ3.out).mono hhe))).cell 24
      rcases hr1 : nameB nm
      · have HF : Hid (false = V) := Lib.hid (by rw [HV2.out, hr1]; exact and5a _ _ _ _)
        clear hr1
        go_wp2_with fail
        go_ret
        exact ⟨ret_bool HF.out, HB.out.trans ((hbel.trans ((HQ3).out.mono hhe)).mono HB.out.size)⟩
      have HR1 := Lib.hid hr1
      clear hr1
      go_wp2_with fail
      refine (syn_in 0 1000 ⟨some ⟨w3.heap.size, 0, none⟩, 2, [q, sh]⟩ _ (OI.new w3 [q, sh] (by simp [maxLen])).rdlt).mono ?_
      rintro e w4 ⟨rfl, hb4⟩
      have h34 : Below w3.heap.size w3 w4 := Below.trans qbl (hb4.mono (by first | omega | (simp; done) | (simp; omega)))
      have HQ4 : Hid (Below wr.heap.size wr w4) := Lib.hid (HQ3.out.trans (h34.mono (Nat.le_trans hk0 hk3)))
      have H24 : Hid (Below w2.heap.size w2 w4) := Lib.hid (H23.out.trans (h34.mono hk3))
      have hk4 := h34.size
      clear hb4 h34 y22 y23 y24
      have y22 : (w4).cell? ⟨w.heap.size, 22, none⟩ = some (.int .i64 q) := (HA.out.later (hbel.trans ((HQ4.out).mono hhe))).cell 22
      have y23 : (w4).cell? ⟨w.heap.size, 23, none⟩ = some (.int .i64 sh) := (HA.out.later (hbel.trans ((HQ4.out).mono hhe))).cell 23
      have y24 : (w4).cell? ⟨w.heap.size, 24, none⟩ = some (.int .i64 ch) := (HA.out.later (hbel.trans ((HQ4.out).mono hhe))).cell 24
      rcases hr2 : [q, sh].all (inB 0 1000)
      · have HF : Hid (false = V) := Lib.hid (by rw [HV2.out, hr2]; exact and5b _ _ _ _)
        clear hr2
        go_wp2_with fail
        go_ret
        exact ⟨ret_bool HF.out, HB.out.trans ((hbel.trans ((HQ4).out.mono hhe)).mono HB.out.size)⟩
      have HR2 := Lib.hid hr2
      clear hr2
      go_wp2_with fail
      refine (syn_in_one 1 1000 ch w4.heap.size _ (Blk.new _ _ _)).mono ?_
      rintro e w5 ⟨rfl, hb5⟩
      have h45 : Below w4.heap.size w4 w5 := Below.trans qbl (hb5.mono (by first | omega | (simp; done) | (simp; omega)))
      have HQ5 : Hid (Below wr.heap.size wr w5) := Lib.hid (HQ4.out.trans (h45.mono (Nat.le_trans hk0 (Nat.le_trans hk3 hk4))))
      have H25 : Hid (Below w2.heap.size w2 w5) := Lib.hid (H24.out.trans (h45.mono (Nat.le_trans hk3 hk4)))
      have hk5 := h45.size
      clear hb5 h45 y22 y23 y24
      rcases hr3 : inB 1 1000 ch
      · have HF : Hid (false = V) := Lib.hid (by rw [HV2.out, hr3]; exact and5c _ _ _ _)
        clear hr3
        go_wp2_with fail
        go_ret
        exact ⟨ret_bool HF.out, HB.out.trans ((hbel.trans ((HQ5).out.mono hhe)).mono HB.out.size)⟩
      have HR3 := Lib.hid hr3
      clear hr3
      go_wp2_with fail
      refine (syn_unique ⟨B, d, nl⟩ 20 _ ((((HW.out.below HQ5.out).rd senc_k)).mono (fun b hb => hb.2)) HZ.out).mono ?_
      rintro e w6 ⟨rfl, hb6⟩
      have HQ6 : Hid (Below wr.heap.size wr w6) := Lib.hid (HQ5.out.trans (hb6.mono HQ5.out.size))
      have H26 : Hid (Below w2.heap.size w2 w6) := Lib.hid (H25.out.trans (hb6.mono H25.out.size))
      clear hb6
      simp only
      obtain ⟨r4, hr4⟩ : ∃ r, (uniqB [] nl && decide ((nl.length : Int) ≤ 20)) = r := ⟨_, rfl⟩
      rw [hr4]
      rcases r4
      · have HF : Hid (false = V) := Lib.hid (by rw [HV2.out, hr4]; exact and5d _ _ _ _)
        clear hr4
        go_wp2_with fail
        go_ret
        exact ⟨ret_bool HF.out, HB.out.trans ((hbel.trans ((HQ6).out.mono hhe)).mono HB.out.size)⟩
      have HF0 : Hid (V = [PT.mk o n u s A c l, PT.mk oB nB uB sB AB cB lB, PT.mk oC nC uC sC AC cC lC, PT.mk oD nD uD sD AD cD lD].all rexp) := Lib.hid (by rw [HV2.out, HR1.out, HR2.out, HR3.out, hr4]; exact and5e _)
      clear hr4
      go_wp2_with fail
      have HP6 := Lib.hid (HP.out.later (HB.out.trans ((hbel.trans (HQ6.out.mono hhe)).mono HB.out.size)))
      refine (hasE_R ⟨some ⟨wr.heap.size, 0, none⟩, 4, [PT.mk o n u s A c l, PT.mk oB nB uB sB AB cB lB, PT.mk oC nC uC sC AC cC lC, PT.mk oD nD uD sD AD cD lD]⟩ (fun x => !rexp x) 0 _ (((HF4.out.below H26.out).rd PT.enc_k).mono (fun b hb => hb.2)) ?_).mono ?_
      · intro W x hx hW
        refine syn_Right1 x W ?_
        simp only [List.mem_cons, List.not_mem_nil, or_false] at hx
        rcases hx with rfl | rfl | rfl | rfl
        · exact HP6.out.ad.later hW
        · exact HP6.out.fa.later hW
        · exact HP6.out.la.later hW
        · exact HP6.out.no.later hW
      rintro e w7 ⟨rfl, hb7⟩
      have HQ7 : Hid (Below wr.heap.size wr w7) := Lib.hid (HQ6.out.trans (hb7.mono HQ6.out.size))
      clear hb7
      rw [show (fun x => !rexp x) = (fun x => !(rexp) x) from rfl]
      have HAN := any_not rexp [PT.mk o n u s A c l, PT.mk oB nB uB sB AB cB lB, PT.mk oC nC uC sC AC cC lC, PT.mk oD nD uD sD AD cD lD]
      obtain ⟨r5, hr5⟩ : ∃ r, ([PT.mk o n u s A c l, PT.mk oB nB uB sB AB cB lB, PT.mk oC nC uC sC AC cC lC, PT.mk oD nD uD sD AD cD lD].any (fun x => !rexp x)) = r := ⟨_, rfl⟩
      rw [hr5] at HAN
      simp only [hr5]
      have HF : Hid ((!r5) = V) := Lib.hid (HAN.trans HF0.out.symm)
      clear hr5 HAN
      go_wp2_with fail
      go_ret
      exact ⟨ret_bool HF.out, HB.out.trans ((hbel.trans ((HQ7).out.mono hhe)).mono HB.out.size)⟩
end Go.Proofs.YtcgocdhhneckhaaGreat
