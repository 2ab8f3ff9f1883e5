/- Walks of FareNames: Names. -/
import Derived.Test.YtcgocdhhneckhaaGreatFnammxbp
import Derived.Test.YtcgocdhhneckhaaGreatFnammxbq
import Derived.Test.YtcgocdhhneckhaaGreatFnammxbo
import Derived.Test.YtcgocdhhneckhaaGreatFnammxbl
namespace Go.Proofs.YtcgocdhhneckhaaGreat
open Go.RowKit
set_option maxRecDepth 100000 in
set_option maxHeartbeats 3200000 in
theorem ref_Names (op : Int) (sn : ByteArray) (b : Byl) (w : World) (hb : Byl.At (· < w.heap.size) w b) : Calls Tryz.prog 24 #[b.v, .int .i64 op, .string sn] w fun r w' => InP w w' (BylNo op sn b) r := by
  have HP := Lib.hid hb
  have hn := hb.lets.rd.len
  clear hb
  have HMK := Lib.hid (BylNo.mk (o := op) (s := sn) (b := b))
  obtain ⟨nm, ⟨LA, Lc, L⟩, ⟨o, n, u, s, A, c, l⟩, ⟨oB, nB, uB, sB, AB, cB, lB⟩, ⟨oC, nC, uC, sC, AC, cC, lC⟩, ⟨oD, nD, uD, sD, AD, cD, lD⟩, q, sh, ch⟩ := b
  simp only at hn HMK
  simp only [Byl.v]
  have HB : Hid (Below w.heap.size w (w.alloc (.cells #[.string nm, .slice LA L.length Lc, .int .i64 o, .int .i64 n, .int .i64 u, .string s, .slice A l.length c, .int .i64 oB, .int .i64 nB, .int .i64 uB, .string sB, .slice AB lB.length cB, .int .i64 oC, .int .i64 nC, .int .i64 uC, .string sC, .slice AC lC.length cC, .int .i64 oD, .int .i64 nD, .int .i64 uD, .string sD, .slice AD lD.length cD, .int .i64 q, .int .i64 sh, .int .i64 ch] 27))) := Lib.hid qbl
  have HA : Hid (Blk (w.alloc (.cells #[.string nm, .slice LA L.length Lc, .int .i64 o, .int .i64 n, .int .i64 u, .string s, .slice A l.length c, .int .i64 oB, .int .i64 nB, .int .i64 uB, .string sB, .slice AB lB.length cB, .int .i64 oC, .int .i64 nC, .int .i64 uC, .string sC, .slice AC lC.length cC, .int .i64 oD, .int .i64 nD, .int .i64 uD, .string sD, .slice AD lD.length cD, .int .i64 q, .int .i64 sh, .int .i64 ch] 27)) w.heap.size 27 #[.string nm, .slice LA L.length Lc, .int .i64 o, .int .i64 n, .int .i64 u, .string s, .slice A l.length c, .int .i64 oB, .int .i64 nB, .int .i64 uB, .string sB, .slice AB lB.length cB, .int .i64 oC, .int .i64 nC, .int .i64 uC, .string sC, .slice AC lC.length cC, .int .i64 oD, .int .i64 nD, .int .i64 uD, .string sD, .slice AD lD.length cD, .int .i64 q, .int .i64 sh, .int .i64 ch]) := Lib.hid (Blk.new _ _ _)
  go_enter Tryz.func24, Tryz.ntmps24
  go_wp2_with fail
  generalize w.alloc (.cells #[.string nm, .slice LA L.length Lc, .int .i64 o, .int .i64 n, .int .i64 u, .string s, .slice A l.length c, .int .i64 oB, .int .i64 nB, .int .i64 uB, .string sB, .slice AB lB.length cB, .int .i64 oC, .int .i64 nC, .int .i64 uC, .string sC, .slice AC lC.length cC, .int .i64 oD, .int .i64 nD, .int .i64 uD, .string sD, .slice AD lD.length cD, .int .i64 q, .int .i64 sh, .int .i64 ch] 27) = w1 at *
  go_loopw [7] (fun i wr => ∃ (j : Nat), j ≤ L.length ∧ i = .int .i64 j ∧ Below w1.heap.size w1 wr ∧ Hid (∀ y, y ∈ L.take j → NotIn op sn y.b)) (fun i _ => L.length - (intOf i).toNat)
  case atStart => exact ⟨0, by omega, rfl, Below.refl _ _, Lib.hid (fun y hy => by simp at hy)⟩
  case round =>
    obtain ⟨k, hk, rfl, hbel, HT⟩ := hrel
    have HBR : Hid (Below w.heap.size w wr) := Lib.hid (HB.out.trans (hbel.mono HB.out.size))
    have HAR := Lib.hid (HA.out.later hbel)
    by_cases hlt : k < L.length
    · have y1 := HAR.out.cell 1
      have yz := HAR.out.lt
      have hLW := HP.out.lets.later HBR.out
      obtain ⟨b, p, hA, hb, hcl⟩ := hLW.rd.at1 hlt
      have HX := Lib.hid (hLW.all _ (List.getElem_mem hlt))
      have HSTEP : Hid (NotIn op sn L[k].b → ∀ y, y ∈ L.take (k + 1) → NotIn op sn y.b) := Lib.hid (fun h y hy => by
        rw [List.take_succ_eq_append_getElem hlt] at hy
        rcases List.mem_append.1 hy with hy | hy
        · exact HT.out y hy
        · rw [List.mem_singleton.1 hy]; exact h)
      simp only at hA hcl HX
      subst hA
      clear hLW
      generalize L[k] = x at *
      obtain ⟨xn, xo, xm, xu, xs, xA, xc, xl⟩ := x
      obtain ⟨g0, g1, g2, g3, g4, g5⟩ := Cells.c6 hcl
      clear hcl
      go_wp2_with fail
      refine (ref_In op sn ⟨xo, xm, xu, xs, xA, xc, xl⟩ wr HX.out.b).mono ?_
      rintro e w6 ⟨t, rfl, ht, hb6⟩
      have HB6 : Hid (Below w1.heap.size w1 w6) := Lib.hid (hbel.trans (hb6.mono hbel.size))
      clear g0 g1 g2 g3 g4 g5 y1 yz
      rcases t
      · have HT2 := Lib.hid (HSTEP.out (ht rfl))
        clear ht hb6
        go_wp2_with fail
        go_roundw
        case rel => exact ⟨k + 1, by omega, by go_num, HB6.out, HT2⟩
        case measure => simp [intOf]; omega
      · clear ht
        go_wp2_with fail
        go_ret
        exact ⟨true, rfl, by simp, HBR.out.trans (hb6.mono HBR.out.size)⟩
    · have HLL : Hid (∀ y, y ∈ L → NotIn op sn y.b) := Lib.hid (fun y hy => HT.out y (by rw [List.take_of_length_le (by omega)]; exact hy))
      have y1 := HAR.out.cell 1
      clear hbel HT HA HB
      clear y1
      obtain ⟨y0, y1, y2, y3, y4, y5, y6, y7, y8, y9, y10, y11, y12, y13, y14, y15, y16, y17, y18, y19, y20, y21, y22, y23, y24, yf, yz⟩ := HAR.out.b25
      clear y0 y7 y8 y9 y10 y11 y12 y13 y14 y15 y16 y17 y18 y19 y20 y21 y22 y23 y24
      go_wp2_with fail
      refine (ref_In op sn ⟨o, n, u, s, A, c, l⟩ _ (HP.out.ad.later HBR.out)).mono ?_
      rintro e w2 ⟨t, rfl, ht, hb2⟩
      have HB2 : Hid (Below w.heap.size w w2) := Lib.hid (HBR.out.trans (hb2.mono HBR.out.size))
      have HA2 := Lib.hid (HAR.out.later hb2)
      clear hb2
      clear HAR HBR y1 y2 y3 y4 y5 y6 yf yz
      rcases t
      case true =>
        go_wp2_with fail
        go_ret
        exact ⟨true, rfl, by simp, HB2.out⟩
      have HQ1 := Lib.hid (ht rfl)
      clear ht
      obtain ⟨y0, y1, y2, y3, y4, y5, y6, y7, y8, y9, y10, y11, y12, y13, y14, y15, y16, y17, y18, y19, y20, y21, y22, y23, y24, yf, yz⟩ := HA2.out.b25
      clear y0 y1 y2 y3 y4 y5 y6 y12 y13 y14 y15 y16 y17 y18 y19 y20 y21 y22 y23 y24
      go_wp2_with fail
      refine (ref_In op sn ⟨oB, nB, uB, sB, AB, cB, lB⟩ _ (HP.out.fa.later HB2.out)).mono ?_
      rintro e w3 ⟨t, rfl, ht, hb2⟩
      have HB3 : Hid (Below w.heap.size w w3) := Lib.hid (HB2.out.trans (hb2.mono HB2.out.size))
      have HA3 := Lib.hid (HA2.out.later hb2)
      clear hb2
      clear HA2 HB2 y7 y8 y9 y10 y11 yf yz
      rcases t
      case true =>
        go_wp2_with fail
        go_ret
        exact ⟨true, rfl, by simp, HB3.out⟩
      have HQ2 := Lib.hid (ht rfl)
      clear ht
      obtain ⟨y0, y1, y2, y3, y4, y5, y6, y7, y8, y9, y10, y11, y12, y13, y14, y15, y16, y17, y18, y19, y20, y21, y22, y23, y24, yf, yz⟩ := HA3.out.b25
      clear y0 y1 y2 y3 y4 y5 y6 y7 y8 y9 y10 y11 y17 y18 y19 y20 y21 y22 y23 y24
      go_wp2_with fail
      refine (ref_In op sn ⟨oC, nC, uC, sC, AC, cC, lC⟩ _ (HP.out.la.later HB3.out)).mono ?_
      rintro e w4 ⟨t, rfl, ht, hb2⟩
      have HB4 : Hid (Below w.heap.size w w4) := Lib.hid (HB3.out.trans (hb2.mono HB3.out.size))
      have HA4 := Lib.hid (HA3.out.later hb2)
      clear hb2
      clear HA3 HB3 y12 y13 y14 y15 y16 yf yz
      rcases t
      case true =>
        go_wp2_with fail
        go_ret
        exact ⟨true, rfl, by simp, HB4.out⟩
      have HQ3 := Lib.hid (ht rfl)
      clear ht
      obtain ⟨y0, y1, y2, y3, y4, y5, y6, y7, y8, y9, y10, y11, y12, y13, y14, y15, y16, y17, y18, y19, y20, y21, y22, y23, y24, yf, yz⟩ := HA4.out.b25
      clear y0 y1 y2 y3 y4 y5 y6 y7 y8 y9 y10 y11 y12 y13 y14 y15 y16 y22 y23 y24
      go_wp2_with fail
      refine (ref_In op sn ⟨oD, nD, uD, sD, AD, cD, lD⟩ _ (HP.out.no.later HB4.out)).mono ?_
      rintro e w5 ⟨t, rfl, ht, hb2⟩
      have HB5 : Hid (Below w.heap.size w w5) := Lib.hid (HB4.out.trans (hb2.mono HB4.out.size))
      have HA5 := Lib.hid (HA4.out.later hb2)
      clear hb2
      clear HA4 HB4 y17 y18 y19 y20 y21 yf yz
      rcases t
      · have HQ4 := Lib.hid (ht rfl)
        clear ht
        go_wp2_with fail
        go_ret
        exact ⟨false, rfl, fun _ => HMK.out HLL.out HQ1.out HQ2.out HQ3.out HQ4.out, HB5.out⟩
      · clear ht
        go_wp2_with fail
        go_ret
        exact ⟨true, rfl, by simp, HB5.out⟩
end Go.Proofs.YtcgocdhhneckhaaGreat
/- Walks of FareNames: changed. -/
namespace Go.Proofs.YtcgocdhhneckhaaGreat
open Go.RowKit
theorem infoFact : Info Tryz.prog 54 (.agg #[.string ByteArray.empty, .int .i64 0]) 2 24 := info_mk (by kernel_rfl) rfl
def curF (l : List FT) (sn : ByteArray) (v : Int) (k : Nat) : List FT := chgF (l.take k) sn v ++ l.drop k
theorem curF_zero (l : List FT) (sn : ByteArray) (v : Int) : curF l sn v 0 = l := by simp [curF, chgF]
theorem curF_all {l : List FT} {sn : ByteArray} {v : Int} {k : Nat} (h : l.length ≤ k) : curF l sn v k = chgF l sn v := by simp [curF, List.take_of_length_le h, List.drop_eq_nil_of_le h]
theorem curF_len (l : List FT) (sn : ByteArray) (v : Int) (k : Nat) : (curF l sn v k).length = l.length := by simp [curF, chgF]; omega
theorem curF_at {l : List FT} {sn : ByteArray} {v : Int} {k : Nat} (h : k < l.length) : (curF l sn v k)[k]? = some l[k] := by
  unfold curF chgF
  rw [List.getElem?_append_right (by simp; omega), List.length_map, List.length_take, Nat.min_eq_left (by omega), Nat.sub_self, List.getElem?_drop, Nat.add_zero, List.getElem?_eq_getElem h]
theorem curF_succ {l : List FT} {sn : ByteArray} {v : Int} {k : Nat} (h : k < l.length) : curF l sn v (k + 1) = chgF (l.take k) sn v ++ (if sameB l[k].nm sn = true then ⟨l[k].nm, v⟩ else l[k]) :: l.drop (k + 1) := by
  unfold curF chgF
  rw [List.take_succ_eq_append_getElem h, List.map_append, List.append_assoc]
  rfl
theorem curF_no {l : List FT} {sn : ByteArray} {v : Int} {k : Nat} (h : k < l.length) (hs : sameB l[k].nm sn = false) : curF l sn v (k + 1) = curF l sn v k := by
  rw [curF_succ h, hs]
  unfold curF
  rw [List.drop_eq_getElem_cons h]
  rfl
theorem curF_yes {l : List FT} {sn : ByteArray} {v : Int} {k : Nat} (h : k < l.length) (hs : sameB l[k].nm sn = true) : curF l sn v (k + 1) = (curF l sn v k).set k ⟨l[k].nm, v⟩ := by
  rw [curF_succ h, if_pos hs]
  unfold curF chgF
  rw [List.set_append_right _ _ (by simp; omega), List.drop_eq_getElem_cons h]
  rw [show k - (List.map (fun f : FT => if sameB f.nm sn = true then (⟨f.nm, v⟩ : FT) else f) (l.take k)).length = 0 by simp; omega]
  rfl
theorem chgF_ok {l : List FT} {sn : ByteArray} {v : Int} (h : ∀ x, x ∈ l → x.nm.size ≤ 9223372036854775807) : ∀ x, x ∈ chgF l sn v → x.nm.size ≤ 9223372036854775807 := by
  intro x hx
  unfold chgF at hx
  obtain ⟨y, hy, rfl⟩ := List.mem_map.1 hx
  have := h y hy
  split <;> exact this
set_option maxRecDepth 100000 in
set_option maxHeartbeats 1600000 in
theorem law_changed (T : Sl FT) (sn : ByteArray) (v : Int) (w : World) (hT : FactsAt (· < w.heap.size) w T) (hlen : T.l.length ≤ 1000) :
    Calls Tryz.prog 25 #[.slice T.A T.l.length T.c, .string sn, .int .i64 v] w fun r w' => FcP w w' (chgF T.l sn v) r := by
  obtain ⟨A, c, l⟩ := T
  have hall := hT.all
  have HR := Lib.hid hT.rd
  have HALL := Lib.hid (chgF_ok (sn := sn) (v := v) hall)
  simp only at hlen hall
  clear hT hall
  simp only
  go_enter Tryz.func25, Tryz.ntmps25
  go_wp2_with (at_builtin
               go_must (refine wpl_append_sl _ rfl (.tmp 9) (.tmp 10) _ rfl Tryz.underlying34 infoFact (by omega) FT.enc_k FT.enc_one ⟨some ⟨w.heap.size, 0, none⟩, 0, []⟩ ⟨A, c, l⟩ rfl rfl (Own.lit w #[] [] (Nat.le_refl _) (Nat.zero_le _) rfl FT.enc_k) (HR.out.lt_alloc _) (by simp [maxLen]; omega) (by simp; omega) (by simp) ?_)
               intro A' c' w1 hown hg _
               apply Hid.out)
  have HB1 : Hid (Below w.heap.size w w1) := Lib.hid (((Below.refl _ _).alloc (Nat.le_refl _) _).grown hg (by simp) (by simp [Value.ownBlock]))
  simp only [List.nil_append] at hown ⊢
  have HO1 := Lib.hid hown
  clear hown hg
  refine Lib.hid ?_
  go_wp2_with fail
  go_loopw [8] (fun i wr => ∃ (k : Nat), k ≤ l.length ∧ i = .int .i64 k ∧ Below w.heap.size w wr ∧ Hid (Own w.heap.size 54 2 FT.enc wr ⟨A', c', curF l sn v k⟩)) (fun i _ => l.length - (intOf i).toNat)
  case atStart => exact ⟨0, by omega, rfl, HB1.out, Lib.hid (by rw [curF_zero]; exact HO1.out)⟩
  case round =>
    obtain ⟨k, hk, rfl, hbel, HO⟩ := hrel
    clear HO1
    by_cases hlt : k < l.length
    · have hkl : k < (curF l sn v k).length := by rw [curF_len]; exact hlt
      obtain ⟨g, hAg, hg0, hg1⟩ : ∃ g, A' = some ⟨g, 0, none⟩ ∧ w.heap.size ≤ g ∧ g < wr.heap.size := by
        rcases HO.out.form with ⟨_, _, h⟩ | ⟨g, h1, h2, h3, _, _⟩
        · simp only at h; rw [h] at hkl; simp at hkl
        · exact ⟨g, h1, h2, h3⟩
      subst hAg
      obtain ⟨b, o, hA, _, hcl⟩ := (HO.out.rd FT.enc_k).at1 (i := k) hkl
      injection hA with hA
      injection hA with h1 h2
      subst h1 h2
      have hgx : (curF l sn v k)[k] = l[k] := by
        have := curF_at (sn := sn) (v := v) hlt
        rw [List.getElem?_eq_getElem hkl] at this
        injection this
      simp only [hgx, Nat.zero_add] at hcl
      have hfz := fun j => HO.out.frozen rfl j
      have HY := Lib.hid (curF_yes (sn := sn) (v := v) hlt)
      have HN := Lib.hid (curF_no (sn := sn) (v := v) hlt)
      have HAT := Lib.hid (curF_at (sn := sn) (v := v) hlt)
      clear hgx hkl
      generalize l[k] = x at *
      obtain ⟨xn, xv⟩ := x
      obtain ⟨f0, f1⟩ := Cells.c2 hcl
      clear hcl
      rcases hs : sameB xn sn
      · have heq : (xn.toList == sn.toList) = false := hs
        have HO2 : Hid (Own w.heap.size 54 2 FT.enc wr ⟨some ⟨g, 0, none⟩, c', curF l sn v (k + 1)⟩) := Lib.hid (by rw [HN.out hs]; exact HO.out)
        clear hs
        go_wp2_with fail
        go_roundw
        case rel => exact ⟨k + 1, by omega, by go_num, hbel, HO2⟩
        case measure => simp [intOf]; omega
      · have heq : (xn.toList == sn.toList) = true := hs
        have HO2 : Hid (Own w.heap.size 54 2 FT.enc (wr.setCell ⟨g, k * 2 + 1, none⟩ (.int .i64 v)) ⟨some ⟨g, 0, none⟩, c', curF l sn v (k + 1)⟩) := Lib.hid (by
          rw [HY.out hs]
          exact HO.out.set FT.enc_k rfl (i := k) (j := 1) HAT.out (by omega) rfl)
        clear hs
        go_wp2_with fail
        go_roundw
        case rel => exact ⟨k + 1, by omega, by go_num, hbel.setCell hg0 _, HO2⟩
        case measure => simp [intOf]; omega
    · have HF : Hid (Own w.heap.size 54 2 FT.enc wr ⟨A', c', chgF l sn v⟩) := Lib.hid (by rw [← curF_all (sn := sn) (v := v) (by omega : l.length ≤ k)]; exact HO.out)
      have hcl : (chgF l sn v).length = l.length := by simp [chgF]
      go_wp2_with fail
      go_ret
      exact ⟨⟨A', c', chgF l sn v⟩, by simp only [hcl]; rfl, rfl, ⟨(HF.out.rd FT.enc_k).mono fun _ hb => hb.2, HALL.out⟩, hbel⟩
end Go.Proofs.YtcgocdhhneckhaaGreat
