/- The errnos of Check. -/
import Derived.Test.YtcgocdhhneckhaaGreatFcutmxbs
/- Walks of the limits: nodes, FewExp, Few. -/
namespace Go.Proofs.YtcgocdhhneckhaaGreat
open Go.RowKit
def AnyP (w w' : World) (r : Ending) : Prop := ∃ t, r = .returned (.bool t) ∧ Below w.heap.size w w'
def NodP (w w' : World) (m : Int) (r : Ending) : Prop := ∃ k : Int, r = .returned (.int .i64 k) ∧ 1 ≤ k ∧ k ≤ m + 1 ∧ Below w.heap.size w w'
def NodIH (d : Nat) : Prop := ∀ (e : PT) (m : Int) (W : World), 0 ≤ m → m ≤ 60 → PT.At (· < W.heap.size) W e → Calls Tryz.prog 64 #[e.v, .int .i64 m, .int .i64 d] W fun r w' => NodP W w' m r
set_option maxHeartbeats 800000 in
theorem nodes_deep : NodIH 0 := by
  rintro ⟨o, a, u, s, A, c, l⟩ m w h0 h1 he
  simp only [PT.v]
  go_enter Tryz.func64, Tryz.ntmps64
  go_wp2_with fail
  go_ret
  exact ⟨m + 1, rfl, by omega, by omega, (by repeat (first | (with_reducible exact Below.refl _ _) | ((with_reducible refine below_setr ?_ ?_); focus (first | (simp; done) | (simp; omega) | omega)) | ((with_reducible refine below_allocr ?_ ?_); focus (first | (simp; done) | (simp; omega) | omega)) | (with_reducible refine Below.drew ?_) | (with_reducible refine below_drewN ?_ _)))⟩
set_option maxRecDepth 100000 in
set_option maxHeartbeats 1600000 in
theorem nodes_more (d : Nat) (hd : d ≤ 15) (ih : NodIH d) : NodIH (d + 1) := by
  rintro ⟨o, a, u, s, A, c, l⟩ m w h0 h1 he
  have HE := Lib.hid he
  have hsz := he.str
  have hln := he.rd.len
  simp only [PT.s, PT.a] at hsz hln
  clear he
  simp only [PT.v]
  have hd0 : ((d + 1 : Nat) : Int) = (d : Int) + 1 := by omega
  rw [hd0]
  clear hd0
  by_cases hs : (40 : Int) < (s.size : Int)
  · go_enter Tryz.func64, Tryz.ntmps64
    go_wp2_with fail
    go_ret
    exact ⟨m + 1, rfl, by omega, by omega, (by repeat (first | (with_reducible exact Below.refl _ _) | ((with_reducible refine below_setr ?_ ?_); focus (first | (simp; done) | (simp; omega) | omega)) | ((with_reducible refine below_allocr ?_ ?_); focus (first | (simp; done) | (simp; omega) | omega)) | (with_reducible refine Below.drew ?_) | (with_reducible refine below_drewN ?_ _)))⟩
  · go_enter Tryz.func64, Tryz.ntmps64
    go_wp2_with fail
    have HB1 : Hid (Below w.heap.size w (w.alloc (.cells #[.int .i64 o, .int .i64 a, .int .i64 u, .string s, .slice A l.length c] 25))) := Lib.hid (by repeat (first | (with_reducible exact Below.refl _ _) | ((with_reducible refine below_setr ?_ ?_); focus (first | (simp; done) | (simp; omega) | omega)) | ((with_reducible refine below_allocr ?_ ?_); focus (first | (simp; done) | (simp; omega) | omega)) | (with_reducible refine Below.drew ?_) | (with_reducible refine below_drewN ?_ _)))
    have HX1 : Hid (Blk (w.alloc (.cells #[.int .i64 o, .int .i64 a, .int .i64 u, .string s, .slice A l.length c] 25)) w.heap.size 25 #[.int .i64 o, .int .i64 a, .int .i64 u, .string s, .slice A l.length c]) := Lib.hid (Blk.new _ _ _)
    generalize w.alloc (.cells #[.int .i64 o, .int .i64 a, .int .i64 u, .string s, .slice A l.length c] 25) = w1 at *
    go_loopw [7, 8] (fun n i wr => ∃ (j : Nat) (k : Int), j ≤ l.length ∧ i = .int .i64 j ∧ n = .int .i64 k ∧ 1 ≤ k ∧ k ≤ m + 1 ∧ Below w1.heap.size w1 wr) (fun _ i _ => l.length - (intOf i).toNat)
    case atStart => exact ⟨0, 1, by omega, rfl, rfl, by omega, by omega, Below.refl _ _⟩
    case round =>
      obtain ⟨j, k, hj, rfl, rfl, hk0, hk1, hbel⟩ := hrel
      have HBR : Hid (Below w.heap.size w wr) := Lib.hid (HB1.out.trans (hbel.mono HB1.out.size))
      have HXR := Lib.hid (HX1.out.later hbel)
      obtain ⟨a0, a1, a2, a3, a4, af, az⟩ := HXR.out.b5
      by_cases hlt : j < l.length
      · by_cases hkm : k ≤ m
        · have hEW := HE.out.later HBR.out
          obtain ⟨b, q, hA, hbl, hcl⟩ := hEW.rd.at1 hlt
          have HX := Lib.hid (hEW.all _ (List.getElem_mem hlt))
          simp only [PT.a] at hA hcl HX
          clear hEW
          generalize l[j] = x at *
          obtain ⟨xo, xm, xu, xs, xA, xc, xl⟩ := x
          obtain ⟨g0, g1, g2, g3, g4⟩ := Cells.c5 hcl
          clear hcl
          subst hA
          have hcall := ih ⟨xo, xm, xu, xs, xA, xc, xl⟩ (m - k) wr (by omega) (by omega) HX.out
          simp only [PT.v] at hcall
          go_wp2_with fail
          refine hcall.mono ?_
          clear hcall
          rintro e w2 ⟨k2, rfl, hk20, hk21, hb2⟩
          have HB2 : Hid (Below w1.heap.size w1 w2) := Lib.hid (hbel.trans (hb2.mono hbel.size))
          clear hb2 g0 g1 g2 g3 g4 a0 a1 a2 a3 a4 af az
          go_wp2_with fail
          go_roundw
          case rel => exact ⟨j + 1, k + k2, by omega, by go_num, rfl, by omega, by omega, HB2.out⟩
          case measure => simp [intOf]; omega
        · go_wp2_with fail
          go_ret
          exact ⟨k, rfl, hk0, hk1, HBR.out⟩
      · go_wp2_with fail
        go_ret
        exact ⟨k, rfl, hk0, hk1, HBR.out⟩
theorem nodes_any : ∀ d : Nat, d ≤ 16 → NodIH d
  | 0, _ => nodes_deep
  | d + 1, h => nodes_more d (by omega) (nodes_any d (by omega))
set_option maxHeartbeats 800000 in
theorem few_exp (e : PT) (w : World) (he : PT.At (· < w.heap.size) w e) : Calls Tryz.prog 43 #[e.v] w fun r w' => AnyP w w' r := by
  have hb : Below w.heap.size w (w.alloc (.cells e.enc.toArray 25)) := (by repeat (first | (with_reducible exact Below.refl _ _) | ((with_reducible refine below_setr ?_ ?_); focus (first | (simp; done) | (simp; omega) | omega)) | ((with_reducible refine below_allocr ?_ ?_); focus (first | (simp; done) | (simp; omega) | omega)) | (with_reducible refine Below.drew ?_) | (with_reducible refine below_drewN ?_ _)))
  have hcall := nodes_any 16 (Nat.le_refl _) e 60 _ (by omega) (by omega) (he.later hb)
  have HB := Lib.hid hb
  clear hb he
  obtain ⟨o, a, u, s, A, c, l⟩ := e
  simp only [PT.v, PT.enc] at hcall HB ⊢
  go_enter Tryz.func43, Tryz.ntmps43
  go_wp2_with fail
  refine hcall.mono ?_
  clear hcall
  rintro e w2 ⟨k, rfl, _, _, hb2⟩
  have HB2 : Hid (Below w.heap.size w w2) := Lib.hid (HB.out.trans (hb2.mono HB.out.size))
  clear hb2
  go_wp2_with fail
  go_ret
  exact ⟨_, rfl, HB2.out⟩
set_option maxHeartbeats 800000 in
theorem few_names (l : Sl FT) (w : World) (hl : FactsAt (· < w.heap.size) w l) : Calls Tryz.prog 44 #[.slice l.A l.l.length l.c] w fun r w' => AnyP w w' r := by
  have hn := hl.rd.len
  have HR := Lib.hid hl
  clear hl
  obtain ⟨A, c, l⟩ := l
  simp only at hn
  simp only
  go_enter Tryz.func44, Tryz.ntmps44
  go_wp2_with fail
  go_loopw [3] (fun i wr => ∃ (k : Nat), k ≤ l.length ∧ i = .int .i64 k ∧ Below w.heap.size w wr) (fun i _ => l.length - (intOf i).toNat)
  case atStart => exact ⟨0, by omega, rfl, (by repeat (first | (with_reducible exact Below.refl _ _) | ((with_reducible refine below_setr ?_ ?_); focus (first | (simp; done) | (simp; omega) | omega)) | ((with_reducible refine below_allocr ?_ ?_); focus (first | (simp; done) | (simp; omega) | omega)) | (with_reducible refine Below.drew ?_) | (with_reducible refine below_drewN ?_ _)))⟩
  case round =>
    obtain ⟨k, hk, rfl, hbel⟩ := hrel
    by_cases hlt : k < l.length
    · obtain ⟨b, o, hA, hb, hcl⟩ := (HR.out.later hbel).rd.at1 hlt
      have hsz := HR.out.all _ (List.getElem_mem hlt)
      simp only at hA hcl hsz
      subst hA
      generalize l[k] = x at *
      obtain ⟨xn, xv⟩ := x
      obtain ⟨g0, g1⟩ := Cells.c2 hcl
      simp only at hsz
      clear hcl
      by_cases h40 : (40 : Int) < (xn.size : Int)
      · go_wp2_with fail
        go_ret
        exact ⟨_, rfl, hbel⟩
      · go_wp2_with fail
        go_roundw
        case rel => exact ⟨k + 1, by omega, by go_num, hbel⟩
        case measure => simp [intOf]; omega
    · go_wp2_with fail
      go_ret
      exact ⟨_, rfl, hbel⟩
end Go.Proofs.YtcgocdhhneckhaaGreat
/- Walks of the limits: Few of layers 32, 30 and 33; near. -/
namespace Go.Proofs.YtcgocdhhneckhaaGreat
open Go.RowKit
set_option maxHeartbeats 800000 in
theorem law_near (n : Int) (w : World) : Calls Tryz.prog 22 #[.int .i64 n] w fun r w' => r = .returned (.bool (decide (n ≤ 1099511627776) && decide (-1099511627776 ≤ n))) ∧ w' = w := by
  by_cases h1 : n ≤ 1099511627776
  · have h1b : decide (n ≤ 1099511627776) = true := decide_eq_true h1
    go_enter Tryz.func22, Tryz.ntmps22
    go_wp2_with fail
    go_ret
    exact ⟨by simp [h1], rfl⟩
  · have h1b : decide (n ≤ 1099511627776) = false := decide_eq_false h1
    go_enter Tryz.func22, Tryz.ntmps22
    go_wp2_with fail
    go_ret
    exact ⟨by simp [h1], rfl⟩
/-- A bool; if it is true, P holds. -/
def FewP (w w' : World) (P : Prop) (r : Ending) : Prop := ∃ t, r = .returned (.bool t) ∧ (t = true → P) ∧ Below w.heap.size w w'
set_option maxRecDepth 100000 in
set_option maxHeartbeats 1600000 in
theorem few32 (L : Sl LT) (T M : Sl FT) (w : World) (hL : LetsAt (· < w.heap.size) w L) (hT : FactsAt (· < w.heap.size) w T) (hM : FactsAt (· < w.heap.size) w M) :
    Calls Tryz.prog 29 #[.slice L.A L.l.length L.c, .slice T.A T.l.length T.c, .slice M.A M.l.length M.c] w fun r w' => FewP w w' (L.l.length ≤ 6 ∧ T.l.length ≤ 20 ∧ M.l.length ≤ 20) r := by
  have hn := hL.rd.len
  have hnT := hT.rd.len
  have hnM := hM.rd.len
  have HL := Lib.hid hL
  have HT := Lib.hid hT
  have HM := Lib.hid hM
  clear hL hT hM
  obtain ⟨A, c, L⟩ := L
  simp only at hn
  simp only
  by_cases h6 : (6 : Int) < (L.length : Int)
  · go_enter Tryz.func29, Tryz.ntmps29
    go_wp2_with fail
    go_ret
    exact ⟨false, rfl, by simp, Below.refl _ _⟩
  by_cases hT20 : (20 : Int) < (T.l.length : Int)
  · go_enter Tryz.func29, Tryz.ntmps29
    go_wp2_with fail
    go_ret
    exact ⟨false, rfl, by simp, Below.refl _ _⟩
  by_cases hM20 : (20 : Int) < (M.l.length : Int)
  · go_enter Tryz.func29, Tryz.ntmps29
    go_wp2_with fail
    go_ret
    exact ⟨false, rfl, by simp, Below.refl _ _⟩
  have HLE : Hid (L.length ≤ 6 ∧ T.l.length ≤ 20 ∧ M.l.length ≤ 20) := Lib.hid (by omega)
  go_enter Tryz.func29, Tryz.ntmps29
  go_wp2_with fail
  go_loopw [7] (fun i wr => ∃ (k : Nat), k ≤ L.length ∧ i = .int .i64 k ∧ Below w.heap.size w wr) (fun i _ => L.length - (intOf i).toNat)
  case atStart => exact ⟨0, by omega, rfl, (by repeat (first | (with_reducible exact Below.refl _ _) | ((with_reducible refine below_setr ?_ ?_); focus (first | (simp; done) | (simp; omega) | omega)) | ((with_reducible refine below_allocr ?_ ?_); focus (first | (simp; done) | (simp; omega) | omega)) | (with_reducible refine Below.drew ?_) | (with_reducible refine below_drewN ?_ _)))⟩
  case round =>
    obtain ⟨k, hk, rfl, hbel⟩ := hrel
    have hhe : w.heap.size ≤ wr.heap.size := hbel.size
    by_cases hlt : k < L.length
    · have hLW := HL.out.later hbel
      obtain ⟨b, o, hA, hb, hcl⟩ := hLW.rd.at1 hlt
      have HX := Lib.hid (hLW.all _ (List.getElem_mem hlt))
      simp only at hA hcl HX
      subst hA
      clear hLW
      generalize L[k] = x at *
      obtain ⟨xn, xo, xm, xu, xs, xA, xc, xl⟩ := x
      have hsz := HX.out.nm
      simp only at hsz
      obtain ⟨g0, g1, g2, g3, g4, g5⟩ := Cells.c6 hcl
      clear hcl
      by_cases h40 : (40 : Int) < (xn.size : Int)
      · go_wp2_with fail
        go_ret
        exact ⟨false, rfl, by simp, hbel⟩
      · go_wp2_with fail
        refine (few_exp ⟨xo, xm, xu, xs, xA, xc, xl⟩ wr HX.out.b).mono ?_
        rintro e w2 ⟨t, rfl, hb2⟩
        have HB2 : Hid (Below w.heap.size w w2) := Lib.hid (hbel.trans (hb2.mono hhe))
        clear hb2 g0 g1 g2 g3 g4 g5
        rcases t
        · go_wp2_with fail
          go_ret
          exact ⟨false, rfl, by simp, HB2.out⟩
        · go_wp2_with fail
          go_roundw
          case rel => exact ⟨k + 1, by omega, by go_num, HB2.out⟩
          case measure => simp [intOf]; omega
    · go_wp2_with fail
      refine (few_names T wr (HT.out.later hbel)).mono ?_
      rintro e w2 ⟨t, rfl, hb2⟩
      have HB2 : Hid (Below w.heap.size w w2) := Lib.hid (hbel.trans (hb2.mono hhe))
      clear hb2
      rcases t
      · go_wp2_with fail
        go_ret
        exact ⟨false, rfl, by simp, HB2.out⟩
      · go_wp2_with fail
        refine (few_names M w2 (HM.out.later HB2.out)).mono ?_
        rintro e w3 ⟨t, rfl, hb3⟩
        have HB3 : Hid (Below w.heap.size w w3) := Lib.hid (HB2.out.trans (hb3.mono HB2.out.size))
        clear hb3
        go_wp2_with fail
        go_ret
        exact ⟨t, rfl, fun _ => HLE.out, HB3.out⟩
end Go.Proofs.YtcgocdhhneckhaaGreat
/- Walks of the limits: Few of layers 30 and 33. -/
namespace Go.Proofs.YtcgocdhhneckhaaGreat
open Go.RowKit
set_option maxRecDepth 100000 in
set_option maxHeartbeats 3200000 in
theorem few30 (b : Byl) (w : World) (hb : Byl.At (· < w.heap.size) w b) : Calls Tryz.prog 28 #[b.v] w fun r w' => AnyP w w' r := by
  have HP := Lib.hid hb
  have hsz := hb.nm
  have hn := hb.lets.rd.len
  clear hb
  obtain ⟨nm, ⟨LA, Lc, L⟩, ⟨o, n, u, s, A, c, l⟩, ⟨oB, nB, uB, sB, AB, cB, lB⟩, ⟨oC, nC, uC, sC, AC, cC, lC⟩, ⟨oD, nD, uD, sD, AD, cD, lD⟩, q, sh, ch⟩ := b
  simp only at hsz hn
  simp only [Byl.v]
  have HB : Hid (Below w.heap.size w (w.alloc (.cells #[.string nm, .slice LA L.length Lc, .int .i64 o, .int .i64 n, .int .i64 u, .string s, .slice A l.length c, .int .i64 oB, .int .i64 nB, .int .i64 uB, .string sB, .slice AB lB.length cB, .int .i64 oC, .int .i64 nC, .int .i64 uC, .string sC, .slice AC lC.length cC, .int .i64 oD, .int .i64 nD, .int .i64 uD, .string sD, .slice AD lD.length cD, .int .i64 q, .int .i64 sh, .int .i64 ch] 27))) := Lib.hid (by repeat (first | (with_reducible exact Below.refl _ _) | ((with_reducible refine below_setr ?_ ?_); focus (first | (simp; done) | (simp; omega) | omega)) | ((with_reducible refine below_allocr ?_ ?_); focus (first | (simp; done) | (simp; omega) | omega)) | (with_reducible refine Below.drew ?_) | (with_reducible refine below_drewN ?_ _)))
  have HA : Hid (Blk (w.alloc (.cells #[.string nm, .slice LA L.length Lc, .int .i64 o, .int .i64 n, .int .i64 u, .string s, .slice A l.length c, .int .i64 oB, .int .i64 nB, .int .i64 uB, .string sB, .slice AB lB.length cB, .int .i64 oC, .int .i64 nC, .int .i64 uC, .string sC, .slice AC lC.length cC, .int .i64 oD, .int .i64 nD, .int .i64 uD, .string sD, .slice AD lD.length cD, .int .i64 q, .int .i64 sh, .int .i64 ch] 27)) w.heap.size 27 #[.string nm, .slice LA L.length Lc, .int .i64 o, .int .i64 n, .int .i64 u, .string s, .slice A l.length c, .int .i64 oB, .int .i64 nB, .int .i64 uB, .string sB, .slice AB lB.length cB, .int .i64 oC, .int .i64 nC, .int .i64 uC, .string sC, .slice AC lC.length cC, .int .i64 oD, .int .i64 nD, .int .i64 uD, .string sD, .slice AD lD.length cD, .int .i64 q, .int .i64 sh, .int .i64 ch]) := Lib.hid (Blk.new _ _ _)
  by_cases h22 : (22 : Int) < (L.length : Int)
  · go_enter Tryz.func28, Tryz.ntmps28
    go_wp2_with fail
    go_ret
    exact ⟨false, rfl, HB.out⟩
  by_cases h40 : (40 : Int) < (nm.size : Int)
  · go_enter Tryz.func28, Tryz.ntmps28
    go_wp2_with fail
    go_ret
    exact ⟨false, rfl, HB.out⟩
  go_enter Tryz.func28, Tryz.ntmps28
  go_wp2_with fail
  generalize w.alloc (.cells #[.string nm, .slice LA L.length Lc, .int .i64 o, .int .i64 n, .int .i64 u, .string s, .slice A l.length c, .int .i64 oB, .int .i64 nB, .int .i64 uB, .string sB, .slice AB lB.length cB, .int .i64 oC, .int .i64 nC, .int .i64 uC, .string sC, .slice AC lC.length cC, .int .i64 oD, .int .i64 nD, .int .i64 uD, .string sD, .slice AD lD.length cD, .int .i64 q, .int .i64 sh, .int .i64 ch] 27) = w1 at *
  refine (few_exp ⟨o, n, u, s, A, c, l⟩ _ (HP.out.ad.later HB.out)).mono ?_
  rintro e w2 ⟨t, rfl, hb2⟩
  have HB2 : Hid (Below w.heap.size w w2) := Lib.hid (HB.out.trans (hb2.mono HB.out.size))
  have HA2 := Lib.hid (HA.out.later hb2)
  clear hb2 HA HB
  rcases t
  · go_wp2_with fail
    go_ret
    exact ⟨false, rfl, HB2.out⟩
  obtain ⟨y0, y1, y2, y3, y4, y5, y6, y7, y8, y9, y10, y11, y12, y13, y14, y15, y16, y17, y18, y19, y20, y21, y22, y23, y24, yf, yz⟩ := HA2.out.b25
  clear y0 y2 y3 y4 y5 y6 y12 y13 y14 y15 y16 y17 y18 y19 y20 y21 y22 y23 y24
  go_wp2_with fail
  refine (few_exp ⟨oB, nB, uB, sB, AB, cB, lB⟩ _ (HP.out.fa.later HB2.out)).mono ?_
  rintro e w3 ⟨t, rfl, hb3⟩
  have HB3 : Hid (Below w.heap.size w w3) := Lib.hid (HB2.out.trans (hb3.mono HB2.out.size))
  have HA3 := Lib.hid (HA2.out.later hb3)
  clear hb3 HA2 HB2 y1 y7 y8 y9 y10 y11 yf yz
  rcases t
  · go_wp2_with fail
    go_ret
    exact ⟨false, rfl, HB3.out⟩
  obtain ⟨y0, y1, y2, y3, y4, y5, y6, y7, y8, y9, y10, y11, y12, y13, y14, y15, y16, y17, y18, y19, y20, y21, y22, y23, y24, yf, yz⟩ := HA3.out.b25
  clear y0 y2 y3 y4 y5 y6 y7 y8 y9 y10 y11 y17 y18 y19 y20 y21 y22 y23 y24
  go_wp2_with fail
  refine (few_exp ⟨oC, nC, uC, sC, AC, cC, lC⟩ _ (HP.out.la.later HB3.out)).mono ?_
  rintro e w4 ⟨t, rfl, hb4⟩
  have HB4 : Hid (Below w.heap.size w w4) := Lib.hid (HB3.out.trans (hb4.mono HB3.out.size))
  have HA4 := Lib.hid (HA3.out.later hb4)
  clear hb4 HA3 HB3 y1 y12 y13 y14 y15 y16 yf yz
  rcases t
  · go_wp2_with fail
    go_ret
    exact ⟨false, rfl, HB4.out⟩
  obtain ⟨y0, y1, y2, y3, y4, y5, y6, y7, y8, y9, y10, y11, y12, y13, y14, y15, y16, y17, y18, y19, y20, y21, y22, y23, y24, yf, yz⟩ := HA4.out.b25
  clear y0 y2 y3 y4 y5 y6 y7 y8 y9 y10 y11 y12 y13 y14 y15 y16 y22 y23 y24
  go_wp2_with fail
  refine (few_exp ⟨oD, nD, uD, sD, AD, cD, lD⟩ _ (HP.out.no.later HB4.out)).mono ?_
  rintro e w5 ⟨t, rfl, hb5⟩
  have HB5 : Hid (Below w.heap.size w w5) := Lib.hid (HB4.out.trans (hb5.mono HB4.out.size))
  have HA5 := Lib.hid (HA4.out.later hb5)
  clear hb5 HA4 HB4 y1 y17 y18 y19 y20 y21 yf yz
  rcases t
  · go_wp2_with fail
    go_ret
    exact ⟨false, rfl, HB5.out⟩
  go_wp2_with fail
  go_loopw [3] (fun i wr => ∃ (k : Nat), k ≤ L.length ∧ i = .int .i64 k ∧ Below w5.heap.size w5 wr) (fun i _ => L.length - (intOf i).toNat)
  case atStart => exact ⟨0, by omega, rfl, Below.refl _ _⟩
  case round =>
    obtain ⟨k, hk, rfl, hbel⟩ := hrel
    have HBR : Hid (Below w.heap.size w wr) := Lib.hid (HB5.out.trans (hbel.mono HB5.out.size))
    have HAR := Lib.hid (HA5.out.later hbel)
    have y1 := HAR.out.cell 1
    have yz := HAR.out.lt
    by_cases hlt : k < L.length
    · have hLW := HP.out.lets.later HBR.out
      obtain ⟨b, p, hA, hb, hcl⟩ := hLW.rd.at1 hlt
      have HX := Lib.hid (hLW.all _ (List.getElem_mem hlt))
      simp only at hA hcl HX
      subst hA
      clear hLW
      generalize L[k] = x at *
      obtain ⟨xn, xo, xm, xu, xs, xA, xc, xl⟩ := x
      have hsx := HX.out.nm
      simp only at hsx
      obtain ⟨g0, g1, g2, g3, g4, g5⟩ := Cells.c6 hcl
      clear hcl
      by_cases hx40 : (40 : Int) < (xn.size : Int)
      · go_wp2_with fail
        go_ret
        exact ⟨false, rfl, HBR.out⟩
      · go_wp2_with fail
        refine (few_exp ⟨xo, xm, xu, xs, xA, xc, xl⟩ wr HX.out.b).mono ?_
        rintro e w6 ⟨t, rfl, hb6⟩
        have HB6 : Hid (Below w5.heap.size w5 w6) := Lib.hid (hbel.trans (hb6.mono hbel.size))
        clear hb6 g0 g1 g2 g3 g4 g5 y1 yz
        rcases t
        · go_wp2_with fail
          go_ret
          exact ⟨false, rfl, HB5.out.trans (HB6.out.mono HB5.out.size)⟩
        · go_wp2_with fail
          go_roundw
          case rel => exact ⟨k + 1, by omega, by go_num, HB6.out⟩
          case measure => simp [intOf]; omega
    · go_wp2_with fail
      go_ret
      exact ⟨true, rfl, HBR.out⟩
set_option maxRecDepth 100000 in
set_option maxHeartbeats 3200000 in
theorem few33 (b : Byl) (T M : Sl FT) (w : World) (hb : Byl.At (· < w.heap.size) w b) (hT : FactsAt (· < w.heap.size) w T) (hM : FactsAt (· < w.heap.size) w M) :
    Calls Tryz.prog 9 #[b.v, .slice T.A T.l.length T.c, .slice M.A M.l.length M.c] w fun r w' => FewP w w' (b.lets.l.length ≤ 6 ∧ T.l.length ≤ 20 ∧ M.l.length ≤ 20) r := by
  have HB : Hid (Below w.heap.size w (w.alloc (.cells b.v.cells 27))) := Lib.hid (by repeat (first | (with_reducible exact Below.refl _ _) | ((with_reducible refine below_setr ?_ ?_); focus (first | (simp; done) | (simp; omega) | omega)) | ((with_reducible refine below_allocr ?_ ?_); focus (first | (simp; done) | (simp; omega) | omega)) | (with_reducible refine Below.drew ?_) | (with_reducible refine below_drewN ?_ _)))
  have h30 := few30 b _ (hb.later HB.out)
  have H32 := Lib.hid (fun W (hW : Below w.heap.size w W) => few32 b.lets T M W (hb.lets.later hW) (hT.later hW) (hM.later hW))
  have hn := hb.lets.rd.len
  clear hb hT hM
  obtain ⟨nm, ⟨LA, Lc, L⟩, ⟨o, n, u, s, A, c, l⟩, ⟨oB, nB, uB, sB, AB, cB, lB⟩, ⟨oC, nC, uC, sC, AC, cC, lC⟩, ⟨oD, nD, uD, sD, AD, cD, lD⟩, q, sh, ch⟩ := b
  simp only at hn
  simp only [Byl.v, Value.cells] at HB h30 H32 ⊢
  have HA : Hid (Blk (w.alloc (.cells #[.string nm, .slice LA L.length Lc, .int .i64 o, .int .i64 n, .int .i64 u, .string s, .slice A l.length c, .int .i64 oB, .int .i64 nB, .int .i64 uB, .string sB, .slice AB lB.length cB, .int .i64 oC, .int .i64 nC, .int .i64 uC, .string sC, .slice AC lC.length cC, .int .i64 oD, .int .i64 nD, .int .i64 uD, .string sD, .slice AD lD.length cD, .int .i64 q, .int .i64 sh, .int .i64 ch] 27)) w.heap.size 27 #[.string nm, .slice LA L.length Lc, .int .i64 o, .int .i64 n, .int .i64 u, .string s, .slice A l.length c, .int .i64 oB, .int .i64 nB, .int .i64 uB, .string sB, .slice AB lB.length cB, .int .i64 oC, .int .i64 nC, .int .i64 uC, .string sC, .slice AC lC.length cC, .int .i64 oD, .int .i64 nD, .int .i64 uD, .string sD, .slice AD lD.length cD, .int .i64 q, .int .i64 sh, .int .i64 ch]) := Lib.hid (Blk.new _ _ _)
  go_enter Tryz.func9, Tryz.ntmps9
  go_wp2_with (refine wpList_load_row rfl 27 (.tmp 3) rfl w.heap.size rfl 27 #[.string nm, .slice LA L.length Lc, .int .i64 o, .int .i64 n, .int .i64 u, .string s, .slice A l.length c, .int .i64 oB, .int .i64 nB, .int .i64 uB, .string sB, .slice AB lB.length cB, .int .i64 oC, .int .i64 nC, .int .i64 uC, .string sC, .slice AC lC.length cC, .int .i64 oD, .int .i64 nD, .int .i64 uD, .string sD, .slice AD lD.length cD, .int .i64 q, .int .i64 sh, .int .i64 ch] (0, 0) _ HA.out Tryz.underlying27 rfl (by kernel_rfl) ?_)
  refine h30.mono ?_
  clear h30
  generalize w.alloc (.cells #[.string nm, .slice LA L.length Lc, .int .i64 o, .int .i64 n, .int .i64 u, .string s, .slice A l.length c, .int .i64 oB, .int .i64 nB, .int .i64 uB, .string sB, .slice AB lB.length cB, .int .i64 oC, .int .i64 nC, .int .i64 uC, .string sC, .slice AC lC.length cC, .int .i64 oD, .int .i64 nD, .int .i64 uD, .string sD, .slice AD lD.length cD, .int .i64 q, .int .i64 sh, .int .i64 ch] 27) = w1 at *
  rintro e w2 ⟨t, rfl, hb2⟩
  have HB2 : Hid (Below w.heap.size w w2) := Lib.hid (HB.out.trans (hb2.mono HB.out.size))
  have HA2 := Lib.hid (HA.out.later hb2)
  clear hb2 HA HB
  rcases t
  · go_wp2_with fail
    go_ret
    exact ⟨false, rfl, by simp, HB2.out⟩
  · have y1 := HA2.out.cell 1
    have yz := HA2.out.lt
    by_cases h6 : (L.length : Int) ≤ 6
    · go_wp2_with fail
      refine (H32.out _ HB2.out).mono ?_
      rintro e w3 ⟨t, rfl, ht, hb3⟩
      have HT := Lib.hid ht
      have HB3 : Hid (Below w.heap.size w w3) := Lib.hid (HB2.out.trans (hb3.mono HB2.out.size))
      clear hb3 ht
      go_wp2_with fail
      go_ret
      exact ⟨t, rfl, HT.out, HB3.out⟩
    · go_wp2_with fail
      go_ret
      exact ⟨false, rfl, by simp, HB2.out⟩
end Go.Proofs.YtcgocdhhneckhaaGreat
/- Walk: ask. -/
namespace Go.Proofs.YtcgocdhhneckhaaGreat
open Go.RowKit
theorem Blk.b8 {w : World} {g : Nat} {t : TypeId} {x0 x1 x2 x3 x4 x5 x6 x7 : Value} (h : Blk w g t #[x0, x1, x2, x3, x4, x5, x6, x7]) : w.cell? ⟨g, 0, none⟩ = some x0 ∧ w.cell? ⟨g, 1, none⟩ = some x1 ∧ w.cell? ⟨g, 2, none⟩ = some x2 ∧ w.cell? ⟨g, 3, none⟩ = some x3 ∧ w.cell? ⟨g, 4, none⟩ = some x4 ∧ w.cell? ⟨g, 5, none⟩ = some x5 ∧ w.cell? ⟨g, 6, none⟩ = some x6 ∧ w.cell? ⟨g, 7, none⟩ = some x7 ∧ (∀ o, w.frozen? ⟨g, o, none⟩ = false) ∧ g < w.heap.size :=
  ⟨h.cell 0, h.cell 1, h.cell 2, h.cell 3, h.cell 4, h.cell 5, h.cell 6, h.cell 7, h.frozen, h.lt⟩
set_option maxRecDepth 100000 in
set_option maxHeartbeats 3200000 in
theorem law_ask (b : Byl) (T M : Sl FT) (w : World) (hb : Byl.At (· < w.heap.size) w b) (h40 : b.lets.l.length ≤ 1000000) (hT : FactsAt (· < w.heap.size) w T) (hM : FactsAt (· < w.heap.size) w M) :
    Calls Tryz.prog 23 #[b.v, .slice T.A T.l.length T.c, .slice M.A M.l.length M.c] w fun r w' => r = .returned (.agg #[.bool (admC b T.l M.l).1, .int .i64 (whC b b.fa T.l M.l).1, .int .i64 (whC b b.la T.l M.l).1, .int .i64 (whC b b.no T.l M.l).1, .int .i64 (admC b T.l M.l).2, .int .i64 (whC b b.fa T.l M.l).2, .int .i64 (whC b b.la T.l M.l).2, .int .i64 (whC b b.no T.l M.l).2]) ∧ Below w.heap.size w w' := by
  have H1 := Lib.hid (fun W (hW : Below w.heap.size w W) => fare_Admit b T M W (hb.later hW) h40 (hT.later hW) (hM.later hW))
  have H2 := Lib.hid (fun W (hW : Below w.heap.size w W) => fare_Fare b T M W (hb.later hW) h40 (hT.later hW) (hM.later hW))
  have H3 := Lib.hid (fun W (hW : Below w.heap.size w W) => fare_Late b T M W (hb.later hW) h40 (hT.later hW) (hM.later hW))
  have H4 := Lib.hid (fun W (hW : Below w.heap.size w W) => fare_Noshow b T M W (hb.later hW) h40 (hT.later hW) (hM.later hW))
  obtain ⟨V1, hV1⟩ : ∃ V, admC b T.l M.l = V := ⟨_, rfl⟩
  obtain ⟨V2, hV2⟩ : ∃ V, whC b b.fa T.l M.l = V := ⟨_, rfl⟩
  obtain ⟨V3, hV3⟩ : ∃ V, whC b b.la T.l M.l = V := ⟨_, rfl⟩
  obtain ⟨V4, hV4⟩ : ∃ V, whC b b.no T.l M.l = V := ⟨_, rfl⟩
  rw [hV1] at H1
  rw [hV2] at H2
  rw [hV3] at H3
  rw [hV4] at H4
  rw [hV1, hV2, hV3, hV4]
  clear hV1 hV2 hV3 hV4 hb h40 hT hM
  obtain ⟨nm, ⟨LA, Lc, L⟩, ⟨o, n, u, s, A, c, l⟩, ⟨oB, nB, uB, sB, AB, cB, lB⟩, ⟨oC, nC, uC, sC, AC, cC, lC⟩, ⟨oD, nD, uD, sD, AD, cD, lD⟩, q, sh, ch⟩ := b
  simp only [Byl.v] at H1 H2 H3 H4 ⊢
  have HB : Hid (Below w.heap.size w (((w.alloc (.cells #[.string nm, .slice LA L.length Lc, .int .i64 o, .int .i64 n, .int .i64 u, .string s, .slice A l.length c, .int .i64 oB, .int .i64 nB, .int .i64 uB, .string sB, .slice AB lB.length cB, .int .i64 oC, .int .i64 nC, .int .i64 uC, .string sC, .slice AC lC.length cC, .int .i64 oD, .int .i64 nD, .int .i64 uD, .string sD, .slice AD lD.length cD, .int .i64 q, .int .i64 sh, .int .i64 ch] 27)).alloc (.cells #[.bool false, .int .i64 0, .int .i64 0, .int .i64 0, .int .i64 0, .int .i64 0, .int .i64 0, .int .i64 0] 50)).alloc (.cells #[.bool false, .int .i64 0, .int .i64 0, .int .i64 0, .int .i64 0, .int .i64 0, .int .i64 0, .int .i64 0] 50))) := Lib.hid (by repeat (first | (with_reducible exact Below.refl _ _) | ((with_reducible refine below_setr ?_ ?_); focus (first | (simp; done) | (simp; omega) | omega)) | ((with_reducible refine below_allocr ?_ ?_); focus (first | (simp; done) | (simp; omega) | omega)) | (with_reducible refine Below.drew ?_) | (with_reducible refine below_drewN ?_ _)))
  have HA : Hid (Blk (((w.alloc (.cells #[.string nm, .slice LA L.length Lc, .int .i64 o, .int .i64 n, .int .i64 u, .string s, .slice A l.length c, .int .i64 oB, .int .i64 nB, .int .i64 uB, .string sB, .slice AB lB.length cB, .int .i64 oC, .int .i64 nC, .int .i64 uC, .string sC, .slice AC lC.length cC, .int .i64 oD, .int .i64 nD, .int .i64 uD, .string sD, .slice AD lD.length cD, .int .i64 q, .int .i64 sh, .int .i64 ch] 27)).alloc (.cells #[.bool false, .int .i64 0, .int .i64 0, .int .i64 0, .int .i64 0, .int .i64 0, .int .i64 0, .int .i64 0] 50)).alloc (.cells #[.bool false, .int .i64 0, .int .i64 0, .int .i64 0, .int .i64 0, .int .i64 0, .int .i64 0, .int .i64 0] 50)) w.heap.size 27 #[.string nm, .slice LA L.length Lc, .int .i64 o, .int .i64 n, .int .i64 u, .string s, .slice A l.length c, .int .i64 oB, .int .i64 nB, .int .i64 uB, .string sB, .slice AB lB.length cB, .int .i64 oC, .int .i64 nC, .int .i64 uC, .string sC, .slice AC lC.length cC, .int .i64 oD, .int .i64 nD, .int .i64 uD, .string sD, .slice AD lD.length cD, .int .i64 q, .int .i64 sh, .int .i64 ch]) := Lib.hid (((Blk.new _ _ _).alloc _).alloc _)
  have HR : Hid (Blk (((w.alloc (.cells #[.string nm, .slice LA L.length Lc, .int .i64 o, .int .i64 n, .int .i64 u, .string s, .slice A l.length c, .int .i64 oB, .int .i64 nB, .int .i64 uB, .string sB, .slice AB lB.length cB, .int .i64 oC, .int .i64 nC, .int .i64 uC, .string sC, .slice AC lC.length cC, .int .i64 oD, .int .i64 nD, .int .i64 uD, .string sD, .slice AD lD.length cD, .int .i64 q, .int .i64 sh, .int .i64 ch] 27)).alloc (.cells #[.bool false, .int .i64 0, .int .i64 0, .int .i64 0, .int .i64 0, .int .i64 0, .int .i64 0, .int .i64 0] 50)).alloc (.cells #[.bool false, .int .i64 0, .int .i64 0, .int .i64 0, .int .i64 0, .int .i64 0, .int .i64 0, .int .i64 0] 50)) (w.heap.size + 1) 50 #[.bool false, .int .i64 0, .int .i64 0, .int .i64 0, .int .i64 0, .int .i64 0, .int .i64 0, .int .i64 0]) := Lib.hid ((Blk.new' (by simp)).alloc _)
  have HX : Hid (Blk (((w.alloc (.cells #[.string nm, .slice LA L.length Lc, .int .i64 o, .int .i64 n, .int .i64 u, .string s, .slice A l.length c, .int .i64 oB, .int .i64 nB, .int .i64 uB, .string sB, .slice AB lB.length cB, .int .i64 oC, .int .i64 nC, .int .i64 uC, .string sC, .slice AC lC.length cC, .int .i64 oD, .int .i64 nD, .int .i64 uD, .string sD, .slice AD lD.length cD, .int .i64 q, .int .i64 sh, .int .i64 ch] 27)).alloc (.cells #[.bool false, .int .i64 0, .int .i64 0, .int .i64 0, .int .i64 0, .int .i64 0, .int .i64 0, .int .i64 0] 50)).alloc (.cells #[.bool false, .int .i64 0, .int .i64 0, .int .i64 0, .int .i64 0, .int .i64 0, .int .i64 0, .int .i64 0] 50)) (w.heap.size + 1 + 1) 50 #[.bool false, .int .i64 0, .int .i64 0, .int .i64 0, .int .i64 0, .int .i64 0, .int .i64 0, .int .i64 0]) := Lib.hid (Blk.new' (by simp))
  go_enter Tryz.func23, Tryz.ntmps23
  go_wp2_with (refine wpList_load_row rfl 27 (.tmp 3) rfl w.heap.size rfl 27 #[.string nm, .slice LA L.length Lc, .int .i64 o, .int .i64 n, .int .i64 u, .string s, .slice A l.length c, .int .i64 oB, .int .i64 nB, .int .i64 uB, .string sB, .slice AB lB.length cB, .int .i64 oC, .int .i64 nC, .int .i64 uC, .string sC, .slice AC lC.length cC, .int .i64 oD, .int .i64 nD, .int .i64 uD, .string sD, .slice AD lD.length cD, .int .i64 q, .int .i64 sh, .int .i64 ch] (0, 0) _ HA.out Tryz.underlying27 rfl (by kernel_rfl) ?_)
  refine (H1.out _ HB.out).mono ?_
  generalize (((w.alloc (.cells #[.string nm, .slice LA L.length Lc, .int .i64 o, .int .i64 n, .int .i64 u, .string s, .slice A l.length c, .int .i64 oB, .int .i64 nB, .int .i64 uB, .string sB, .slice AB lB.length cB, .int .i64 oC, .int .i64 nC, .int .i64 uC, .string sC, .slice AC lC.length cC, .int .i64 oD, .int .i64 nD, .int .i64 uD, .string sD, .slice AD lD.length cD, .int .i64 q, .int .i64 sh, .int .i64 ch] 27)).alloc (.cells #[.bool false, .int .i64 0, .int .i64 0, .int .i64 0, .int .i64 0, .int .i64 0, .int .i64 0, .int .i64 0] 50)).alloc (.cells #[.bool false, .int .i64 0, .int .i64 0, .int .i64 0, .int .i64 0, .int .i64 0, .int .i64 0, .int .i64 0] 50)) = w1 at *
  rintro e w2 ⟨rfl, hb2⟩
  have HB2 : Hid (Below w.heap.size w w2) := Lib.hid (HB.out.trans (hb2.mono HB.out.size))
  have HA2 := Lib.hid (HA.out.later hb2)
  have HR2 := Lib.hid (HR.out.later hb2)
  have HX2 := Lib.hid (HX.out.later hb2)
  clear hb2 HB HA HR HX
  obtain ⟨s0, s1, s2, s3, s4, s5, s6, s7, sf, sz⟩ := Blk.b8 HX2.out
  have hne : w.heap.size ≠ w.heap.size + 1 + 1 := by omega
  have hne2 : w.heap.size + 1 ≠ w.heap.size + 1 + 1 := by omega
  have hle : w.heap.size ≤ w.heap.size + 1 + 1 := by omega
  go_wp2_with (refine wpList_load_row rfl 27 (.tmp 3) rfl w.heap.size rfl 27 #[.string nm, .slice LA L.length Lc, .int .i64 o, .int .i64 n, .int .i64 u, .string s, .slice A l.length c, .int .i64 oB, .int .i64 nB, .int .i64 uB, .string sB, .slice AB lB.length cB, .int .i64 oC, .int .i64 nC, .int .i64 uC, .string sC, .slice AC lC.length cC, .int .i64 oD, .int .i64 nD, .int .i64 uD, .string sD, .slice AD lD.length cD, .int .i64 q, .int .i64 sh, .int .i64 ch] (0, 0) _ ((HA2.out.far hne _).far hne _) Tryz.underlying27 rfl (by kernel_rfl) ?_)
  have HBg : Hid (Below w.heap.size w ((w2.setCell ⟨w.heap.size + 1 + 1, 0, none⟩ (.bool V1.1)).setCell ⟨w.heap.size + 1 + 1, 4, none⟩ (.int .i64 V1.2))) := Lib.hid ((HB2.out.setCell hle _).setCell hle _)
  have HAg : Hid (Blk ((w2.setCell ⟨w.heap.size + 1 + 1, 0, none⟩ (.bool V1.1)).setCell ⟨w.heap.size + 1 + 1, 4, none⟩ (.int .i64 V1.2)) w.heap.size 27 #[.string nm, .slice LA L.length Lc, .int .i64 o, .int .i64 n, .int .i64 u, .string s, .slice A l.length c, .int .i64 oB, .int .i64 nB, .int .i64 uB, .string sB, .slice AB lB.length cB, .int .i64 oC, .int .i64 nC, .int .i64 uC, .string sC, .slice AC lC.length cC, .int .i64 oD, .int .i64 nD, .int .i64 uD, .string sD, .slice AD lD.length cD, .int .i64 q, .int .i64 sh, .int .i64 ch]) := Lib.hid ((HA2.out.far hne _).far hne _)
  have HRg : Hid (Blk ((w2.setCell ⟨w.heap.size + 1 + 1, 0, none⟩ (.bool V1.1)).setCell ⟨w.heap.size + 1 + 1, 4, none⟩ (.int .i64 V1.2)) (w.heap.size + 1) 50 #[.bool false, .int .i64 0, .int .i64 0, .int .i64 0, .int .i64 0, .int .i64 0, .int .i64 0, .int .i64 0]) := Lib.hid ((HR2.out.far hne2 _).far hne2 _)
  have HXg : Hid (Blk ((w2.setCell ⟨w.heap.size + 1 + 1, 0, none⟩ (.bool V1.1)).setCell ⟨w.heap.size + 1 + 1, 4, none⟩ (.int .i64 V1.2)) (w.heap.size + 1 + 1) 50 #[.bool V1.1, .int .i64 0, .int .i64 0, .int .i64 0, .int .i64 V1.2, .int .i64 0, .int .i64 0, .int .i64 0]) := Lib.hid (by simpa using (HX2.out.set_ 0 (.bool V1.1)).set_ 4 (.int .i64 V1.2))
  clear s0 s1 s2 s3 s4 s5 s6 s7 sf sz HB2 HA2 HR2 HX2
  generalize ((w2.setCell ⟨w.heap.size + 1 + 1, 0, none⟩ (.bool V1.1)).setCell ⟨w.heap.size + 1 + 1, 4, none⟩ (.int .i64 V1.2)) = wg2 at *
  refine (H2.out _ HBg.out).mono ?_
  rintro e w3 ⟨rfl, hb⟩
  have HB3 : Hid (Below w.heap.size w w3) := Lib.hid (HBg.out.trans (hb.mono HBg.out.size))
  have HA3 := Lib.hid (HAg.out.later hb)
  have HR3 := Lib.hid (HRg.out.later hb)
  have HX3 := Lib.hid (HXg.out.later hb)
  clear hb HBg HAg HRg HXg
  clear wg2
  obtain ⟨s0, s1, s2, s3, s4, s5, s6, s7, sf, sz⟩ := Blk.b8 HX3.out
  go_wp2_with (refine wpList_load_row rfl 27 (.tmp 3) rfl w.heap.size rfl 27 #[.string nm, .slice LA L.length Lc, .int .i64 o, .int .i64 n, .int .i64 u, .string s, .slice A l.length c, .int .i64 oB, .int .i64 nB, .int .i64 uB, .string sB, .slice AB lB.length cB, .int .i64 oC, .int .i64 nC, .int .i64 uC, .string sC, .slice AC lC.length cC, .int .i64 oD, .int .i64 nD, .int .i64 uD, .string sD, .slice AD lD.length cD, .int .i64 q, .int .i64 sh, .int .i64 ch] (0, 0) _ ((HA3.out.far hne _).far hne _) Tryz.underlying27 rfl (by kernel_rfl) ?_)
  have HBg : Hid (Below w.heap.size w ((w3.setCell ⟨w.heap.size + 1 + 1, 1, none⟩ (.int .i64 V2.1)).setCell ⟨w.heap.size + 1 + 1, 5, none⟩ (.int .i64 V2.2))) := Lib.hid ((HB3.out.setCell hle _).setCell hle _)
  have HAg : Hid (Blk ((w3.setCell ⟨w.heap.size + 1 + 1, 1, none⟩ (.int .i64 V2.1)).setCell ⟨w.heap.size + 1 + 1, 5, none⟩ (.int .i64 V2.2)) w.heap.size 27 #[.string nm, .slice LA L.length Lc, .int .i64 o, .int .i64 n, .int .i64 u, .string s, .slice A l.length c, .int .i64 oB, .int .i64 nB, .int .i64 uB, .string sB, .slice AB lB.length cB, .int .i64 oC, .int .i64 nC, .int .i64 uC, .string sC, .slice AC lC.length cC, .int .i64 oD, .int .i64 nD, .int .i64 uD, .string sD, .slice AD lD.length cD, .int .i64 q, .int .i64 sh, .int .i64 ch]) := Lib.hid ((HA3.out.far hne _).far hne _)
  have HRg : Hid (Blk ((w3.setCell ⟨w.heap.size + 1 + 1, 1, none⟩ (.int .i64 V2.1)).setCell ⟨w.heap.size + 1 + 1, 5, none⟩ (.int .i64 V2.2)) (w.heap.size + 1) 50 #[.bool false, .int .i64 0, .int .i64 0, .int .i64 0, .int .i64 0, .int .i64 0, .int .i64 0, .int .i64 0]) := Lib.hid ((HR3.out.far hne2 _).far hne2 _)
  have HXg : Hid (Blk ((w3.setCell ⟨w.heap.size + 1 + 1, 1, none⟩ (.int .i64 V2.1)).setCell ⟨w.heap.size + 1 + 1, 5, none⟩ (.int .i64 V2.2)) (w.heap.size + 1 + 1) 50 #[.bool V1.1, .int .i64 V2.1, .int .i64 0, .int .i64 0, .int .i64 V1.2, .int .i64 V2.2, .int .i64 0, .int .i64 0]) := Lib.hid (by simpa using (HX3.out.set_ 1 (.int .i64 V2.1)).set_ 5 (.int .i64 V2.2))
  clear s0 s1 s2 s3 s4 s5 s6 s7 sf sz HB3 HA3 HR3 HX3
  generalize ((w3.setCell ⟨w.heap.size + 1 + 1, 1, none⟩ (.int .i64 V2.1)).setCell ⟨w.heap.size + 1 + 1, 5, none⟩ (.int .i64 V2.2)) = wg3 at *
  refine (H3.out _ HBg.out).mono ?_
  rintro e w4 ⟨rfl, hb⟩
  have HB4 : Hid (Below w.heap.size w w4) := Lib.hid (HBg.out.trans (hb.mono HBg.out.size))
  have HA4 := Lib.hid (HAg.out.later hb)
  have HR4 := Lib.hid (HRg.out.later hb)
  have HX4 := Lib.hid (HXg.out.later hb)
  clear hb HBg HAg HRg HXg
  clear wg3
  obtain ⟨s0, s1, s2, s3, s4, s5, s6, s7, sf, sz⟩ := Blk.b8 HX4.out
  go_wp2_with (refine wpList_load_row rfl 27 (.tmp 3) rfl w.heap.size rfl 27 #[.string nm, .slice LA L.length Lc, .int .i64 o, .int .i64 n, .int .i64 u, .string s, .slice A l.length c, .int .i64 oB, .int .i64 nB, .int .i64 uB, .string sB, .slice AB lB.length cB, .int .i64 oC, .int .i64 nC, .int .i64 uC, .string sC, .slice AC lC.length cC, .int .i64 oD, .int .i64 nD, .int .i64 uD, .string sD, .slice AD lD.length cD, .int .i64 q, .int .i64 sh, .int .i64 ch] (0, 0) _ ((HA4.out.far hne _).far hne _) Tryz.underlying27 rfl (by kernel_rfl) ?_)
  have HBg : Hid (Below w.heap.size w ((w4.setCell ⟨w.heap.size + 1 + 1, 2, none⟩ (.int .i64 V3.1)).setCell ⟨w.heap.size + 1 + 1, 6, none⟩ (.int .i64 V3.2))) := Lib.hid ((HB4.out.setCell hle _).setCell hle _)
  have HAg : Hid (Blk ((w4.setCell ⟨w.heap.size + 1 + 1, 2, none⟩ (.int .i64 V3.1)).setCell ⟨w.heap.size + 1 + 1, 6, none⟩ (.int .i64 V3.2)) w.heap.size 27 #[.string nm, .slice LA L.length Lc, .int .i64 o, .int .i64 n, .int .i64 u, .string s, .slice A l.length c, .int .i64 oB, .int .i64 nB, .int .i64 uB, .string sB, .slice AB lB.length cB, .int .i64 oC, .int .i64 nC, .int .i64 uC, .string sC, .slice AC lC.length cC, .int .i64 oD, .int .i64 nD, .int .i64 uD, .string sD, .slice AD lD.length cD, .int .i64 q, .int .i64 sh, .int .i64 ch]) := Lib.hid ((HA4.out.far hne _).far hne _)
  have HRg : Hid (Blk ((w4.setCell ⟨w.heap.size + 1 + 1, 2, none⟩ (.int .i64 V3.1)).setCell ⟨w.heap.size + 1 + 1, 6, none⟩ (.int .i64 V3.2)) (w.heap.size + 1) 50 #[.bool false, .int .i64 0, .int .i64 0, .int .i64 0, .int .i64 0, .int .i64 0, .int .i64 0, .int .i64 0]) := Lib.hid ((HR4.out.far hne2 _).far hne2 _)
  have HXg : Hid (Blk ((w4.setCell ⟨w.heap.size + 1 + 1, 2, none⟩ (.int .i64 V3.1)).setCell ⟨w.heap.size + 1 + 1, 6, none⟩ (.int .i64 V3.2)) (w.heap.size + 1 + 1) 50 #[.bool V1.1, .int .i64 V2.1, .int .i64 V3.1, .int .i64 0, .int .i64 V1.2, .int .i64 V2.2, .int .i64 V3.2, .int .i64 0]) := Lib.hid (by simpa using (HX4.out.set_ 2 (.int .i64 V3.1)).set_ 6 (.int .i64 V3.2))
  clear s0 s1 s2 s3 s4 s5 s6 s7 sf sz HB4 HA4 HR4 HX4
  generalize ((w4.setCell ⟨w.heap.size + 1 + 1, 2, none⟩ (.int .i64 V3.1)).setCell ⟨w.heap.size + 1 + 1, 6, none⟩ (.int .i64 V3.2)) = wg4 at *
  refine (H4.out _ HBg.out).mono ?_
  rintro e w5 ⟨rfl, hb⟩
  have HB5 : Hid (Below w.heap.size w w5) := Lib.hid (HBg.out.trans (hb.mono HBg.out.size))
  have HA5 := Lib.hid (HAg.out.later hb)
  have HR5 := Lib.hid (HRg.out.later hb)
  have HX5 := Lib.hid (HXg.out.later hb)
  clear hb HBg HAg HRg HXg
  clear wg4
  obtain ⟨s0, s1, s2, s3, s4, s5, s6, s7, sf, sz⟩ := Blk.b8 HX5.out
  obtain ⟨r0, r1, r2, r3, r4, r5, r6, r7, rf, rz⟩ := Blk.b8 HR5.out
  go_wp2_with fail
  try simp only [Exit.inBlock, Exit.then]
  refine bodyPost_ret (v := .agg #[.bool V1.1, .int .i64 V2.1, .int .i64 V3.1, .int .i64 V4.1, .int .i64 V1.2, .int .i64 V2.2, .int .i64 V3.2, .int .i64 V4.2]) ?_ rfl ⟨rfl, (by repeat (first | (with_reducible exact HB5.out) | (with_reducible exact Below.refl _ _) | ((with_reducible refine below_setr ?_ ?_); focus (first | (simp; done) | (simp; omega) | omega)) | ((with_reducible refine below_allocr ?_ ?_); focus (first | (simp; done) | (simp; omega) | omega)) | (with_reducible refine Below.drew ?_) | (with_reducible refine below_drewN ?_ _)))⟩
  simp [results, Tryz.results23, go_sem, r0, r1, r2, r3, r4, r5, r6, r7, rz]
end Go.Proofs.YtcgocdhhneckhaaGreat
/- The plain law: what has a unit has a value, or is divided by 0, or is too great. -/
namespace Go.Proofs.YtcgocdhhneckhaaGreat
open Go.RowKit
structure Snd (x : FrR) : Prop where
  err : x.e = 0 ∨ x.e = 6 ∨ x.e = 15
  yes : x.e = 0 → FracOK x.p x.q
theorem FrR.OK.snd {x : FrR} (h : x.OK) : Snd x := ⟨h.err, h.yes⟩
theorem snd_whole {n : Int} (h0 : -9223372036854775808 ≤ n) (h1 : n ≤ 9223372036854775807) : Snd (wholeF n) := ⟨.inl rfl, fun _ => ok_whole h0 h1⟩
theorem snd_tru (b : Bool) : Snd (truF b) := by
  cases b
  · exact snd_whole (by omega) (by omega)
  · exact snd_whole (by omega) (by omega)
theorem Snd.bad {x : FrR} (h : Snd x) (h0 : x.e ≠ 0) : Snd (FrR.bad x.e) := ⟨h.err, fun h1 => absurd h1 h0⟩
theorem Snd.app {op : Int} {a b : FrR} (ha : Snd a) (hb : Snd b) (ha0 : a.e = 0) (hb0 : b.e = 0) : Snd (appF op a b) := by
  have h1 := ha.yes ha0
  have h2 := hb.yes hb0
  unfold appF
  split
  · exact (addF_OK h1 h2).snd
  split
  · exact (subF_OK h1 h2).snd
  split
  · exact (mulF_OK h1 h2).snd
  split
  · exact (divF_OK h1 h2).snd
  split
  · exact snd_tru _
  split
  · exact snd_tru _
  split
  · exact hb
  · exact ha
theorem Snd.two {op : Int} {a b : FrR} (ha : Snd a) (hb : Snd b) : Snd (twoF op a b) := by
  unfold twoF
  split
  · rename_i h; exact ha.bad h
  split
  · rename_i h; exact hb.bad h
  · rename_i h1 h2
    exact ha.app hb (Classical.byContradiction h1) (Classical.byContradiction h2)
theorem Snd.not_ {a : FrR} (ha : Snd a) : Snd (notF a) := by
  unfold notF
  split
  · rename_i h; exact ha.bad h
  · exact snd_tru _
theorem Snd.and_ {a b : FrR} (ha : Snd a) (hb : Snd b) : Snd (andF a b) := by
  unfold andF
  split
  · rename_i h; exact ha.bad h
  split
  · exact snd_tru _
  split
  · rename_i h; exact hb.bad h
  · exact snd_tru _
theorem Snd.or_ {a b : FrR} (ha : Snd a) (hb : Snd b) : Snd (orF a b) := by
  unfold orF
  split
  · rename_i h; exact ha.bad h
  split
  · exact snd_tru _
  split
  · rename_i h; exact hb.bad h
  · exact snd_tru _
theorem Snd.ite_ {a b c : FrR} (ha : Snd a) (hb : Snd b) (hc : Snd c) : Snd (iteF a b c) := by
  unfold iteF
  split
  · rename_i h; exact ha.bad h
  split
  · exact hb
  · exact hc
theorem seqU_all {α : Type} {f : α → Int × Int} : ∀ {l : List α}, (seqU (l.map f)).2 = 0 → ∀ x, x ∈ l → (f x).2 = 0
  | [], _, x, hx => by cases hx
  | y :: l, h, x, hx => by
    rw [List.map_cons] at h
    by_cases hy : (f y).2 = 0
    · have h2 : (seqU (l.map f)).2 = 0 := by
        have : (seqU ((f y) :: l.map f)).2 = (seqU (l.map f)).2 := by
          generalize f y = z at hy
          obtain ⟨a, b⟩ := z
          have hy : b = 0 := hy
          simp [seqU, hy]
        rw [← this]; exact h
      rcases List.mem_cons.1 hx with rfl | hx
      · exact hy
      · exact seqU_all h2 x hx
    · exfalso
      have : (seqU ((f y) :: l.map f)).2 = (f y).2 := by
        generalize f y = z at hy
        obtain ⟨a, b⟩ := z
        have hy : ¬ b = 0 := hy
        simp [seqU, hy]
      rw [this] at h
      exact hy h
theorem evE_sound {lk : ByteArray → FrR} {T M : List FT} {L : List LT} {U : List Int} (hlk : ∀ s, nameU s L U ≠ -1 → Snd (lk s)) (hT : ∀ s, (triU s).isSome = true → Snd (factF s T)) (hM : ∀ s, (memU s).isSome = true → Snd (factF s M)) :
    ∀ k e, okE k e = true → (unU L U k e).2 = 0 → Snd (evE lk T M k e)
  | 0, e, hk, _ => by unfold okE at hk; cases hk
  | k + 1, ⟨o, a, u, s, A, c, l⟩, hk, hu => by
    have ih := fun x h1 h2 => evE_sound (T := T) (M := M) hlk hT hM k x h1 h2
    by_cases h0 : o = 0
    · subst h0
      unfold evE
      rw [if_pos rfl]
      exact snd_whole (okE_numb hk).1 (okE_numb hk).2
    by_cases h1 : o = 1
    · subst h1
      unfold evE
      rw [if_neg (by decide), if_pos rfl]
      refine hlk s fun hn => ?_
      unfold unU at hu
      rw [if_neg (by decide), if_neg (by decide), if_neg (by decide), if_pos rfl, if_pos hn] at hu
      simp at hu
    by_cases h2 : o = 2
    · subst h2
      unfold evE
      rw [if_neg (by decide), if_neg (by decide), if_pos rfl]
      refine hT s ?_
      unfold unU at hu
      rw [if_neg (by decide), if_pos rfl] at hu
      cases ht : (triU s).isSome with
      | true => rfl
      | false => unfold knU at hu; simp [ht] at hu
    by_cases h3 : o = 3
    · subst h3
      unfold evE
      rw [if_neg (by decide), if_neg (by decide), if_neg (by decide), if_pos rfl]
      refine hM s ?_
      unfold unU at hu
      rw [if_neg (by decide), if_neg (by decide), if_pos rfl] at hu
      cases ht : (memU s).isSome with
      | true => rfl
      | false => unfold knU at hu; simp [ht] at hu
    have hall := okE_all hk h0 h1 h2 h3
    have hlen := okE_is hk
    have hsq : (seqU (l.map (unU L U k))).2 = 0 := by
      rw [unU_op h0 h1 h2 h3] at hu
      exact Classical.byContradiction fun hn => by rw [if_pos hn] at hu; exact hn hu
    have hun := seqU_all hsq
    unfold evE
    rw [if_neg h0, if_neg h1, if_neg h2, if_neg h3]
    by_cases h12 : o = 12
    · subst h12
      obtain ⟨x, rfl⟩ := len_one (l := l) (by have h : opsN 12 = 1 := (by decide); omega)
      exact (ih x (hall x (by simp)) (hun x (by simp))).not_
    by_cases h15 : o = 15
    · subst h15
      obtain ⟨x, y, z, rfl⟩ := len_three (l := l) (by have h : opsN 15 = 3 := (by decide); omega)
      exact (ih x (hall x (by simp)) (hun x (by simp))).ite_ (ih y (hall y (by simp)) (hun y (by simp))) (ih z (hall z (by simp)) (hun z (by simp)))
    obtain ⟨x, y, rfl⟩ := len_two (l := l) (opsN_two hlen h0 h1 h2 h3 h12 h15)
    have hx := ih x (hall x (by simp)) (hun x (by simp))
    have hy := ih y (hall y (by simp)) (hun y (by simp))
    simp only [List.map_cons, List.map_nil, opF]
    split
    · exact hx.and_ hy
    split
    · exact hx.or_ hy
    · exact hx.two hy
theorem scN_at {L : List LT} {k : Nat} {x : LT} (hx : L[k]? = some x) : ∀ n, k < n → n ≤ L.length → (scN L n)[k]? = some (uo (unU (L.take k) (scN L k) 12 x.b))
  | 0, h, _ => absurd h (by omega)
  | n + 1, h, hn => by
    have hy : L[n]? = some L[n] := List.getElem?_eq_getElem (by omega)
    rw [scN_succ hy]
    by_cases hk : k = n
    · subst hk
      rw [hy] at hx
      injection hx with hx
      rw [List.getElem?_append_right (by rw [scN_len L k (by omega)]; exact Nat.le_refl _), scN_len L k (by omega), Nat.sub_self, hx]
      rfl
    · rw [List.getElem?_append_left (by rw [scN_len L n (by omega)]; omega)]
      exact scN_at hx n (by omega) (by omega)
theorem evN_sound {T M : List FT} {L : List LT} (hok : ∀ x, x ∈ L → okE 12 x.b = true) (hT : ∀ s, (triU s).isSome = true → Snd (factF s T)) (hM : ∀ s, (memU s).isSome = true → Snd (factF s M)) :
    ∀ n, n ≤ L.length → ∀ k e, okE k e = true → (unU (L.take n) (scN L n) k e).2 = 0 → Snd (evN T M L n k e) := by
  intro n
  induction n using Nat.strongRecOn with
  | ind n ih =>
    intro hn k e hk hu
    refine evE_sound (L := L.take n) (U := scN L n) (fun s hs => ?_) hT hM k e hk hu
    rcases idxP_ge (fun x : LT => sameB x.nm s) (L.take n) 0 with ⟨_, h2⟩ | ⟨j, x, _, h2, h3, h4⟩
    · exact absurd (nameU_none h2) hs
    · have hjn : j < n := by
        have := (List.getElem?_eq_some_iff.1 h2).1
        rw [List.length_take] at this
        omega
      have hxj : L[j]? = some x := by rw [List.getElem?_take, if_pos hjn] at h2; exact h2
      have hsc := scN_at hxj n hjn hn
      rw [nameU_at h2 hsc h3 h4] at hs
      show Snd (lkF s (L.take n) (lvN T M L n))
      rw [lk_let T M hn h2 h3 h4]
      refine ih j hjn (by omega) 12 x.b (hok x (List.mem_of_getElem? hxj)) ?_
      exact Classical.byContradiction fun hc => hs (by unfold uo; rw [if_neg hc])
theorem factF_snd {s : ByteArray} {l : List FT} {x : FT} (hx : x ∈ l) (hs : sameB x.nm s = true) (hv : ∀ y, y ∈ l → -9223372036854775808 ≤ y.v ∧ y.v ≤ 9223372036854775807) : Snd (factF s l) := by
  rcases idxP_ge (fun x : FT => sameB x.nm s) l 0 with ⟨_, h2⟩ | ⟨j, y, _, h2, h3, h4⟩
  · have := h2 x hx
    (try simp only at this)
    rw [hs] at this
    cases this
  · rw [factF_at h2 h3 h4]
    have := hv y (List.mem_of_getElem? h2)
    exact snd_whole this.1 this.2
end Go.Proofs.YtcgocdhhneckhaaGreat
/- The plain law of FareTotal: what right bylaws say about a trip has an answer, or one of three errors. -/
namespace Go.Proofs.YtcgocdhhneckhaaGreat
open Go.RowKit
def near (n : Int) : Prop := -1099511627776 ≤ n ∧ n ≤ 1099511627776
theorem trip_factsB {d r de no s c b rd : Int} (h1 : near d) (h2 : near r) (h3 : near de) (h4 : near no) (h5 : near s) (h6 : near c) (h7 : near b) (h8 : near rd) : factsB (tripL d r de no s c b rd) = true := by
  have n1 : nameB (⟨#[100, 105, 114, 101, 99, 116]⟩ : ByteArray) = true := by kernel_rfl
  have n2 : nameB (⟨#[114, 105, 100, 101]⟩ : ByteArray) = true := by kernel_rfl
  have n3 : nameB (⟨#[100, 101, 108, 97, 121]⟩ : ByteArray) = true := by kernel_rfl
  have n4 : nameB (⟨#[110, 111, 116, 105, 99, 101]⟩ : ByteArray) = true := by kernel_rfl
  have n5 : nameB (⟨#[115, 101, 97, 116, 115]⟩ : ByteArray) = true := by kernel_rfl
  have n6 : nameB (⟨#[99, 104, 97, 105, 114, 115]⟩ : ByteArray) = true := by kernel_rfl
  have n7 : nameB (⟨#[98, 97, 103, 115]⟩ : ByteArray) = true := by kernel_rfl
  have n8 : nameB (⟨#[114, 105, 100, 101, 114, 115]⟩ : ByteArray) = true := by kernel_rfl
  unfold near at *
  simp only [factsB, tripL, List.all_cons, List.all_nil, n1, n2, n3, n4, n5, n6, n7, n8, Bool.true_and, Bool.and_true, Bool.and_eq_true, decide_eq_true_eq]
  refine ⟨decide_eq_true (by show ((8 : Nat) : Int) ≤ 40; decide), ?_⟩
  omega
theorem rider_factsB {f b t n : Int} (h1 : near f) (h2 : near b) (h3 : near t) (h4 : near n) : factsB (riderL f b t n) = true := by
  have n1 : nameB (⟨#[102, 97, 118, 111, 117, 114]⟩ : ByteArray) = true := by kernel_rfl
  have n2 : nameB (⟨#[98, 97, 108, 97, 110, 99, 101]⟩ : ByteArray) = true := by kernel_rfl
  have n3 : nameB (⟨#[116, 114, 105, 112, 115]⟩ : ByteArray) = true := by kernel_rfl
  have n4 : nameB (⟨#[110, 111, 115, 104, 111, 119, 115]⟩ : ByteArray) = true := by kernel_rfl
  unfold near at *
  simp only [factsB, riderL, List.all_cons, List.all_nil, n1, n2, n3, n4, Bool.true_and, Bool.and_true, Bool.and_eq_true, decide_eq_true_eq]
  refine ⟨decide_eq_true (by show ((4 : Nat) : Int) ≤ 40; decide), ?_⟩
  omega
theorem same_lit {a s : ByteArray} {l : List UInt8} (ha : a.toList = l) (h : (s.toList == l) = true) : sameB a s = true := by
  unfold sameB
  rw [beq_iff_eq] at h
  rw [ha, h]
  simp
theorem trip_known (d r de no s c b rd : Int) (x : ByteArray) (h : (triU x).isSome = true) : ∃ y, y ∈ tripL d r de no s c b rd ∧ sameB y.nm x = true := by
  unfold triU at h
  split at h
  · rename_i hx; exact ⟨⟨(⟨#[100, 105, 114, 101, 99, 116]⟩ : ByteArray), d⟩, by simp [tripL], same_lit (by kernel_rfl) hx⟩
  split at h
  · rename_i hx; exact ⟨⟨(⟨#[114, 105, 100, 101]⟩ : ByteArray), r⟩, by simp [tripL], same_lit (by kernel_rfl) hx⟩
  split at h
  · rename_i hx; exact ⟨⟨(⟨#[100, 101, 108, 97, 121]⟩ : ByteArray), de⟩, by simp [tripL], same_lit (by kernel_rfl) hx⟩
  split at h
  · rename_i hx; exact ⟨⟨(⟨#[110, 111, 116, 105, 99, 101]⟩ : ByteArray), no⟩, by simp [tripL], same_lit (by kernel_rfl) hx⟩
  split at h
  · rename_i hx; exact ⟨⟨(⟨#[115, 101, 97, 116, 115]⟩ : ByteArray), s⟩, by simp [tripL], same_lit (by kernel_rfl) hx⟩
  split at h
  · rename_i hx; exact ⟨⟨(⟨#[99, 104, 97, 105, 114, 115]⟩ : ByteArray), c⟩, by simp [tripL], same_lit (by kernel_rfl) hx⟩
  split at h
  · rename_i hx; exact ⟨⟨(⟨#[98, 97, 103, 115]⟩ : ByteArray), b⟩, by simp [tripL], same_lit (by kernel_rfl) hx⟩
  split at h
  · rename_i hx; exact ⟨⟨(⟨#[114, 105, 100, 101, 114, 115]⟩ : ByteArray), rd⟩, by simp [tripL], same_lit (by kernel_rfl) hx⟩
  · simp at h
theorem rider_known (f b t n : Int) (x : ByteArray) (h : (memU x).isSome = true) : ∃ y, y ∈ riderL f b t n ∧ sameB y.nm x = true := by
  unfold memU at h
  split at h
  · rename_i hx; exact ⟨⟨(⟨#[102, 97, 118, 111, 117, 114]⟩ : ByteArray), f⟩, by simp [riderL], same_lit (by kernel_rfl) hx⟩
  split at h
  · rename_i hx; exact ⟨⟨(⟨#[98, 97, 108, 97, 110, 99, 101]⟩ : ByteArray), b⟩, by simp [riderL], same_lit (by kernel_rfl) hx⟩
  split at h
  · rename_i hx; exact ⟨⟨(⟨#[116, 114, 105, 112, 115]⟩ : ByteArray), t⟩, by simp [riderL], same_lit (by kernel_rfl) hx⟩
  split at h
  · rename_i hx; exact ⟨⟨(⟨#[110, 111, 115, 104, 111, 119, 115]⟩ : ByteArray), n⟩, by simp [riderL], same_lit (by kernel_rfl) hx⟩
  · simp at h
/-- What Check accepts. -/
theorem firstE_all {l : List Int} (h : firstE l = 0) : ∀ e, e ∈ l → e = 0 := by
  induction l with
  | nil => intro e he; cases he
  | cons a r ih =>
    unfold firstE at h
    split at h
    · rename_i ha; exact absurd h ha
    · rename_i ha
      intro e he
      rcases List.mem_cons.1 he with rfl | he
      · exact Classical.byContradiction ha
      · exact ih h e he
theorem chk_rule {b : Byl} (h : chkU b = 0) : bylB b = true ∧ (∀ k, k < b.lets.l.length → letE b.lets.l k = 0) ∧ ∀ x, x ∈ [b.ad, b.fa, b.la, b.no] → (ofU b.lets.l x).2 = 0 := by
  unfold chkU at h
  split at h
  · rename_i hb
    have hall := firstE_all h
    refine ⟨hb, fun k hk => hall _ (List.mem_append_left _ (List.mem_map_of_mem (f := letE b.lets.l) (List.mem_range.2 hk))), fun x hx => ?_⟩
    obtain ⟨i, hi⟩ := List.getElem?_of_mem hx
    have hi4 : i < 4 := by
      have := (List.getElem?_eq_some_iff.1 hi).1
      simpa using this
    have h4 := hall _ (List.mem_append_right _ (List.mem_map_of_mem (f := fourE b.lets.l [b.ad, b.fa, b.la, b.no]) (List.mem_range.2 hi4)))
    rw [fourE_at hi] at h4
    exact Classical.byContradiction fun hc => by rw [if_pos hc] at h4; exact hc h4
  · cases h
theorem byl_rexp {b : Byl} (h : bylB b = true) : (∀ x, x ∈ b.lets.l → rexp x.b = true) ∧ (b.lets.l.length : Int) ≤ 20 ∧ ∀ x, x ∈ [b.ad, b.fa, b.la, b.no] → rexp x = true := by
  unfold bylB at h
  simp only [Bool.and_eq_true, List.all_eq_true, decide_eq_true_eq, and_assoc] at h
  obtain ⟨h1, _, _, _, _, _, h2, h3⟩ := h
  exact ⟨h1, h2, h3⟩
theorem eval_snd {b : Byl} {T M : List FT} (h : chkU b = 0) (hT : factsB T = true) (hM : factsB M = true) (kT : ∀ s, (triU s).isSome = true → ∃ y, y ∈ T ∧ sameB y.nm s = true) (kM : ∀ s, (memU s).isSome = true → ∃ y, y ∈ M ∧ sameB y.nm s = true)
    {x : PT} (hx : x ∈ [b.ad, b.fa, b.la, b.no]) : Snd (evalF b.lets.l x T M) := by
  obtain ⟨hb, _, hu⟩ := chk_rule h
  obtain ⟨hl, h20, h4⟩ := byl_rexp hb
  have hla : b.lets.l.all (fun x => rexp x.b) = true := List.all_eq_true.2 hl
  rw [evalF_ok ⟨h4 x hx, h20, hla, hT, hM⟩]
  have h2 := hu x hx
  rw [ofU_ok ⟨h4 x hx, h20, hla⟩] at h2
  refine evN_sound (fun y hy => hl y hy) (fun s hs => ?_) (fun s hs => ?_) _ (Nat.le_refl _) 12 x (h4 x hx) (by rw [List.take_length]; exact h2)
  · obtain ⟨y, hy, hys⟩ := kT s hs
    exact factF_snd hy hys (facts_i64 hT)
  · obtain ⟨y, hy, hys⟩ := kM s hs
    exact factF_snd hy hys (facts_i64 hM)
theorem whF_snd {r : FrR} (h : Snd r) : ((whF r).2 = 0 ∨ (whF r).2 = 6 ∨ (whF r).2 = 15 ∨ (whF r).2 = 3) ∧ 0 ≤ (whF r).1 ∧ (whF r).1 ≤ 1000000000000000 ∧ ((whF r).2 ≠ 0 → (whF r).1 = 0) := by
  by_cases h0 : r.e = 0
  · by_cases h1 : r.p < 0
    · rw [whF_neg h0 h1]; simp
    by_cases h2 : 1000000000000001 * r.q ≤ r.p
    · rw [whF_big h0 (by omega) h2]; simp
    rw [whF_ok h0 (by omega) h2]
    have hq := (h.yes h0).pos
    have h3 : 0 ≤ r.p / r.q := Int.ediv_nonneg (by omega) (by omega)
    have h4 : r.p / r.q < 1000000000000001 := Int.ediv_lt_of_lt_mul hq (by omega)
    refine ⟨.inl rfl, h3, by simp only; omega, fun h => absurd rfl h⟩
  · rw [whF_err h0]
    have := h.err
    exact ⟨by simp only; omega, by simp, by simp, fun _ => rfl⟩
/-- Amounts. -/
theorem whC_facts {b : Byl} {x : PT} {T M : List FT} (h : chkU b = 0 → Snd (evalF b.lets.l x T M)) :
    (chkU b ≠ 0 → (whC b x T M).2 = chkU b) ∧ (chkU b = 0 → (whC b x T M).2 = 0 ∨ (whC b x T M).2 = 6 ∨ (whC b x T M).2 = 15 ∨ (whC b x T M).2 = 3) ∧ 0 ≤ (whC b x T M).1 ∧ (whC b x T M).1 ≤ 1000000000000000 ∧ ((whC b x T M).2 ≠ 0 → (whC b x T M).1 = 0) := by
  by_cases h0 : chkU b = 0
  · obtain ⟨h1, h2, h3, h4⟩ := whF_snd (h h0)
    by_cases hz : (whF (evalF b.lets.l x T M)).2 = 0
    · rw [whC_ok h0 hz]
      exact ⟨fun h => absurd h0 h, fun _ => .inl rfl, h2, h3, fun h => absurd rfl h⟩
    · rw [whC_bad2 h0 hz]
      exact ⟨fun h => absurd h0 h, fun _ => h1, by simp, by simp, fun _ => rfl⟩
  · rw [whC_bad h0]
    exact ⟨fun _ => rfl, fun h => absurd h h0, by simp, by simp, fun _ => rfl⟩
theorem admC_facts {b : Byl} {T M : List FT} (h : chkU b = 0 → Snd (evalF b.lets.l b.ad T M)) :
    (chkU b ≠ 0 → (admC b T M).2 = chkU b) ∧ (chkU b = 0 → (admC b T M).2 = 0 ∨ (admC b T M).2 = 6 ∨ (admC b T M).2 = 15) ∧ ((admC b T M).2 ≠ 0 → (admC b T M).1 = false) := by
  by_cases h0 : chkU b = 0
  · have h1 := (h h0).err
    by_cases hz : (evalF b.lets.l b.ad T M).e = 0
    · rw [admC_ok h0 hz]
      exact ⟨fun h => absurd h0 h, fun _ => .inl rfl, fun h => absurd rfl h⟩
    · rw [admC_bad2 h0 hz]
      exact ⟨fun h => absurd h0 h, fun _ => h1, fun _ => rfl⟩
  · rw [admC_bad h0]
    exact ⟨fun _ => rfl, fun h => absurd h h0, fun _ => rfl⟩
end Go.Proofs.YtcgocdhhneckhaaGreat
namespace Go.Proofs.YtcgocdhhneckhaaGreat
open Go.RowKit
def Un3 (e : Int) : Prop := e = 0 ∨ e = 13 ∨ e = 14
theorem seqU_err {α : Type} {f : α → Int × Int} : ∀ {l : List α}, (∀ x, x ∈ l → Un3 (f x).2) → Un3 (seqU (l.map f)).2
  | [], _ => .inl rfl
  | y :: l, h => by
    have hy := h y (List.mem_cons_self ..)
    have hl := seqU_err (f := f) (l := l) fun x hx => h x (List.mem_cons_of_mem _ hx)
    rw [List.map_cons]
    generalize f y = z at hy
    obtain ⟨a, b⟩ := z
    have hy : Un3 b := hy
    by_cases hb : b = 0
    · simpa [seqU, hb] using hl
    · simpa [seqU, hb] using hy
theorem knU_err (u : Option Int) : Un3 (knU u).2 := by
  cases u
  · exact .inr (.inr rfl)
  · exact .inl rfl
theorem unU_err (L : List LT) (U : List Int) : ∀ k e, Un3 (unU L U k e).2
  | 0, e => .inl rfl
  | k + 1, ⟨o, a, u, s, A, c, l⟩ => by
    have ih := fun x (_ : x ∈ l) => unU_err L U k x
    unfold unU
    split
    · exact .inl rfl
    split
    · exact knU_err _
    split
    · exact knU_err _
    split
    · split
      · exact .inr (.inr rfl)
      · exact .inl rfl
    split
    · exact seqU_err ih
    split
    · exact .inr (.inl rfl)
    · exact .inl rfl
theorem ofU_err (L : List LT) (e : PT) : (ofU L e).2 = 1 ∨ Un3 (ofU L e).2 := by
  unfold ofU
  split
  · exact .inr (unU_err _ _ _ _)
  · exact .inl rfl
theorem firstE_mem : ∀ l : List Int, firstE l = 0 ∨ firstE l ∈ l
  | [] => .inl rfl
  | e :: r => by
    unfold firstE
    split
    · exact .inr (List.mem_cons_self ..)
    · rcases firstE_mem r with h | h
      · exact .inl h
      · exact .inr (List.mem_cons_of_mem _ h)
theorem chkU_err (b : Byl) : chkU b = 1 ∨ Un3 (chkU b) := by
  unfold chkU
  split
  · rcases firstE_mem ((List.range b.lets.l.length).map (letE b.lets.l) ++ (List.range 4).map (fourE b.lets.l [b.ad, b.fa, b.la, b.no])) with h | h
    · exact .inr (.inl h)
    · rcases List.mem_append.1 h with h | h
      · obtain ⟨k, _, hk⟩ := List.mem_map.1 h
        rw [← hk]
        unfold letE
        split
        · exact ofU_err _ _
        · exact .inr (.inl rfl)
      · obtain ⟨k, _, hk⟩ := List.mem_map.1 h
        rw [← hk]
        unfold fourE
        repeat' split
        all_goals first | exact ofU_err _ _ | exact .inr (.inr (.inl rfl)) | exact .inr (.inl rfl)
  · exact .inl rfl
theorem chkU_not3 (b : Byl) : chkU b ≠ 3 := by
  rcases chkU_err b with h | h | h | h <;> omega
end Go.Proofs.YtcgocdhhneckhaaGreat
