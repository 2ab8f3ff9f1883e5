/- Walks of package fare: Trip, Rider, trips, Cut. -/
import Derived.Test.YtcgocdhhneckhaaGreatFnammxbk
namespace Go.Proofs.YtcgocdhhneckhaaGreat
open Go.RowKit
def tripL (d r de no s c b rd : Int) : List FT := [⟨(⟨#[100, 105, 114, 101, 99, 116]⟩ : ByteArray), d⟩, ⟨(⟨#[114, 105, 100, 101]⟩ : ByteArray), r⟩, ⟨(⟨#[100, 101, 108, 97, 121]⟩ : ByteArray), de⟩, ⟨(⟨#[110, 111, 116, 105, 99, 101]⟩ : ByteArray), no⟩, ⟨(⟨#[115, 101, 97, 116, 115]⟩ : ByteArray), s⟩, ⟨(⟨#[99, 104, 97, 105, 114, 115]⟩ : ByteArray), c⟩, ⟨(⟨#[98, 97, 103, 115]⟩ : ByteArray), b⟩, ⟨(⟨#[114, 105, 100, 101, 114, 115]⟩ : ByteArray), rd⟩]
def riderL (f b t n : Int) : List FT := [⟨(⟨#[102, 97, 118, 111, 117, 114]⟩ : ByteArray), f⟩, ⟨(⟨#[98, 97, 108, 97, 110, 99, 101]⟩ : ByteArray), b⟩, ⟨(⟨#[116, 114, 105, 112, 115]⟩ : ByteArray), t⟩, ⟨(⟨#[110, 111, 115, 104, 111, 119, 115]⟩ : ByteArray), n⟩]
/-- Facts in memory. -/
def FcP (w w' : World) (l : List FT) (e : Ending) : Prop := ∃ s : Sl FT, e = .returned (.slice s.A s.l.length s.c) ∧ s.l = l ∧ FactsAt (· < w'.heap.size) w' s ∧ Below w.heap.size w w'
theorem facts_lit {w : World} {cs : Array Value} {l : List FT} (hm : l.length ≤ maxLen) (hs : cs.toList = l.flatMap FT.enc) (hn : ∀ x, x ∈ l → x.nm.size ≤ 9223372036854775807) : FactsAt (· < (w.alloc (.cells cs 54)).heap.size) (w.alloc (.cells cs 54)) ⟨some ⟨w.heap.size, 0, none⟩, l.length, l⟩ :=
  ⟨((Own.lit (base := w.heap.size) (e := 54) w cs l (Nat.le_refl _) hm hs FT.enc_k).rd FT.enc_k).mono (fun b hb => hb.2), hn⟩
theorem tripL_nm (d r de no s c b rd : Int) : ∀ x, x ∈ tripL d r de no s c b rd → x.nm.size ≤ 9223372036854775807 := by
  intro x hx
  simp only [tripL, List.mem_cons, List.not_mem_nil, or_false] at hx
  rcases hx with rfl | rfl | rfl | rfl | rfl | rfl | rfl | rfl <;> (simp only; decide)
theorem riderL_nm (f b t n : Int) : ∀ x, x ∈ riderL f b t n → x.nm.size ≤ 9223372036854775807 := by
  intro x hx
  simp only [riderL, List.mem_cons, List.not_mem_nil, or_false] at hx
  rcases hx with rfl | rfl | rfl | rfl <;> (simp only; decide)
set_option maxHeartbeats 800000 in
theorem fare_Trip (mb fr to ea la du ri se ch ba d r de no rd : Int) (w : World) :
    Calls Tryz.prog 11 #[.agg #[.int .i64 mb, .int .i64 fr, .int .i64 to, .int .i64 ea, .int .i64 la, .int .i64 du, .int .i64 ri, .int .i64 se, .int .i64 ch, .int .i64 ba], .int .i64 d, .int .i64 r, .int .i64 de, .int .i64 no, .int .i64 rd] w fun e w' => FcP w w' (tripL d r de no se ch ba rd) e := by
  go_enter Tryz.func11, Tryz.ntmps11
  go_wp2_with fail
  go_ret
  exact ⟨⟨some ⟨w.heap.size + 1, 0, none⟩, 8, tripL d r de no se ch ba rd⟩, rfl, rfl, (by
    have h := facts_lit (w := w.alloc (.cells #[.int .i64 mb, .int .i64 fr, .int .i64 to, .int .i64 ea, .int .i64 la, .int .i64 du, .int .i64 ri, .int .i64 se, .int .i64 ch, .int .i64 ba] 36)) (cs := #[.string (⟨#[100, 105, 114, 101, 99, 116]⟩ : ByteArray), .int .i64 d, .string (⟨#[114, 105, 100, 101]⟩ : ByteArray), .int .i64 r, .string (⟨#[100, 101, 108, 97, 121]⟩ : ByteArray), .int .i64 de, .string (⟨#[110, 111, 116, 105, 99, 101]⟩ : ByteArray), .int .i64 no, .string (⟨#[115, 101, 97, 116, 115]⟩ : ByteArray), .int .i64 se, .string (⟨#[99, 104, 97, 105, 114, 115]⟩ : ByteArray), .int .i64 ch, .string (⟨#[98, 97, 103, 115]⟩ : ByteArray), .int .i64 ba, .string (⟨#[114, 105, 100, 101, 114, 115]⟩ : ByteArray), .int .i64 rd]) (l := tripL d r de no se ch ba rd) (by simp [maxLen, tripL]) rfl (tripL_nm d r de no se ch ba rd)
    have hs : (w.alloc (.cells #[.int .i64 mb, .int .i64 fr, .int .i64 to, .int .i64 ea, .int .i64 la, .int .i64 du, .int .i64 ri, .int .i64 se, .int .i64 ch, .int .i64 ba] 36)).heap.size = w.heap.size + 1 := by simp
    rw [hs] at h
    exact h), qbl⟩
set_option maxHeartbeats 800000 in
theorem fare_Rider (f b t n : Int) (w : World) :
    Calls Tryz.prog 13 #[.int .i64 f, .int .i64 b, .int .i64 t, .int .i64 n] w fun e w' => FcP w w' (riderL f b t n) e := by
  go_enter Tryz.func13, Tryz.ntmps13
  go_wp2_with fail
  go_ret
  exact ⟨⟨some ⟨w.heap.size, 0, none⟩, 4, riderL f b t n⟩, rfl, rfl, facts_lit (w := w) (l := riderL f b t n) (by simp [maxLen, riderL]) rfl (riderL_nm f b t n), qbl⟩
def tripsN : List FT → Int
  | [] => 0
  | x :: r => if (x.nm.toList == [116, 114, 105, 112, 115]) = true then x.v else tripsN r
set_option maxHeartbeats 1600000 in
theorem fare_trips (l : Sl FT) (w : World) (hl : FactsAt (· < w.heap.size) w l) : Calls Tryz.prog 31 #[.slice l.A l.l.length l.c] w fun e w' => e = .returned (.int .i64 (tripsN l.l)) ∧ Below w.heap.size w w' := by
  have hn := hl.rd.len
  have HR := Lib.hid hl.rd
  clear hl
  obtain ⟨A, c, l⟩ := l
  simp only at hn
  simp only
  go_enter Tryz.func31, Tryz.ntmps31
  go_wp2_with fail
  go_loopw [7] (fun i wr => ∃ (k : Nat), k ≤ l.length ∧ i = .int .i64 k ∧ Below w.heap.size w wr ∧ Hid (tripsN l = tripsN (l.drop k))) (fun i _ => l.length - (intOf i).toNat)
  case atStart => exact ⟨0, by omega, rfl, qbl, Lib.hid (by simp)⟩
  case round =>
    obtain ⟨k, hk, rfl, hbel, HG⟩ := hrel
    have hhe : w.heap.size ≤ wr.heap.size := hbel.size
    by_cases hlt : k < l.length
    · obtain ⟨b, o, rfl, hb, hcl⟩ := HR.out.at1 hlt
      have hcl2 := hcl.keep (hbel.block b hb)
      have hd : l.drop k = l[k] :: l.drop (k + 1) := List.drop_eq_getElem_cons hlt
      have hgo := HG.out
      rw [hd] at hgo
      have HGO := Lib.hid hgo
      clear hd hgo hcl HG
      generalize l[k] = x at *
      obtain ⟨xn, xv⟩ := x
      obtain ⟨g0, g1⟩ := Cells.c2 hcl2
      clear hcl2
      go_wp2_with fail
      · rename_i hx
        have hr : xv = tripsN l := by rw [HGO.out, tripsN, if_pos hx]
        go_ret
        exact ⟨ret_int hr, hbel.alloc hhe _⟩
      · rename_i hx
        have hr : Hid (tripsN l = tripsN (l.drop (k + 1))) := Lib.hid (by rw [HGO.out]; conv => lhs; rw [tripsN]; rw [if_neg (by rw [hx]; simp)])
        go_roundw
        case rel => exact ⟨k + 1, by omega, by go_num, hbel.alloc hhe _, hr⟩
        case measure => simp [intOf]; omega
    · have hkl : l.drop k = [] := List.drop_eq_nil_of_le (by omega)
      have hgo := HG.out
      rw [hkl] at hgo
      have HGO := Lib.hid hgo
      clear hkl hgo HG
      go_wp2_with fail
      go_ret
      exact ⟨ret_int HGO.out.symm, hbel⟩
/-- fare.Cut. -/
def cutC (sh fa : Int) : Int × Int × Int := if sh < 0 ∨ 1000 < sh ∨ fa < 0 ∨ 1000000000000000 < fa then (0, 0, 1) else (fa / 1000 * sh + fa % 1000 * sh / 1000, fa - (fa / 1000 * sh + fa % 1000 * sh / 1000), 0)
theorem cutC_bad {sh fa : Int} (h : sh < 0 ∨ 1000 < sh ∨ fa < 0 ∨ 1000000000000000 < fa) : (0, 0, 1) = cutC sh fa := by unfold cutC; rw [if_pos h]
theorem cutC_ok {sh fa : Int} (h0 : 0 ≤ sh) (h1 : sh ≤ 1000) (h2 : 0 ≤ fa) (h3 : fa ≤ 1000000000000000) : (fa / 1000 * sh + fa % 1000 * sh / 1000, fa - (fa / 1000 * sh + fa % 1000 * sh / 1000), 0) = cutC sh fa := by unfold cutC; rw [if_neg (by omega)]
set_option maxRecDepth 100000 in
set_option maxHeartbeats 1600000 in
theorem fare_Cut (b : Byl) (fa : Int) (w : World) (hf : I64 fa) (hs : I64 b.sh) : Calls Tryz.prog 8 #[b.v, .int .i64 fa] w fun e w' => e = .returned (.tuple #[.int .i64 (cutC b.sh fa).1, .int .i64 (cutC b.sh fa).2.1, .int .i64 (cutC b.sh fa).2.2]) ∧ Below w.heap.size w w' := by
  obtain ⟨nm, ⟨LA, Lc, L⟩, ⟨o, n, u, s, A, c, l⟩, ⟨oB, nB, uB, sB, AB, cB, lB⟩, ⟨oC, nC, uC, sC, AC, cC, lC⟩, ⟨oD, nD, uD, sD, AD, cD, lD⟩, q, sh, ch⟩ := b
  simp only at hs
  simp only [Byl.v]
  have HB : Hid (Below w.heap.size w (w.alloc (.cells #[.string nm, .slice LA L.length Lc, .int .i64 o, .int .i64 n, .int .i64 u, .string s, .slice A l.length c, .int .i64 oB, .int .i64 nB, .int .i64 uB, .string sB, .slice AB lB.length cB, .int .i64 oC, .int .i64 nC, .int .i64 uC, .string sC, .slice AC lC.length cC, .int .i64 oD, .int .i64 nD, .int .i64 uD, .string sD, .slice AD lD.length cD, .int .i64 q, .int .i64 sh, .int .i64 ch] 27))) := Lib.hid qbl
  by_cases h0 : sh < 0
  · have HC := Lib.hid (cutC_bad (sh := sh) (fa := fa) (.inl h0))
    go_enter Tryz.func8, Tryz.ntmps8
    go_wp2_with fail
    try simp only [Exit.inBlock, Exit.then]
    refine bodyPost_ret (v := .tuple #[.int .i64 0, .int .i64 0, .int .i64 1]) ?_ rfl ⟨by rw [← HC.out], HB.out⟩
    simp [results, Tryz.results8, go_sem, ]
  by_cases h1 : 1000 < sh
  · have HC := Lib.hid (cutC_bad (sh := sh) (fa := fa) (.inr (.inl h1)))
    go_enter Tryz.func8, Tryz.ntmps8
    go_wp2_with fail
    try simp only [Exit.inBlock, Exit.then]
    refine bodyPost_ret (v := .tuple #[.int .i64 0, .int .i64 0, .int .i64 1]) ?_ rfl ⟨by rw [← HC.out], HB.out⟩
    simp [results, Tryz.results8, go_sem, ]
  by_cases h2 : fa < 0
  · have HC := Lib.hid (cutC_bad (sh := sh) (fa := fa) (.inr (.inr (.inl h2))))
    go_enter Tryz.func8, Tryz.ntmps8
    go_wp2_with fail
    try simp only [Exit.inBlock, Exit.then]
    refine bodyPost_ret (v := .tuple #[.int .i64 0, .int .i64 0, .int .i64 1]) ?_ rfl ⟨by rw [← HC.out], HB.out⟩
    simp [results, Tryz.results8, go_sem, ]
  by_cases h3 : 1000000000000000 < fa
  · have HC := Lib.hid (cutC_bad (sh := sh) (fa := fa) (.inr (.inr (.inr h3))))
    go_enter Tryz.func8, Tryz.ntmps8
    go_wp2_with fail
    try simp only [Exit.inBlock, Exit.then]
    refine bodyPost_ret (v := .tuple #[.int .i64 0, .int .i64 0, .int .i64 1]) ?_ rfl ⟨by rw [← HC.out], HB.out⟩
    simp [results, Tryz.results8, go_sem, ]
  have HC := Lib.hid (cutC_ok (sh := sh) (fa := fa) (by omega) (by omega) (by omega) (by omega))
  have hX0 : 0 ≤ fa / 1000 * sh := Int.mul_nonneg (by omega) (by omega)
  have hX1 : fa / 1000 * sh ≤ 1000000000000 * 1000 := Int.mul_le_mul (by omega) (by omega) (by omega) (by omega)
  have hY0 : 0 ≤ fa % 1000 * sh := Int.mul_nonneg (by omega) (by omega)
  have hY1 : fa % 1000 * sh ≤ 1000 * 1000 := Int.mul_le_mul (by omega) (by omega) (by omega) (by omega)
  have hT : (fa % 1000 * sh).tdiv 1000 = fa % 1000 * sh / 1000 := by rw [Int.tdiv_eq_ediv_of_nonneg hY0]
  go_enter Tryz.func8, Tryz.ntmps8
  go_wp2_with fail
  try simp only [Exit.inBlock, Exit.then]
  refine bodyPost_ret (v := .tuple #[.int .i64 (fa / 1000 * sh + fa % 1000 * sh / 1000), .int .i64 (fa - (fa / 1000 * sh + fa % 1000 * sh / 1000)), .int .i64 0]) ?_ rfl ⟨by rw [← HC.out], HB.out⟩
  simp [results, Tryz.results8, go_sem, ]
end Go.Proofs.YtcgocdhhneckhaaGreat
/- Walks of package fare: whole, Fare, Late, Noshow, Admit. -/
namespace Go.Proofs.YtcgocdhhneckhaaGreat
open Go.RowKit
/-- What the bylaws say with an expression. -/
def whC (b : Byl) (x : PT) (T M : List FT) : Int × Int := if chkU b ≠ 0 then (0, chkU b) else if (whF (evalF b.lets.l x T M)).2 ≠ 0 then (0, (whF (evalF b.lets.l x T M)).2) else ((whF (evalF b.lets.l x T M)).1, 0)
theorem whC_bad {b : Byl} {x : PT} {T M : List FT} (h : chkU b ≠ 0) : whC b x T M = (0, chkU b) := by unfold whC; rw [if_pos h]
theorem whC_bad2 {b : Byl} {x : PT} {T M : List FT} (h : chkU b = 0) (h2 : (whF (evalF b.lets.l x T M)).2 ≠ 0) : whC b x T M = (0, (whF (evalF b.lets.l x T M)).2) := by unfold whC; rw [if_neg (fun h' => h' h), if_pos h2]
theorem whC_ok {b : Byl} {x : PT} {T M : List FT} (h : chkU b = 0) (h2 : (whF (evalF b.lets.l x T M)).2 = 0) : whC b x T M = ((whF (evalF b.lets.l x T M)).1, 0) := by unfold whC; rw [if_neg (fun h' => h' h), if_neg (fun h' => h' h2)]
/-- fare.Admit. -/
def admC (b : Byl) (T M : List FT) : Bool × Int := if chkU b ≠ 0 then (false, chkU b) else if (evalF b.lets.l b.ad T M).e ≠ 0 then (false, (evalF b.lets.l b.ad T M).e) else (trF (evalF b.lets.l b.ad T M) && decide (tripsN M < b.q), 0)
theorem admC_bad {b : Byl} {T M : List FT} (h : chkU b ≠ 0) : admC b T M = (false, chkU b) := by unfold admC; rw [if_pos h]
theorem admC_bad2 {b : Byl} {T M : List FT} (h : chkU b = 0) (h2 : (evalF b.lets.l b.ad T M).e ≠ 0) : admC b T M = (false, (evalF b.lets.l b.ad T M).e) := by unfold admC; rw [if_neg (fun h' => h' h), if_pos h2]
theorem admC_ok {b : Byl} {T M : List FT} (h : chkU b = 0) (h2 : (evalF b.lets.l b.ad T M).e = 0) : admC b T M = (trF (evalF b.lets.l b.ad T M) && decide (tripsN M < b.q), 0) := by unfold admC; rw [if_neg (fun h' => h' h), if_neg (fun h' => h' h2)]
set_option maxRecDepth 100000 in
set_option maxHeartbeats 1600000 in
theorem fare_whole (b : Byl) (e : PT) (T M : Sl FT) (w : World) (hb : Byl.At (· < w.heap.size) w b) (h40 : b.lets.l.length ≤ 1000000) (he : PT.At (· < w.heap.size) w e) (hT : FactsAt (· < w.heap.size) w T) (hM : FactsAt (· < w.heap.size) w M) :
    Calls Tryz.prog 35 #[b.v, e.v, .slice T.A T.l.length T.c, .slice M.A M.l.length M.c] w fun r w' => r = .returned (.tuple #[.int .i64 (whC b e T.l M.l).1, .int .i64 (whC b e T.l M.l).2]) ∧ Below w.heap.size w w' := by
  have HB1 : Hid (Below w.heap.size w ((w.alloc (.cells b.v.cells 27)).alloc (.cells e.enc.toArray 25))) := Lib.hid qbl
  have hchk := un_Check b _ (hb.later HB1.out) h40
  have HWH := Lib.hid (fun W (hW : Below w.heap.size w W) => ev_Whole b e T M W (hb.later hW) (he.later hW) (hT.later hW) (hM.later hW))
  obtain ⟨V, hV⟩ : ∃ V, whC b e T.l M.l = V := ⟨_, rfl⟩
  have H1 := Lib.hid (whC_bad (b := b) (x := e) (T := T.l) (M := M.l))
  have H2 := Lib.hid (whC_bad2 (b := b) (x := e) (T := T.l) (M := M.l))
  have H3 := Lib.hid (whC_ok (b := b) (x := e) (T := T.l) (M := M.l))
  obtain ⟨Z, hZ⟩ : ∃ Z, whF (evalF b.lets.l e T.l M.l) = Z := ⟨_, rfl⟩
  obtain ⟨K, hK⟩ : ∃ K, chkU b = K := ⟨_, rfl⟩
  rw [hV] at H1 H2 H3 ⊢
  rw [hZ] at H2 H3 HWH
  rw [hK] at H1 H2 H3 hchk
  clear hV hZ hK hb h40 he hT hM
  obtain ⟨nm, ⟨LA, Lc, L⟩, ⟨o, n, u, s, A, c, l⟩, ⟨oB, nB, uB, sB, AB, cB, lB⟩, ⟨oC, nC, uC, sC, AC, cC, lC⟩, ⟨oD, nD, uD, sD, AD, cD, lD⟩, q, sh, ch⟩ := b
  obtain ⟨xo, xm, xu, xs, xA, xc, xl⟩ := e
  simp only [Byl.v, PT.v, PT.enc, Value.cells] at HB1 hchk HWH ⊢
  have HA1 : Hid (Blk ((w.alloc (.cells #[.string nm, .slice LA L.length Lc, .int .i64 o, .int .i64 n, .int .i64 u, .string s, .slice A l.length c, .int .i64 oB, .int .i64 nB, .int .i64 uB, .string sB, .slice AB lB.length cB, .int .i64 oC, .int .i64 nC, .int .i64 uC, .string sC, .slice AC lC.length cC, .int .i64 oD, .int .i64 nD, .int .i64 uD, .string sD, .slice AD lD.length cD, .int .i64 q, .int .i64 sh, .int .i64 ch] 27)).alloc (.cells #[.int .i64 xo, .int .i64 xm, .int .i64 xu, .string xs, .slice xA xl.length xc] 25)) w.heap.size 27 #[.string nm, .slice LA L.length Lc, .int .i64 o, .int .i64 n, .int .i64 u, .string s, .slice A l.length c, .int .i64 oB, .int .i64 nB, .int .i64 uB, .string sB, .slice AB lB.length cB, .int .i64 oC, .int .i64 nC, .int .i64 uC, .string sC, .slice AC lC.length cC, .int .i64 oD, .int .i64 nD, .int .i64 uD, .string sD, .slice AD lD.length cD, .int .i64 q, .int .i64 sh, .int .i64 ch]) := Lib.hid ((Blk.new _ _ _).alloc _)
  have HE1 : Hid (Blk ((w.alloc (.cells #[.string nm, .slice LA L.length Lc, .int .i64 o, .int .i64 n, .int .i64 u, .string s, .slice A l.length c, .int .i64 oB, .int .i64 nB, .int .i64 uB, .string sB, .slice AB lB.length cB, .int .i64 oC, .int .i64 nC, .int .i64 uC, .string sC, .slice AC lC.length cC, .int .i64 oD, .int .i64 nD, .int .i64 uD, .string sD, .slice AD lD.length cD, .int .i64 q, .int .i64 sh, .int .i64 ch] 27)).alloc (.cells #[.int .i64 xo, .int .i64 xm, .int .i64 xu, .string xs, .slice xA xl.length xc] 25)) (w.heap.size + 1) 25 #[.int .i64 xo, .int .i64 xm, .int .i64 xu, .string xs, .slice xA xl.length xc]) := Lib.hid (Blk.new' (by simp))
  go_enter Tryz.func35, Tryz.ntmps35
  go_wp2_with (refine wpList_load_row rfl 27 (.tmp 4) rfl w.heap.size rfl 27 #[.string nm, .slice LA L.length Lc, .int .i64 o, .int .i64 n, .int .i64 u, .string s, .slice A l.length c, .int .i64 oB, .int .i64 nB, .int .i64 uB, .string sB, .slice AB lB.length cB, .int .i64 oC, .int .i64 nC, .int .i64 uC, .string sC, .slice AC lC.length cC, .int .i64 oD, .int .i64 nD, .int .i64 uD, .string sD, .slice AD lD.length cD, .int .i64 q, .int .i64 sh, .int .i64 ch] (0, 0) _ HA1.out Tryz.underlying27 rfl (by kernel_rfl) ?_)
  refine hchk.mono ?_
  clear hchk
  generalize (w.alloc (.cells #[.string nm, .slice LA L.length Lc, .int .i64 o, .int .i64 n, .int .i64 u, .string s, .slice A l.length c, .int .i64 oB, .int .i64 nB, .int .i64 uB, .string sB, .slice AB lB.length cB, .int .i64 oC, .int .i64 nC, .int .i64 uC, .string sC, .slice AC lC.length cC, .int .i64 oD, .int .i64 nD, .int .i64 uD, .string sD, .slice AD lD.length cD, .int .i64 q, .int .i64 sh, .int .i64 ch] 27)).alloc (.cells #[.int .i64 xo, .int .i64 xm, .int .i64 xu, .string xs, .slice xA xl.length xc] 25) = w1 at *
  rintro r w2 ⟨rfl, hb2⟩
  have HB2 : Hid (Below w.heap.size w w2) := Lib.hid (HB1.out.trans (hb2.mono HB1.out.size))
  have HA2 := Lib.hid (HA1.out.later hb2)
  have HE2 := Lib.hid (HE1.out.later hb2)
  clear hb2 HA1 HE1 HB1
  by_cases hk : K = 0
  · have H2b := Lib.hid (H2.out hk)
    have H3b := Lib.hid (H3.out hk)
    subst hk
    obtain ⟨e0, e1, e2, e3, e4, ef, ez⟩ := HE2.out.b5
    go_wp2_with (refine wpList_load_row rfl 27 (.tmp 4) rfl w.heap.size rfl 27 #[.string nm, .slice LA L.length Lc, .int .i64 o, .int .i64 n, .int .i64 u, .string s, .slice A l.length c, .int .i64 oB, .int .i64 nB, .int .i64 uB, .string sB, .slice AB lB.length cB, .int .i64 oC, .int .i64 nC, .int .i64 uC, .string sC, .slice AC lC.length cC, .int .i64 oD, .int .i64 nD, .int .i64 uD, .string sD, .slice AD lD.length cD, .int .i64 q, .int .i64 sh, .int .i64 ch] (0, 0) _ HA2.out Tryz.underlying27 rfl (by kernel_rfl) ?_)
    refine (HWH.out _ HB2.out).mono ?_
    rintro r w3 ⟨rfl, hb3⟩
    have HB3 : Hid (Below w.heap.size w w3) := Lib.hid (HB2.out.trans (hb3.mono HB2.out.size))
    clear hb3 HA2 HE2 e0 e1 e2 e3 e4 ef ez
    by_cases hz : Z.2 = 0
    · have HVV := Lib.hid (H3b.out hz)
      rw [hz]
      clear hz
      go_wp2_with fail
      try simp only [Exit.inBlock, Exit.then]
      refine bodyPost_ret (v := .tuple #[.int .i64 Z.1, .int .i64 0]) ?_ rfl ⟨by rw [HVV.out], HB3.out⟩
      simp [results, Tryz.results35, go_sem, ]
    · have HVV := Lib.hid (H2b.out hz)
      go_wp2_with fail
      try simp only [Exit.inBlock, Exit.then]
      refine bodyPost_ret (v := .tuple #[.int .i64 0, .int .i64 Z.2]) ?_ rfl ⟨by rw [HVV.out], HB3.out⟩
      simp [results, Tryz.results35, go_sem, ]
  · have HVV := Lib.hid (H1.out hk)
    go_wp2_with fail
    try simp only [Exit.inBlock, Exit.then]
    refine bodyPost_ret (v := .tuple #[.int .i64 0, .int .i64 K]) ?_ rfl ⟨by rw [HVV.out], HB2.out⟩
    simp [results, Tryz.results35, go_sem, ]
end Go.Proofs.YtcgocdhhneckhaaGreat
