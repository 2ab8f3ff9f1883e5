/- Walk: small of the laws of layer 33: true (printed by tools/gensmall33.py). -/
import Derived.Test.YtcgocdhhneckhaaGreatFcutmxbt
namespace Go.Proofs.YtcgocdhhneckhaaGreat
open Go.RowKit
theorem facts_nil {F : Nat → Prop} {w : World} : FactsAt F w ⟨none, 0, []⟩ := ⟨Rd.nil _ _ _ _, fun x hx => by cases hx⟩
set_option maxRecDepth 100000 in
set_option maxHeartbeats 6400000 in
theorem law_small (w : World) : Calls Tryz.prog 7 #[] w fun e w' => e = .returned (.bool true) ∧ Below w.heap.size w w' := by
  go_enter Tryz.func7, Tryz.ntmps7
  have HB0 : Hid (Below w.heap.size w w) := Lib.hid (Below.refl _ _)
  have HB0x := HB0
  clear HB0x
  go_wp2_with fail
  refine (fare_Trip 0 0 0 0 0 0 0 2 0 0 10 20 0 0 1 _).mono ?_
  rintro e w1 ⟨sT1, rfl, he1, hf1, hb1⟩
  have HB1 : Hid (Below w.heap.size w w1) := Lib.hid (HB0.out.trans (hb1.mono HB0.out.size))
  have ET1 := Lib.hid he1
  have T1_1 := Lib.hid hf1
  clear he1 hf1
  clear hb1 HB0
  go_wp2_with fail
  refine (law_rules _).mono ?_
  rintro e w2 ⟨Aa1, Aa2, Aa3, Aa4, Aa5, Aa6, ca1, ca2, ca3, ca4, ca5, ca6, rfl, hy2, hb2⟩
  have HB2 : Hid (Below w.heap.size w w2) := Lib.hid (HB1.out.trans (hb2.mono HB1.out.size))
  have T1_2 := Lib.hid (T1_1.out.later hb2)
  clear T1_1
  have Ba_2 := Lib.hid hy2
  clear hy2
  clear hb2 HB1
  go_wp2_with fail
  refine (fare_Rider 0 0 3 0 _).mono ?_
  rintro e w3 ⟨sM1, rfl, he3, hf3, hb3⟩
  have HB3 : Hid (Below w.heap.size w w3) := Lib.hid (HB2.out.trans (hb3.mono HB2.out.size))
  have T1_3 := Lib.hid (T1_2.out.later hb3)
  clear T1_2
  have Ba_3 := Lib.hid (Ba_2.out.later hb3)
  clear Ba_2
  have EM1 := Lib.hid he3
  have M1_3 := Lib.hid hf3
  clear he3 hf3
  clear hb3 HB2
  have hc4 := fare_Admit (ruleB Aa1 Aa2 Aa3 Aa4 Aa5 Aa6 ca1 ca2 ca3 ca4 ca5 ca6) sT1 sM1 w3 Ba_3.out (Nat.zero_le _) T1_3.out M1_3.out
  have hr4 : admC (ruleB Aa1 Aa2 Aa3 Aa4 Aa5 Aa6 ca1 ca2 ca3 ca4 ca5 ca6) sT1.l sM1.l = (true, 0) := by rw [ET1.out, EM1.out]; exact rule_adm1 _ _ _ _ _ _ _ _ _ _ _ _
  rw [hr4] at hc4
  clear hr4
  go_wp2_with fail
  refine (hc4).mono ?_
  rintro e w4 ⟨rfl, hb4⟩
  have HB4 : Hid (Below w.heap.size w w4) := Lib.hid (HB3.out.trans (hb4.mono HB3.out.size))
  have T1_4 := Lib.hid (T1_3.out.later hb4)
  clear T1_3
  have Ba_4 := Lib.hid (Ba_3.out.later hb4)
  clear Ba_3
  have M1_4 := Lib.hid (M1_3.out.later hb4)
  clear M1_3
  clear hc4
  clear hb4 HB3
  clear Ba_4
  clear M1_4
  go_wp2_with fail
  refine (law_rules _).mono ?_
  rintro e w5 ⟨Ab1, Ab2, Ab3, Ab4, Ab5, Ab6, cb1, cb2, cb3, cb4, cb5, cb6, rfl, hy5, hb5⟩
  have HB5 : Hid (Below w.heap.size w w5) := Lib.hid (HB4.out.trans (hb5.mono HB4.out.size))
  have T1_5 := Lib.hid (T1_4.out.later hb5)
  clear T1_4
  have Bb_5 := Lib.hid hy5
  clear hy5
  clear hb5 HB4
  go_wp2_with fail
  refine (fare_Rider 0 0 4 0 _).mono ?_
  rintro e w6 ⟨sM2, rfl, he6, hf6, hb6⟩
  have HB6 : Hid (Below w.heap.size w w6) := Lib.hid (HB5.out.trans (hb6.mono HB5.out.size))
  have T1_6 := Lib.hid (T1_5.out.later hb6)
  clear T1_5
  have Bb_6 := Lib.hid (Bb_5.out.later hb6)
  clear Bb_5
  have EM2 := Lib.hid he6
  have M2_6 := Lib.hid hf6
  clear he6 hf6
  clear hb6 HB5
  have hc7 := fare_Admit (ruleB Ab1 Ab2 Ab3 Ab4 Ab5 Ab6 cb1 cb2 cb3 cb4 cb5 cb6) sT1 sM2 w6 Bb_6.out (Nat.zero_le _) T1_6.out M2_6.out
  have hr7 : admC (ruleB Ab1 Ab2 Ab3 Ab4 Ab5 Ab6 cb1 cb2 cb3 cb4 cb5 cb6) sT1.l sM2.l = (false, 0) := by rw [ET1.out, EM2.out]; exact rule_adm2 _ _ _ _ _ _ _ _ _ _ _ _
  rw [hr7] at hc7
  clear hr7
  go_wp2_with fail
  refine (hc7).mono ?_
  rintro e w7 ⟨rfl, hb7⟩
  have HB7 : Hid (Below w.heap.size w w7) := Lib.hid (HB6.out.trans (hb7.mono HB6.out.size))
  have T1_7 := Lib.hid (T1_6.out.later hb7)
  clear T1_6
  have Bb_7 := Lib.hid (Bb_6.out.later hb7)
  clear Bb_6
  have M2_7 := Lib.hid (M2_6.out.later hb7)
  clear M2_6
  clear hc7
  clear hb7 HB6
  clear Bb_7
  clear M2_7
  go_wp2_with fail
  refine (law_rules _).mono ?_
  rintro e w8 ⟨Ac1, Ac2, Ac3, Ac4, Ac5, Ac6, cc1, cc2, cc3, cc4, cc5, cc6, rfl, hy8, hb8⟩
  have HB8 : Hid (Below w.heap.size w w8) := Lib.hid (HB7.out.trans (hb8.mono HB7.out.size))
  have T1_8 := Lib.hid (T1_7.out.later hb8)
  clear T1_7
  have Bc_8 := Lib.hid hy8
  clear hy8
  clear hb8 HB7
  go_wp2_with fail
  refine (fare_Trip 0 0 0 0 0 0 0 0 0 0 10 21 0 0 1 _).mono ?_
  rintro e w9 ⟨sT2, rfl, he9, hf9, hb9⟩
  have HB9 : Hid (Below w.heap.size w w9) := Lib.hid (HB8.out.trans (hb9.mono HB8.out.size))
  have T1_9 := Lib.hid (T1_8.out.later hb9)
  clear T1_8
  have Bc_9 := Lib.hid (Bc_8.out.later hb9)
  clear Bc_8
  have ET2 := Lib.hid he9
  have T2_9 := Lib.hid hf9
  clear he9 hf9
  clear hb9 HB8
  go_wp2_with fail
  refine (fare_Rider 0 0 3 0 _).mono ?_
  rintro e w10 ⟨sM3, rfl, he10, hf10, hb10⟩
  have HB10 : Hid (Below w.heap.size w w10) := Lib.hid (HB9.out.trans (hb10.mono HB9.out.size))
  have T1_10 := Lib.hid (T1_9.out.later hb10)
  clear T1_9
  have Bc_10 := Lib.hid (Bc_9.out.later hb10)
  clear Bc_9
  have T2_10 := Lib.hid (T2_9.out.later hb10)
  clear T2_9
  have EM3 := Lib.hid he10
  have M3_10 := Lib.hid hf10
  clear he10 hf10
  clear hb10 HB9
  have hc11 := fare_Admit (ruleB Ac1 Ac2 Ac3 Ac4 Ac5 Ac6 cc1 cc2 cc3 cc4 cc5 cc6) sT2 sM3 w10 Bc_10.out (Nat.zero_le _) T2_10.out M3_10.out
  have hr11 : admC (ruleB Ac1 Ac2 Ac3 Ac4 Ac5 Ac6 cc1 cc2 cc3 cc4 cc5 cc6) sT2.l sM3.l = (false, 0) := by rw [ET2.out, EM3.out]; exact rule_adm3 _ _ _ _ _ _ _ _ _ _ _ _
  rw [hr11] at hc11
  clear hr11
  go_wp2_with fail
  refine (hc11).mono ?_
  rintro e w11 ⟨rfl, hb11⟩
  have HB11 : Hid (Below w.heap.size w w11) := Lib.hid (HB10.out.trans (hb11.mono HB10.out.size))
  have T1_11 := Lib.hid (T1_10.out.later hb11)
  clear T1_10
  have Bc_11 := Lib.hid (Bc_10.out.later hb11)
  clear Bc_10
  have T2_11 := Lib.hid (T2_10.out.later hb11)
  clear T2_10
  have M3_11 := Lib.hid (M3_10.out.later hb11)
  clear M3_10
  clear hc11
  clear hb11 HB10
  clear Bc_11
  clear M3_11
  clear T2_11
  go_wp2_with fail
  refine (law_rules _).mono ?_
  rintro e w12 ⟨Ad1, Ad2, Ad3, Ad4, Ad5, Ad6, cd1, cd2, cd3, cd4, cd5, cd6, rfl, hy12, hb12⟩
  have HB12 : Hid (Below w.heap.size w w12) := Lib.hid (HB11.out.trans (hb12.mono HB11.out.size))
  have T1_12 := Lib.hid (T1_11.out.later hb12)
  clear T1_11
  have Bd_12 := Lib.hid hy12
  clear hy12
  clear hb12 HB11
  go_wp2_with fail
  refine (fare_Trip 0 0 0 0 0 0 0 0 0 0 12 20 0 0 1 _).mono ?_
  rintro e w13 ⟨sT3, rfl, he13, hf13, hb13⟩
  have HB13 : Hid (Below w.heap.size w w13) := Lib.hid (HB12.out.trans (hb13.mono HB12.out.size))
  have T1_13 := Lib.hid (T1_12.out.later hb13)
  clear T1_12
  have Bd_13 := Lib.hid (Bd_12.out.later hb13)
  clear Bd_12
  have ET3 := Lib.hid he13
  have T3_13 := Lib.hid hf13
  clear he13 hf13
  clear hb13 HB12
  have hc14 := fare_Fare (ruleB Ad1 Ad2 Ad3 Ad4 Ad5 Ad6 cd1 cd2 cd3 cd4 cd5 cd6) sT3 (⟨none, 0, []⟩ : Sl FT) w13 Bd_13.out (Nat.zero_le _) T3_13.out facts_nil
  have hr14 : whC (ruleB Ad1 Ad2 Ad3 Ad4 Ad5 Ad6 cd1 cd2 cd3 cd4 cd5 cd6) (ruleB Ad1 Ad2 Ad3 Ad4 Ad5 Ad6 cd1 cd2 cd3 cd4 cd5 cd6).fa sT3.l (⟨none, 0, []⟩ : Sl FT).l = (220, 0) := by rw [ET3.out]; exact rule_fare _ _ _ _ _ _ _ _ _ _ _ _
  rw [hr14] at hc14
  clear hr14
  simp only [List.length_nil] at hc14
  go_wp2_with fail
  refine (hc14).mono ?_
  rintro e w14 ⟨rfl, hb14⟩
  have HB14 : Hid (Below w.heap.size w w14) := Lib.hid (HB13.out.trans (hb14.mono HB13.out.size))
  have T1_14 := Lib.hid (T1_13.out.later hb14)
  clear T1_13
  have Bd_14 := Lib.hid (Bd_13.out.later hb14)
  clear Bd_13
  have T3_14 := Lib.hid (T3_13.out.later hb14)
  clear T3_13
  clear hc14
  clear hb14 HB13
  clear Bd_14
  clear T3_14
  go_wp2_with fail
  refine (law_rules _).mono ?_
  rintro e w15 ⟨Ae1, Ae2, Ae3, Ae4, Ae5, Ae6, ce1, ce2, ce3, ce4, ce5, ce6, rfl, hy15, hb15⟩
  have HB15 : Hid (Below w.heap.size w w15) := Lib.hid (HB14.out.trans (hb15.mono HB14.out.size))
  have T1_15 := Lib.hid (T1_14.out.later hb15)
  clear T1_14
  have Be_15 := Lib.hid hy15
  clear hy15
  clear hb15 HB14
  have hc16 := fare_Noshow (ruleB Ae1 Ae2 Ae3 Ae4 Ae5 Ae6 ce1 ce2 ce3 ce4 ce5 ce6) (⟨none, 0, []⟩ : Sl FT) (⟨none, 0, []⟩ : Sl FT) w15 Be_15.out (Nat.zero_le _) facts_nil facts_nil
  have hr16 : whC (ruleB Ae1 Ae2 Ae3 Ae4 Ae5 Ae6 ce1 ce2 ce3 ce4 ce5 ce6) (ruleB Ae1 Ae2 Ae3 Ae4 Ae5 Ae6 ce1 ce2 ce3 ce4 ce5 ce6).no (⟨none, 0, []⟩ : Sl FT).l (⟨none, 0, []⟩ : Sl FT).l = (200, 0) := by exact rule_noshow _ _ _ _ _ _ _ _ _ _ _ _
  rw [hr16] at hc16
  clear hr16
  simp only [List.length_nil] at hc16
  go_wp2_with fail
  refine (hc16).mono ?_
  rintro e w16 ⟨rfl, hb16⟩
  have HB16 : Hid (Below w.heap.size w w16) := Lib.hid (HB15.out.trans (hb16.mono HB15.out.size))
  have T1_16 := Lib.hid (T1_15.out.later hb16)
  clear T1_15
  have Be_16 := Lib.hid (Be_15.out.later hb16)
  clear Be_15
  clear hc16
  clear hb16 HB15
  clear Be_16
  go_wp2_with fail
  refine (law_rules _).mono ?_
  rintro e w17 ⟨Af1, Af2, Af3, Af4, Af5, Af6, cf1, cf2, cf3, cf4, cf5, cf6, rfl, hy17, hb17⟩
  have HB17 : Hid (Below w.heap.size w w17) := Lib.hid (HB16.out.trans (hb17.mono HB16.out.size))
  have T1_17 := Lib.hid (T1_16.out.later hb17)
  clear T1_16
  have Bf_17 := Lib.hid hy17
  clear hy17
  clear hb17 HB16
  have hc := fare_Cut (ruleB Af1 Af2 Af3 Af4 Af5 Af6 cf1 cf2 cf3 cf4 cf5 cf6) 220 w17 (by unfold I64; omega) (by show I64 150; unfold I64; omega)
  have hcc : cutC (ruleB Af1 Af2 Af3 Af4 Af5 Af6 cf1 cf2 cf3 cf4 cf5 cf6).sh 220 = (33, 187, 0) := by show cutC 150 220 = _; decide
  rw [hcc] at hc
  clear hcc
  go_wp2_with fail
  refine (hc).mono ?_
  rintro e w18 ⟨rfl, hb18⟩
  have HB18 : Hid (Below w.heap.size w w18) := Lib.hid (HB17.out.trans (hb18.mono HB17.out.size))
  have T1_18 := Lib.hid (T1_17.out.later hb18)
  clear T1_17
  have Bf_18 := Lib.hid (Bf_17.out.later hb18)
  clear Bf_17
  clear hc
  clear hb18 HB17
  have hl : Hid (sT1.l.length = 8) := Lib.hid (by rw [ET1.out]; rfl)
  rw [hl.out]
  go_wp2_with fail
  go_ret
  exact ⟨rfl, HB18.out⟩
end Go.Proofs.YtcgocdhhneckhaaGreat
/- Walk: FareCut. -/
namespace Go.Proofs.YtcgocdhhneckhaaGreat
open Go.RowKit
theorem cut_floor (a s : Int) : a / 1000 * s + a % 1000 * s / 1000 = a * s / 1000 := by
  have h : a * s = a % 1000 * s + a / 1000 * s * 1000 := by
    have h1 : a = a % 1000 + a / 1000 * 1000 := by omega
    conv => lhs; rw [h1]
    rw [Int.add_mul, Int.mul_right_comm]
  rw [h, Int.add_mul_ediv_right _ _ (by decide)]
  omega
theorem cut_facts {a s : Int} (h0 : 0 ≤ s) (h1 : s ≤ 1000) (h2 : 0 ≤ a) (h3 : a ≤ 1000000000000000) :
    ∃ p r : Int, cutC s a = (p, r, 0) ∧ p + r = a ∧ 0 ≤ p ∧ 0 ≤ r ∧ p ≤ 1000000000000000 ∧ p * 1000 ≤ a * s ∧ a * s < (p + 1) * 1000 ∧ 0 ≤ a * s ∧ a * s ≤ 1000000000000000000 := by
  have hx0 : 0 ≤ a * s := Int.mul_nonneg h2 h0
  have hx1 : a * s ≤ a * 1000 := Int.mul_le_mul_of_nonneg_left h1 h2
  refine ⟨a * s / 1000, a - a * s / 1000, ?_, by omega, by omega, by omega, by omega, by omega, by omega, hx0, by omega⟩
  rw [← cutC_ok h0 h1 h2 h3, cut_floor]
theorem cut_more {a m s p r p2 r2 : Int} (h0 : 0 ≤ s) (h1 : s ≤ 1000) (h2 : 0 ≤ a) (h3 : m ≤ 1000000000000000) (hm : a ≤ m) (h : cutC s a = (p, r, 0)) (h' : cutC s m = (p2, r2, 0)) : p ≤ p2 ∧ r ≤ r2 := by
  rw [← cutC_ok h0 h1 h2 (by omega), cut_floor] at h
  rw [← cutC_ok h0 h1 (by omega) h3, cut_floor] at h'
  simp only [Prod.mk.injEq, and_true] at h h'
  have hx : (m - a) * s ≤ (m - a) * 1000 := Int.mul_le_mul_of_nonneg_left h1 (by omega)
  have hy : 0 ≤ (m - a) * s := Int.mul_nonneg (by omega) h0
  rw [Int.sub_mul] at hx hy
  omega
set_option maxRecDepth 100000 in
set_option maxHeartbeats 3200000 in
theorem farecut (b : Byl) (a more : Int) (w : World) (hs : I64 b.sh) (ha : I64 a) (hm0 : 0 ≤ more) (hm1 : more < 4294967296) : Calls Tryz.prog 3 #[b.v, .int .i64 a, .int .u32 more] w fun e w' => e = .returned (.bool true) ∧ Below w.heap.size w w' := by
  have HCUT := Lib.hid (fun x W (hx : I64 x) => fare_Cut b x W hx hs)
  obtain ⟨nm, ⟨LA, Lc, L⟩, ⟨o, n, u, s, A, c, l⟩, ⟨oB, nB, uB, sB, AB, cB, lB⟩, ⟨oC, nC, uC, sC, AC, cC, lC⟩, ⟨oD, nD, uD, sD, AD, cD, lD⟩, q, sh, ch⟩ := b
  simp only [Byl.v] at hs HCUT ⊢
  have HB1 : Hid (Below w.heap.size w (w.alloc (.cells #[.string nm, .slice LA L.length Lc, .int .i64 o, .int .i64 n, .int .i64 u, .string s, .slice A l.length c, .int .i64 oB, .int .i64 nB, .int .i64 uB, .string sB, .slice AB lB.length cB, .int .i64 oC, .int .i64 nC, .int .i64 uC, .string sC, .slice AC lC.length cC, .int .i64 oD, .int .i64 nD, .int .i64 uD, .string sD, .slice AD lD.length cD, .int .i64 q, .int .i64 sh, .int .i64 ch] 27))) := Lib.hid (by repeat (first | (with_reducible exact Below.refl _ _) | ((with_reducible refine below_setr ?_ ?_); focus (first | (simp; done) | (simp; omega) | omega)) | ((with_reducible refine below_allocr ?_ ?_); focus (first | (simp; done) | (simp; omega) | omega)) | (with_reducible refine Below.drew ?_) | (with_reducible refine below_drewN ?_ _)))
  have HA1 : Hid (Blk (w.alloc (.cells #[.string nm, .slice LA L.length Lc, .int .i64 o, .int .i64 n, .int .i64 u, .string s, .slice A l.length c, .int .i64 oB, .int .i64 nB, .int .i64 uB, .string sB, .slice AB lB.length cB, .int .i64 oC, .int .i64 nC, .int .i64 uC, .string sC, .slice AC lC.length cC, .int .i64 oD, .int .i64 nD, .int .i64 uD, .string sD, .slice AD lD.length cD, .int .i64 q, .int .i64 sh, .int .i64 ch] 27)) w.heap.size 27 #[.string nm, .slice LA L.length Lc, .int .i64 o, .int .i64 n, .int .i64 u, .string s, .slice A l.length c, .int .i64 oB, .int .i64 nB, .int .i64 uB, .string sB, .slice AB lB.length cB, .int .i64 oC, .int .i64 nC, .int .i64 uC, .string sC, .slice AC lC.length cC, .int .i64 oD, .int .i64 nD, .int .i64 uD, .string sD, .slice AD lD.length cD, .int .i64 q, .int .i64 sh, .int .i64 ch]) := Lib.hid (Blk.new _ _ _)
  go_enter Tryz.func3, Tryz.ntmps3
  go_wp2_with fail
  generalize w.alloc (.cells #[.string nm, .slice LA L.length Lc, .int .i64 o, .int .i64 n, .int .i64 u, .string s, .slice A l.length c, .int .i64 oB, .int .i64 nB, .int .i64 uB, .string sB, .slice AB lB.length cB, .int .i64 oC, .int .i64 nC, .int .i64 uC, .string sC, .slice AC lC.length cC, .int .i64 oD, .int .i64 nD, .int .i64 uD, .string sD, .slice AD lD.length cD, .int .i64 q, .int .i64 sh, .int .i64 ch] 27) = w1 at *
  refine (law_small w1).mono ?_
  rintro e w2 ⟨rfl, hb2⟩
  have HB2 : Hid (Below w.heap.size w w2) := Lib.hid (HB1.out.trans (hb2.mono HB1.out.size))
  have HA2 := Lib.hid (HA1.out.later hb2)
  clear hb2 HB1 HA1
  by_cases h0 : sh < 0
  · skip
    have HC := Lib.hid (cutC_bad (sh := sh) (fa := a) (.inl h0))
    go_wp2_with (refine wpList_load_row rfl 27 (.tmp 3) rfl w.heap.size rfl 27 #[.string nm, .slice LA L.length Lc, .int .i64 o, .int .i64 n, .int .i64 u, .string s, .slice A l.length c, .int .i64 oB, .int .i64 nB, .int .i64 uB, .string sB, .slice AB lB.length cB, .int .i64 oC, .int .i64 nC, .int .i64 uC, .string sC, .slice AC lC.length cC, .int .i64 oD, .int .i64 nD, .int .i64 uD, .string sD, .slice AD lD.length cD, .int .i64 q, .int .i64 sh, .int .i64 ch] (0, 0) _ HA2.out Tryz.underlying27 rfl (by kernel_rfl) ?_)
    refine (HCUT.out a w2 ha).mono ?_
    rintro e w3 ⟨rfl, hb3⟩
    rw [← HC.out]
    have HB3 : Hid (Below w.heap.size w w3) := Lib.hid (HB2.out.trans (hb3.mono HB2.out.size))
    have f23 : w3.cell? ⟨w.heap.size, 23, none⟩ = some (.int .i64 sh) := (HA2.out.later hb3).cell 23
    have fz := (HA2.out.later hb3).lt
    clear hb3 HA2
    go_wp2_with fail
    go_ret
    exact ⟨rfl, HB3.out⟩
  by_cases h1 : 1000 < sh
  · skip
    have HC := Lib.hid (cutC_bad (sh := sh) (fa := a) (.inr (.inl h1)))
    go_wp2_with (refine wpList_load_row rfl 27 (.tmp 3) rfl w.heap.size rfl 27 #[.string nm, .slice LA L.length Lc, .int .i64 o, .int .i64 n, .int .i64 u, .string s, .slice A l.length c, .int .i64 oB, .int .i64 nB, .int .i64 uB, .string sB, .slice AB lB.length cB, .int .i64 oC, .int .i64 nC, .int .i64 uC, .string sC, .slice AC lC.length cC, .int .i64 oD, .int .i64 nD, .int .i64 uD, .string sD, .slice AD lD.length cD, .int .i64 q, .int .i64 sh, .int .i64 ch] (0, 0) _ HA2.out Tryz.underlying27 rfl (by kernel_rfl) ?_)
    refine (HCUT.out a w2 ha).mono ?_
    rintro e w3 ⟨rfl, hb3⟩
    rw [← HC.out]
    have HB3 : Hid (Below w.heap.size w w3) := Lib.hid (HB2.out.trans (hb3.mono HB2.out.size))
    have f23 : w3.cell? ⟨w.heap.size, 23, none⟩ = some (.int .i64 sh) := (HA2.out.later hb3).cell 23
    have fz := (HA2.out.later hb3).lt
    clear hb3 HA2
    go_wp2_with fail
    go_ret
    exact ⟨rfl, HB3.out⟩
  by_cases h2 : a < 0
  · skip
    have HC := Lib.hid (cutC_bad (sh := sh) (fa := a) (.inr (.inr (.inl h2))))
    go_wp2_with (refine wpList_load_row rfl 27 (.tmp 3) rfl w.heap.size rfl 27 #[.string nm, .slice LA L.length Lc, .int .i64 o, .int .i64 n, .int .i64 u, .string s, .slice A l.length c, .int .i64 oB, .int .i64 nB, .int .i64 uB, .string sB, .slice AB lB.length cB, .int .i64 oC, .int .i64 nC, .int .i64 uC, .string sC, .slice AC lC.length cC, .int .i64 oD, .int .i64 nD, .int .i64 uD, .string sD, .slice AD lD.length cD, .int .i64 q, .int .i64 sh, .int .i64 ch] (0, 0) _ HA2.out Tryz.underlying27 rfl (by kernel_rfl) ?_)
    refine (HCUT.out a w2 ha).mono ?_
    rintro e w3 ⟨rfl, hb3⟩
    rw [← HC.out]
    have HB3 : Hid (Below w.heap.size w w3) := Lib.hid (HB2.out.trans (hb3.mono HB2.out.size))
    have f23 : w3.cell? ⟨w.heap.size, 23, none⟩ = some (.int .i64 sh) := (HA2.out.later hb3).cell 23
    have fz := (HA2.out.later hb3).lt
    clear hb3 HA2
    go_wp2_with fail
    go_ret
    exact ⟨rfl, HB3.out⟩
  by_cases h3 : 1000000000000000 < a
  · have h3b : decide (a ≤ 1000000000000000) = false := decide_eq_false (by omega)
    have HC := Lib.hid (cutC_bad (sh := sh) (fa := a) (.inr (.inr (.inr h3))))
    go_wp2_with (refine wpList_load_row rfl 27 (.tmp 3) rfl w.heap.size rfl 27 #[.string nm, .slice LA L.length Lc, .int .i64 o, .int .i64 n, .int .i64 u, .string s, .slice A l.length c, .int .i64 oB, .int .i64 nB, .int .i64 uB, .string sB, .slice AB lB.length cB, .int .i64 oC, .int .i64 nC, .int .i64 uC, .string sC, .slice AC lC.length cC, .int .i64 oD, .int .i64 nD, .int .i64 uD, .string sD, .slice AD lD.length cD, .int .i64 q, .int .i64 sh, .int .i64 ch] (0, 0) _ HA2.out Tryz.underlying27 rfl (by kernel_rfl) ?_)
    refine (HCUT.out a w2 ha).mono ?_
    rintro e w3 ⟨rfl, hb3⟩
    rw [← HC.out]
    have HB3 : Hid (Below w.heap.size w w3) := Lib.hid (HB2.out.trans (hb3.mono HB2.out.size))
    have f23 : w3.cell? ⟨w.heap.size, 23, none⟩ = some (.int .i64 sh) := (HA2.out.later hb3).cell 23
    have fz := (HA2.out.later hb3).lt
    clear hb3 HA2
    go_wp2_with fail
    go_ret
    exact ⟨rfl, HB3.out⟩
  obtain ⟨p, r, hc, hpr, hp0, hr0, hp1, hx0, hx1, hy0, hy1⟩ := cut_facts (a := a) (s := sh) (by omega) (by omega) (by omega) (by omega)
  have HC := Lib.hid hc
  clear hc
  go_wp2_with (refine wpList_load_row rfl 27 (.tmp 3) rfl w.heap.size rfl 27 #[.string nm, .slice LA L.length Lc, .int .i64 o, .int .i64 n, .int .i64 u, .string s, .slice A l.length c, .int .i64 oB, .int .i64 nB, .int .i64 uB, .string sB, .slice AB lB.length cB, .int .i64 oC, .int .i64 nC, .int .i64 uC, .string sC, .slice AC lC.length cC, .int .i64 oD, .int .i64 nD, .int .i64 uD, .string sD, .slice AD lD.length cD, .int .i64 q, .int .i64 sh, .int .i64 ch] (0, 0) _ HA2.out Tryz.underlying27 rfl (by kernel_rfl) ?_)
  refine (HCUT.out a w2 ha).mono ?_
  rintro e w3 ⟨rfl, hb3⟩
  rw [HC.out]
  have HB3 : Hid (Below w.heap.size w w3) := Lib.hid (HB2.out.trans (hb3.mono HB2.out.size))
  have HA3 := Lib.hid (HA2.out.later hb3)
  have f23 : w3.cell? ⟨w.heap.size, 23, none⟩ = some (.int .i64 sh) := HA3.out.cell 23
  have fz := HA3.out.lt
  clear hb3 HA2
  go_wp2_with (refine wpList_load_row rfl 27 (.tmp 3) rfl w.heap.size rfl 27 #[.string nm, .slice LA L.length Lc, .int .i64 o, .int .i64 n, .int .i64 u, .string s, .slice A l.length c, .int .i64 oB, .int .i64 nB, .int .i64 uB, .string sB, .slice AB lB.length cB, .int .i64 oC, .int .i64 nC, .int .i64 uC, .string sC, .slice AC lC.length cC, .int .i64 oD, .int .i64 nD, .int .i64 uD, .string sD, .slice AD lD.length cD, .int .i64 q, .int .i64 sh, .int .i64 ch] (0, 0) _ HA3.out Tryz.underlying27 rfl (by kernel_rfl) ?_)
  · skip
    have hml : I64 (1000000000000000) := by unfold I64; omega
    obtain ⟨p2, r2, hc2, hpr2, hp02, hr02, hp12, hx02, hx12, hy02, hy12⟩ := cut_facts (a := 1000000000000000) (s := sh) (by omega) (by omega) (by omega) (by omega)
    obtain ⟨hle1, hle2⟩ := cut_more (by omega) (by omega) (by omega) (by omega) (by omega) HC.out hc2
    refine (HCUT.out (1000000000000000) w3 hml).mono ?_
    rintro e w4 ⟨rfl, hb4⟩
    rw [hc2]
    have HB4 : Hid (Below w.heap.size w w4) := Lib.hid (HB3.out.trans (hb4.mono HB3.out.size))
    clear hb4 hc2
    go_wp2_with fail
    go_ret
    exact ⟨rfl, HB4.out⟩
  · skip
    have hml : I64 (a + more) := by unfold I64; omega
    obtain ⟨p2, r2, hc2, hpr2, hp02, hr02, hp12, hx02, hx12, hy02, hy12⟩ := cut_facts (a := a + more) (s := sh) (by omega) (by omega) (by omega) (by omega)
    obtain ⟨hle1, hle2⟩ := cut_more (by omega) (by omega) (by omega) (by omega) (by omega) HC.out hc2
    refine (HCUT.out (a + more) w3 hml).mono ?_
    rintro e w4 ⟨rfl, hb4⟩
    rw [hc2]
    have HB4 : Hid (Below w.heap.size w w4) := Lib.hid (HB3.out.trans (hb4.mono HB3.out.size))
    clear hb4 hc2
    go_wp2_with fail
    go_ret
    exact ⟨rfl, HB4.out⟩
end Go.Proofs.YtcgocdhhneckhaaGreat
