/- Walk: small of the laws of layer 33: true (printed by tools/gensmall33.py). -/
import Derived.Test.YtcgocdhhneckhaaGreatFnammxbt
namespace Go.Proofs.YtcgocdhhneckhaaGreat
open Go.RowKit
theorem facts_nil {F : Nat → Prop} {w : World} : FactsAt F w ⟨none, 0, []⟩ := ⟨Rd.nil _ _ _ _, fun x hx => by cases hx⟩
set_option maxRecDepth 100000 in
set_option maxHeartbeats 6400000 in
theorem law_small (w : World) : Calls Tryz.prog 7 #[] w fun e w' => e = .returned (.bool true) ∧ Below w.heap.size w w' := by
  go_enter Tryz.func7, Tryz.ntmps7
  have HB0 : Hid (Below w.heap.size w w) := Lib.hid (Below.refl _ _)
  have HB0x := HB0
  clear HB0x
  go_wp2_with fail
  refine (fare_Trip 0 0 0 0 0 0 0 2 0 0 10 20 0 0 1 _).mono ?_
  rintro e w1 ⟨sT1, rfl, he1, hf1, hb1⟩
  have HB1 : Hid (Below w.heap.size w w1) := Lib.hid (HB0.out.trans (hb1.mono HB0.out.size))
  have ET1 := Lib.hid he1
  have T1_1 := Lib.hid hf1
  clear he1 hf1
  clear hb1 HB0
  go_wp2_with fail
  refine (law_rules _).mono ?_
  rintro e w2 ⟨Aa1, Aa2, Aa3, Aa4, Aa5, Aa6, ca1, ca2, ca3, ca4, ca5, ca6, rfl, hy2, hb2⟩
  have HB2 : Hid (Below w.heap.size w w2) := Lib.hid (HB1.out.trans (hb2.mono HB1.out.size))
  have T1_2 := Lib.hid (T1_1.out.later hb2)
  clear T1_1
  have Ba_2 := Lib.hid hy2
  clear hy2
  clear hb2 HB1
  go_wp2_with fail
  refine (fare_Rider 0 0 3 0 _).mono ?_
  rintro e w3 ⟨sM1, rfl, he3, hf3, hb3⟩
  have HB3 : Hid (Below w.heap.size w w3) := Lib.hid (HB2.out.trans (hb3.mono HB2.out.size))
  have T1_3 := Lib.hid (T1_2.out.later hb3)
  clear T1_2
  have Ba_3 := Lib.hid (Ba_2.out.later hb3)
  clear Ba_2
  have EM1 := Lib.hid he3
  have M1_3 := Lib.hid hf3
  clear he3 hf3
  clear hb3 HB2
  have hc4 := fare_Admit (ruleB Aa1 Aa2 Aa3 Aa4 Aa5 Aa6 ca1 ca2 ca3 ca4 ca5 ca6) sT1 sM1 w3 Ba_3.out (Nat.zero_le _) T1_3.out M1_3.out
  have hr4 : admC (ruleB Aa1 Aa2 Aa3 Aa4 Aa5 Aa6 ca1 ca2 ca3 ca4 ca5 ca6) sT1.l sM1.l = (true, 0) := by rw [ET1.out, EM1.out]; exact rule_adm1 _ _ _ _ _ _ _ _ _ _ _ _
  rw [hr4] at hc4
  clear hr4
  go_wp2_with fail
  refine (hc4).mono ?_
  rintro e w4 ⟨rfl, hb4⟩
  have HB4 : Hid (Below w.heap.size w w4) := Lib.hid (HB3.out.trans (hb4.mono HB3.out.size))
  have T1_4 := Lib.hid (T1_3.out.later hb4)
  clear T1_3
  have Ba_4 := Lib.hid (Ba_3.out.later hb4)
  clear Ba_3
  have M1_4 := Lib.hid (M1_3.out.later hb4)
  clear M1_3
  clear hc4
  clear hb4 HB3
  clear Ba_4
  clear M1_4
  go_wp2_with fail
  refine (law_rules _).mono ?_
  rintro e w5 ⟨Ab1, Ab2, Ab3, Ab4, Ab5, Ab6, cb1, cb2, cb3, cb4, cb5, cb6, rfl, hy5, hb5⟩
  have HB5 : Hid (Below w.heap.size w w5) := Lib.hid (HB4.out.trans (hb5.mono HB4.out.size))
  have T1_5 := Lib.hid (T1_4.out.later hb5)
  clear T1_4
  have Bb_5 := Lib.hid hy5
  clear hy5
  clear hb5 HB4
  go_wp2_with fail
  refine (fare_Rider 0 0 4 0 _).mono ?_
  rintro e w6 ⟨sM2, rfl, he6, hf6, hb6⟩
  have HB6 : Hid (Below w.heap.size w w6) := Lib.hid (HB5.out.trans (hb6.mono HB5.out.size))
  have T1_6 := Lib.hid (T1_5.out.later hb6)
  clear T1_5
  have Bb_6 := Lib.hid (Bb_5.out.later hb6)
  clear Bb_5
  have EM2 := Lib.hid he6
  have M2_6 := Lib.hid hf6
  clear he6 hf6
  clear hb6 HB5
  have hc7 := fare_Admit (ruleB Ab1 Ab2 Ab3 Ab4 Ab5 Ab6 cb1 cb2 cb3 cb4 cb5 cb6) sT1 sM2 w6 Bb_6.out (Nat.zero_le _) T1_6.out M2_6.out
  have hr7 : admC (ruleB Ab1 Ab2 Ab3 Ab4 Ab5 Ab6 cb1 cb2 cb3 cb4 cb5 cb6) sT1.l sM2.l = (false, 0) := by rw [ET1.out, EM2.out]; exact rule_adm2 _ _ _ _ _ _ _ _ _ _ _ _
  rw [hr7] at hc7
  clear hr7
  go_wp2_with fail
  refine (hc7).mono ?_
  rintro e w7 ⟨rfl, hb7⟩
  have HB7 : Hid (Below w.heap.size w w7) := Lib.hid (HB6.out.trans (hb7.mono HB6.out.size))
  have T1_7 := Lib.hid (T1_6.out.later hb7)
  clear T1_6
  have Bb_7 := Lib.hid (Bb_6.out.later hb7)
  clear Bb_6
  have M2_7 := Lib.hid (M2_6.out.later hb7)
  clear M2_6
  clear hc7
  clear hb7 HB6
  clear Bb_7
  clear M2_7
  go_wp2_with fail
  refine (law_rules _).mono ?_
  rintro e w8 ⟨Ac1, Ac2, Ac3, Ac4, Ac5, Ac6, cc1, cc2, cc3, cc4, cc5, cc6, rfl, hy8, hb8⟩
  have HB8 : Hid (Below w.heap.size w w8) := Lib.hid (HB7.out.trans (hb8.mono HB7.out.size))
  have T1_8 := Lib.hid (T1_7.out.later hb8)
  clear T1_7
  have Bc_8 := Lib.hid hy8
  clear hy8
  clear hb8 HB7
  go_wp2_with fail
  refine (fare_Trip 0 0 0 0 0 0 0 0 0 0 10 21 0 0 1 _).mono ?_
  rintro e w9 ⟨sT2, rfl, he9, hf9, hb9⟩
  have HB9 : Hid (Below w.heap.size w w9) := Lib.hid (HB8.out.trans (hb9.mono HB8.out.size))
  have T1_9 := Lib.hid (T1_8.out.later hb9)
  clear T1_8
  have Bc_9 := Lib.hid (Bc_8.out.later hb9)
  clear Bc_8
  have ET2 := Lib.hid he9
  have T2_9 := Lib.hid hf9
  clear he9 hf9
  clear hb9 HB8
  go_wp2_with fail
  refine (fare_Rider 0 0 3 0 _).mono ?_
  rintro e w10 ⟨sM3, rfl, he10, hf10, hb10⟩
  have HB10 : Hid (Below w.heap.size w w10) := Lib.hid (HB9.out.trans (hb10.mono HB9.out.size))
  have T1_10 := Lib.hid (T1_9.out.later hb10)
  clear T1_9
  have Bc_10 := Lib.hid (Bc_9.out.later hb10)
  clear Bc_9
  have T2_10 := Lib.hid (T2_9.out.later hb10)
  clear T2_9
  have EM3 := Lib.hid he10
  have M3_10 := Lib.hid hf10
  clear he10 hf10
  clear hb10 HB9
  have hc11 := fare_Admit (ruleB Ac1 Ac2 Ac3 Ac4 Ac5 Ac6 cc1 cc2 cc3 cc4 cc5 cc6) sT2 sM3 w10 Bc_10.out (Nat.zero_le _) T2_10.out M3_10.out
  have hr11 : admC (ruleB Ac1 Ac2 Ac3 Ac4 Ac5 Ac6 cc1 cc2 cc3 cc4 cc5 cc6) sT2.l sM3.l = (false, 0) := by rw [ET2.out, EM3.out]; exact rule_adm3 _ _ _ _ _ _ _ _ _ _ _ _
  rw [hr11] at hc11
  clear hr11
  go_wp2_with fail
  refine (hc11).mono ?_
  rintro e w11 ⟨rfl, hb11⟩
  have HB11 : Hid (Below w.heap.size w w11) := Lib.hid (HB10.out.trans (hb11.mono HB10.out.size))
  have T1_11 := Lib.hid (T1_10.out.later hb11)
  clear T1_10
  have Bc_11 := Lib.hid (Bc_10.out.later hb11)
  clear Bc_10
  have T2_11 := Lib.hid (T2_10.out.later hb11)
  clear T2_10
  have M3_11 := Lib.hid (M3_10.out.later hb11)
  clear M3_10
  clear hc11
  clear hb11 HB10
  clear Bc_11
  clear M3_11
  clear T2_11
  go_wp2_with fail
  refine (law_rules _).mono ?_
  rintro e w12 ⟨Ad1, Ad2, Ad3, Ad4, Ad5, Ad6, cd1, cd2, cd3, cd4, cd5, cd6, rfl, hy12, hb12⟩
  have HB12 : Hid (Below w.heap.size w w12) := Lib.hid (HB11.out.trans (hb12.mono HB11.out.size))
  have T1_12 := Lib.hid (T1_11.out.later hb12)
  clear T1_11
  have Bd_12 := Lib.hid hy12
  clear hy12
  clear hb12 HB11
  go_wp2_with fail
  refine (fare_Trip 0 0 0 0 0 0 0 0 0 0 12 20 0 0 1 _).mono ?_
  rintro e w13 ⟨sT3, rfl, he13, hf13, hb13⟩
  have HB13 : Hid (Below w.heap.size w w13) := Lib.hid (HB12.out.trans (hb13.mono HB12.out.size))
  have T1_13 := Lib.hid (T1_12.out.later hb13)
  clear T1_12
  have Bd_13 := Lib.hid (Bd_12.out.later hb13)
  clear Bd_12
  have ET3 := Lib.hid he13
  have T3_13 := Lib.hid hf13
  clear he13 hf13
  clear hb13 HB12
  have hc14 := fare_Fare (ruleB Ad1 Ad2 Ad3 Ad4 Ad5 Ad6 cd1 cd2 cd3 cd4 cd5 cd6) sT3 (⟨none, 0, []⟩ : Sl FT) w13 Bd_13.out (Nat.zero_le _) T3_13.out facts_nil
  have hr14 : whC (ruleB Ad1 Ad2 Ad3 Ad4 Ad5 Ad6 cd1 cd2 cd3 cd4 cd5 cd6) (ruleB Ad1 Ad2 Ad3 Ad4 Ad5 Ad6 cd1 cd2 cd3 cd4 cd5 cd6).fa sT3.l (⟨none, 0, []⟩ : Sl FT).l = (220, 0) := by rw [ET3.out]; exact rule_fare _ _ _ _ _ _ _ _ _ _ _ _
  rw [hr14] at hc14
  clear hr14
  simp only [List.length_nil] at hc14
  go_wp2_with fail
  refine (hc14).mono ?_
  rintro e w14 ⟨rfl, hb14⟩
  have HB14 : Hid (Below w.heap.size w w14) := Lib.hid (HB13.out.trans (hb14.mono HB13.out.size))
  have T1_14 := Lib.hid (T1_13.out.later hb14)
  clear T1_13
  have Bd_14 := Lib.hid (Bd_13.out.later hb14)
  clear Bd_13
  have T3_14 := Lib.hid (T3_13.out.later hb14)
  clear T3_13
  clear hc14
  clear hb14 HB13
  clear Bd_14
  clear T3_14
  go_wp2_with fail
  refine (law_rules _).mono ?_
  rintro e w15 ⟨Ae1, Ae2, Ae3, Ae4, Ae5, Ae6, ce1, ce2, ce3, ce4, ce5, ce6, rfl, hy15, hb15⟩
  have HB15 : Hid (Below w.heap.size w w15) := Lib.hid (HB14.out.trans (hb15.mono HB14.out.size))
  have T1_15 := Lib.hid (T1_14.out.later hb15)
  clear T1_14
  have Be_15 := Lib.hid hy15
  clear hy15
  clear hb15 HB14
  have hc16 := fare_Noshow (ruleB Ae1 Ae2 Ae3 Ae4 Ae5 Ae6 ce1 ce2 ce3 ce4 ce5 ce6) (⟨none, 0, []⟩ : Sl FT) (⟨none, 0, []⟩ : Sl FT) w15 Be_15.out (Nat.zero_le _) facts_nil facts_nil
  have hr16 : whC (ruleB Ae1 Ae2 Ae3 Ae4 Ae5 Ae6 ce1 ce2 ce3 ce4 ce5 ce6) (ruleB Ae1 Ae2 Ae3 Ae4 Ae5 Ae6 ce1 ce2 ce3 ce4 ce5 ce6).no (⟨none, 0, []⟩ : Sl FT).l (⟨none, 0, []⟩ : Sl FT).l = (200, 0) := by exact rule_noshow _ _ _ _ _ _ _ _ _ _ _ _
  rw [hr16] at hc16
  clear hr16
  simp only [List.length_nil] at hc16
  go_wp2_with fail
  refine (hc16).mono ?_
  rintro e w16 ⟨rfl, hb16⟩
  have HB16 : Hid (Below w.heap.size w w16) := Lib.hid (HB15.out.trans (hb16.mono HB15.out.size))
  have T1_16 := Lib.hid (T1_15.out.later hb16)
  clear T1_15
  have Be_16 := Lib.hid (Be_15.out.later hb16)
  clear Be_15
  clear hc16
  clear hb16 HB15
  clear Be_16
  go_wp2_with fail
  refine (law_rules _).mono ?_
  rintro e w17 ⟨Af1, Af2, Af3, Af4, Af5, Af6, cf1, cf2, cf3, cf4, cf5, cf6, rfl, hy17, hb17⟩
  have HB17 : Hid (Below w.heap.size w w17) := Lib.hid (HB16.out.trans (hb17.mono HB16.out.size))
  have T1_17 := Lib.hid (T1_16.out.later hb17)
  clear T1_16
  have Bf_17 := Lib.hid hy17
  clear hy17
  clear hb17 HB16
  have hc := fare_Cut (ruleB Af1 Af2 Af3 Af4 Af5 Af6 cf1 cf2 cf3 cf4 cf5 cf6) 220 w17 (by unfold I64; omega) (by show I64 150; unfold I64; omega)
  have hcc : cutC (ruleB Af1 Af2 Af3 Af4 Af5 Af6 cf1 cf2 cf3 cf4 cf5 cf6).sh 220 = (33, 187, 0) := by show cutC 150 220 = _; decide
  rw [hcc] at hc
  clear hcc
  go_wp2_with fail
  refine (hc).mono ?_
  rintro e w18 ⟨rfl, hb18⟩
  have HB18 : Hid (Below w.heap.size w w18) := Lib.hid (HB17.out.trans (hb18.mono HB17.out.size))
  have T1_18 := Lib.hid (T1_17.out.later hb18)
  clear T1_17
  have Bf_18 := Lib.hid (Bf_17.out.later hb18)
  clear Bf_17
  clear hc
  clear hb18 HB17
  have hl : Hid (sT1.l.length = 8) := Lib.hid (by rw [ET1.out]; rfl)
  rw [hl.out]
  go_wp2_with fail
  go_ret
  exact ⟨rfl, HB18.out⟩
end Go.Proofs.YtcgocdhhneckhaaGreat
