/- THE LAW FareTotal IS PROVED HERE. For all bylaws within the bounds that units.Check accepts, requests, and numbers of at most 2^40: every question has an answer, or a division by 0, or a number that is too great, prevents it; amounts are from 0 to 10^15. No condition. -/
import Derived.Test.YtcgocdhhneckhaaGreatFtotmza
import Derived.Test.YtcgocdhhneckhaaGreatFcutmxbu
import Derived.Test.YtcgocdhhneckhaaGreatFcutmxbv
import Derived.OpenShut
/- Walk: FareTotal. -/
namespace Go.Proofs.YtcgocdhhneckhaaGreat
open Go.RowKit
theorem near_iff {n : Int} : (decide (n ≤ 1099511627776) && decide (-1099511627776 ≤ n)) = true ↔ near n := by
  unfold near
  rw [Bool.and_eq_true, decide_eq_true_eq, decide_eq_true_eq]
  omega
theorem near_64 {n : Int} (h : near n) : I64 n := by unfold near at h; unfold I64; omega
theorem run_row {P : Program} {o : Oper} {a : Act} {w : World} {g : Nat} {t ty : TypeId} {cs : Array Value} {d : TypeDesc} {x : Operand} (ho : o.op = .load ty x) (hx : a.eval x = .pointer (some ⟨g, 0, none⟩)) (hg : Blk w g t cs) (hu : P.underlying ty = some d) (hd : (match d with | .struct _ | .array _ _ => true | _ => false) = true) (hi : (P.info? ty).map (·.size) = some cs.size) : (execOp a.eval o).run P w = .ok (.value (.agg cs)) w := by
  unfold execOp
  simp only [ho, hx, Instr.loadAt, Instr.sureAddr, Sem.run_bind, Sem.run_pure, Result.andThen_ok, run_loadVar_row w g t ty cs (0, 0) d hg hu hd hi]
theorem ask_v (b : Byl) (sT sM : Sl FT) (T M : List FT) (w : World) (hT0 : sT.l = T) (hM0 : sM.l = M) (hb : Byl.At (· < w.heap.size) w b) (h40 : b.lets.l.length ≤ 1000000) (hT : FactsAt (· < w.heap.size) w sT) (hM : FactsAt (· < w.heap.size) w sM) (V1 : Bool × Int) (V2 V3 V4 : Int × Int) (h1 : admC b T M = V1) (h2 : whC b b.fa T M = V2) (h3 : whC b b.la T M = V3) (h4 : whC b b.no T M = V4) :
    Calls Tryz.prog 23 #[b.v, .slice sT.A sT.l.length sT.c, .slice sM.A sM.l.length sM.c] w fun r w' => r = .returned (.agg #[.bool (V1).1, .int .i64 (V2).1, .int .i64 (V3).1, .int .i64 (V4).1, .int .i64 (V1).2, .int .i64 (V2).2, .int .i64 (V3).2, .int .i64 (V4).2]) ∧ Below w.heap.size w w' := by
  have h := law_ask b sT sM w hb h40 hT hM
  subst h1 h2 h3 h4
  rw [← hT0, ← hM0]
  exact h
def EOK (K : Int) (k : Nat) (e : Int) : Prop := (K ≠ 0 → e = K) ∧ (K = 0 → e = 0 ∨ e = 6 ∨ e = 15 ∨ e = 3) ∧ (k = 0 → e ≠ 3)
def AOK (a e : Int) : Prop := 0 ≤ a ∧ a ≤ 1000000000000000 ∧ (e ≠ 0 → a = 0)
theorem ft_facts (b : Byl) {N M se cr ba : Int} (hN : near N) (hM : near M) (h1 : near se) (h2 : near cr) (h3 : near ba) {V1 : Bool × Int} {V2 V3 V4 : Int × Int} (q1 : admC b (tripL N M N M se cr ba 2) (riderL M N 1 2) = V1) (q2 : whC b b.fa (tripL N M N M se cr ba 2) (riderL M N 1 2) = V2) (q3 : whC b b.la (tripL N M N M se cr ba 2) (riderL M N 1 2) = V3) (q4 : whC b b.no (tripL N M N M se cr ba 2) (riderL M N 1 2) = V4) :
    EOK (chkU b) 0 V1.2 ∧ EOK (chkU b) 1 V2.2 ∧ EOK (chkU b) 2 V3.2 ∧ EOK (chkU b) 3 V4.2 ∧ AOK V2.1 V2.2 ∧ AOK V3.1 V3.2 ∧ AOK V4.1 V4.2 ∧ (V1.2 ≠ 0 → V1.1 = false) := by
  have hs : ∀ x, x ∈ [b.ad, b.fa, b.la, b.no] → chkU b = 0 → Snd (evalF b.lets.l x (tripL N M N M se cr ba 2) (riderL M N 1 2)) := fun x hx h =>
    eval_snd h (trip_factsB hN hM hN hM h1 h2 h3 (by unfold near; omega)) (rider_factsB hM hN (by unfold near; omega) (by unfold near; omega)) (fun s hs => trip_known _ _ _ _ _ _ _ _ s hs) (fun s hs => rider_known _ _ _ _ s hs) hx
  have n3 := chkU_not3 b
  obtain ⟨a1, a2, a3⟩ := admC_facts (hs b.ad (by simp))
  obtain ⟨b1, b2, b3, b4, b5⟩ := whC_facts (hs b.fa (by simp))
  obtain ⟨c1, c2, c3, c4, c5⟩ := whC_facts (hs b.la (by simp))
  obtain ⟨d1, d2, d3, d4, d5⟩ := whC_facts (hs b.no (by simp))
  rw [q1] at a1 a2 a3
  rw [q2] at b1 b2 b3 b4 b5
  rw [q3] at c1 c2 c3 c4 c5
  rw [q4] at d1 d2 d3 d4 d5
  refine ⟨⟨a1, fun h => ?_, fun _ h => ?_⟩, ⟨b1, b2, fun h => absurd h (by omega)⟩, ⟨c1, c2, fun h => absurd h (by omega)⟩, ⟨d1, d2, fun h => absurd h (by omega)⟩, ⟨b3, b4, b5⟩, ⟨c3, c4, c5⟩, ⟨d3, d4, d5⟩, a3⟩
  · rcases a2 h with h | h | h <;> simp [h]
  · by_cases h0 : chkU b = 0
    · rcases a2 h0 with h | h | h <;> omega
    · exact n3 ((a1 h0).symm.trans h)
set_option maxRecDepth 100000 in
set_option maxHeartbeats 6400000 in
theorem faretotal (b : Byl) (mb fr to ea la du ri se cr ba N M : Int) (w : World) (hb : Byl.At (· < w.heap.size) w b) (hN : I64 N) (hM : I64 M) : Calls Tryz.prog 6 #[b.v, .agg #[.int .i64 mb, .int .i64 fr, .int .i64 to, .int .i64 ea, .int .i64 la, .int .i64 du, .int .i64 ri, .int .i64 se, .int .i64 cr, .int .i64 ba], .int .i64 N, .int .i64 M] w fun e w' => e = .returned (.bool true) ∧ Below w.heap.size w w' := by
  have HP := Lib.hid hb
  have hn := hb.lets.rd.len
  clear hb
  obtain ⟨b0, hb0⟩ : ∃ b0, b0 = b := ⟨_, rfl⟩
  obtain ⟨nm, ⟨LA, Lc, L⟩, ⟨o, n, u, s, A, c, l⟩, ⟨oB, nB, uB, sB, AB, cB, lB⟩, ⟨oC, nC, uC, sC, AC, cC, lC⟩, ⟨oD, nD, uD, sD, AD, cD, lD⟩, q, sh, ch⟩ := b
  have HBV : Hid (b0.v = .agg #[.string nm, .slice LA L.length Lc, .int .i64 o, .int .i64 n, .int .i64 u, .string s, .slice A l.length c, .int .i64 oB, .int .i64 nB, .int .i64 uB, .string sB, .slice AB lB.length cB, .int .i64 oC, .int .i64 nC, .int .i64 uC, .string sC, .slice AC lC.length cC, .int .i64 oD, .int .i64 nD, .int .i64 uD, .string sD, .slice AD lD.length cD, .int .i64 q, .int .i64 sh, .int .i64 ch]) := Lib.hid (by rw [hb0]; rfl)
  have HPB : Hid (Byl.At (· < w.heap.size) w b0) := Lib.hid (by rw [hb0]; exact HP.out)
  clear hb0 HP
  simp only at hn
  simp only [Byl.v]
  have HB1 : Hid (Below w.heap.size w ((w.alloc (.cells #[.string nm, .slice LA L.length Lc, .int .i64 o, .int .i64 n, .int .i64 u, .string s, .slice A l.length c, .int .i64 oB, .int .i64 nB, .int .i64 uB, .string sB, .slice AB lB.length cB, .int .i64 oC, .int .i64 nC, .int .i64 uC, .string sC, .slice AC lC.length cC, .int .i64 oD, .int .i64 nD, .int .i64 uD, .string sD, .slice AD lD.length cD, .int .i64 q, .int .i64 sh, .int .i64 ch] 27)).alloc (.cells #[.int .i64 mb, .int .i64 fr, .int .i64 to, .int .i64 ea, .int .i64 la, .int .i64 du, .int .i64 ri, .int .i64 se, .int .i64 cr, .int .i64 ba] 36))) := Lib.hid (by repeat (first | (with_reducible exact Below.refl _ _) | ((with_reducible refine below_setr ?_ ?_); focus (first | (simp; done) | (simp; omega) | omega)) | ((with_reducible refine below_allocr ?_ ?_); focus (first | (simp; done) | (simp; omega) | omega)) | (with_reducible refine Below.drew ?_) | (with_reducible refine below_drewN ?_ _)))
  have HA1 : Hid (Blk ((w.alloc (.cells #[.string nm, .slice LA L.length Lc, .int .i64 o, .int .i64 n, .int .i64 u, .string s, .slice A l.length c, .int .i64 oB, .int .i64 nB, .int .i64 uB, .string sB, .slice AB lB.length cB, .int .i64 oC, .int .i64 nC, .int .i64 uC, .string sC, .slice AC lC.length cC, .int .i64 oD, .int .i64 nD, .int .i64 uD, .string sD, .slice AD lD.length cD, .int .i64 q, .int .i64 sh, .int .i64 ch] 27)).alloc (.cells #[.int .i64 mb, .int .i64 fr, .int .i64 to, .int .i64 ea, .int .i64 la, .int .i64 du, .int .i64 ri, .int .i64 se, .int .i64 cr, .int .i64 ba] 36)) w.heap.size 27 #[.string nm, .slice LA L.length Lc, .int .i64 o, .int .i64 n, .int .i64 u, .string s, .slice A l.length c, .int .i64 oB, .int .i64 nB, .int .i64 uB, .string sB, .slice AB lB.length cB, .int .i64 oC, .int .i64 nC, .int .i64 uC, .string sC, .slice AC lC.length cC, .int .i64 oD, .int .i64 nD, .int .i64 uD, .string sD, .slice AD lD.length cD, .int .i64 q, .int .i64 sh, .int .i64 ch]) := Lib.hid ((Blk.new _ _ _).alloc _)
  have HQ1 : Hid (Blk ((w.alloc (.cells #[.string nm, .slice LA L.length Lc, .int .i64 o, .int .i64 n, .int .i64 u, .string s, .slice A l.length c, .int .i64 oB, .int .i64 nB, .int .i64 uB, .string sB, .slice AB lB.length cB, .int .i64 oC, .int .i64 nC, .int .i64 uC, .string sC, .slice AC lC.length cC, .int .i64 oD, .int .i64 nD, .int .i64 uD, .string sD, .slice AD lD.length cD, .int .i64 q, .int .i64 sh, .int .i64 ch] 27)).alloc (.cells #[.int .i64 mb, .int .i64 fr, .int .i64 to, .int .i64 ea, .int .i64 la, .int .i64 du, .int .i64 ri, .int .i64 se, .int .i64 cr, .int .i64 ba] 36)) (w.heap.size + 1) 36 #[.int .i64 mb, .int .i64 fr, .int .i64 to, .int .i64 ea, .int .i64 la, .int .i64 du, .int .i64 ri, .int .i64 se, .int .i64 cr, .int .i64 ba]) := Lib.hid (Blk.new' (by simp))
  go_enter Tryz.func6, Tryz.ntmps6
  go_wp2_with fail
  generalize (w.alloc (.cells #[.string nm, .slice LA L.length Lc, .int .i64 o, .int .i64 n, .int .i64 u, .string s, .slice A l.length c, .int .i64 oB, .int .i64 nB, .int .i64 uB, .string sB, .slice AB lB.length cB, .int .i64 oC, .int .i64 nC, .int .i64 uC, .string sC, .slice AC lC.length cC, .int .i64 oD, .int .i64 nD, .int .i64 uD, .string sD, .slice AD lD.length cD, .int .i64 q, .int .i64 sh, .int .i64 ch] 27)).alloc (.cells #[.int .i64 mb, .int .i64 fr, .int .i64 to, .int .i64 ea, .int .i64 la, .int .i64 du, .int .i64 ri, .int .i64 se, .int .i64 cr, .int .i64 ba] 36) = w1 at *
  refine (law_small w1).mono ?_
  rintro e w2 ⟨rfl, hb2⟩
  have HB2 : Hid (Below w.heap.size w w2) := Lib.hid (HB1.out.trans (hb2.mono HB1.out.size))
  have HA2 := Lib.hid (HA1.out.later hb2)
  have HQ2 := Lib.hid (HQ1.out.later hb2)
  clear hb2 HB1 HA1 HQ1
  go_wp2_with (refine wpList_load_row rfl 27 (.tmp 4) rfl w.heap.size rfl 27 #[.string nm, .slice LA L.length Lc, .int .i64 o, .int .i64 n, .int .i64 u, .string s, .slice A l.length c, .int .i64 oB, .int .i64 nB, .int .i64 uB, .string sB, .slice AB lB.length cB, .int .i64 oC, .int .i64 nC, .int .i64 uC, .string sC, .slice AC lC.length cC, .int .i64 oD, .int .i64 nD, .int .i64 uD, .string sD, .slice AD lD.length cD, .int .i64 q, .int .i64 sh, .int .i64 ch] (0, 0) _ HA2.out Tryz.underlying27 rfl (by kernel_rfl) ?_)
  have hf := few33 b0 ⟨none, 0, []⟩ ⟨none, 0, []⟩ w2 (HPB.out.later HB2.out) facts_nil facts_nil
  rw [HBV.out] at hf
  simp only [List.length_nil] at hf
  refine hf.mono ?_
  clear hf
  rintro e w4 ⟨t, rfl, ht, hb4⟩
  have HB4 : Hid (Below w.heap.size w w4) := Lib.hid (HB2.out.trans (hb4.mono HB2.out.size))
  have HA4 := Lib.hid (HA2.out.later hb4)
  have HQ4 := Lib.hid (HQ2.out.later hb4)
  clear hb4 HB2 HA2 HQ2
  rcases t
  · go_wp2_with fail
    go_ret
    exact ⟨rfl, HB4.out⟩
  have HL6 : Hid (b0.lets.l.length ≤ 1000000) := Lib.hid (by have := (ht rfl).1; omega)
  clear ht
  obtain ⟨q7, q8, q9, qz⟩ : w4.cell? ⟨w.heap.size + 1, 7, none⟩ = some (.int .i64 se) ∧ w4.cell? ⟨w.heap.size + 1, 8, none⟩ = some (.int .i64 cr) ∧ w4.cell? ⟨w.heap.size + 1, 9, none⟩ = some (.int .i64 ba) ∧ w.heap.size + 1 < w4.heap.size := ⟨HQ4.out.cell 7, HQ4.out.cell 8, HQ4.out.cell 9, HQ4.out.lt⟩
  go_wp2_with fail
  refine (law_near N _).mono ?_
  rintro e w' ⟨rfl, hw⟩
  replace hw := hw.symm
  subst hw
  obtain ⟨t, ht⟩ : ∃ t, (decide (N ≤ 1099511627776) && decide (-1099511627776 ≤ N)) = t := ⟨_, rfl⟩
  rw [ht]
  rcases t
  · go_wp2_with fail
    go_ret
    exact ⟨rfl, HB4.out⟩
  have HNN := Lib.hid (near_iff.1 ht)
  clear ht
  go_wp2_with fail
  refine (law_near M _).mono ?_
  rintro e w' ⟨rfl, hw⟩
  replace hw := hw.symm
  subst hw
  obtain ⟨t, ht⟩ : ∃ t, (decide (M ≤ 1099511627776) && decide (-1099511627776 ≤ M)) = t := ⟨_, rfl⟩
  rw [ht]
  rcases t
  · go_wp2_with fail
    go_ret
    exact ⟨rfl, HB4.out⟩
  have HNM := Lib.hid (near_iff.1 ht)
  clear ht
  go_wp2_with fail
  refine (law_near se _).mono ?_
  rintro e w' ⟨rfl, hw⟩
  replace hw := hw.symm
  subst hw
  obtain ⟨t, ht⟩ : ∃ t, (decide (se ≤ 1099511627776) && decide (-1099511627776 ≤ se)) = t := ⟨_, rfl⟩
  rw [ht]
  rcases t
  · go_wp2_with fail
    go_ret
    exact ⟨rfl, HB4.out⟩
  have HNS := Lib.hid (near_iff.1 ht)
  clear ht
  go_wp2_with fail
  refine (law_near cr _).mono ?_
  rintro e w' ⟨rfl, hw⟩
  replace hw := hw.symm
  subst hw
  obtain ⟨t, ht⟩ : ∃ t, (decide (cr ≤ 1099511627776) && decide (-1099511627776 ≤ cr)) = t := ⟨_, rfl⟩
  rw [ht]
  rcases t
  · go_wp2_with fail
    go_ret
    exact ⟨rfl, HB4.out⟩
  have HNC := Lib.hid (near_iff.1 ht)
  clear ht
  go_wp2_with fail
  refine (law_near ba _).mono ?_
  rintro e w' ⟨rfl, hw⟩
  replace hw := hw.symm
  subst hw
  obtain ⟨t, ht⟩ : ∃ t, (decide (ba ≤ 1099511627776) && decide (-1099511627776 ≤ ba)) = t := ⟨_, rfl⟩
  rw [ht]
  rcases t
  · go_wp2_with fail
    go_ret
    exact ⟨rfl, HB4.out⟩
  have HNB := Lib.hid (near_iff.1 ht)
  clear ht
  go_wp2_with fail
  clear q7 q8 q9 qz
  obtain ⟨V1, hV1⟩ : ∃ V, admC b0 (tripL N M N M se cr ba 2) (riderL M N 1 2) = V := ⟨_, rfl⟩
  obtain ⟨V2, hV2⟩ : ∃ V, whC b0 b0.fa (tripL N M N M se cr ba 2) (riderL M N 1 2) = V := ⟨_, rfl⟩
  obtain ⟨V3, hV3⟩ : ∃ V, whC b0 b0.la (tripL N M N M se cr ba 2) (riderL M N 1 2) = V := ⟨_, rfl⟩
  obtain ⟨V4, hV4⟩ : ∃ V, whC b0 b0.no (tripL N M N M se cr ba 2) (riderL M N 1 2) = V := ⟨_, rfl⟩
  have HV1 := Lib.hid hV1
  have HV2 := Lib.hid hV2
  have HV3 := Lib.hid hV3
  have HV4 := Lib.hid hV4
  clear hV1 hV2 hV3 hV4
  refine wp_region_T (fun W => Blk W w.heap.size 27 #[.string nm, .slice LA L.length Lc, .int .i64 o, .int .i64 n, .int .i64 u, .string s, .slice A l.length c, .int .i64 oB, .int .i64 nB, .int .i64 uB, .string sB, .slice AB lB.length cB, .int .i64 oC, .int .i64 nC, .int .i64 uC, .string sC, .slice AC lC.length cC, .int .i64 oD, .int .i64 nD, .int .i64 uD, .string sD, .slice AD lD.length cD, .int .i64 q, .int .i64 sh, .int .i64 ch] ∧ Blk W (w.heap.size + 1) 36 #[.int .i64 mb, .int .i64 fr, .int .i64 to, .int .i64 ea, .int .i64 la, .int .i64 du, .int .i64 ri, .int .i64 se, .int .i64 cr, .int .i64 ba]) (fun _ => false) (by kernel_rfl) ⟨HA4.out.drew, HQ4.out.drew⟩ (fun hHeld => ?_)
  refine wpAnyT_take2 (i := 0) (v := .agg #[.string nm, .slice LA L.length Lc, .int .i64 o, .int .i64 n, .int .i64 u, .string s, .slice A l.length c, .int .i64 oB, .int .i64 nB, .int .i64 uB, .string sB, .slice AB lB.length cB, .int .i64 oC, .int .i64 nC, .int .i64 uC, .string sC, .slice AC lC.length cC, .int .i64 oD, .int .i64 nD, .int .i64 uD, .string sD, .slice AD lD.length cD, .int .i64 q, .int .i64 sh, .int .i64 ch]) rfl rfl (by kernel_rfl) (by kernel_rfl) (by kernel_rfl) (by kernel_rfl) (fun _ _ _ h => h) (Or.inl ⟨by rfl, fun W hSW => run_row rfl rfl hSW.1 Tryz.underlying27 rfl (by kernel_rfl)⟩) hHeld ?_
  simp only [List.setIfInBounds_toArray, List.set_cons_zero, List.set_cons_succ]
  refine wpAnyT_take2 (i := 1) (v := .agg #[.int .i64 mb, .int .i64 fr, .int .i64 to, .int .i64 ea, .int .i64 la, .int .i64 du, .int .i64 ri, .int .i64 se, .int .i64 cr, .int .i64 ba]) rfl rfl (by kernel_rfl) (by kernel_rfl) (by kernel_rfl) (by kernel_rfl) (fun _ _ _ h => h) (Or.inl ⟨by rfl, fun W hSW => run_row rfl rfl hSW.2 Tryz.underlying36 rfl (by kernel_rfl)⟩) hHeld ?_
  simp only [List.setIfInBounds_toArray, List.set_cons_zero, List.set_cons_succ]
  refine wpAnyT_take2 (i := 2) (v := ?_) rfl rfl (by kernel_rfl) (by kernel_rfl) (by kernel_rfl) (by kernel_rfl) (fun _ _ _ h => h) (Or.inl ⟨by rfl, ?_⟩) (by first | assumption | trivial) ?_
  rotate_left
  · (intro w hSw; (try dsimp only at hSw); go_simp) <;> (with_reducible rfl)
  simp only [List.setIfInBounds_toArray, List.set_cons_zero, List.set_cons_succ]
  refine wpAnyT_take2 (i := 3) (v := ?_) rfl rfl (by kernel_rfl) (by kernel_rfl) (by kernel_rfl) (by kernel_rfl) (fun _ _ _ h => h) (Or.inl ⟨by rfl, ?_⟩) (by first | assumption | trivial) ?_
  rotate_left
  · (intro w hSw; (try dsimp only at hSw); go_simp) <;> (with_reducible rfl)
  simp only [List.setIfInBounds_toArray, List.set_cons_zero, List.set_cons_succ]
  refine wpAnyT_take2 (i := 4) (v := ?_) rfl rfl (by kernel_rfl) (by kernel_rfl) (by kernel_rfl) (by kernel_rfl) (fun _ _ _ h => h) (Or.inl ⟨by rfl, ?_⟩) (by first | assumption | trivial) ?_
  rotate_left
  · (intro w hSw; (try dsimp only at hSw); go_simp) <;> (with_reducible rfl)
  simp only [List.setIfInBounds_toArray, List.set_cons_zero, List.set_cons_succ]
  refine wpAnyT_take2 (i := 5) (v := ?_) rfl rfl (by kernel_rfl) (by kernel_rfl) (by kernel_rfl) (by kernel_rfl) (fun _ _ _ h => h) (Or.inl ⟨by rfl, ?_⟩) (by first | assumption | trivial) ?_
  rotate_left
  · (intro w hSw; (try dsimp only at hSw); go_simp) <;> (with_reducible rfl)
  simp only [List.setIfInBounds_toArray, List.set_cons_zero, List.set_cons_succ]
  refine wpAnyT_take2 (i := 7) (v := ?_) rfl rfl (by kernel_rfl) (by kernel_rfl) (by kernel_rfl) (by kernel_rfl) (fun _ _ _ h => h) (Or.inl ⟨by rfl, ?_⟩) (by first | assumption | trivial) ?_
  rotate_left
  · (intro w hSw; (try dsimp only at hSw); go_simp) <;> (with_reducible rfl)
  simp only [List.setIfInBounds_toArray, List.set_cons_zero, List.set_cons_succ]
  refine wpAnyT_take2 (i := 8) (v := ?_) rfl rfl (by kernel_rfl) (by kernel_rfl) (by kernel_rfl) (by kernel_rfl) (fun _ _ _ h => h) (Or.inl ⟨by rfl, ?_⟩) (by first | assumption | trivial) ?_
  rotate_left
  · (intro w hSw; (try dsimp only at hSw); go_simp) <;> (with_reducible rfl)
  simp only [List.setIfInBounds_toArray, List.set_cons_zero, List.set_cons_succ]
  have HS5 := Lib.hid hHeld
  have HB5 : Hid (Below w.heap.size w w4.drew) := Lib.hid HB4.out.drew
  clear hHeld HA4 HQ4 HB4
  generalize w4.drew = w5 at *
  apply cutT
  · intro fin0
    have FIN := Lib.hid fin0
    clear fin0
    refine wpAnyT_two (i := 6) (j := 11) (by kernel_rfl) rfl rfl ?_ ?_
    · skip
      go_wp2_with fail
      refine (fare_Trip mb fr to ea la du ri se cr ba N M N M 2 _).mono ?_
      rintro e w6 ⟨sT, rfl, heT, hfT, hb6⟩
      have HB6 : Hid (Below w.heap.size w w6) := Lib.hid (HB5.out.trans (hb6.mono HB5.out.size))
      have HS6 : Hid (Blk w6 w.heap.size 27 #[.string nm, .slice LA L.length Lc, .int .i64 o, .int .i64 n, .int .i64 u, .string s, .slice A l.length c, .int .i64 oB, .int .i64 nB, .int .i64 uB, .string sB, .slice AB lB.length cB, .int .i64 oC, .int .i64 nC, .int .i64 uC, .string sC, .slice AC lC.length cC, .int .i64 oD, .int .i64 nD, .int .i64 uD, .string sD, .slice AD lD.length cD, .int .i64 q, .int .i64 sh, .int .i64 ch] ∧ Blk w6 (w.heap.size + 1) 36 #[.int .i64 mb, .int .i64 fr, .int .i64 to, .int .i64 ea, .int .i64 la, .int .i64 du, .int .i64 ri, .int .i64 se, .int .i64 cr, .int .i64 ba]) := Lib.hid ⟨HS5.out.1.later hb6, HS5.out.2.later hb6⟩
      have HET := Lib.hid heT
      have HFT6 := Lib.hid hfT
      clear heT hfT
      go_wp2_with fail
      refine And.intro (by first | exact fun _ => HS6.out | exact HS6.out) ?_
      refine wpAnyT_two (i := 9) (j := 11) (by kernel_rfl) rfl rfl ?_ ?_
      · skip
        go_wp2_with fail
        refine (fare_Rider M N 1 2 _).mono ?_
        rintro e w7 ⟨sM, rfl, heM, hfM, hb7⟩
        have HB7 : Hid (Below w.heap.size w w7) := Lib.hid (HB6.out.trans (hb7.mono HB6.out.size))
        have HS7 : Hid (Blk w7 w.heap.size 27 #[.string nm, .slice LA L.length Lc, .int .i64 o, .int .i64 n, .int .i64 u, .string s, .slice A l.length c, .int .i64 oB, .int .i64 nB, .int .i64 uB, .string sB, .slice AB lB.length cB, .int .i64 oC, .int .i64 nC, .int .i64 uC, .string sC, .slice AC lC.length cC, .int .i64 oD, .int .i64 nD, .int .i64 uD, .string sD, .slice AD lD.length cD, .int .i64 q, .int .i64 sh, .int .i64 ch] ∧ Blk w7 (w.heap.size + 1) 36 #[.int .i64 mb, .int .i64 fr, .int .i64 to, .int .i64 ea, .int .i64 la, .int .i64 du, .int .i64 ri, .int .i64 se, .int .i64 cr, .int .i64 ba]) := Lib.hid ⟨HS6.out.1.later hb7, HS6.out.2.later hb7⟩
        have HFT7 := Lib.hid (HFT6.out.later hb7)
        have HEM := Lib.hid heM
        have HFM7 := Lib.hid hfM
        clear heM hfM
        go_wp2_with fail
        refine And.intro (by first | exact fun _ => HS7.out | exact HS7.out) ?_
        refine wpAnyT_two (i := 10) (j := 11) (by kernel_rfl) rfl rfl ?_ ?_
        · skip
          have hask := ask_v b0 sT sM _ _ _ HET.out HEM.out (HPB.out.later HB7.out) HL6.out HFT7.out HFM7.out V1 V2 V3 V4 HV1.out HV2.out HV3.out HV4.out
          rw [HBV.out] at hask
          go_wp2_with fail
          refine hask.mono ?_
          clear hask
          rintro e w8 ⟨rfl, hb8⟩
          have HB8 : Hid (Below w.heap.size w w8) := Lib.hid (HB7.out.trans (hb8.mono HB7.out.size))
          have HS8 : Hid (Blk w8 w.heap.size 27 #[.string nm, .slice LA L.length Lc, .int .i64 o, .int .i64 n, .int .i64 u, .string s, .slice A l.length c, .int .i64 oB, .int .i64 nB, .int .i64 uB, .string sB, .slice AB lB.length cB, .int .i64 oC, .int .i64 nC, .int .i64 uC, .string sC, .slice AC lC.length cC, .int .i64 oD, .int .i64 nD, .int .i64 uD, .string sD, .slice AD lD.length cD, .int .i64 q, .int .i64 sh, .int .i64 ch] ∧ Blk w8 (w.heap.size + 1) 36 #[.int .i64 mb, .int .i64 fr, .int .i64 to, .int .i64 ea, .int .i64 la, .int .i64 du, .int .i64 ri, .int .i64 se, .int .i64 cr, .int .i64 ba]) := Lib.hid ⟨HS7.out.1.later hb8, HS7.out.2.later hb8⟩
          go_wp2_with fail
          refine And.intro (by first | exact fun _ => HS8.out | exact HS8.out) ?_
          refine wpAnyT_next (i := 11) (by kernel_rfl) rfl ?_
          go_wp2_with fail
          refine And.intro (by first | exact fun _ => (⟨HS8.out.1.alloc _, HS8.out.2.alloc _⟩ : Blk _ w.heap.size 27 #[.string nm, .slice LA L.length Lc, .int .i64 o, .int .i64 n, .int .i64 u, .string s, .slice A l.length c, .int .i64 oB, .int .i64 nB, .int .i64 uB, .string sB, .slice AB lB.length cB, .int .i64 oC, .int .i64 nC, .int .i64 uC, .string sC, .slice AC lC.length cC, .int .i64 oD, .int .i64 nD, .int .i64 uD, .string sD, .slice AD lD.length cD, .int .i64 q, .int .i64 sh, .int .i64 ch] ∧ Blk _ (w.heap.size + 1) 36 #[.int .i64 mb, .int .i64 fr, .int .i64 to, .int .i64 ea, .int .i64 la, .int .i64 du, .int .i64 ri, .int .i64 se, .int .i64 cr, .int .i64 ba]) | exact (⟨HS8.out.1.alloc _, HS8.out.2.alloc _⟩ : Blk _ w.heap.size 27 #[.string nm, .slice LA L.length Lc, .int .i64 o, .int .i64 n, .int .i64 u, .string s, .slice A l.length c, .int .i64 oB, .int .i64 nB, .int .i64 uB, .string sB, .slice AB lB.length cB, .int .i64 oC, .int .i64 nC, .int .i64 uC, .string sC, .slice AC lC.length cC, .int .i64 oD, .int .i64 nD, .int .i64 uD, .string sD, .slice AD lD.length cD, .int .i64 q, .int .i64 sh, .int .i64 ch] ∧ Blk _ (w.heap.size + 1) 36 #[.int .i64 mb, .int .i64 fr, .int .i64 to, .int .i64 ea, .int .i64 la, .int .i64 du, .int .i64 ri, .int .i64 se, .int .i64 cr, .int .i64 ba])) ?_
          have HBa : Hid (Below w.heap.size w (w8.alloc (.cells #[.bool false, .int .i64 0, .int .i64 0, .int .i64 0, .int .i64 0, .int .i64 0, .int .i64 0, .int .i64 0] 50))) := Lib.hid (HB8.out.alloc HB8.out.size _)
          have HSa : Hid (Blk (w8.alloc (.cells #[.bool false, .int .i64 0, .int .i64 0, .int .i64 0, .int .i64 0, .int .i64 0, .int .i64 0, .int .i64 0] 50)) w.heap.size 27 #[.string nm, .slice LA L.length Lc, .int .i64 o, .int .i64 n, .int .i64 u, .string s, .slice A l.length c, .int .i64 oB, .int .i64 nB, .int .i64 uB, .string sB, .slice AB lB.length cB, .int .i64 oC, .int .i64 nC, .int .i64 uC, .string sC, .slice AC lC.length cC, .int .i64 oD, .int .i64 nD, .int .i64 uD, .string sD, .slice AD lD.length cD, .int .i64 q, .int .i64 sh, .int .i64 ch] ∧ Blk (w8.alloc (.cells #[.bool false, .int .i64 0, .int .i64 0, .int .i64 0, .int .i64 0, .int .i64 0, .int .i64 0, .int .i64 0] 50)) (w.heap.size + 1) 36 #[.int .i64 mb, .int .i64 fr, .int .i64 to, .int .i64 ea, .int .i64 la, .int .i64 du, .int .i64 ri, .int .i64 se, .int .i64 cr, .int .i64 ba]) := Lib.hid ⟨HS8.out.1.alloc _, HS8.out.2.alloc _⟩
          have HGa : Hid (Blk (w8.alloc (.cells #[.bool false, .int .i64 0, .int .i64 0, .int .i64 0, .int .i64 0, .int .i64 0, .int .i64 0, .int .i64 0] 50)) w8.heap.size 50 #[.bool false, .int .i64 0, .int .i64 0, .int .i64 0, .int .i64 0, .int .i64 0, .int .i64 0, .int .i64 0]) := Lib.hid (Blk.new _ _ _)
          have HNa : Hid (w.heap.size + 1 < w8.heap.size) := Lib.hid HS8.out.2.lt
          have HDa : Hid (Below w8.heap.size w8 (w8.alloc (.cells #[.bool false, .int .i64 0, .int .i64 0, .int .i64 0, .int .i64 0, .int .i64 0, .int .i64 0, .int .i64 0] 50))) := Lib.hid (by repeat (first | (with_reducible exact Below.refl _ _) | ((with_reducible refine below_setr ?_ ?_); focus (first | (simp; done) | (simp; omega) | omega)) | ((with_reducible refine below_allocr ?_ ?_); focus (first | (simp; done) | (simp; omega) | omega)) | (with_reducible refine Below.drew ?_) | (with_reducible refine below_drewN ?_ _)))
          clear hb6 hb7 hb8 HB6 HS6 HFT6 HB7 HS7 HFT7 HFM7 HB8 HS8 HET HEM HDa
          generalize w8.alloc (.cells #[.bool false, .int .i64 0, .int .i64 0, .int .i64 0, .int .i64 0, .int .i64 0, .int .i64 0, .int .i64 0] 50) = wa at *
          generalize w8.heap.size = ga at *
          revert HNa
          revert HGa
          revert HSa
          revert HBa
          revert wa
          revert ga
          clear w8 w7
          revert sM
          clear w6
          revert sT
          exact FIN.out
        · skip
          go_wp2_with fail
          refine And.intro (by first | exact fun _ => (⟨HS7.out.1.alloc _, HS7.out.2.alloc _⟩ : Blk _ w.heap.size 27 #[.string nm, .slice LA L.length Lc, .int .i64 o, .int .i64 n, .int .i64 u, .string s, .slice A l.length c, .int .i64 oB, .int .i64 nB, .int .i64 uB, .string sB, .slice AB lB.length cB, .int .i64 oC, .int .i64 nC, .int .i64 uC, .string sC, .slice AC lC.length cC, .int .i64 oD, .int .i64 nD, .int .i64 uD, .string sD, .slice AD lD.length cD, .int .i64 q, .int .i64 sh, .int .i64 ch] ∧ Blk _ (w.heap.size + 1) 36 #[.int .i64 mb, .int .i64 fr, .int .i64 to, .int .i64 ea, .int .i64 la, .int .i64 du, .int .i64 ri, .int .i64 se, .int .i64 cr, .int .i64 ba]) | exact (⟨HS7.out.1.alloc _, HS7.out.2.alloc _⟩ : Blk _ w.heap.size 27 #[.string nm, .slice LA L.length Lc, .int .i64 o, .int .i64 n, .int .i64 u, .string s, .slice A l.length c, .int .i64 oB, .int .i64 nB, .int .i64 uB, .string sB, .slice AB lB.length cB, .int .i64 oC, .int .i64 nC, .int .i64 uC, .string sC, .slice AC lC.length cC, .int .i64 oD, .int .i64 nD, .int .i64 uD, .string sD, .slice AD lD.length cD, .int .i64 q, .int .i64 sh, .int .i64 ch] ∧ Blk _ (w.heap.size + 1) 36 #[.int .i64 mb, .int .i64 fr, .int .i64 to, .int .i64 ea, .int .i64 la, .int .i64 du, .int .i64 ri, .int .i64 se, .int .i64 cr, .int .i64 ba])) ?_
          have HBa : Hid (Below w.heap.size w (w7.alloc (.cells #[.bool false, .int .i64 0, .int .i64 0, .int .i64 0, .int .i64 0, .int .i64 0, .int .i64 0, .int .i64 0] 50))) := Lib.hid (HB7.out.alloc HB7.out.size _)
          have HSa : Hid (Blk (w7.alloc (.cells #[.bool false, .int .i64 0, .int .i64 0, .int .i64 0, .int .i64 0, .int .i64 0, .int .i64 0, .int .i64 0] 50)) w.heap.size 27 #[.string nm, .slice LA L.length Lc, .int .i64 o, .int .i64 n, .int .i64 u, .string s, .slice A l.length c, .int .i64 oB, .int .i64 nB, .int .i64 uB, .string sB, .slice AB lB.length cB, .int .i64 oC, .int .i64 nC, .int .i64 uC, .string sC, .slice AC lC.length cC, .int .i64 oD, .int .i64 nD, .int .i64 uD, .string sD, .slice AD lD.length cD, .int .i64 q, .int .i64 sh, .int .i64 ch] ∧ Blk (w7.alloc (.cells #[.bool false, .int .i64 0, .int .i64 0, .int .i64 0, .int .i64 0, .int .i64 0, .int .i64 0, .int .i64 0] 50)) (w.heap.size + 1) 36 #[.int .i64 mb, .int .i64 fr, .int .i64 to, .int .i64 ea, .int .i64 la, .int .i64 du, .int .i64 ri, .int .i64 se, .int .i64 cr, .int .i64 ba]) := Lib.hid ⟨HS7.out.1.alloc _, HS7.out.2.alloc _⟩
          have HGa : Hid (Blk (w7.alloc (.cells #[.bool false, .int .i64 0, .int .i64 0, .int .i64 0, .int .i64 0, .int .i64 0, .int .i64 0, .int .i64 0] 50)) w7.heap.size 50 #[.bool false, .int .i64 0, .int .i64 0, .int .i64 0, .int .i64 0, .int .i64 0, .int .i64 0, .int .i64 0]) := Lib.hid (Blk.new _ _ _)
          have HNa : Hid (w.heap.size + 1 < w7.heap.size) := Lib.hid HS7.out.2.lt
          have HDa : Hid (Below w7.heap.size w7 (w7.alloc (.cells #[.bool false, .int .i64 0, .int .i64 0, .int .i64 0, .int .i64 0, .int .i64 0, .int .i64 0, .int .i64 0] 50))) := Lib.hid (by repeat (first | (with_reducible exact Below.refl _ _) | ((with_reducible refine below_setr ?_ ?_); focus (first | (simp; done) | (simp; omega) | omega)) | ((with_reducible refine below_allocr ?_ ?_); focus (first | (simp; done) | (simp; omega) | omega)) | (with_reducible refine Below.drew ?_) | (with_reducible refine below_drewN ?_ _)))
          have HFTa := Lib.hid (HFT7.out.later HDa.out)
          have HFMa := Lib.hid (HFM7.out.later HDa.out)
          clear HDa HB7 HS7 HFT7 HFM7
          generalize w7.alloc (.cells #[.bool false, .int .i64 0, .int .i64 0, .int .i64 0, .int .i64 0, .int .i64 0, .int .i64 0, .int .i64 0] 50) = wa at *
          generalize w7.heap.size = ga at *
          refine wpAnyT_next (i := 10) (by kernel_rfl) rfl ?_
          have hask := ask_v b0 sT sM _ _ _ HET.out HEM.out (HPB.out.later HBa.out) HL6.out HFTa.out HFMa.out V1 V2 V3 V4 HV1.out HV2.out HV3.out HV4.out
          rw [HBV.out] at hask
          go_wp2_with fail
          refine hask.mono ?_
          clear hask
          rintro e w8 ⟨rfl, hb8⟩
          have HB8 : Hid (Below w.heap.size w w8) := Lib.hid (HBa.out.trans (hb8.mono HBa.out.size))
          have HS8 : Hid (Blk w8 w.heap.size 27 #[.string nm, .slice LA L.length Lc, .int .i64 o, .int .i64 n, .int .i64 u, .string s, .slice A l.length c, .int .i64 oB, .int .i64 nB, .int .i64 uB, .string sB, .slice AB lB.length cB, .int .i64 oC, .int .i64 nC, .int .i64 uC, .string sC, .slice AC lC.length cC, .int .i64 oD, .int .i64 nD, .int .i64 uD, .string sD, .slice AD lD.length cD, .int .i64 q, .int .i64 sh, .int .i64 ch] ∧ Blk w8 (w.heap.size + 1) 36 #[.int .i64 mb, .int .i64 fr, .int .i64 to, .int .i64 ea, .int .i64 la, .int .i64 du, .int .i64 ri, .int .i64 se, .int .i64 cr, .int .i64 ba]) := Lib.hid ⟨HSa.out.1.later hb8, HSa.out.2.later hb8⟩
          go_wp2_with fail
          refine And.intro (by first | exact fun _ => HS8.out | exact HS8.out) ?_
          have HG8 := Lib.hid (HGa.out.later hb8)
          exact wpAnyT_listed (by kernel_rfl) (FIN.out _ _ _ _ HB8 HS8 HG8 HNa)
      · skip
        go_wp2_with fail
        refine And.intro (by first | exact fun _ => (⟨HS6.out.1.alloc _, HS6.out.2.alloc _⟩ : Blk _ w.heap.size 27 #[.string nm, .slice LA L.length Lc, .int .i64 o, .int .i64 n, .int .i64 u, .string s, .slice A l.length c, .int .i64 oB, .int .i64 nB, .int .i64 uB, .string sB, .slice AB lB.length cB, .int .i64 oC, .int .i64 nC, .int .i64 uC, .string sC, .slice AC lC.length cC, .int .i64 oD, .int .i64 nD, .int .i64 uD, .string sD, .slice AD lD.length cD, .int .i64 q, .int .i64 sh, .int .i64 ch] ∧ Blk _ (w.heap.size + 1) 36 #[.int .i64 mb, .int .i64 fr, .int .i64 to, .int .i64 ea, .int .i64 la, .int .i64 du, .int .i64 ri, .int .i64 se, .int .i64 cr, .int .i64 ba]) | exact (⟨HS6.out.1.alloc _, HS6.out.2.alloc _⟩ : Blk _ w.heap.size 27 #[.string nm, .slice LA L.length Lc, .int .i64 o, .int .i64 n, .int .i64 u, .string s, .slice A l.length c, .int .i64 oB, .int .i64 nB, .int .i64 uB, .string sB, .slice AB lB.length cB, .int .i64 oC, .int .i64 nC, .int .i64 uC, .string sC, .slice AC lC.length cC, .int .i64 oD, .int .i64 nD, .int .i64 uD, .string sD, .slice AD lD.length cD, .int .i64 q, .int .i64 sh, .int .i64 ch] ∧ Blk _ (w.heap.size + 1) 36 #[.int .i64 mb, .int .i64 fr, .int .i64 to, .int .i64 ea, .int .i64 la, .int .i64 du, .int .i64 ri, .int .i64 se, .int .i64 cr, .int .i64 ba])) ?_
        have HBa : Hid (Below w.heap.size w (w6.alloc (.cells #[.bool false, .int .i64 0, .int .i64 0, .int .i64 0, .int .i64 0, .int .i64 0, .int .i64 0, .int .i64 0] 50))) := Lib.hid (HB6.out.alloc HB6.out.size _)
        have HSa : Hid (Blk (w6.alloc (.cells #[.bool false, .int .i64 0, .int .i64 0, .int .i64 0, .int .i64 0, .int .i64 0, .int .i64 0, .int .i64 0] 50)) w.heap.size 27 #[.string nm, .slice LA L.length Lc, .int .i64 o, .int .i64 n, .int .i64 u, .string s, .slice A l.length c, .int .i64 oB, .int .i64 nB, .int .i64 uB, .string sB, .slice AB lB.length cB, .int .i64 oC, .int .i64 nC, .int .i64 uC, .string sC, .slice AC lC.length cC, .int .i64 oD, .int .i64 nD, .int .i64 uD, .string sD, .slice AD lD.length cD, .int .i64 q, .int .i64 sh, .int .i64 ch] ∧ Blk (w6.alloc (.cells #[.bool false, .int .i64 0, .int .i64 0, .int .i64 0, .int .i64 0, .int .i64 0, .int .i64 0, .int .i64 0] 50)) (w.heap.size + 1) 36 #[.int .i64 mb, .int .i64 fr, .int .i64 to, .int .i64 ea, .int .i64 la, .int .i64 du, .int .i64 ri, .int .i64 se, .int .i64 cr, .int .i64 ba]) := Lib.hid ⟨HS6.out.1.alloc _, HS6.out.2.alloc _⟩
        have HGa : Hid (Blk (w6.alloc (.cells #[.bool false, .int .i64 0, .int .i64 0, .int .i64 0, .int .i64 0, .int .i64 0, .int .i64 0, .int .i64 0] 50)) w6.heap.size 50 #[.bool false, .int .i64 0, .int .i64 0, .int .i64 0, .int .i64 0, .int .i64 0, .int .i64 0, .int .i64 0]) := Lib.hid (Blk.new _ _ _)
        have HNa : Hid (w.heap.size + 1 < w6.heap.size) := Lib.hid HS6.out.2.lt
        have HDa : Hid (Below w6.heap.size w6 (w6.alloc (.cells #[.bool false, .int .i64 0, .int .i64 0, .int .i64 0, .int .i64 0, .int .i64 0, .int .i64 0, .int .i64 0] 50))) := Lib.hid (by repeat (first | (with_reducible exact Below.refl _ _) | ((with_reducible refine below_setr ?_ ?_); focus (first | (simp; done) | (simp; omega) | omega)) | ((with_reducible refine below_allocr ?_ ?_); focus (first | (simp; done) | (simp; omega) | omega)) | (with_reducible refine Below.drew ?_) | (with_reducible refine below_drewN ?_ _)))
        have HFTa := Lib.hid (HFT6.out.later HDa.out)
        clear HDa HB6 HS6 HFT6
        generalize w6.alloc (.cells #[.bool false, .int .i64 0, .int .i64 0, .int .i64 0, .int .i64 0, .int .i64 0, .int .i64 0, .int .i64 0] 50) = wa at *
        generalize w6.heap.size = ga at *
        refine wpAnyT_next (i := 9) (by kernel_rfl) rfl ?_
        go_wp2_with fail
        refine (fare_Rider M N 1 2 _).mono ?_
        rintro e w7 ⟨sM, rfl, heM, hfM, hb7⟩
        have HB7 : Hid (Below w.heap.size w w7) := Lib.hid (HBa.out.trans (hb7.mono HBa.out.size))
        have HS7 : Hid (Blk w7 w.heap.size 27 #[.string nm, .slice LA L.length Lc, .int .i64 o, .int .i64 n, .int .i64 u, .string s, .slice A l.length c, .int .i64 oB, .int .i64 nB, .int .i64 uB, .string sB, .slice AB lB.length cB, .int .i64 oC, .int .i64 nC, .int .i64 uC, .string sC, .slice AC lC.length cC, .int .i64 oD, .int .i64 nD, .int .i64 uD, .string sD, .slice AD lD.length cD, .int .i64 q, .int .i64 sh, .int .i64 ch] ∧ Blk w7 (w.heap.size + 1) 36 #[.int .i64 mb, .int .i64 fr, .int .i64 to, .int .i64 ea, .int .i64 la, .int .i64 du, .int .i64 ri, .int .i64 se, .int .i64 cr, .int .i64 ba]) := Lib.hid ⟨HSa.out.1.later hb7, HSa.out.2.later hb7⟩
        have HFT7 := Lib.hid (HFTa.out.later hb7)
        have HEM := Lib.hid heM
        have HFM7 := Lib.hid hfM
        clear heM hfM
        go_wp2_with fail
        refine And.intro (by first | exact fun _ => HS7.out | exact HS7.out) ?_
        have HG7 := Lib.hid (HGa.out.later hb7)
        refine wpAnyT_next (i := 10) (by kernel_rfl) rfl ?_
        have hask := ask_v b0 sT sM _ _ _ HET.out HEM.out (HPB.out.later HB7.out) HL6.out HFT7.out HFM7.out V1 V2 V3 V4 HV1.out HV2.out HV3.out HV4.out
        rw [HBV.out] at hask
        go_wp2_with fail
        refine hask.mono ?_
        clear hask
        rintro e w8 ⟨rfl, hb8⟩
        have HB8 : Hid (Below w.heap.size w w8) := Lib.hid (HB7.out.trans (hb8.mono HB7.out.size))
        have HS8 : Hid (Blk w8 w.heap.size 27 #[.string nm, .slice LA L.length Lc, .int .i64 o, .int .i64 n, .int .i64 u, .string s, .slice A l.length c, .int .i64 oB, .int .i64 nB, .int .i64 uB, .string sB, .slice AB lB.length cB, .int .i64 oC, .int .i64 nC, .int .i64 uC, .string sC, .slice AC lC.length cC, .int .i64 oD, .int .i64 nD, .int .i64 uD, .string sD, .slice AD lD.length cD, .int .i64 q, .int .i64 sh, .int .i64 ch] ∧ Blk w8 (w.heap.size + 1) 36 #[.int .i64 mb, .int .i64 fr, .int .i64 to, .int .i64 ea, .int .i64 la, .int .i64 du, .int .i64 ri, .int .i64 se, .int .i64 cr, .int .i64 ba]) := Lib.hid ⟨HS7.out.1.later hb8, HS7.out.2.later hb8⟩
        go_wp2_with fail
        refine And.intro (by first | exact fun _ => HS8.out | exact HS8.out) ?_
        have HG8 := Lib.hid (HG7.out.later hb8)
        exact wpAnyT_listed (by kernel_rfl) (FIN.out _ _ _ _ HB8 HS8 HG8 HNa)
    · skip
      go_wp2_with fail
      refine And.intro (by first | exact fun _ => (⟨HS5.out.1.alloc _, HS5.out.2.alloc _⟩ : Blk _ w.heap.size 27 #[.string nm, .slice LA L.length Lc, .int .i64 o, .int .i64 n, .int .i64 u, .string s, .slice A l.length c, .int .i64 oB, .int .i64 nB, .int .i64 uB, .string sB, .slice AB lB.length cB, .int .i64 oC, .int .i64 nC, .int .i64 uC, .string sC, .slice AC lC.length cC, .int .i64 oD, .int .i64 nD, .int .i64 uD, .string sD, .slice AD lD.length cD, .int .i64 q, .int .i64 sh, .int .i64 ch] ∧ Blk _ (w.heap.size + 1) 36 #[.int .i64 mb, .int .i64 fr, .int .i64 to, .int .i64 ea, .int .i64 la, .int .i64 du, .int .i64 ri, .int .i64 se, .int .i64 cr, .int .i64 ba]) | exact (⟨HS5.out.1.alloc _, HS5.out.2.alloc _⟩ : Blk _ w.heap.size 27 #[.string nm, .slice LA L.length Lc, .int .i64 o, .int .i64 n, .int .i64 u, .string s, .slice A l.length c, .int .i64 oB, .int .i64 nB, .int .i64 uB, .string sB, .slice AB lB.length cB, .int .i64 oC, .int .i64 nC, .int .i64 uC, .string sC, .slice AC lC.length cC, .int .i64 oD, .int .i64 nD, .int .i64 uD, .string sD, .slice AD lD.length cD, .int .i64 q, .int .i64 sh, .int .i64 ch] ∧ Blk _ (w.heap.size + 1) 36 #[.int .i64 mb, .int .i64 fr, .int .i64 to, .int .i64 ea, .int .i64 la, .int .i64 du, .int .i64 ri, .int .i64 se, .int .i64 cr, .int .i64 ba])) ?_
      have HBa : Hid (Below w.heap.size w (w5.alloc (.cells #[.bool false, .int .i64 0, .int .i64 0, .int .i64 0, .int .i64 0, .int .i64 0, .int .i64 0, .int .i64 0] 50))) := Lib.hid (HB5.out.alloc HB5.out.size _)
      have HSa : Hid (Blk (w5.alloc (.cells #[.bool false, .int .i64 0, .int .i64 0, .int .i64 0, .int .i64 0, .int .i64 0, .int .i64 0, .int .i64 0] 50)) w.heap.size 27 #[.string nm, .slice LA L.length Lc, .int .i64 o, .int .i64 n, .int .i64 u, .string s, .slice A l.length c, .int .i64 oB, .int .i64 nB, .int .i64 uB, .string sB, .slice AB lB.length cB, .int .i64 oC, .int .i64 nC, .int .i64 uC, .string sC, .slice AC lC.length cC, .int .i64 oD, .int .i64 nD, .int .i64 uD, .string sD, .slice AD lD.length cD, .int .i64 q, .int .i64 sh, .int .i64 ch] ∧ Blk (w5.alloc (.cells #[.bool false, .int .i64 0, .int .i64 0, .int .i64 0, .int .i64 0, .int .i64 0, .int .i64 0, .int .i64 0] 50)) (w.heap.size + 1) 36 #[.int .i64 mb, .int .i64 fr, .int .i64 to, .int .i64 ea, .int .i64 la, .int .i64 du, .int .i64 ri, .int .i64 se, .int .i64 cr, .int .i64 ba]) := Lib.hid ⟨HS5.out.1.alloc _, HS5.out.2.alloc _⟩
      have HGa : Hid (Blk (w5.alloc (.cells #[.bool false, .int .i64 0, .int .i64 0, .int .i64 0, .int .i64 0, .int .i64 0, .int .i64 0, .int .i64 0] 50)) w5.heap.size 50 #[.bool false, .int .i64 0, .int .i64 0, .int .i64 0, .int .i64 0, .int .i64 0, .int .i64 0, .int .i64 0]) := Lib.hid (Blk.new _ _ _)
      have HNa : Hid (w.heap.size + 1 < w5.heap.size) := Lib.hid HS5.out.2.lt
      have HDa : Hid (Below w5.heap.size w5 (w5.alloc (.cells #[.bool false, .int .i64 0, .int .i64 0, .int .i64 0, .int .i64 0, .int .i64 0, .int .i64 0, .int .i64 0] 50))) := Lib.hid (by repeat (first | (with_reducible exact Below.refl _ _) | ((with_reducible refine below_setr ?_ ?_); focus (first | (simp; done) | (simp; omega) | omega)) | ((with_reducible refine below_allocr ?_ ?_); focus (first | (simp; done) | (simp; omega) | omega)) | (with_reducible refine Below.drew ?_) | (with_reducible refine below_drewN ?_ _)))
      clear HDa
      generalize w5.alloc (.cells #[.bool false, .int .i64 0, .int .i64 0, .int .i64 0, .int .i64 0, .int .i64 0, .int .i64 0, .int .i64 0] 50) = wa at *
      generalize w5.heap.size = ga at *
      refine wpAnyT_next (i := 6) (by kernel_rfl) rfl ?_
      go_wp2_with fail
      refine (fare_Trip mb fr to ea la du ri se cr ba N M N M 2 _).mono ?_
      rintro e w6 ⟨sT, rfl, heT, hfT, hb6⟩
      have HB6 : Hid (Below w.heap.size w w6) := Lib.hid (HBa.out.trans (hb6.mono HBa.out.size))
      have HS6 : Hid (Blk w6 w.heap.size 27 #[.string nm, .slice LA L.length Lc, .int .i64 o, .int .i64 n, .int .i64 u, .string s, .slice A l.length c, .int .i64 oB, .int .i64 nB, .int .i64 uB, .string sB, .slice AB lB.length cB, .int .i64 oC, .int .i64 nC, .int .i64 uC, .string sC, .slice AC lC.length cC, .int .i64 oD, .int .i64 nD, .int .i64 uD, .string sD, .slice AD lD.length cD, .int .i64 q, .int .i64 sh, .int .i64 ch] ∧ Blk w6 (w.heap.size + 1) 36 #[.int .i64 mb, .int .i64 fr, .int .i64 to, .int .i64 ea, .int .i64 la, .int .i64 du, .int .i64 ri, .int .i64 se, .int .i64 cr, .int .i64 ba]) := Lib.hid ⟨HSa.out.1.later hb6, HSa.out.2.later hb6⟩
      have HET := Lib.hid heT
      have HFT6 := Lib.hid hfT
      clear heT hfT
      go_wp2_with fail
      refine And.intro (by first | exact fun _ => HS6.out | exact HS6.out) ?_
      have HG6 := Lib.hid (HGa.out.later hb6)
      refine wpAnyT_next (i := 9) (by kernel_rfl) rfl ?_
      go_wp2_with fail
      refine (fare_Rider M N 1 2 _).mono ?_
      rintro e w7 ⟨sM, rfl, heM, hfM, hb7⟩
      have HB7 : Hid (Below w.heap.size w w7) := Lib.hid (HB6.out.trans (hb7.mono HB6.out.size))
      have HS7 : Hid (Blk w7 w.heap.size 27 #[.string nm, .slice LA L.length Lc, .int .i64 o, .int .i64 n, .int .i64 u, .string s, .slice A l.length c, .int .i64 oB, .int .i64 nB, .int .i64 uB, .string sB, .slice AB lB.length cB, .int .i64 oC, .int .i64 nC, .int .i64 uC, .string sC, .slice AC lC.length cC, .int .i64 oD, .int .i64 nD, .int .i64 uD, .string sD, .slice AD lD.length cD, .int .i64 q, .int .i64 sh, .int .i64 ch] ∧ Blk w7 (w.heap.size + 1) 36 #[.int .i64 mb, .int .i64 fr, .int .i64 to, .int .i64 ea, .int .i64 la, .int .i64 du, .int .i64 ri, .int .i64 se, .int .i64 cr, .int .i64 ba]) := Lib.hid ⟨HS6.out.1.later hb7, HS6.out.2.later hb7⟩
      have HFT7 := Lib.hid (HFT6.out.later hb7)
      have HEM := Lib.hid heM
      have HFM7 := Lib.hid hfM
      clear heM hfM
      go_wp2_with fail
      refine And.intro (by first | exact fun _ => HS7.out | exact HS7.out) ?_
      have HG7 := Lib.hid (HG6.out.later hb7)
      refine wpAnyT_next (i := 10) (by kernel_rfl) rfl ?_
      have hask := ask_v b0 sT sM _ _ _ HET.out HEM.out (HPB.out.later HB7.out) HL6.out HFT7.out HFM7.out V1 V2 V3 V4 HV1.out HV2.out HV3.out HV4.out
      rw [HBV.out] at hask
      go_wp2_with fail
      refine hask.mono ?_
      clear hask
      rintro e w8 ⟨rfl, hb8⟩
      have HB8 : Hid (Below w.heap.size w w8) := Lib.hid (HB7.out.trans (hb8.mono HB7.out.size))
      have HS8 : Hid (Blk w8 w.heap.size 27 #[.string nm, .slice LA L.length Lc, .int .i64 o, .int .i64 n, .int .i64 u, .string s, .slice A l.length c, .int .i64 oB, .int .i64 nB, .int .i64 uB, .string sB, .slice AB lB.length cB, .int .i64 oC, .int .i64 nC, .int .i64 uC, .string sC, .slice AC lC.length cC, .int .i64 oD, .int .i64 nD, .int .i64 uD, .string sD, .slice AD lD.length cD, .int .i64 q, .int .i64 sh, .int .i64 ch] ∧ Blk w8 (w.heap.size + 1) 36 #[.int .i64 mb, .int .i64 fr, .int .i64 to, .int .i64 ea, .int .i64 la, .int .i64 du, .int .i64 ri, .int .i64 se, .int .i64 cr, .int .i64 ba]) := Lib.hid ⟨HS7.out.1.later hb8, HS7.out.2.later hb8⟩
      go_wp2_with fail
      refine And.intro (by first | exact fun _ => HS8.out | exact HS8.out) ?_
      have HG8 := Lib.hid (HG7.out.later hb8)
      exact wpAnyT_listed (by kernel_rfl) (FIN.out _ _ _ _ HB8 HS8 HG8 HNa)
  · intro sT sM ga wa HBa HSa HGa HNa
    have HA8 := Lib.hid HSa.out.1
    have HQ8 := Lib.hid HSa.out.2
    clear HB5 HS5 HSa
    refine wpAnyT_next (i := 12) (by kernel_rfl) rfl ?_
    obtain ⟨a1, e1⟩ := V1
    obtain ⟨a2, e2⟩ := V2
    obtain ⟨a3, e3⟩ := V3
    obtain ⟨a4, e4⟩ := V4
    obtain ⟨k1, k2, k3, k4, m2, m3, m4, hna⟩ := ft_facts b0 HNN.out HNM.out HNS.out HNC.out HNB.out HV1.out HV2.out HV3.out HV4.out
    simp only at k1 k2 k3 k4 m2 m3 m4 hna
    have HK1 := Lib.hid k1
    have HK2 := Lib.hid k2
    have HK3 := Lib.hid k3
    have HK4 := Lib.hid k4
    have HM2 := Lib.hid m2
    have HM3 := Lib.hid m3
    have HM4 := Lib.hid m4
    have HNA := Lib.hid hna
    clear k1 k2 k3 k4 m2 m3 m4 hna HV1 HV2 HV3 HV4
    refine wpList_store_row rfl 50 (.tmp 10) (.tmp 59) rfl ga #[.bool a1, .int .i64 a2, .int .i64 a3, .int .i64 a4, .int .i64 e1, .int .i64 e2, .int .i64 e3, .int .i64 e4] rfl rfl 50 #[.bool false, .int .i64 0, .int .i64 0, .int .i64 0, .int .i64 0, .int .i64 0, .int .i64 0, .int .i64 0] HGa.out (by kernel_rfl) rfl (by kernel_rfl) ?_
    have hne : w.heap.size ≠ ga := by have := HNa.out; omega
    have hle : w.heap.size ≤ ga := by have := HNa.out; omega
    have HGx : Hid (Blk (wa.setRow ga #[.bool a1, .int .i64 a2, .int .i64 a3, .int .i64 a4, .int .i64 e1, .int .i64 e2, .int .i64 e3, .int .i64 e4]) ga 50 #[.bool a1, .int .i64 a2, .int .i64 a3, .int .i64 a4, .int .i64 e1, .int .i64 e2, .int .i64 e3, .int .i64 e4]) := Lib.hid (setRow_heap _ _ #[.bool false, .int .i64 0, .int .i64 0, .int .i64 0, .int .i64 0, .int .i64 0, .int .i64 0, .int .i64 0] _ _ (0, 0) HGa.out)
    have HAx : Hid (Blk (wa.setRow ga #[.bool a1, .int .i64 a2, .int .i64 a3, .int .i64 a4, .int .i64 e1, .int .i64 e2, .int .i64 e3, .int .i64 e4]) w.heap.size 27 #[.string nm, .slice LA L.length Lc, .int .i64 o, .int .i64 n, .int .i64 u, .string s, .slice A l.length c, .int .i64 oB, .int .i64 nB, .int .i64 uB, .string sB, .slice AB lB.length cB, .int .i64 oC, .int .i64 nC, .int .i64 uC, .string sC, .slice AC lC.length cC, .int .i64 oD, .int .i64 nD, .int .i64 uD, .string sD, .slice AD lD.length cD, .int .i64 q, .int .i64 sh, .int .i64 ch]) := Lib.hid ((setRow_other _ _ _ _ hne).trans HA8.out)
    have hne' : w.heap.size + 1 ≠ ga := by have := HNa.out; omega
    have HQx : Hid (Blk (wa.setRow ga #[.bool a1, .int .i64 a2, .int .i64 a3, .int .i64 a4, .int .i64 e1, .int .i64 e2, .int .i64 e3, .int .i64 e4]) (w.heap.size + 1) 36 #[.int .i64 mb, .int .i64 fr, .int .i64 to, .int .i64 ea, .int .i64 la, .int .i64 du, .int .i64 ri, .int .i64 se, .int .i64 cr, .int .i64 ba]) := Lib.hid ((setRow_other _ _ _ _ hne').trans HQ8.out)
    have HBx : Hid (Below w.heap.size w (wa.setRow ga #[.bool a1, .int .i64 a2, .int .i64 a3, .int .i64 a4, .int .i64 e1, .int .i64 e2, .int .i64 e3, .int .i64 e4])) := Lib.hid (Go.below_setRow HBa.out hle _)
    clear HGa HA8 HQ8 HBa
    generalize wa.setRow ga #[.bool a1, .int .i64 a2, .int .i64 a3, .int .i64 a4, .int .i64 e1, .int .i64 e2, .int .i64 e3, .int .i64 e4] = wx at *
    go_wp2_with fail
    refine And.intro (by first | exact fun _ => ⟨HAx.out, HQx.out⟩ | exact ⟨HAx.out, HQx.out⟩) ?_
    refine wpAnyT_done (by kernel_rfl) ?_ _
    clear HQx
    go_wp2_with (refine wpList_load_row rfl 27 (.tmp 4) rfl w.heap.size rfl 27 #[.string nm, .slice LA L.length Lc, .int .i64 o, .int .i64 n, .int .i64 u, .string s, .slice A l.length c, .int .i64 oB, .int .i64 nB, .int .i64 uB, .string sB, .slice AB lB.length cB, .int .i64 oC, .int .i64 nC, .int .i64 uC, .string sC, .slice AC lC.length cC, .int .i64 oD, .int .i64 nD, .int .i64 uD, .string sD, .slice AD lD.length cD, .int .i64 q, .int .i64 sh, .int .i64 ch] (0, 0) _ HAx.out Tryz.underlying27 rfl (by kernel_rfl) ?_)
    have hchk := un_Check b0 wx (HPB.out.later HBx.out) HL6.out
    rw [HBV.out] at hchk
    refine hchk.mono ?_
    clear hchk
    rintro e w6 ⟨rfl, hb6⟩
    have HB6 : Hid (Below w.heap.size w w6) := Lib.hid (HBx.out.trans (hb6.mono HBx.out.size))
    have HG6 := Lib.hid (HGx.out.later hb6)
    clear hb6 HBx HGx HAx HPB HBV HL6
    generalize chkU b0 = K at *
    obtain ⟨r0, r1, r2, r3, r4, r5, r6, r7, rf, rz⟩ := Blk.b8 HG6.out
    have HGn : Hid (Blk (w6.alloc (.cells #[.int .i64 a2, .int .i64 a3, .int .i64 a4] 3)) w6.heap.size 3 #[.int .i64 a2, .int .i64 a3, .int .i64 a4]) := Lib.hid (Blk.new _ _ _)
    have HG7 : Hid (Blk (w6.alloc (.cells #[.int .i64 a2, .int .i64 a3, .int .i64 a4] 3)) ga 50 #[.bool a1, .int .i64 a2, .int .i64 a3, .int .i64 a4, .int .i64 e1, .int .i64 e2, .int .i64 e3, .int .i64 e4]) := Lib.hid (HG6.out.alloc _)
    have HB7 : Hid (Below w.heap.size w (w6.alloc (.cells #[.int .i64 a2, .int .i64 a3, .int .i64 a4] 3))) := Lib.hid (HB6.out.alloc HB6.out.size _)
    go_wp2_with fail
    have hgn : w6.heap.size < (w6.alloc (.cells #[.int .i64 a2, .int .i64 a3, .int .i64 a4] 3)).heap.size := by simp
    clear r0 r1 r2 r3 r4 r5 r6 r7 rf rz HB6 HG6
    generalize w6.alloc (.cells #[.int .i64 a2, .int .i64 a3, .int .i64 a4] 3) = w7 at *
    generalize w6.heap.size = gn at *
    go_loopw [13] (fun i wr => ∃ (k : Nat), k ≤ 4 ∧ i = .int .i64 k ∧ Below w7.heap.size w7 wr) (fun i _ => 4 - (intOf i).toNat)
    case atStart => exact ⟨0, by omega, rfl, Below.refl _ _⟩
    case round =>
      obtain ⟨k, hk, rfl, hbel⟩ := hrel
      have HBR : Hid (Below w.heap.size w wr) := Lib.hid (HB7.out.trans (hbel.mono HB7.out.size))
      by_cases hlt : k < 4
      · have HGR := Lib.hid (HG7.out.later hbel)
        obtain ⟨e, hce, heo⟩ : ∃ e, wr.cell? ⟨ga, 4 + k, none⟩ = some (.int .i64 e) ∧ EOK K k e := by
          have h := HGR.out
          rcases k with _ | _ | _ | _ | k
          · exact ⟨e1, h.cell 4, HK1.out⟩
          · exact ⟨e2, h.cell 5, HK2.out⟩
          · exact ⟨e3, h.cell 6, HK3.out⟩
          · exact ⟨e4, h.cell 7, HK4.out⟩
          · omega
        have rz := HGR.out.lt
        obtain ⟨x1, x2, x3⟩ := heo
        by_cases hk0 : (k : Int) = 0
        · have hkz : k = 0 := by omega
          subst hkz
          have hn3 : ¬ e = 3 := x3 rfl
          clear x3
          by_cases hK : K = 0
          · subst hK
            rcases x2 rfl with rfl | rfl | rfl | rfl
            · skip
              go_wp2_with fail
              go_roundw
              case rel => exact ⟨0 + 1, by omega, by go_num, by assumption⟩
              case measure => simp [intOf] <;> omega
            · skip
              go_wp2_with fail
              go_roundw
              case rel => exact ⟨0 + 1, by omega, by go_num, by assumption⟩
              case measure => simp [intOf] <;> omega
            · skip
              go_wp2_with fail
              go_roundw
              case rel => exact ⟨0 + 1, by omega, by go_num, by assumption⟩
              case measure => simp [intOf] <;> omega
            · exact absurd rfl hn3
          · have hek := x1 hK
            subst hek
            go_wp2_with fail
            go_roundw
            case rel => exact ⟨0 + 1, by omega, by go_num, by assumption⟩
            case measure => simp [intOf] <;> omega
        · clear x3
          by_cases hK : K = 0
          · subst hK
            rcases x2 rfl with rfl | rfl | rfl | rfl
            · skip
              go_wp2_with fail
              go_roundw
              case rel => exact ⟨k + 1, by omega, by go_num, by assumption⟩
              case measure => simp [intOf] <;> omega
            · skip
              go_wp2_with fail
              go_roundw
              case rel => exact ⟨k + 1, by omega, by go_num, by assumption⟩
              case measure => simp [intOf] <;> omega
            · skip
              go_wp2_with fail
              go_roundw
              case rel => exact ⟨k + 1, by omega, by go_num, by assumption⟩
              case measure => simp [intOf] <;> omega
            · skip
              go_wp2_with fail
              go_roundw
              case rel => exact ⟨k + 1, by omega, by go_num, by assumption⟩
              case measure => simp [intOf] <;> omega
          · have hek := x1 hK
            subst hek
            go_wp2_with fail
            go_roundw
            case rel => exact ⟨k + 1, by omega, by go_num, by assumption⟩
            case measure => simp [intOf] <;> omega
      · have HG8 := Lib.hid (HG7.out.later hbel)
        have HN8 := Lib.hid (HGn.out.later hbel)
        clear hbel HG7 HGn HB7
        go_wp2_with fail
        clear hgn
        generalize wr = w8 at *
        go_loopw [15] (fun i wz => ∃ (k : Nat), k ≤ 3 ∧ i = .int .i64 k ∧ Below w8.heap.size w8 wz) (fun i _ => 3 - (intOf i).toNat)
        case atStart => exact ⟨0, by omega, rfl, Below.refl _ _⟩
        case round =>
          obtain ⟨j, hj, rfl, hbel⟩ := hrel
          have HBZ : Hid (Below w.heap.size w wr) := Lib.hid (HBR.out.trans (hbel.mono HBR.out.size))
          have HGR := Lib.hid (HG8.out.later hbel)
          have rz := HGR.out.lt
          by_cases hjt : j < 3
          · have HNR := Lib.hid (HN8.out.later hbel)
            obtain ⟨a, e, hca, hce, x1, x2, x3⟩ : ∃ a e, wr.cell? ⟨gn, 0 + j, none⟩ = some (.int .i64 a) ∧ wr.cell? ⟨ga, 4 + (j + 1), none⟩ = some (.int .i64 e) ∧ AOK a e := by
              have h := HGR.out
              have h' := HNR.out
              rcases j with _ | _ | _ | j
              · exact ⟨a2, e2, h'.cell 0, h.cell 5, HM2.out⟩
              · exact ⟨a3, e3, h'.cell 1, h.cell 6, HM3.out⟩
              · exact ⟨a4, e4, h'.cell 2, h.cell 7, HM4.out⟩
              · omega
            simp only [Nat.zero_add] at hca
            have rzn := HNR.out.lt
            have hx1 : ¬ a < 0 := by omega
            have hx2 : ¬ 1000000000000000 < a := by omega
            have hij : ((j : Int) + 1).toNat = j + 1 := by omega
            by_cases he : e = 0
            · subst he
              clear x3
              go_wp2_with fail
              trace_state
              go_roundw
              case rel => exact ⟨j + 1, by omega, by go_num, by assumption⟩
              case measure => simp [intOf] <;> omega
            · have ha0 := x3 he
              subst ha0
              clear x3
              go_wp2_with fail
              trace_state
              go_roundw
              case rel => exact ⟨j + 1, by omega, by go_num, by assumption⟩
              case measure => simp [intOf] <;> omega
          · have r0 := HGR.out.cell 0
            have r4 := HGR.out.cell 4
            have hna := HNA.out
            by_cases he : e1 = 0
            · subst he
              go_wp2_with fail
              go_ret
              exact ⟨rfl, HBZ.out⟩
            · have ha1 := hna he
              subst ha1
              go_wp2_with fail
              go_ret
              exact ⟨rfl, HBZ.out⟩
end Go.Proofs.YtcgocdhhneckhaaGreat
/- Arguments of the laws: requests, as they lie in cells. -/
namespace Go.Proofs.YtcgocdhhneckhaaGreat
open Go.ChangeShapes Go.WideShapes Go.ChangeAt Go.RowKit Go.Deep
structure Rq where
  mb : Int
  fr : Int
  to : Int
  ea : Int
  la : Int
  du : Int
  ri : Int
  se : Int
  cr : Int
  ba : Int
def Rq.v (r : Rq) : Value := .agg #[.int .i64 r.mb, .int .i64 r.fr, .int .i64 r.to, .int .i64 r.ea, .int .i64 r.la, .int .i64 r.du, .int .i64 r.ri, .int .i64 r.se, .int .i64 r.cr, .int .i64 r.ba]
structure Rq.ok (r : Rq) : Prop where
  mb : I64 r.mb
  fr : I64 r.fr
  to : I64 r.to
  ea : I64 r.ea
  la : I64 r.la
  du : I64 r.du
  ri : I64 r.ri
  se : I64 r.se
  cr : I64 r.cr
  ba : I64 r.ba
section
variable {H : Type} {enc : TypeId × Value → H} {w : World} {base : Nat} {spare : Nat → Bool} {held : Bool}
theorem clReq : Tryz.prog.cellsOf 36 = 10 := by kernel_rfl
theorem one_int {fuel : Nat} {c : Value} {x : DataW H × List MemPlace} (h : DataW.trod enc Tryz.prog w base spare held fuel 3 [c] = some x) : ∃ z : Int, c = .int .i64 z ∧ I64 z := by
  obtain ⟨z0, e0, _, hw⟩ := DataW.trod_int Tryz.underlying3 h
  injection e0 with e0
  exact ⟨z0, e0, i64_in hw⟩
set_option maxRecDepth 100000 in
theorem open_req {r : Reach} {b0 : Nat} {v : Value} {d : DataW H} {p : List MemPlace} (hv : Value.okWide Tryz.prog w r b0 36 v) (h : DataW.Trod enc Tryz.prog w base spare held 36 v d p) :
    ∃ r : Rq, v = r.v ∧ r.ok := by
  obtain ⟨cs, rfl, hsz⟩ := okWide_struct Tryz.underlying36 hv
  obtain ⟨l⟩ := cs
  match l, hsz.trans clReq with
  | [c0, c1, c2, c3, c4, c5, c6, c7, c8, c9], _ =>
    obtain ⟨fuel, hf⟩ := h
    obtain ⟨xs, n, _, hx, _, hlen, hg⟩ := DataW.trod_struct Tryz.underlying36 hf
    have hlen' : xs.length = 10 := hlen
    match xs, hlen' with
    | [y0, y1, y2, y3, y4, y5, y6, y7, y8, y9], _ =>
      have g0 := hg 0 _ rfl
      have g1 := hg 1 _ rfl
      have g2 := hg 2 _ rfl
      have g3 := hg 3 _ rfl
      have g4 := hg 4 _ rfl
      have g5 := hg 5 _ rfl
      have g6 := hg 6 _ rfl
      have g7 := hg 7 _ rfl
      have g8 := hg 8 _ rfl
      have g9 := hg 9 _ rfl
      simp only [Value.cells, clInt, List.drop_zero, List.drop_succ_cons, List.take_succ_cons, List.take_zero, List.getElem?_cons_zero, List.getElem?_cons_succ] at g0 g1 g2 g3 g4 g5 g6 g7 g8 g9
      obtain ⟨z0, rfl, w0⟩ := one_int g0
      obtain ⟨z1, rfl, w1⟩ := one_int g1
      obtain ⟨z2, rfl, w2⟩ := one_int g2
      obtain ⟨z3, rfl, w3⟩ := one_int g3
      obtain ⟨z4, rfl, w4⟩ := one_int g4
      obtain ⟨z5, rfl, w5⟩ := one_int g5
      obtain ⟨z6, rfl, w6⟩ := one_int g6
      obtain ⟨z7, rfl, w7⟩ := one_int g7
      obtain ⟨z8, rfl, w8⟩ := one_int g8
      obtain ⟨z9, rfl, w9⟩ := one_int g9
      exact ⟨⟨z0, z1, z2, z3, z4, z5, z6, z7, z8, z9⟩, rfl, ⟨w0, w1, w2, w3, w4, w5, w6, w7, w8, w9⟩⟩
end
end Go.Proofs.YtcgocdhhneckhaaGreat
namespace Go.Proofs.YtcgocdhhneckhaaGreat
open Go.ChangeShapes Go.WideShapes Go.ChangeAt Go.RowKit
theorem Tryz.ownK : ownKnob Tryz.prog.godebug = none := by kernel_rfl
theorem Tryz.laidK : laidOutB Tryz.prog = true := by kernel_rfl
theorem faretotal_k (b : Byl) (r : Rq) (N M : Int) (W : World) (hb : Byl.At (· < W.heap.size) W b) (_ : I64 b.q) (_ : I64 b.sh) (_ : I64 b.ch) (_ : r.ok) (hN : I64 N) (hM : I64 M) :
    Calls Tryz.prog 6 #[b.v, r.v, .int .i64 N, .int .i64 M] W fun e w' => e = .returned (.bool true) ∧ Below W.heap.size W w' := faretotal b r.mb r.fr r.to r.ea r.la r.du r.ri r.se r.cr r.ba N M W hb hN hM
set_option maxRecDepth 100000 in
theorem ftot_lifted (os : Os) (started : os.Started) (H : Type) (enc : TypeId × Value → H) :
    ReturnsInHanded {} Tryz.checked os 6 .any (Rows.fareTotalSpec.pre6 enc Tryz.prog Tryz.f6 Rows.fareTotalRow.domain false) (Rows.fareTotalSpec.post enc Tryz.prog Tryz.f6 false true false false) := by
  refine returnsInHanded_of_change (C := Tryz.checked) Tryz.ownK started (by kernel_rfl) Tryz.func6
    (ChangeSpec.witness6 (enc := enc) (C := Tryz.checked) false ⟨#[], #[.agg #[.string ByteArray.empty, .slice none 0 0, .int .i64 0, .int .i64 0, .int .i64 0, .string ByteArray.empty, .slice none 0 0, .int .i64 0, .int .i64 0, .int .i64 0, .string ByteArray.empty, .slice none 0 0, .int .i64 0, .int .i64 0, .int .i64 0, .string ByteArray.empty, .slice none 0 0, .int .i64 0, .int .i64 0, .int .i64 0, .string ByteArray.empty, .slice none 0 0, .int .i64 0, .int .i64 0, .int .i64 0], .agg #[.int .i64 0, .int .i64 0, .int .i64 0, .int .i64 0, .int .i64 0, .int .i64 0, .int .i64 0, .int .i64 0, .int .i64 0, .int .i64 0], .int .i64 0, .int .i64 0], []⟩ 8 (by kernel_rfl) (by kernel_rfl) (by kernel_rfl) (by kernel_rfl)) ?_
  intro W base args ds gs before hval0 hW _ _
  have hval : ∀ (j : Nat) t v, Tryz.f6.params[j]? = some t → args[j]? = some v → Value.okWide Tryz.prog W .any base t v := hval0
  have hW' := hW
  obtain ⟨p, q, hA0, hV, rfl, _, _⟩ := hW
  have hA : DataW.TrodAll enc Tryz.prog W 0 (fun _ => true) true Tryz.f6.params.toList args.toList ds p := hA0
  rw [Tryz.params6] at hA hval
  obtain ⟨v0, vs0, d0, ds0, p0, q0, hargs, rfl, rfl, h0, r0⟩ := trodAll_cons hA
  obtain ⟨v1, vs1, d1, ds1, p1, q1, rfl, rfl, rfl, h1, r1⟩ := trodAll_cons r0
  obtain ⟨v2, vs2, d2, ds2, p2, q2, rfl, rfl, rfl, h2, r2⟩ := trodAll_cons r1
  obtain ⟨v3, vs3, d3, ds3, p3, q3, rfl, rfl, rfl, h3, r3⟩ := trodAll_cons r2
  obtain ⟨rfl, rfl, rfl⟩ := trodAll_nil r3
  obtain rfl : args = #[v0, v1, v2, v3] := by cases args; simp_all
  obtain ⟨rfl, rfl⟩ := trodVars_none hV
  have k0 := h0
  have k1 := h1
  have k2 := h2
  have k3 := h3
  obtain ⟨s0, rfl, hr0_0, hr0_1, hr0_2, hr0_3⟩ := open_byl (hval 0 27 v0 rfl rfl) h0
  obtain ⟨s1, rfl, hr1_0⟩ := open_req (hval 1 36 v1 rfl rfl) h1
  obtain ⟨a2, rfl, rfl, rfl, w2⟩ := open_int Tryz.underlying3 (hval 2 3 v2 rfl rfl) h2
  obtain ⟨a3, rfl, rfl, rfl, w3⟩ := open_int Tryz.underlying3 (hval 3 3 v3 rfl rfl) h3
  have hlt0 : ∀ x ∈ p0, x.block < W.heap.size := fun x hx => hW'.lt x (by simp [hx])
  have hlt1 : ∀ x ∈ p1, x.block < W.heap.size := fun x hx => hW'.lt x (by simp [hx])
  clear hA hA0 hval0 hval r0 r1 r2 r3 
  refine (faretotal_k s0 s1 a2 a3 W hr0_0 hr0_1 hr0_2 hr0_3 hr1_0 (i64_in w2) (i64_in w3)).mono fun e W' ⟨he, hbel⟩ => ?_
  subst he
  have nil : ∀ x ∈ ([] : List MemPlace), x.block < W.heap.size := fun x hx => by simp at hx
  refine ⟨_, rfl, _, _, _, [], p0 ++ (p1 ++ ([] ++ ([] ++ ([])))), [], hW', ?_, ?_, rfl, hbel.frame _, fun h => by cases h⟩
  · exact trodAll_mk1 (shut_bool Tryz.underlying4 true)
  · exact trodAll_cons_mk (Below.trod Tryz.laidK (by kernel_rfl) (of_decide_eq_true (by kernel_rfl)) k0 hbel hlt0) (trodAll_cons_mk (Below.trod Tryz.laidK (by kernel_rfl) (of_decide_eq_true (by kernel_rfl)) k1 hbel hlt1) (trodAll_cons_mk (Below.trod Tryz.laidK (by kernel_rfl) (of_decide_eq_true (by kernel_rfl)) k2 hbel nil) (trodAll_cons_mk (Below.trod Tryz.laidK (by kernel_rfl) (of_decide_eq_true (by kernel_rfl)) k3 hbel nil) trodAll_mk0)))
theorem ftot_holds : Rows.FareTotalSaid :=
  OpenClaim.holds_of_wide 6 Tryz.f6 rfl rfl rfl rfl rfl rfl rfl ⟨rfl, rfl, rfl, rfl, rfl⟩ rfl rfl rfl rfl rfl (by kernel_rfl) Tryz.func6 (by kernel_rfl)
    (of_decide_eq_true (by kernel_rfl)) (by unfold Func.isWrapper; first | (rw [if_pos (by decide +kernel)]; kernel_rfl) | (rw [if_neg (by decide +kernel)]; exact ⟨rfl, rfl⟩))
    (fun os started H enc _ => ftot_lifted os started H enc)
#print axioms ftot_holds
end Go.Proofs.YtcgocdhhneckhaaGreat
