/- Walk: FareNames. -/
import Derived.Test.YtcgocdhhneckhaaGreatFnammxbr
import Derived.Test.YtcgocdhhneckhaaGreatFnammxbs
import Derived.Test.YtcgocdhhneckhaaGreatFnammxbo
import Derived.Test.YtcgocdhhneckhaaGreatFnammxbu
namespace Go.Proofs.YtcgocdhhneckhaaGreat
open Go.RowKit
theorem near_iff {n : Int} : (decide (n ≤ 1099511627776) && decide (-1099511627776 ≤ n)) = true ↔ near n := by
  unfold near
  rw [Bool.and_eq_true, decide_eq_true_eq, decide_eq_true_eq]
  omega
theorem run_row {P : Program} {o : Oper} {a : Act} {w : World} {g : Nat} {t ty : TypeId} {cs : Array Value} {d : TypeDesc} {x : Operand} (ho : o.op = .load ty x) (hx : a.eval x = .pointer (some ⟨g, 0, none⟩)) (hg : Blk w g t cs) (hu : P.underlying ty = some d) (hd : (match d with | .struct _ | .array _ _ => true | _ => false) = true) (hi : (P.info? ty).map (·.size) = some cs.size) : (execOp a.eval o).run P w = .ok (.value (.agg cs)) w := by
  unfold execOp
  simp only [ho, hx, Instr.loadAt, Instr.sureAddr, Sem.run_bind, Sem.run_pure, Result.andThen_ok, run_loadVar_row w g t ty cs (0, 0) d hg hu hd hi]
theorem ask_v (b : Byl) (sT sM : Sl FT) (T M : List FT) (w : World) (hT0 : sT.l = T) (hM0 : sM.l = M) (hb : Byl.At (· < w.heap.size) w b) (h40 : b.lets.l.length ≤ 1000000) (hT : FactsAt (· < w.heap.size) w sT) (hM : FactsAt (· < w.heap.size) w sM) (V1 : Bool × Int) (V2 V3 V4 : Int × Int) (h1 : admC b T M = V1) (h2 : whC b b.fa T M = V2) (h3 : whC b b.la T M = V3) (h4 : whC b b.no T M = V4) :
    Calls Tryz.prog 23 #[b.v, .slice sT.A sT.l.length sT.c, .slice sM.A sM.l.length sM.c] w fun r w' => r = .returned (.agg #[.bool (V1).1, .int .i64 (V2).1, .int .i64 (V3).1, .int .i64 (V4).1, .int .i64 (V1).2, .int .i64 (V2).2, .int .i64 (V3).2, .int .i64 (V4).2]) ∧ Below w.heap.size w w' := by
  have h := law_ask b sT sM w hb h40 hT hM
  subst h1 h2 h3 h4
  rw [← hT0, ← hM0]
  exact h
theorem fn_trip (b : Byl) {N M se cr ba V : Int} {x : ByteArray} (hN : near N) (hM : near M) (h1 : near se) (h2 : near cr) (h3 : near ba) (hV : near V) (hb : BylNo 2 x b) :
    admC b (chgF (tripL N M 3 4 se cr ba 2) x V) (riderL M N 1 2) = admC b (tripL N M 3 4 se cr ba 2) (riderL M N 1 2) ∧ whC b b.fa (chgF (tripL N M 3 4 se cr ba 2) x V) (riderL M N 1 2) = whC b b.fa (tripL N M 3 4 se cr ba 2) (riderL M N 1 2) ∧ whC b b.la (chgF (tripL N M 3 4 se cr ba 2) x V) (riderL M N 1 2) = whC b b.la (tripL N M 3 4 se cr ba 2) (riderL M N 1 2) ∧ whC b b.no (chgF (tripL N M 3 4 se cr ba 2) x V) (riderL M N 1 2) = whC b b.no (tripL N M 3 4 se cr ba 2) (riderL M N 1 2) := by
  have fT : factsB (tripL N M 3 4 se cr ba 2) = true := trip_factsB hN hM (by unfold near; omega) (by unfold near; omega) h1 h2 h3 (by unfold near; omega)
  have fM : factsB (riderL M N 1 2) = true := rider_factsB hM hN (by unfold near; omega) (by unfold near; omega)
  have fC : factsB (chgF (tripL N M 3 4 se cr ba 2) x V) = true := chgF_factsB fT hV
  have ag : Agree 2 x (tripL N M 3 4 se cr ba 2) (chgF (tripL N M 3 4 se cr ba 2) x V) (riderL M N 1 2) (riderL M N 1 2) := agree_trip
  exact ⟨((admC_agree ag hb fT fC fM fM).2 rfl).symm, (whC_agree ag hb.lets hb.fa fT fC fM fM).symm, (whC_agree ag hb.lets hb.la fT fC fM fM).symm, (whC_agree ag hb.lets hb.no fT fC fM fM).symm⟩
theorem fn_memb (b : Byl) {N M se cr ba V : Int} {x : ByteArray} (hN : near N) (hM : near M) (h1 : near se) (h2 : near cr) (h3 : near ba) (hV : near V) (hb : BylNo 3 x b) :
    (admC b (tripL N M 3 4 se cr ba 2) (chgF (riderL M N 1 2) x V)).2 = (admC b (tripL N M 3 4 se cr ba 2) (riderL M N 1 2)).2 ∧ (tripsN (chgF (riderL M N 1 2) x V) = tripsN (riderL M N 1 2) → admC b (tripL N M 3 4 se cr ba 2) (chgF (riderL M N 1 2) x V) = admC b (tripL N M 3 4 se cr ba 2) (riderL M N 1 2)) ∧ whC b b.fa (tripL N M 3 4 se cr ba 2) (chgF (riderL M N 1 2) x V) = whC b b.fa (tripL N M 3 4 se cr ba 2) (riderL M N 1 2) ∧ whC b b.la (tripL N M 3 4 se cr ba 2) (chgF (riderL M N 1 2) x V) = whC b b.la (tripL N M 3 4 se cr ba 2) (riderL M N 1 2) ∧ whC b b.no (tripL N M 3 4 se cr ba 2) (chgF (riderL M N 1 2) x V) = whC b b.no (tripL N M 3 4 se cr ba 2) (riderL M N 1 2) := by
  have fT : factsB (tripL N M 3 4 se cr ba 2) = true := trip_factsB hN hM (by unfold near; omega) (by unfold near; omega) h1 h2 h3 (by unfold near; omega)
  have fM : factsB (riderL M N 1 2) = true := rider_factsB hM hN (by unfold near; omega) (by unfold near; omega)
  have fC : factsB (chgF (riderL M N 1 2) x V) = true := chgF_factsB fM hV
  have ag : Agree 3 x (tripL N M 3 4 se cr ba 2) (tripL N M 3 4 se cr ba 2) (riderL M N 1 2) (chgF (riderL M N 1 2) x V) := agree_memb
  have h := admC_agree ag hb fT fT fM fC
  exact ⟨h.1.symm, fun ht => (h.2 ht.symm).symm, (whC_agree ag hb.lets hb.fa fT fT fM fC).symm, (whC_agree ag hb.lets hb.la fT fT fM fC).symm, (whC_agree ag hb.lets hb.no fT fT fM fC).symm⟩
theorem trips_same {N M V : Int} {j : Nat} {x : FT} (hx : (riderL M N 1 2)[j]? = some x) (hj : j ≠ 2) : tripsN (chgF (riderL M N 1 2) x.nm V) = tripsN (riderL M N 1 2) := by
  rcases j with _ | _ | _ | _ | j
  · obtain rfl : (⟨(⟨#[102, 97, 118, 111, 117, 114]⟩ : ByteArray), M⟩ : FT) = x := by simpa [riderL] using hx
    kernel_rfl
  · obtain rfl : (⟨(⟨#[98, 97, 108, 97, 110, 99, 101]⟩ : ByteArray), N⟩ : FT) = x := by simpa [riderL] using hx
    kernel_rfl
  · exact absurd rfl hj
  · obtain rfl : (⟨(⟨#[110, 111, 115, 104, 111, 119, 115]⟩ : ByteArray), 2⟩ : FT) = x := by simpa [riderL] using hx
    kernel_rfl
  · simp [riderL] at hx
theorem feeB_at {b : Byl} {A : Option Addr} {c : Nat} {W : World} (hb : Byl.At (· < W.heap.size) W b) (hr : Rd (· < W.heap.size) 6 LT.enc W ⟨A, c, b.lets.l ++ [⟨(⟨#[102, 101, 101]⟩ : ByteArray), b.fa⟩]⟩) : Byl.At (· < W.heap.size) W (feeB b A c) := by
  refine ⟨hb.nm, ⟨hr, fun x hx => ?_⟩, hb.ad, .mk (by show (3 : Nat) ≤ _; omega) (Rd.nil _ _ _ _) (fun x hx => by cases hx), hb.la, hb.no⟩
  rcases List.mem_append.1 hx with h | h
  · exact hb.lets.all x h
  · rw [List.mem_singleton.1 h]
    exact ⟨by show (3 : Nat) ≤ _; omega, hb.fa⟩
theorem own_ne {g h n c : Nat} (hgh : g ≠ h) : some g ≠ (Value.slice (some ⟨h, 0, none⟩) n c).ownBlock := fun hc => by
  simp only [Value.ownBlock] at hc
  injection hc with hc
  exact hgh hc
set_option maxRecDepth 100000 in
set_option maxHeartbeats 6400000 in
theorem farenames (b : Byl) (mb fr to ea la du ri se cr ba N M at_ V : Int) (w : World) (hb : Byl.At (· < w.heap.size) w b) (hN : I64 N) (hM : I64 M) (hV : I64 V) (ha0 : 0 ≤ at_) (ha1 : at_ < 256) : Calls Tryz.prog 5 #[b.v, .agg #[.int .i64 mb, .int .i64 fr, .int .i64 to, .int .i64 ea, .int .i64 la, .int .i64 du, .int .i64 ri, .int .i64 se, .int .i64 cr, .int .i64 ba], .int .i64 N, .int .i64 M, .int .u8 at_, .int .i64 V] w fun e w' => e = .returned (.bool true) ∧ Below w.heap.size w w' := by
  have HP := Lib.hid hb
  have hn := hb.lets.rd.len
  clear hb
  obtain ⟨b0, hb0⟩ : ∃ b0, b0 = b := ⟨_, rfl⟩
  obtain ⟨nm, ⟨LA, Lc, L⟩, ⟨o, n, u, s, A, c, l⟩, ⟨oB, nB, uB, sB, AB, cB, lB⟩, ⟨oC, nC, uC, sC, AC, cC, lC⟩, ⟨oD, nD, uD, sD, AD, cD, lD⟩, q, sh, ch⟩ := b
  have HBV : Hid (b0.v = .agg #[.string nm, .slice LA L.length Lc, .int .i64 o, .int .i64 n, .int .i64 u, .string s, .slice A l.length c, .int .i64 oB, .int .i64 nB, .int .i64 uB, .string sB, .slice AB lB.length cB, .int .i64 oC, .int .i64 nC, .int .i64 uC, .string sC, .slice AC lC.length cC, .int .i64 oD, .int .i64 nD, .int .i64 uD, .string sD, .slice AD lD.length cD, .int .i64 q, .int .i64 sh, .int .i64 ch]) := Lib.hid (by rw [hb0]; rfl)
  have HPB : Hid (Byl.At (· < w.heap.size) w b0) := Lib.hid (by rw [hb0]; exact HP.out)
  have HB00 := Lib.hid hb0
  clear hb0 HP
  simp only at hn
  simp only [Byl.v]
  have HB1 : Hid (Below w.heap.size w ((w.alloc (.cells #[.string nm, .slice LA L.length Lc, .int .i64 o, .int .i64 n, .int .i64 u, .string s, .slice A l.length c, .int .i64 oB, .int .i64 nB, .int .i64 uB, .string sB, .slice AB lB.length cB, .int .i64 oC, .int .i64 nC, .int .i64 uC, .string sC, .slice AC lC.length cC, .int .i64 oD, .int .i64 nD, .int .i64 uD, .string sD, .slice AD lD.length cD, .int .i64 q, .int .i64 sh, .int .i64 ch] 27)).alloc (.cells #[.int .i64 mb, .int .i64 fr, .int .i64 to, .int .i64 ea, .int .i64 la, .int .i64 du, .int .i64 ri, .int .i64 se, .int .i64 cr, .int .i64 ba] 36))) := Lib.hid qbl
  have HA1 : Hid (Blk ((w.alloc (.cells #[.string nm, .slice LA L.length Lc, .int .i64 o, .int .i64 n, .int .i64 u, .string s, .slice A l.length c, .int .i64 oB, .int .i64 nB, .int .i64 uB, .string sB, .slice AB lB.length cB, .int .i64 oC, .int .i64 nC, .int .i64 uC, .string sC, .slice AC lC.length cC, .int .i64 oD, .int .i64 nD, .int .i64 uD, .string sD, .slice AD lD.length cD, .int .i64 q, .int .i64 sh, .int .i64 ch] 27)).alloc (.cells #[.int .i64 mb, .int .i64 fr, .int .i64 to, .int .i64 ea, .int .i64 la, .int .i64 du, .int .i64 ri, .int .i64 se, .int .i64 cr, .int .i64 ba] 36)) w.heap.size 27 #[.string nm, .slice LA L.length Lc, .int .i64 o, .int .i64 n, .int .i64 u, .string s, .slice A l.length c, .int .i64 oB, .int .i64 nB, .int .i64 uB, .string sB, .slice AB lB.length cB, .int .i64 oC, .int .i64 nC, .int .i64 uC, .string sC, .slice AC lC.length cC, .int .i64 oD, .int .i64 nD, .int .i64 uD, .string sD, .slice AD lD.length cD, .int .i64 q, .int .i64 sh, .int .i64 ch]) := Lib.hid ((Blk.new _ _ _).alloc _)
  have HQ1 : Hid (Blk ((w.alloc (.cells #[.string nm, .slice LA L.length Lc, .int .i64 o, .int .i64 n, .int .i64 u, .string s, .slice A l.length c, .int .i64 oB, .int .i64 nB, .int .i64 uB, .string sB, .slice AB lB.length cB, .int .i64 oC, .int .i64 nC, .int .i64 uC, .string sC, .slice AC lC.length cC, .int .i64 oD, .int .i64 nD, .int .i64 uD, .string sD, .slice AD lD.length cD, .int .i64 q, .int .i64 sh, .int .i64 ch] 27)).alloc (.cells #[.int .i64 mb, .int .i64 fr, .int .i64 to, .int .i64 ea, .int .i64 la, .int .i64 du, .int .i64 ri, .int .i64 se, .int .i64 cr, .int .i64 ba] 36)) (w.heap.size + 1) 36 #[.int .i64 mb, .int .i64 fr, .int .i64 to, .int .i64 ea, .int .i64 la, .int .i64 du, .int .i64 ri, .int .i64 se, .int .i64 cr, .int .i64 ba]) := Lib.hid (Blk.new' (by simp))
  go_enter Tryz.func5, Tryz.ntmps5
  go_wp2_with fail
  generalize (w.alloc (.cells #[.string nm, .slice LA L.length Lc, .int .i64 o, .int .i64 n, .int .i64 u, .string s, .slice A l.length c, .int .i64 oB, .int .i64 nB, .int .i64 uB, .string sB, .slice AB lB.length cB, .int .i64 oC, .int .i64 nC, .int .i64 uC, .string sC, .slice AC lC.length cC, .int .i64 oD, .int .i64 nD, .int .i64 uD, .string sD, .slice AD lD.length cD, .int .i64 q, .int .i64 sh, .int .i64 ch] 27)).alloc (.cells #[.int .i64 mb, .int .i64 fr, .int .i64 to, .int .i64 ea, .int .i64 la, .int .i64 du, .int .i64 ri, .int .i64 se, .int .i64 cr, .int .i64 ba] 36) = w1 at *
  refine (law_small w1).mono ?_
  rintro e w2 ⟨rfl, hb2⟩
  have HB2 : Hid (Below w.heap.size w w2) := Lib.hid (HB1.out.trans (hb2.mono HB1.out.size))
  have HA2 := Lib.hid (HA1.out.later hb2)
  have HQ2 := Lib.hid (HQ1.out.later hb2)
  clear hb2 HB1 HA1 HQ1
  go_wp2_with (refine wpList_load_row rfl 27 (.tmp 6) rfl w.heap.size rfl 27 #[.string nm, .slice LA L.length Lc, .int .i64 o, .int .i64 n, .int .i64 u, .string s, .slice A l.length c, .int .i64 oB, .int .i64 nB, .int .i64 uB, .string sB, .slice AB lB.length cB, .int .i64 oC, .int .i64 nC, .int .i64 uC, .string sC, .slice AC lC.length cC, .int .i64 oD, .int .i64 nD, .int .i64 uD, .string sD, .slice AD lD.length cD, .int .i64 q, .int .i64 sh, .int .i64 ch] (0, 0) _ HA2.out Tryz.underlying27 rfl (by kernel_rfl) ?_)
  have hf := few33 b0 ⟨none, 0, []⟩ ⟨none, 0, []⟩ w2 (HPB.out.later HB2.out) facts_nil facts_nil
  rw [HBV.out] at hf
  simp only [List.length_nil] at hf
  refine hf.mono ?_
  clear hf
  rintro e w4 ⟨t, rfl, ht, hb4⟩
  have HB4 : Hid (Below w.heap.size w w4) := Lib.hid (HB2.out.trans (hb4.mono HB2.out.size))
  have HA4 := Lib.hid (HA2.out.later hb4)
  have HQ4 := Lib.hid (HQ2.out.later hb4)
  clear hb4 HB2 HA2 HQ2
  rcases t
  · go_wp2_with fail
    go_ret
    exact ⟨rfl, HB4.out⟩
  have HL6 : Hid (b0.lets.l.length ≤ 6) := Lib.hid (ht rfl).1
  clear ht
  obtain ⟨q7, q8, q9, qz⟩ : w4.cell? ⟨w.heap.size + 1, 7, none⟩ = some (.int .i64 se) ∧ w4.cell? ⟨w.heap.size + 1, 8, none⟩ = some (.int .i64 cr) ∧ w4.cell? ⟨w.heap.size + 1, 9, none⟩ = some (.int .i64 ba) ∧ w.heap.size + 1 < w4.heap.size := ⟨HQ4.out.cell 7, HQ4.out.cell 8, HQ4.out.cell 9, HQ4.out.lt⟩
  go_wp2_with fail
  refine (law_near N _).mono ?_
  rintro e w' ⟨rfl, hw⟩
  replace hw := hw.symm
  subst hw
  obtain ⟨t, ht⟩ : ∃ t, (decide (N ≤ 1099511627776) && decide (-1099511627776 ≤ N)) = t := ⟨_, rfl⟩
  rw [ht]
  rcases t
  · go_wp2_with fail
    go_ret
    exact ⟨rfl, HB4.out⟩
  have HNN := Lib.hid (near_iff.1 ht)
  clear ht
  go_wp2_with fail
  refine (law_near M _).mono ?_
  rintro e w' ⟨rfl, hw⟩
  replace hw := hw.symm
  subst hw
  obtain ⟨t, ht⟩ : ∃ t, (decide (M ≤ 1099511627776) && decide (-1099511627776 ≤ M)) = t := ⟨_, rfl⟩
  rw [ht]
  rcases t
  · go_wp2_with fail
    go_ret
    exact ⟨rfl, HB4.out⟩
  have HNM := Lib.hid (near_iff.1 ht)
  clear ht
  go_wp2_with fail
  refine (law_near V _).mono ?_
  rintro e w' ⟨rfl, hw⟩
  replace hw := hw.symm
  subst hw
  obtain ⟨t, ht⟩ : ∃ t, (decide (V ≤ 1099511627776) && decide (-1099511627776 ≤ V)) = t := ⟨_, rfl⟩
  rw [ht]
  rcases t
  · go_wp2_with fail
    go_ret
    exact ⟨rfl, HB4.out⟩
  have HNV := Lib.hid (near_iff.1 ht)
  clear ht
  go_wp2_with fail
  refine (law_near se _).mono ?_
  rintro e w' ⟨rfl, hw⟩
  replace hw := hw.symm
  subst hw
  obtain ⟨t, ht⟩ : ∃ t, (decide (se ≤ 1099511627776) && decide (-1099511627776 ≤ se)) = t := ⟨_, rfl⟩
  rw [ht]
  rcases t
  · go_wp2_with fail
    go_ret
    exact ⟨rfl, HB4.out⟩
  have HNS := Lib.hid (near_iff.1 ht)
  clear ht
  go_wp2_with fail
  refine (law_near cr _).mono ?_
  rintro e w' ⟨rfl, hw⟩
  replace hw := hw.symm
  subst hw
  obtain ⟨t, ht⟩ : ∃ t, (decide (cr ≤ 1099511627776) && decide (-1099511627776 ≤ cr)) = t := ⟨_, rfl⟩
  rw [ht]
  rcases t
  · go_wp2_with fail
    go_ret
    exact ⟨rfl, HB4.out⟩
  have HNC := Lib.hid (near_iff.1 ht)
  clear ht
  go_wp2_with fail
  refine (law_near ba _).mono ?_
  rintro e w' ⟨rfl, hw⟩
  replace hw := hw.symm
  subst hw
  obtain ⟨t, ht⟩ : ∃ t, (decide (ba ≤ 1099511627776) && decide (-1099511627776 ≤ ba)) = t := ⟨_, rfl⟩
  rw [ht]
  rcases t
  · go_wp2_with fail
    go_ret
    exact ⟨rfl, HB4.out⟩
  have HNB := Lib.hid (near_iff.1 ht)
  clear ht
  clear q7 q8 q9 qz
  go_wp2_with (refine wpList_load_row rfl 36 (.tmp 7) rfl (w.heap.size + 1) rfl 36 #[.int .i64 mb, .int .i64 fr, .int .i64 to, .int .i64 ea, .int .i64 la, .int .i64 du, .int .i64 ri, .int .i64 se, .int .i64 cr, .int .i64 ba] (0, 0) _ HQ4.out Tryz.underlying36 rfl (by kernel_rfl) ?_)
  refine (fare_Trip mb fr to ea la du ri se cr ba N M 3 4 2 _).mono ?_
  rintro e w6 ⟨sT, rfl, heT, hfT, hb6⟩
  have HB6 : Hid (Below w.heap.size w w6) := Lib.hid (HB4.out.trans (hb6.mono HB4.out.size))
  have HA6 := Lib.hid (HA4.out.later hb6)
  have HET := Lib.hid heT
  have HFT6 := Lib.hid hfT
  clear heT hfT hb6 HB4 HA4 HQ4
  go_wp2_with fail
  refine (fare_Rider M N 1 2 _).mono ?_
  rintro e w7 ⟨sM, rfl, heM, hfM, hb7⟩
  have HB7 : Hid (Below w.heap.size w w7) := Lib.hid (HB6.out.trans (hb7.mono HB6.out.size))
  have HA7 := Lib.hid (HA6.out.later hb7)
  have HFT7 := Lib.hid (HFT6.out.later hb7)
  have HEM := Lib.hid heM
  have HFM7 := Lib.hid hfM
  clear heM hfM hb7 HB6 HA6 HFT6
  obtain ⟨V1, hV1⟩ : ∃ V, admC b0 (tripL N M 3 4 se cr ba 2) (riderL M N 1 2) = V := ⟨_, rfl⟩
  obtain ⟨V2, hV2⟩ : ∃ V, whC b0 b0.fa (tripL N M 3 4 se cr ba 2) (riderL M N 1 2) = V := ⟨_, rfl⟩
  obtain ⟨V3, hV3⟩ : ∃ V, whC b0 b0.la (tripL N M 3 4 se cr ba 2) (riderL M N 1 2) = V := ⟨_, rfl⟩
  obtain ⟨V4, hV4⟩ : ∃ V, whC b0 b0.no (tripL N M 3 4 se cr ba 2) (riderL M N 1 2) = V := ⟨_, rfl⟩
  have HV1 := Lib.hid hV1
  have HV2 := Lib.hid hV2
  have HV3 := Lib.hid hV3
  have HV4 := Lib.hid hV4
  clear hV1 hV2 hV3 hV4
  have hask := ask_v b0 sT sM _ _ _ HET.out HEM.out (HPB.out.later HB7.out) (by have := HL6.out; omega) HFT7.out HFM7.out V1 V2 V3 V4 HV1.out HV2.out HV3.out HV4.out
  rw [HBV.out] at hask
  go_wp2_with (refine wpList_load_row rfl 27 (.tmp 6) rfl w.heap.size rfl 27 #[.string nm, .slice LA L.length Lc, .int .i64 o, .int .i64 n, .int .i64 u, .string s, .slice A l.length c, .int .i64 oB, .int .i64 nB, .int .i64 uB, .string sB, .slice AB lB.length cB, .int .i64 oC, .int .i64 nC, .int .i64 uC, .string sC, .slice AC lC.length cC, .int .i64 oD, .int .i64 nD, .int .i64 uD, .string sD, .slice AD lD.length cD, .int .i64 q, .int .i64 sh, .int .i64 ch] (0, 0) _ HA7.out Tryz.underlying27 rfl (by kernel_rfl) ?_)
  refine hask.mono ?_
  clear hask
  rintro e w8 ⟨rfl, hb8⟩
  have HB8 : Hid (Below w.heap.size w w8) := Lib.hid (HB7.out.trans (hb8.mono HB7.out.size))
  have HA8 := Lib.hid (HA7.out.later hb8)
  have HFT8 := Lib.hid (HFT7.out.later hb8)
  have HFM8 := Lib.hid (HFM7.out.later hb8)
  clear hb8 HB7 HA7 HFT7 HFM7
  obtain ⟨a1, e1⟩ := V1
  obtain ⟨a2, e2⟩ := V2
  obtain ⟨a3, e3⟩ := V3
  obtain ⟨a4, e4⟩ := V4
  have qN := ans_neq a1 a2 a3 a4 e1 e2 e3 e4
  have qE := ans_eql a1 a2 a3 a4 e1 e2 e3 e4
  have qG := ans_guard
  go_wp2_with (refine wpList_store_row rfl 50 (.tmp 16) (.tmp 69) rfl w8.heap.size #[.bool a1, .int .i64 a2, .int .i64 a3, .int .i64 a4, .int .i64 e1, .int .i64 e2, .int .i64 e3, .int .i64 e4] rfl rfl 50 #[.bool false, .int .i64 0, .int .i64 0, .int .i64 0, .int .i64 0, .int .i64 0, .int .i64 0, .int .i64 0] (Blk.new w8 _ _) (by kernel_rfl) rfl (by kernel_rfl) ?_; apply Hid.out)
  have hlt8 : w.heap.size < w8.heap.size := HA8.out.lt
  have hne : w.heap.size ≠ w8.heap.size := by omega
  have HGx : Hid (Blk ((w8.alloc (.cells #[.bool false, .int .i64 0, .int .i64 0, .int .i64 0, .int .i64 0, .int .i64 0, .int .i64 0, .int .i64 0] 50)).setRow w8.heap.size #[.bool a1, .int .i64 a2, .int .i64 a3, .int .i64 a4, .int .i64 e1, .int .i64 e2, .int .i64 e3, .int .i64 e4]) w8.heap.size 50 #[.bool a1, .int .i64 a2, .int .i64 a3, .int .i64 a4, .int .i64 e1, .int .i64 e2, .int .i64 e3, .int .i64 e4]) := Lib.hid (setRow_heap _ _ #[.bool false, .int .i64 0, .int .i64 0, .int .i64 0, .int .i64 0, .int .i64 0, .int .i64 0, .int .i64 0] _ _ (0, 0) (Blk.new w8 _ _))
  have HAx : Hid (Blk ((w8.alloc (.cells #[.bool false, .int .i64 0, .int .i64 0, .int .i64 0, .int .i64 0, .int .i64 0, .int .i64 0, .int .i64 0] 50)).setRow w8.heap.size #[.bool a1, .int .i64 a2, .int .i64 a3, .int .i64 a4, .int .i64 e1, .int .i64 e2, .int .i64 e3, .int .i64 e4]) w.heap.size 27 #[.string nm, .slice LA L.length Lc, .int .i64 o, .int .i64 n, .int .i64 u, .string s, .slice A l.length c, .int .i64 oB, .int .i64 nB, .int .i64 uB, .string sB, .slice AB lB.length cB, .int .i64 oC, .int .i64 nC, .int .i64 uC, .string sC, .slice AC lC.length cC, .int .i64 oD, .int .i64 nD, .int .i64 uD, .string sD, .slice AD lD.length cD, .int .i64 q, .int .i64 sh, .int .i64 ch]) := Lib.hid ((setRow_other _ _ _ _ hne).trans (HA8.out.alloc _))
  have HBx : Hid (Below w.heap.size w ((w8.alloc (.cells #[.bool false, .int .i64 0, .int .i64 0, .int .i64 0, .int .i64 0, .int .i64 0, .int .i64 0, .int .i64 0] 50)).setRow w8.heap.size #[.bool a1, .int .i64 a2, .int .i64 a3, .int .i64 a4, .int .i64 e1, .int .i64 e2, .int .i64 e3, .int .i64 e4])) := Lib.hid (Go.below_setRow (HB8.out.alloc HB8.out.size _) HB8.out.size _)
  have HDx : Hid (Below w8.heap.size w8 ((w8.alloc (.cells #[.bool false, .int .i64 0, .int .i64 0, .int .i64 0, .int .i64 0, .int .i64 0, .int .i64 0, .int .i64 0] 50)).setRow w8.heap.size #[.bool a1, .int .i64 a2, .int .i64 a3, .int .i64 a4, .int .i64 e1, .int .i64 e2, .int .i64 e3, .int .i64 e4])) := Lib.hid (Go.below_setRow ((Below.refl _ _).alloc (Nat.le_refl _) _) (Nat.le_refl _) _)
  have HFTx := Lib.hid (HFT8.out.later HDx.out)
  have HFMx := Lib.hid (HFM8.out.later HDx.out)
  have HGN : Hid (w.heap.size < w8.heap.size) := Lib.hid hlt8
  clear hlt8 hne HB8 HA8 HFT8 HFM8 HDx
  generalize (w8.alloc (.cells #[.bool false, .int .i64 0, .int .i64 0, .int .i64 0, .int .i64 0, .int .i64 0, .int .i64 0, .int .i64 0] 50)).setRow w8.heap.size #[.bool a1, .int .i64 a2, .int .i64 a3, .int .i64 a4, .int .i64 e1, .int .i64 e2, .int .i64 e3, .int .i64 e4] = wx at *
  generalize w8.heap.size = g0 at *
  refine Lib.hid ?_
  have hlT : sT.l.length = 8 := by rw [HET.out]; rfl
  have hlM : sM.l.length = 4 := by rw [HEM.out]; rfl
  obtain ⟨tb, to', hTA, hTB, hTC⟩ : ∃ b o, sT.A = some ⟨b, o, none⟩ ∧ b < wx.heap.size ∧ ∀ W, FactsAt (· < W.heap.size) W sT → ∀ i x, (tripL N M 3 4 se cr ba 2)[i]? = some x → W.cell? ⟨b, o + i * 2, none⟩ = some (.string x.nm) := by
    have h0 : 0 < sT.l.length := by omega
    obtain ⟨b, o, hA, hb, _⟩ := HFTx.out.rd.at1 h0
    refine ⟨b, o, hA, hb, fun W hW i x hx => ?_⟩
    rw [← HET.out] at hx
    obtain ⟨hi, hx'⟩ := List.getElem?_eq_some_iff.1 hx
    obtain ⟨b', o', hA', _, hc⟩ := hW.rd.at1 hi
    rw [hA] at hA'
    injection hA' with hA'
    injection hA' with e1 e2
    subst e1 e2
    rw [hx'] at hc
    have := hc 0 (.string x.nm) rfl
    rwa [Nat.add_zero] at this
  have HTC := Lib.hid hTC
  clear hTC
  obtain ⟨mb', mo', hMA, hMB, hMC⟩ : ∃ b o, sM.A = some ⟨b, o, none⟩ ∧ b < wx.heap.size ∧ ∀ W, FactsAt (· < W.heap.size) W sM → ∀ i x, (riderL M N 1 2)[i]? = some x → W.cell? ⟨b, o + i * 2, none⟩ = some (.string x.nm) := by
    have h0 : 0 < sM.l.length := by omega
    obtain ⟨b, o, hA, hb, _⟩ := HFMx.out.rd.at1 h0
    refine ⟨b, o, hA, hb, fun W hW i x hx => ?_⟩
    rw [← HEM.out] at hx
    obtain ⟨hi, hx'⟩ := List.getElem?_eq_some_iff.1 hx
    obtain ⟨b', o', hA', _, hc⟩ := hW.rd.at1 hi
    rw [hA] at hA'
    injection hA' with hA'
    injection hA' with e1 e2
    subst e1 e2
    rw [hx'] at hc
    have := hc 0 (.string x.nm) rfl
    rwa [Nat.add_zero] at this
  have HMC := Lib.hid hMC
  clear hMC
  rw [hTA, hlT, hMA, hlM]
  have HTA := Lib.hid hTA
  have HMA := Lib.hid hMA
  have HLT := Lib.hid hlT
  have HLM := Lib.hid hlM
  clear hTA hMA hlT hlM
  obtain ⟨k, hk⟩ : ∃ k : Nat, at_ % 12 = k := ⟨(at_ % 12).toNat, by omega⟩
  have hk12 : k < 12 := by omega
  apply cutT
  · intro fin0
    have FIN := Lib.hid fin0
    clear fin0
    by_cases hk8 : k < 8
    · have hd8 : decide ((k : Int) < 8) = true := decide_eq_true (by omega)
      have hg8 : decide ((8 : Int) ≤ (k : Int)) = false := decide_eq_false (by omega)
      have hm8 : (k : Int).tmod 8 = (k : Int) := by rw [Int.tmod_eq_emod_of_nonneg (by omega)]; omega
      have hm8' : (k : Int) % 8 = (k : Int) := by omega
      obtain ⟨x, hx⟩ : ∃ x, (tripL N M 3 4 se cr ba 2)[k]? = some x := ⟨_, List.getElem?_eq_getElem (show k < (tripL N M 3 4 se cr ba 2).length from hk8)⟩
      have HX := Lib.hid hx
      have hki : (k : Int) < 8 := by omega
      clear hx
      go_wp2_with fail
      have c0 : wx.cell? ⟨tb, to' + k * 2, none⟩ = some (.string x.nm) := HTC.out wx HFTx.out k x HX.out
      refine wp_region_T (fun W => Blk W w.heap.size 27 #[.string nm, .slice LA L.length Lc, .int .i64 o, .int .i64 n, .int .i64 u, .string s, .slice A l.length c, .int .i64 oB, .int .i64 nB, .int .i64 uB, .string sB, .slice AB lB.length cB, .int .i64 oC, .int .i64 nC, .int .i64 uC, .string sC, .slice AC lC.length cC, .int .i64 oD, .int .i64 nD, .int .i64 uD, .string sD, .slice AD lD.length cD, .int .i64 q, .int .i64 sh, .int .i64 ch] ∧ Blk W g0 50 #[.bool a1, .int .i64 a2, .int .i64 a3, .int .i64 a4, .int .i64 e1, .int .i64 e2, .int .i64 e3, .int .i64 e4] ∧ W.cell? ⟨tb, to' + k * 2, none⟩ = some (.string x.nm)) (fun _ => false) (by kernel_rfl) ⟨HAx.out.drew, HGx.out.drew, c0⟩ (fun hHeld => ?_)
      refine qtq 0 ?_
      simp only [qsa, qsb, qsc]
      refine wpAnyT_take2 (i := 1) (v := .bool true) rfl rfl (by kernel_rfl) (by kernel_rfl) (by kernel_rfl) (by kernel_rfl) (fun _ _ _ h => h) (Or.inl ⟨by rfl, ?_⟩) (by first | assumption | trivial) ?_
      · (intro w hSw; (try dsimp only at hSw); go_simp) <;> (first | (with_reducible rfl) | assumption | (simp; done) | (simp [*]; done) | (simp; omega))
      simp only [qsa, qsb, qsc]
      refine qtq 2 ?_
      simp only [qsa, qsb, qsc]
      refine wpAnyT_take2 (i := 3) (v := .agg #[.string nm, .slice LA L.length Lc, .int .i64 o, .int .i64 n, .int .i64 u, .string s, .slice A l.length c, .int .i64 oB, .int .i64 nB, .int .i64 uB, .string sB, .slice AB lB.length cB, .int .i64 oC, .int .i64 nC, .int .i64 uC, .string sC, .slice AC lC.length cC, .int .i64 oD, .int .i64 nD, .int .i64 uD, .string sD, .slice AD lD.length cD, .int .i64 q, .int .i64 sh, .int .i64 ch]) rfl rfl (by kernel_rfl) (by kernel_rfl) (by kernel_rfl) (by kernel_rfl) (fun _ _ _ h => h) (Or.inl ⟨by rfl, fun W hSW => run_row rfl rfl hSW.1 Tryz.underlying27 rfl (by kernel_rfl)⟩) hHeld ?_
      simp only [qsa, qsb, qsc]
      refine qtq 4 ?_
      simp only [qsa, qsb, qsc]
      refine qtq 5 ?_
      simp only [qsa, qsb, qsc]
      refine wpAnyT_take2 (i := 6) (v := .int .i64 (k : Int)) rfl rfl (by kernel_rfl) (by kernel_rfl) (by kernel_rfl) (by kernel_rfl) (fun _ _ _ h => h) (Or.inl ⟨by rfl, ?_⟩) (by first | assumption | trivial) ?_
      · (intro w hSw; (try dsimp only at hSw); go_simp) <;> (first | (with_reducible rfl) | assumption | (simp; done) | (simp [*]; done) | (simp; omega))
      simp only [qsa, qsb, qsc]
      refine wpAnyT_take2 (i := 7) (v := .pointer (some ⟨tb, to' + k * 2, none⟩)) rfl rfl (by kernel_rfl) (by kernel_rfl) (by kernel_rfl) (by kernel_rfl) (fun _ _ _ h => h) (Or.inl ⟨by rfl, ?_⟩) (by first | assumption | trivial) ?_
      · (intro w hSw; (try dsimp only at hSw); go_simp) <;> (first | (with_reducible rfl) | assumption | (simp; done) | (simp [*]; done) | (simp; omega))
      simp only [qsa, qsb, qsc]
      refine qtq 8 ?_
      simp only [qsa, qsb, qsc]
      refine qtq 9 ?_
      simp only [qsa, qsb, qsc]
      refine wpAnyT_next (i := 10) (by kernel_rfl) rfl ?_
      have hnm := ref_Names 2 x.nm b0 wx.drew (HPB.out.later (Below.drew HBx.out))
      rw [HBV.out] at hnm
      go_wp2_with fail
      refine hnm.mono ?_
      clear hnm
      rintro e w9 ⟨t, rfl, ht, hb9⟩
      have HD9 : Hid (Below wx.heap.size wx w9) := Lib.hid ((Below.drew (Below.refl _ _)).trans hb9)
      have HB9 : Hid (Below w.heap.size w w9) := Lib.hid (HBx.out.trans (HD9.out.mono HBx.out.size))
      have HA9 := Lib.hid (HAx.out.later HD9.out)
      have HG9 := Lib.hid (HGx.out.later HD9.out)
      have HFT9 := Lib.hid (HFTx.out.later HD9.out)
      have HFM9 := Lib.hid (HFMx.out.later HD9.out)
      have c9 : w9.cell? ⟨tb, to' + k * 2, none⟩ = some (.string x.nm) := HTC.out w9 HFT9.out k x HX.out
      clear hb9 c0 hHeld
      go_wp2_with fail
      refine And.intro (by first | exact fun _ => ⟨HA9.out, HG9.out, c9⟩ | exact ⟨HA9.out, HG9.out, c9⟩) ?_
      rcases t
      · have HNO := Lib.hid (ht rfl)
        clear ht
        have hHeld : Blk w9 w.heap.size 27 #[.string nm, .slice LA L.length Lc, .int .i64 o, .int .i64 n, .int .i64 u, .string s, .slice A l.length c, .int .i64 oB, .int .i64 nB, .int .i64 uB, .string sB, .slice AB lB.length cB, .int .i64 oC, .int .i64 nC, .int .i64 uC, .string sC, .slice AC lC.length cC, .int .i64 oD, .int .i64 nD, .int .i64 uD, .string sD, .slice AD lD.length cD, .int .i64 q, .int .i64 sh, .int .i64 ch] ∧ Blk w9 g0 50 #[.bool a1, .int .i64 a2, .int .i64 a3, .int .i64 a4, .int .i64 e1, .int .i64 e2, .int .i64 e3, .int .i64 e4] ∧ w9.cell? ⟨tb, to' + k * 2, none⟩ = some (.string x.nm) := ⟨HA9.out, HG9.out, c9⟩
        refine qtq 11 ?_
        simp only [qsa, qsb, qsc]
        refine qtq 12 ?_
        simp only [qsa, qsb, qsc]
        refine qtq 13 ?_
        simp only [qsa, qsb, qsc]
        refine wpAnyT_take2 (i := 14) (v := .agg #[.string nm, .slice LA L.length Lc, .int .i64 o, .int .i64 n, .int .i64 u, .string s, .slice A l.length c, .int .i64 oB, .int .i64 nB, .int .i64 uB, .string sB, .slice AB lB.length cB, .int .i64 oC, .int .i64 nC, .int .i64 uC, .string sC, .slice AC lC.length cC, .int .i64 oD, .int .i64 nD, .int .i64 uD, .string sD, .slice AD lD.length cD, .int .i64 q, .int .i64 sh, .int .i64 ch]) rfl rfl (by kernel_rfl) (by kernel_rfl) (by kernel_rfl) (by kernel_rfl) (fun _ _ _ h => h) (Or.inl ⟨by rfl, fun W hSW => run_row rfl rfl hSW.1 Tryz.underlying27 rfl (by kernel_rfl)⟩) hHeld ?_
        simp only [qsa, qsb, qsc]
        refine qtq 15 ?_
        simp only [qsa, qsb, qsc]
        refine qtq 16 ?_
        simp only [qsa, qsb, qsc]
        refine qtq 17 ?_
        simp only [qsa, qsb, qsc]
        refine wpAnyT_take2 (i := 18) (v := .int .i64 (k : Int)) rfl rfl (by kernel_rfl) (by kernel_rfl) (by kernel_rfl) (by kernel_rfl) (fun _ _ _ h => h) (Or.inl ⟨by rfl, ?_⟩) (by first | assumption | trivial) ?_
        · (intro w hSw; (try dsimp only at hSw); go_simp) <;> (first | (with_reducible rfl) | assumption | (simp; done) | (simp [*]; done) | (simp; omega))
        simp only [qsa, qsb, qsc]
        refine wpAnyT_take2 (i := 19) (v := .pointer (some ⟨tb, to' + k * 2, none⟩)) rfl rfl (by kernel_rfl) (by kernel_rfl) (by kernel_rfl) (by kernel_rfl) (fun _ _ _ h => h) (Or.inl ⟨by rfl, ?_⟩) (by first | assumption | trivial) ?_
        · (intro w hSw; (try dsimp only at hSw); go_simp) <;> (first | (with_reducible rfl) | assumption | (simp; done) | (simp [*]; done) | (simp; omega))
        simp only [qsa, qsb, qsc]
        refine qtq 20 ?_
        simp only [qsa, qsb, qsc]
        refine qtq 21 ?_
        simp only [qsa, qsb, qsc]
        refine qtq 22 ?_
        simp only [qsa, qsb, qsc]
        refine qtq 24 ?_
        simp only [qsa, qsb, qsc]
        refine wpAnyT_take2 (i := 26) (v := .agg #[.bool a1, .int .i64 a2, .int .i64 a3, .int .i64 a4, .int .i64 e1, .int .i64 e2, .int .i64 e3, .int .i64 e4]) rfl rfl (by kernel_rfl) (by kernel_rfl) (by kernel_rfl) (by kernel_rfl) (fun _ _ _ h => h) (Or.inl ⟨by rfl, fun W hSW => run_row rfl rfl hSW.2.1 Tryz.underlying50 rfl (by kernel_rfl)⟩) hHeld ?_
        simp only [qsa, qsb, qsc]
        refine wpAnyT_next (i := 23) (by kernel_rfl) rfl ?_
        have hch := law_changed sT x.nm V w9 HFT9.out (by have := HLT.out; omega)
        rw [HTA.out, HLT.out] at hch
        go_wp2_with fail
        refine hch.mono ?_
        clear hch
        rintro e w10 ⟨s', rfl, hs', hf10, hb10⟩
        rw [HET.out] at hs'
        have HS' := Lib.hid hs'
        clear hs'
        have HB10 : Hid (Below w.heap.size w w10) := Lib.hid (HB9.out.trans (hb10.mono HB9.out.size))
        have HA10 := Lib.hid (HA9.out.later hb10)
        have HG10 := Lib.hid (HG9.out.later hb10)
        have HFT10 := Lib.hid (HFT9.out.later hb10)
        have HFM10 := Lib.hid (HFM9.out.later hb10)
        have HF10 := Lib.hid hf10
        have c10 : w10.cell? ⟨tb, to' + k * 2, none⟩ = some (.string x.nm) := HTC.out w10 HFT10.out k x HX.out
        clear hb10 hf10 c9 hHeld
        go_wp2_with fail
        refine And.intro (by first | exact fun _ => ⟨HA10.out, HG10.out, c10⟩ | exact ⟨HA10.out, HG10.out, c10⟩) ?_
        have hq := fn_trip b0 (x := x.nm) HNN.out HNM.out HNS.out HNC.out HNB.out HNV.out HNO.out
        have hask := ask_v b0 s' sM _ _ w10 HS'.out HEM.out (HPB.out.later HB10.out) (by have := HL6.out; omega) HF10.out HFM10.out (a1, e1) (a2, e2) (a3, e3) (a4, e4) (hq.1.trans HV1.out) (hq.2.1.trans HV2.out) (hq.2.2.1.trans HV3.out) (hq.2.2.2.trans HV4.out)
        rw [HBV.out, HLM.out, HMA.out] at hask
        simp only at hask
        refine wpAnyT_next (i := 25) (by kernel_rfl) rfl ?_
        go_wp2_with fail
        refine hask.mono ?_
        clear hask hq
        rintro e w11 ⟨rfl, hb11⟩
        have HB11 : Hid (Below w.heap.size w w11) := Lib.hid (HB10.out.trans (hb11.mono HB10.out.size))
        have HA11 := Lib.hid (HA10.out.later hb11)
        have HG11 := Lib.hid (HG10.out.later hb11)
        have HFT11 := Lib.hid (HFT10.out.later hb11)
        have HFM11 := Lib.hid (HFM10.out.later hb11)
        have c11 : w11.cell? ⟨tb, to' + k * 2, none⟩ = some (.string x.nm) := HTC.out w11 HFT11.out k x HX.out
        clear hb11 c10
        go_wp2_with fail
        refine And.intro (by first | exact fun _ => ⟨HA11.out, HG11.out, c11⟩ | exact ⟨HA11.out, HG11.out, c11⟩) ?_
        refine wpAnyT_next (i := 27) (by kernel_rfl) rfl ?_
        go_wp2_with fail
        refine And.intro (by first | exact fun _ => ⟨HA11.out, HG11.out, c11⟩ | exact ⟨HA11.out, HG11.out, c11⟩) ?_
        have hHeld : Blk w11 w.heap.size 27 #[.string nm, .slice LA L.length Lc, .int .i64 o, .int .i64 n, .int .i64 u, .string s, .slice A l.length c, .int .i64 oB, .int .i64 nB, .int .i64 uB, .string sB, .slice AB lB.length cB, .int .i64 oC, .int .i64 nC, .int .i64 uC, .string sC, .slice AC lC.length cC, .int .i64 oD, .int .i64 nD, .int .i64 uD, .string sD, .slice AD lD.length cD, .int .i64 q, .int .i64 sh, .int .i64 ch] ∧ Blk w11 g0 50 #[.bool a1, .int .i64 a2, .int .i64 a3, .int .i64 a4, .int .i64 e1, .int .i64 e2, .int .i64 e3, .int .i64 e4] ∧ w11.cell? ⟨tb, to' + k * 2, none⟩ = some (.string x.nm) := ⟨HA11.out, HG11.out, c11⟩
        refine qtq 28 ?_
        simp only [qsa, qsb, qsc]
        refine wpAnyT_done (by kernel_rfl) ?_ _
        clear hHeld
        go_wp2_with fail
        refine wp_region_T (fun W => True) (fun _ => false) (by kernel_rfl) trivial (fun hHeld => ?_)
        refine qtq 0 ?_
        simp only [qsa, qsb, qsc]
        refine wpAnyT_take2 (i := 1) (v := .bool false) rfl rfl (by kernel_rfl) (by kernel_rfl) (by kernel_rfl) (by kernel_rfl) (fun _ _ _ h => h) (Or.inl ⟨by rfl, ?_⟩) (by first | assumption | trivial) ?_
        · (intro w hSw; (try dsimp only at hSw); go_simp) <;> (first | (with_reducible rfl) | assumption | (simp; done) | (simp [*]; done) | (simp; omega))
        simp only [qsa, qsb, qsc]
        refine qtq 2 ?_
        simp only [qsa, qsb, qsc]
        refine qtn 3 ?_
        simp only [qsa, qsb, qsc]
        refine qtn 4 ?_
        simp only [qsa, qsb, qsc]
        refine qtn 5 ?_
        simp only [qsa, qsb, qsc]
        refine qtn 6 ?_
        simp only [qsa, qsb, qsc]
        refine qtn 7 ?_
        simp only [qsa, qsb, qsc]
        refine qtn 8 ?_
        simp only [qsa, qsb, qsc]
        refine qtn 9 ?_
        simp only [qsa, qsb, qsc]
        refine qtn 10 ?_
        simp only [qsa, qsb, qsc]
        refine qtn 11 ?_
        simp only [qsa, qsb, qsc]
        refine qtq 12 ?_
        simp only [qsa, qsb, qsc]
        refine wpAnyT_done (by kernel_rfl) ?_ _
        clear hHeld
        go_wp2_with fail
        rename_i Kz hKz
        have HBz := Lib.hid HB11.out.drew
        have HAz := Lib.hid HA11.out.drew
        have HGz := Lib.hid HG11.out.drew
        have HTz : Hid (FactsAt (· < w11.drew.heap.size) w11.drew sT) := Lib.hid (HFT11.out.later (Below.drew (Below.refl _ _)))
        have HMz : Hid (FactsAt (· < w11.drew.heap.size) w11.drew sM) := Lib.hid (HFM11.out.later (Below.drew (Below.refl _ _)))
        generalize w11.drew = Wz at *
        refine (fun h => h _ _ _ _ _ _ _ _ _ _ _ _ _ _ _ _ _ _ _ _ _ _ _ _ _ _ _ _ _ _ _ _ _ _ _ _ _ _ _ _ _ _ _ _ _ _ _ _ _ _ _ _ _ _ _ _ _ _ _ _ _ _ _ _ _ _ _ _ _ _ _ _ _ _ _ _ : (∀ x17 x18 x70 x71 x72 x73 x74 x75 x76 x77 x78 x79 x80 x81 x82 x83 x84 x85 x86 x87 x88 x89 x90 x91 x92 x93 x94 x95 x96 x97 x98 x99 x100 x101 x102 x103 x104 x105 x106 x107 x108 x109 x110 x111 x112 x113 x114 x115 x116 x117 x118 x119 x120 x121 x122 x123 x124 x125 x126 x127 x128 x129 x130 x131 x132 x133 x134 x135 x136 x137 x138 x139 x140 x141 x142 x143 : Value, Code.wp _ _ _ ⟨#[_, _, _, _, _, _, _, _, _, _, _, _, _, _, _, _, _, x17, x18, _, _, _, _, _, _, _, _, _, _, _, _, _, _, _, _, _, _, _, _, _, _, _, _, _, _, _, _, _, _, _, _, _, _, _, _, _, _, _, _, _, _, _, _, _, _, _, _, _, _, _, x70, x71, x72, x73, x74, x75, x76, x77, x78, x79, x80, x81, x82, x83, x84, x85, x86, x87, x88, x89, x90, x91, x92, x93, x94, x95, x96, x97, x98, x99, x100, x101, x102, x103, x104, x105, x106, x107, x108, x109, x110, x111, x112, x113, x114, x115, x116, x117, x118, x119, x120, x121, x122, x123, x124, x125, x126, x127, x128, x129, x130, x131, x132, x133, x134, x135, x136, x137, x138, x139, x140, x141, x142, x143, _, _, _, _, _, _, _, _, _, _, _, _, _, _, _, _, _, _, _, _, _, _, _, _, _, _, _, _, _, _, _, _, _, _, _, _, _, _, _, _, _], _⟩ _) → _) ?_
        revert HMz
        revert HTz
        revert HGz
        revert HAz
        revert HBz
        revert Wz
        revert hKz
        revert Kz
        exact FIN.out
      · clear ht
        have hHeld : Blk w9 w.heap.size 27 #[.string nm, .slice LA L.length Lc, .int .i64 o, .int .i64 n, .int .i64 u, .string s, .slice A l.length c, .int .i64 oB, .int .i64 nB, .int .i64 uB, .string sB, .slice AB lB.length cB, .int .i64 oC, .int .i64 nC, .int .i64 uC, .string sC, .slice AC lC.length cC, .int .i64 oD, .int .i64 nD, .int .i64 uD, .string sD, .slice AD lD.length cD, .int .i64 q, .int .i64 sh, .int .i64 ch] ∧ Blk w9 g0 50 #[.bool a1, .int .i64 a2, .int .i64 a3, .int .i64 a4, .int .i64 e1, .int .i64 e2, .int .i64 e3, .int .i64 e4] ∧ w9.cell? ⟨tb, to' + k * 2, none⟩ = some (.string x.nm) := ⟨HA9.out, HG9.out, c9⟩
        refine qtq 11 ?_
        simp only [qsa, qsb, qsc]
        refine qtq 12 ?_
        simp only [qsa, qsb, qsc]
        refine qtq 13 ?_
        simp only [qsa, qsb, qsc]
        refine qtn 14 ?_
        simp only [qsa, qsb, qsc]
        refine qtn 15 ?_
        simp only [qsa, qsb, qsc]
        refine qtn 16 ?_
        simp only [qsa, qsb, qsc]
        refine qtn 17 ?_
        simp only [qsa, qsb, qsc]
        refine qtn 18 ?_
        simp only [qsa, qsb, qsc]
        refine qtn 19 ?_
        simp only [qsa, qsb, qsc]
        refine qtn 20 ?_
        simp only [qsa, qsb, qsc]
        refine qtn 21 ?_
        simp only [qsa, qsb, qsc]
        refine qtn 22 ?_
        simp only [qsa, qsb, qsc]
        refine qtn 23 ?_
        simp only [qsa, qsb, qsc]
        refine qtn 24 ?_
        simp only [qsa, qsb, qsc]
        refine qtn 25 ?_
        simp only [qsa, qsb, qsc]
        refine qtn 26 ?_
        simp only [qsa, qsb, qsc]
        refine qtn 27 ?_
        simp only [qsa, qsb, qsc]
        refine qtq 28 ?_
        simp only [qsa, qsb, qsc]
        refine wpAnyT_done (by kernel_rfl) ?_ _
        clear hHeld
        go_wp2_with fail
        refine wp_region_T (fun W => True) (fun _ => false) (by kernel_rfl) trivial (fun hHeld => ?_)
        refine qtq 0 ?_
        simp only [qsa, qsb, qsc]
        refine wpAnyT_take2 (i := 1) (v := .bool false) rfl rfl (by kernel_rfl) (by kernel_rfl) (by kernel_rfl) (by kernel_rfl) (fun _ _ _ h => h) (Or.inl ⟨by rfl, ?_⟩) (by first | assumption | trivial) ?_
        · (intro w hSw; (try dsimp only at hSw); go_simp) <;> (first | (with_reducible rfl) | assumption | (simp; done) | (simp [*]; done) | (simp; omega))
        simp only [qsa, qsb, qsc]
        refine qtq 2 ?_
        simp only [qsa, qsb, qsc]
        refine qtn 3 ?_
        simp only [qsa, qsb, qsc]
        refine qtn 4 ?_
        simp only [qsa, qsb, qsc]
        refine qtn 5 ?_
        simp only [qsa, qsb, qsc]
        refine qtn 6 ?_
        simp only [qsa, qsb, qsc]
        refine qtn 7 ?_
        simp only [qsa, qsb, qsc]
        refine qtn 8 ?_
        simp only [qsa, qsb, qsc]
        refine qtn 9 ?_
        simp only [qsa, qsb, qsc]
        refine qtn 10 ?_
        simp only [qsa, qsb, qsc]
        refine qtn 11 ?_
        simp only [qsa, qsb, qsc]
        refine qtq 12 ?_
        simp only [qsa, qsb, qsc]
        refine wpAnyT_done (by kernel_rfl) ?_ _
        clear hHeld
        go_wp2_with fail
        rename_i Kz hKz
        have HBz := Lib.hid HB9.out.drew
        have HAz := Lib.hid HA9.out.drew
        have HGz := Lib.hid HG9.out.drew
        have HTz : Hid (FactsAt (· < w9.drew.heap.size) w9.drew sT) := Lib.hid (HFT9.out.later (Below.drew (Below.refl _ _)))
        have HMz : Hid (FactsAt (· < w9.drew.heap.size) w9.drew sM) := Lib.hid (HFM9.out.later (Below.drew (Below.refl _ _)))
        exact FIN.out _ hKz _ HBz HAz HGz HTz HMz _ _ _ _ _ _ _ _ _ _ _ _ _ _ _ _ _ _ _ _ _ _ _ _ _ _ _ _ _ _ _ _ _ _ _ _ _ _ _ _ _ _ _ _ _ _ _ _ _ _ _ _ _ _ _ _ _ _ _ _ _ _ _ _ _ _ _ _ _ _ _ _ _ _ _ _
    · obtain ⟨j, rfl⟩ : ∃ j, k = 8 + j := ⟨k - 8, by omega⟩
      obtain ⟨kk, hkk⟩ : ∃ kk : Int, ((8 + j : Nat) : Int) = kk := ⟨_, rfl⟩
      rw [hkk] at hk
      have hd8 : decide (kk < 8) = false := decide_eq_false (by omega)
      have hg8 : decide ((8 : Int) ≤ kk) = true := decide_eq_true (by omega)
      have hm4 : kk.tmod 4 = (j : Int) := by rw [Int.tmod_eq_emod_of_nonneg (by omega)]; omega
      have hm4' : kk % 4 = (j : Int) := by omega
      have hj4 : j < 4 := by omega
      have hji : (j : Int) < 4 := by omega
      clear hkk
      obtain ⟨x, hx⟩ : ∃ x, (riderL M N 1 2)[j]? = some x := ⟨_, List.getElem?_eq_getElem (show j < (riderL M N 1 2).length from hj4)⟩
      have HX := Lib.hid hx
      clear hx
      go_wp2_with fail
      refine wp_region_T (fun W => True) (fun _ => false) (by kernel_rfl) trivial (fun hHeld => ?_)
      refine qtq 0 ?_
      simp only [qsa, qsb, qsc]
      refine wpAnyT_take2 (i := 1) (v := .bool false) rfl rfl (by kernel_rfl) (by kernel_rfl) (by kernel_rfl) (by kernel_rfl) (fun _ _ _ h => h) (Or.inl ⟨by rfl, ?_⟩) (by first | assumption | trivial) ?_
      · (intro w hSw; (try dsimp only at hSw); go_simp) <;> (first | (with_reducible rfl) | assumption | (simp; done) | (simp [*]; done) | (simp; omega))
      simp only [qsa, qsb, qsc]
      refine qtq 2 ?_
      simp only [qsa, qsb, qsc]
      refine qtn 3 ?_
      simp only [qsa, qsb, qsc]
      refine qtn 4 ?_
      simp only [qsa, qsb, qsc]
      refine qtn 5 ?_
      simp only [qsa, qsb, qsc]
      refine qtn 6 ?_
      simp only [qsa, qsb, qsc]
      refine qtn 7 ?_
      simp only [qsa, qsb, qsc]
      refine qtn 8 ?_
      simp only [qsa, qsb, qsc]
      refine qtn 9 ?_
      simp only [qsa, qsb, qsc]
      refine qtn 10 ?_
      simp only [qsa, qsb, qsc]
      refine qtn 11 ?_
      simp only [qsa, qsb, qsc]
      refine qtq 12 ?_
      simp only [qsa, qsb, qsc]
      refine qtq 13 ?_
      simp only [qsa, qsb, qsc]
      refine qtn 14 ?_
      simp only [qsa, qsb, qsc]
      refine qtn 15 ?_
      simp only [qsa, qsb, qsc]
      refine qtn 16 ?_
      simp only [qsa, qsb, qsc]
      refine qtn 17 ?_
      simp only [qsa, qsb, qsc]
      refine qtn 18 ?_
      simp only [qsa, qsb, qsc]
      refine qtn 19 ?_
      simp only [qsa, qsb, qsc]
      refine qtn 20 ?_
      simp only [qsa, qsb, qsc]
      refine qtn 21 ?_
      simp only [qsa, qsb, qsc]
      refine qtn 22 ?_
      simp only [qsa, qsb, qsc]
      refine qtn 23 ?_
      simp only [qsa, qsb, qsc]
      refine qtn 24 ?_
      simp only [qsa, qsb, qsc]
      refine qtn 25 ?_
      simp only [qsa, qsb, qsc]
      refine qtn 26 ?_
      simp only [qsa, qsb, qsc]
      refine qtn 27 ?_
      simp only [qsa, qsb, qsc]
      refine qtq 28 ?_
      simp only [qsa, qsb, qsc]
      refine wpAnyT_done (by kernel_rfl) ?_ _
      clear hHeld
      go_wp2_with fail
      have HAd := Lib.hid HAx.out.drew
      have HGd := Lib.hid HGx.out.drew
      have HBd := Lib.hid HBx.out.drew
      have HFTd : Hid (FactsAt (· < wx.drew.heap.size) wx.drew sT) := Lib.hid (HFTx.out.later (Below.drew (Below.refl _ _)))
      have HFMd : Hid (FactsAt (· < wx.drew.heap.size) wx.drew sM) := Lib.hid (HFMx.out.later (Below.drew (Below.refl _ _)))
      clear HAx HGx HBx HFTx HFMx hTB hMB
      generalize wx.drew = wx at *
      have c0 : wx.cell? ⟨mb', mo' + j * 2, none⟩ = some (.string x.nm) := HMC.out wx HFMd.out j x HX.out
      refine wp_region_T (fun W => Blk W w.heap.size 27 #[.string nm, .slice LA L.length Lc, .int .i64 o, .int .i64 n, .int .i64 u, .string s, .slice A l.length c, .int .i64 oB, .int .i64 nB, .int .i64 uB, .string sB, .slice AB lB.length cB, .int .i64 oC, .int .i64 nC, .int .i64 uC, .string sC, .slice AC lC.length cC, .int .i64 oD, .int .i64 nD, .int .i64 uD, .string sD, .slice AD lD.length cD, .int .i64 q, .int .i64 sh, .int .i64 ch] ∧ W.cell? ⟨mb', mo' + j * 2, none⟩ = some (.string x.nm)) (fun _ => false) (by kernel_rfl) ⟨HAd.out.drew, c0⟩ (fun hHeld => ?_)
      refine qtq 0 ?_
      simp only [qsa, qsb, qsc]
      refine wpAnyT_take2 (i := 1) (v := .bool true) rfl rfl (by kernel_rfl) (by kernel_rfl) (by kernel_rfl) (by kernel_rfl) (fun _ _ _ h => h) (Or.inl ⟨by rfl, ?_⟩) (by first | assumption | trivial) ?_
      · (intro w hSw; (try dsimp only at hSw); go_simp) <;> (first | (with_reducible rfl) | assumption | (simp; done) | (simp [*]; done) | (simp; omega))
      simp only [qsa, qsb, qsc]
      refine qtq 2 ?_
      simp only [qsa, qsb, qsc]
      refine wpAnyT_take2 (i := 3) (v := .agg #[.string nm, .slice LA L.length Lc, .int .i64 o, .int .i64 n, .int .i64 u, .string s, .slice A l.length c, .int .i64 oB, .int .i64 nB, .int .i64 uB, .string sB, .slice AB lB.length cB, .int .i64 oC, .int .i64 nC, .int .i64 uC, .string sC, .slice AC lC.length cC, .int .i64 oD, .int .i64 nD, .int .i64 uD, .string sD, .slice AD lD.length cD, .int .i64 q, .int .i64 sh, .int .i64 ch]) rfl rfl (by kernel_rfl) (by kernel_rfl) (by kernel_rfl) (by kernel_rfl) (fun _ _ _ h => h) (Or.inl ⟨by rfl, fun W hSW => run_row rfl rfl hSW.1 Tryz.underlying27 rfl (by kernel_rfl)⟩) hHeld ?_
      simp only [qsa, qsb, qsc]
      refine qtq 4 ?_
      simp only [qsa, qsb, qsc]
      refine qtq 5 ?_
      simp only [qsa, qsb, qsc]
      refine wpAnyT_take2 (i := 6) (v := .int .i64 (j : Int)) rfl rfl (by kernel_rfl) (by kernel_rfl) (by kernel_rfl) (by kernel_rfl) (fun _ _ _ h => h) (Or.inl ⟨by rfl, ?_⟩) (by first | assumption | trivial) ?_
      · (intro w hSw; (try dsimp only at hSw); go_simp) <;> (first | (with_reducible rfl) | assumption | (simp; done) | (simp [*]; done) | (simp; omega))
      simp only [qsa, qsb, qsc]
      refine wpAnyT_take2 (i := 7) (v := .pointer (some ⟨mb', mo' + j * 2, none⟩)) rfl rfl (by kernel_rfl) (by kernel_rfl) (by kernel_rfl) (by kernel_rfl) (fun _ _ _ h => h) (Or.inl ⟨by rfl, ?_⟩) (by first | assumption | trivial) ?_
      · (intro w hSw; (try dsimp only at hSw); go_simp) <;> (first | (with_reducible rfl) | assumption | (simp; done) | (simp [*]; done) | (simp; omega))
      simp only [qsa, qsb, qsc]
      refine qtq 8 ?_
      simp only [qsa, qsb, qsc]
      refine qtq 9 ?_
      simp only [qsa, qsb, qsc]
      refine wpAnyT_next (i := 10) (by kernel_rfl) rfl ?_
      have hnm := ref_Names 3 x.nm b0 wx.drew (HPB.out.later (Below.drew HBd.out))
      rw [HBV.out] at hnm
      go_wp2_with fail
      refine hnm.mono ?_
      clear hnm
      rintro e w9 ⟨t, rfl, ht, hb9⟩
      have HD9 : Hid (Below wx.heap.size wx w9) := Lib.hid ((Below.drew (Below.refl _ _)).trans hb9)
      have HB9 : Hid (Below w.heap.size w w9) := Lib.hid (HBd.out.trans (HD9.out.mono HBd.out.size))
      have HA9 := Lib.hid (HAd.out.later HD9.out)
      have HG9 := Lib.hid (HGd.out.later HD9.out)
      have HFT9 := Lib.hid (HFTd.out.later HD9.out)
      have HFM9 := Lib.hid (HFMd.out.later HD9.out)
      have c9 : w9.cell? ⟨mb', mo' + j * 2, none⟩ = some (.string x.nm) := HMC.out w9 HFM9.out j x HX.out
      clear hb9 c0 hHeld
      go_wp2_with fail
      refine And.intro (by first | exact fun _ => ⟨HA9.out, c9⟩ | exact ⟨HA9.out, c9⟩) ?_
      have hHeld : Blk w9 w.heap.size 27 #[.string nm, .slice LA L.length Lc, .int .i64 o, .int .i64 n, .int .i64 u, .string s, .slice A l.length c, .int .i64 oB, .int .i64 nB, .int .i64 uB, .string sB, .slice AB lB.length cB, .int .i64 oC, .int .i64 nC, .int .i64 uC, .string sC, .slice AC lC.length cC, .int .i64 oD, .int .i64 nD, .int .i64 uD, .string sD, .slice AD lD.length cD, .int .i64 q, .int .i64 sh, .int .i64 ch] ∧ w9.cell? ⟨mb', mo' + j * 2, none⟩ = some (.string x.nm) := ⟨HA9.out, c9⟩
      rcases t
      case true =>
        clear ht
        refine qtq 11 ?_
        simp only [qsa, qsb, qsc]
        refine qtq 12 ?_
        simp only [qsa, qsb, qsc]
        refine wpAnyT_done (by kernel_rfl) ?_ _
        clear hHeld
        go_wp2_with fail
        rename_i Kz hKz
        have HBz := HB9
        have HAz := HA9
        have HGz := HG9
        have HTz := HFT9
        have HMz := HFM9
        exact FIN.out _ hKz _ HBz HAz HGz HTz HMz _ _ _ _ _ _ _ _ _ _ _ _ _ _ _ _ _ _ _ _ _ _ _ _ _ _ _ _ _ _ _ _ _ _ _ _ _ _ _ _ _ _ _ _ _ _ _ _ _ _ _ _ _ _ _ _ _ _ _ _ _ _ _ _ _ _ _ _ _ _ _ _ _ _ _ _
      have HNO := Lib.hid (ht rfl)
      clear ht
      refine qtq 11 ?_
      simp only [qsa, qsb, qsc]
      refine qtq 12 ?_
      simp only [qsa, qsb, qsc]
      refine wpAnyT_done (by kernel_rfl) ?_ _
      clear hHeld
      go_wp2_with fail
      have hq := fn_memb b0 (x := x.nm) HNN.out HNM.out HNS.out HNC.out HNB.out HNV.out HNO.out
      obtain ⟨aa, haa⟩ : ∃ aa, (admC b0 (tripL N M 3 4 se cr ba 2) (chgF (riderL M N 1 2) x.nm V)).1 = aa := ⟨_, rfl⟩
      have HQ : Hid (admC b0 (tripL N M 3 4 se cr ba 2) (chgF (riderL M N 1 2) x.nm V) = (aa, e1)) := Lib.hid (by rw [← haa]; exact Prod.ext rfl (hq.1.trans (by rw [HV1.out])))
      have HAA : Hid (j ≠ 2 → aa = a1) := Lib.hid (fun hj => by
        have h1 := hq.2.1 (trips_same HX.out hj)
        rw [HQ.out, HV1.out] at h1
        exact congrArg Prod.fst h1)
      clear haa
      have HHQ := Lib.hid hq
      clear hq
      refine wp_region_T (fun W => Blk W w.heap.size 27 #[.string nm, .slice LA L.length Lc, .int .i64 o, .int .i64 n, .int .i64 u, .string s, .slice A l.length c, .int .i64 oB, .int .i64 nB, .int .i64 uB, .string sB, .slice AB lB.length cB, .int .i64 oC, .int .i64 nC, .int .i64 uC, .string sC, .slice AC lC.length cC, .int .i64 oD, .int .i64 nD, .int .i64 uD, .string sD, .slice AD lD.length cD, .int .i64 q, .int .i64 sh, .int .i64 ch] ∧ W.cell? ⟨mb', mo' + j * 2, none⟩ = some (.string x.nm)) (fun _ => false) (by kernel_rfl) ⟨HA9.out.drew, c9⟩ (fun hHeld => ?_)
      refine wpAnyT_take2 (i := 0) (v := .agg #[.string nm, .slice LA L.length Lc, .int .i64 o, .int .i64 n, .int .i64 u, .string s, .slice A l.length c, .int .i64 oB, .int .i64 nB, .int .i64 uB, .string sB, .slice AB lB.length cB, .int .i64 oC, .int .i64 nC, .int .i64 uC, .string sC, .slice AC lC.length cC, .int .i64 oD, .int .i64 nD, .int .i64 uD, .string sD, .slice AD lD.length cD, .int .i64 q, .int .i64 sh, .int .i64 ch]) rfl rfl (by kernel_rfl) (by kernel_rfl) (by kernel_rfl) (by kernel_rfl) (fun _ _ _ h => h) (Or.inl ⟨by rfl, fun W hSW => run_row rfl rfl hSW.1 Tryz.underlying27 rfl (by kernel_rfl)⟩) hHeld ?_
      simp only [qsa, qsb, qsc]
      refine qtq 1 ?_
      simp only [qsa, qsb, qsc]
      refine qtq 2 ?_
      simp only [qsa, qsb, qsc]
      refine qtq 3 ?_
      simp only [qsa, qsb, qsc]
      refine qtq 4 ?_
      simp only [qsa, qsb, qsc]
      refine wpAnyT_take2 (i := 5) (v := .int .i64 (j : Int)) rfl rfl (by kernel_rfl) (by kernel_rfl) (by kernel_rfl) (by kernel_rfl) (fun _ _ _ h => h) (Or.inl ⟨by rfl, ?_⟩) (by first | assumption | trivial) ?_
      · (intro w hSw; (try dsimp only at hSw); go_simp) <;> (first | (with_reducible rfl) | assumption | (simp; done) | (simp [*]; done) | (simp; omega))
      simp only [qsa, qsb, qsc]
      refine wpAnyT_take2 (i := 6) (v := .pointer (some ⟨mb', mo' + j * 2, none⟩)) rfl rfl (by kernel_rfl) (by kernel_rfl) (by kernel_rfl) (by kernel_rfl) (fun _ _ _ h => h) (Or.inl ⟨by rfl, ?_⟩) (by first | assumption | trivial) ?_
      · (intro w hSw; (try dsimp only at hSw); go_simp) <;> (first | (with_reducible rfl) | assumption | (simp; done) | (simp [*]; done) | (simp; omega))
      simp only [qsa, qsb, qsc]
      refine qtq 7 ?_
      simp only [qsa, qsb, qsc]
      refine qtq 8 ?_
      simp only [qsa, qsb, qsc]
      refine qtq 9 ?_
      simp only [qsa, qsb, qsc]
      have HBp := Lib.hid HB9.out.drew
      have HAp := Lib.hid HA9.out.drew
      have HGp := Lib.hid HG9.out.drew
      have HTp : Hid (FactsAt (· < w9.drew.heap.size) w9.drew sT) := Lib.hid (HFT9.out.later (Below.drew (Below.refl _ _)))
      have HMp : Hid (FactsAt (· < w9.drew.heap.size) w9.drew sM) := Lib.hid (HFM9.out.later (Below.drew (Below.refl _ _)))
      clear hHeld c9 HB9 HA9 HG9 HFT9 HFM9 HD9
      generalize w9.drew = wp at *
      have HDp : Hid (Below wp.heap.size wp wp) := Lib.hid (Below.refl _ _)
      have hq := HHQ.out
      apply cutT
      · intro finB
        have FB := Lib.hid finB
        clear finB
        refine wpAnyT_two (i := 10) (j := 12) (by kernel_rfl) rfl rfl ?_ ?_
        · skip
          have hch := law_changed sM x.nm V _ HMp.out (by have := HLM.out; omega)
          rw [HMA.out, HLM.out] at hch
          go_wp2_with fail
          refine hch.mono ?_
          clear hch
          rintro e w10 ⟨s', rfl, hs', hf10, hb10⟩
          rw [HEM.out] at hs'
          have HS' := Lib.hid hs'
          clear hs'
          have HB10 : Hid (Below w.heap.size w w10) := Lib.hid (HBp.out.trans (hb10.mono HBp.out.size))
          have HA10 := Lib.hid (HAp.out.later hb10)
          have HG10 := Lib.hid (HGp.out.later hb10)
          have HT10 := Lib.hid (HTp.out.later hb10)
          have HM10 := Lib.hid (HMp.out.later hb10)
          have HF10 := Lib.hid hf10
          have c10 : w10.cell? ⟨mb', mo' + j * 2, none⟩ = some (.string x.nm) := HMC.out w10 HM10.out j x HX.out
          have HD10 : Hid (Below wp.heap.size wp w10) := Lib.hid (HDp.out.trans (hb10.mono HDp.out.size))
          go_wp2_with fail
          refine And.intro (by first | exact fun _ => ⟨HA10.out, c10⟩ | exact ⟨HA10.out, c10⟩) ?_
          refine wpAnyT_two (i := 11) (j := 12) (by kernel_rfl) rfl rfl ?_ ?_
          · skip
            have hask := ask_v b0 sT s' _ _ _ HET.out HS'.out (HPB.out.later HB10.out) (by have := HL6.out; omega) HT10.out HF10.out (aa, e1) (a2, e2) (a3, e3) (a4, e4) HQ.out (hq.2.2.1.trans HV2.out) (hq.2.2.2.1.trans HV3.out) (hq.2.2.2.2.trans HV4.out)
            rw [HBV.out, HLT.out, HTA.out] at hask
            simp only at hask
            go_wp2_with fail
            refine hask.mono ?_
            clear hask
            rintro e w11 ⟨rfl, hb11⟩
            have HB11 : Hid (Below w.heap.size w w11) := Lib.hid (HB10.out.trans (hb11.mono HB10.out.size))
            have HA11 := Lib.hid (HA10.out.later hb11)
            have HG11 := Lib.hid (HG10.out.later hb11)
            have HT11 := Lib.hid (HT10.out.later hb11)
            have HM11 := Lib.hid (HM10.out.later hb11)
            have c11 : w11.cell? ⟨mb', mo' + j * 2, none⟩ = some (.string x.nm) := HMC.out w11 HM11.out j x HX.out
            have HD11 : Hid (Below wp.heap.size wp w11) := Lib.hid (HD10.out.trans (hb11.mono HD10.out.size))
            go_wp2_with fail
            refine And.intro (by first | exact fun _ => ⟨HA11.out, c11⟩ | exact ⟨HA11.out, c11⟩) ?_
            refine wpAnyT_next (i := 12) (by kernel_rfl) rfl ?_
            have hda : Below w11.heap.size w11 (w11.alloc (.cells #[.bool false, .int .i64 0, .int .i64 0, .int .i64 0, .int .i64 0, .int .i64 0, .int .i64 0, .int .i64 0] 50)) := qbl
            have HBq : Hid (Below w.heap.size w (w11.alloc (.cells #[.bool false, .int .i64 0, .int .i64 0, .int .i64 0, .int .i64 0, .int .i64 0, .int .i64 0, .int .i64 0] 50))) := Lib.hid (HB11.out.alloc HB11.out.size _)
            have HAq := Lib.hid (HA11.out.later hda)
            have HGq := Lib.hid (HG11.out.later hda)
            have HTq := Lib.hid (HT11.out.later hda)
            have HMq := Lib.hid (HM11.out.later hda)
            have HNq : Hid (Blk (w11.alloc (.cells #[.bool false, .int .i64 0, .int .i64 0, .int .i64 0, .int .i64 0, .int .i64 0, .int .i64 0, .int .i64 0] 50)) w11.heap.size 50 #[.bool false, .int .i64 0, .int .i64 0, .int .i64 0, .int .i64 0, .int .i64 0, .int .i64 0, .int .i64 0]) := Lib.hid (Blk.new _ _ _)
            have HXq : Hid (wp.heap.size ≤ w11.heap.size) := Lib.hid HD11.out.size
            have HDq : Hid (Below wp.heap.size wp (w11.alloc (.cells #[.bool false, .int .i64 0, .int .i64 0, .int .i64 0, .int .i64 0, .int .i64 0, .int .i64 0, .int .i64 0] 50))) := Lib.hid (HD11.out.trans (hda.mono HD11.out.size))
            have cq : (w11.alloc (.cells #[.bool false, .int .i64 0, .int .i64 0, .int .i64 0, .int .i64 0, .int .i64 0, .int .i64 0, .int .i64 0] 50)).cell? ⟨mb', mo' + j * 2, none⟩ = some (.string x.nm) := HMC.out _ HMq.out j x HX.out
            skip
            clear hda
            go_wp2_with fail
            refine And.intro (by first | exact fun _ => ⟨HAq.out, cq⟩ | exact ⟨HAq.out, cq⟩) ?_
            clear cq c11 c10 hb10 hb11 hf10 HB10 HA10 HG10 HT10 HM10 HF10 HB11 HA11 HG11 HT11 HM11
            generalize w11.alloc (.cells #[.bool false, .int .i64 0, .int .i64 0, .int .i64 0, .int .i64 0, .int .i64 0, .int .i64 0, .int .i64 0] 50) = wq at *
            generalize w11.heap.size = ga at *
            clear HMq HTq HGq HAq HBq HD10 HD11
            revert HXq
            revert HNq
            revert HDq
            revert ga
            revert wq
            clear HS' w11 w10
            revert s'
            exact FB.out
          · skip
            have hda : Below w10.heap.size w10 (w10.alloc (.cells #[.bool false, .int .i64 0, .int .i64 0, .int .i64 0, .int .i64 0, .int .i64 0, .int .i64 0, .int .i64 0] 50)) := qbl
            have HBq : Hid (Below w.heap.size w (w10.alloc (.cells #[.bool false, .int .i64 0, .int .i64 0, .int .i64 0, .int .i64 0, .int .i64 0, .int .i64 0, .int .i64 0] 50))) := Lib.hid (HB10.out.alloc HB10.out.size _)
            have HAq := Lib.hid (HA10.out.later hda)
            have HGq := Lib.hid (HG10.out.later hda)
            have HTq := Lib.hid (HT10.out.later hda)
            have HMq := Lib.hid (HM10.out.later hda)
            have HNq : Hid (Blk (w10.alloc (.cells #[.bool false, .int .i64 0, .int .i64 0, .int .i64 0, .int .i64 0, .int .i64 0, .int .i64 0, .int .i64 0] 50)) w10.heap.size 50 #[.bool false, .int .i64 0, .int .i64 0, .int .i64 0, .int .i64 0, .int .i64 0, .int .i64 0, .int .i64 0]) := Lib.hid (Blk.new _ _ _)
            have HXq : Hid (wp.heap.size ≤ w10.heap.size) := Lib.hid HD10.out.size
            have HDq : Hid (Below wp.heap.size wp (w10.alloc (.cells #[.bool false, .int .i64 0, .int .i64 0, .int .i64 0, .int .i64 0, .int .i64 0, .int .i64 0, .int .i64 0] 50))) := Lib.hid (HD10.out.trans (hda.mono HD10.out.size))
            have cq : (w10.alloc (.cells #[.bool false, .int .i64 0, .int .i64 0, .int .i64 0, .int .i64 0, .int .i64 0, .int .i64 0, .int .i64 0] 50)).cell? ⟨mb', mo' + j * 2, none⟩ = some (.string x.nm) := HMC.out _ HMq.out j x HX.out
            have HFq := Lib.hid (HF10.out.later hda)
            clear hda
            go_wp2_with fail
            refine And.intro (by first | exact fun _ => ⟨HAq.out, cq⟩ | exact ⟨HAq.out, cq⟩) ?_
            clear c10 hb10 hf10 HB10 HA10 HG10 HT10 HM10 HF10
            generalize w10.alloc (.cells #[.bool false, .int .i64 0, .int .i64 0, .int .i64 0, .int .i64 0, .int .i64 0, .int .i64 0, .int .i64 0] 50) = wq at *
            generalize w10.heap.size = ga at *
            refine wpAnyT_next (i := 11) (by kernel_rfl) rfl ?_
            have hask := ask_v b0 sT s' _ _ _ HET.out HS'.out (HPB.out.later HBq.out) (by have := HL6.out; omega) HTq.out HFq.out (aa, e1) (a2, e2) (a3, e3) (a4, e4) HQ.out (hq.2.2.1.trans HV2.out) (hq.2.2.2.1.trans HV3.out) (hq.2.2.2.2.trans HV4.out)
            rw [HBV.out, HLT.out, HTA.out] at hask
            simp only at hask
            go_wp2_with fail
            refine hask.mono ?_
            clear hask
            rintro e w11 ⟨rfl, hb11⟩
            have HB11 : Hid (Below w.heap.size w w11) := Lib.hid (HBq.out.trans (hb11.mono HBq.out.size))
            have HA11 := Lib.hid (HAq.out.later hb11)
            have HG11 := Lib.hid (HGq.out.later hb11)
            have HT11 := Lib.hid (HTq.out.later hb11)
            have HM11 := Lib.hid (HMq.out.later hb11)
            have c11 : w11.cell? ⟨mb', mo' + j * 2, none⟩ = some (.string x.nm) := HMC.out w11 HM11.out j x HX.out
            have HD11 : Hid (Below wp.heap.size wp w11) := Lib.hid (HDq.out.trans (hb11.mono HDq.out.size))
            go_wp2_with fail
            refine And.intro (by first | exact fun _ => ⟨HA11.out, c11⟩ | exact ⟨HA11.out, c11⟩) ?_
            have HN11 := Lib.hid (HNq.out.later hb11)
            exact wpAnyT_listed (by kernel_rfl) (FB.out _ _ _ HD11 HN11 HXq)
        · skip
          have hda : Below wp.heap.size wp (wp.alloc (.cells #[.bool false, .int .i64 0, .int .i64 0, .int .i64 0, .int .i64 0, .int .i64 0, .int .i64 0, .int .i64 0] 50)) := qbl
          have HBq : Hid (Below w.heap.size w (wp.alloc (.cells #[.bool false, .int .i64 0, .int .i64 0, .int .i64 0, .int .i64 0, .int .i64 0, .int .i64 0, .int .i64 0] 50))) := Lib.hid (HBp.out.alloc HBp.out.size _)
          have HAq := Lib.hid (HAp.out.later hda)
          have HGq := Lib.hid (HGp.out.later hda)
          have HTq := Lib.hid (HTp.out.later hda)
          have HMq := Lib.hid (HMp.out.later hda)
          have HNq : Hid (Blk (wp.alloc (.cells #[.bool false, .int .i64 0, .int .i64 0, .int .i64 0, .int .i64 0, .int .i64 0, .int .i64 0, .int .i64 0] 50)) wp.heap.size 50 #[.bool false, .int .i64 0, .int .i64 0, .int .i64 0, .int .i64 0, .int .i64 0, .int .i64 0, .int .i64 0]) := Lib.hid (Blk.new _ _ _)
          have HXq : Hid (wp.heap.size ≤ wp.heap.size) := Lib.hid HDp.out.size
          have HDq : Hid (Below wp.heap.size wp (wp.alloc (.cells #[.bool false, .int .i64 0, .int .i64 0, .int .i64 0, .int .i64 0, .int .i64 0, .int .i64 0, .int .i64 0] 50))) := Lib.hid (HDp.out.trans (hda.mono HDp.out.size))
          have cq : (wp.alloc (.cells #[.bool false, .int .i64 0, .int .i64 0, .int .i64 0, .int .i64 0, .int .i64 0, .int .i64 0, .int .i64 0] 50)).cell? ⟨mb', mo' + j * 2, none⟩ = some (.string x.nm) := HMC.out _ HMq.out j x HX.out
          skip
          clear hda
          go_wp2_with fail
          refine And.intro (by first | exact fun _ => ⟨HAq.out, cq⟩ | exact ⟨HAq.out, cq⟩) ?_
          generalize wp.alloc (.cells #[.bool false, .int .i64 0, .int .i64 0, .int .i64 0, .int .i64 0, .int .i64 0, .int .i64 0, .int .i64 0] 50) = wq at *
          refine wpAnyT_next (i := 10) (by kernel_rfl) rfl ?_
          have hch := law_changed sM x.nm V _ HMq.out (by have := HLM.out; omega)
          rw [HMA.out, HLM.out] at hch
          go_wp2_with fail
          refine hch.mono ?_
          clear hch
          rintro e w10 ⟨s', rfl, hs', hf10, hb10⟩
          rw [HEM.out] at hs'
          have HS' := Lib.hid hs'
          clear hs'
          have HB10 : Hid (Below w.heap.size w w10) := Lib.hid (HBq.out.trans (hb10.mono HBq.out.size))
          have HA10 := Lib.hid (HAq.out.later hb10)
          have HG10 := Lib.hid (HGq.out.later hb10)
          have HT10 := Lib.hid (HTq.out.later hb10)
          have HM10 := Lib.hid (HMq.out.later hb10)
          have HF10 := Lib.hid hf10
          have c10 : w10.cell? ⟨mb', mo' + j * 2, none⟩ = some (.string x.nm) := HMC.out w10 HM10.out j x HX.out
          have HD10 : Hid (Below wp.heap.size wp w10) := Lib.hid (HDq.out.trans (hb10.mono HDq.out.size))
          go_wp2_with fail
          refine And.intro (by first | exact fun _ => ⟨HA10.out, c10⟩ | exact ⟨HA10.out, c10⟩) ?_
          have HN10 := Lib.hid (HNq.out.later hb10)
          refine wpAnyT_next (i := 11) (by kernel_rfl) rfl ?_
          have hask := ask_v b0 sT s' _ _ _ HET.out HS'.out (HPB.out.later HB10.out) (by have := HL6.out; omega) HT10.out HF10.out (aa, e1) (a2, e2) (a3, e3) (a4, e4) HQ.out (hq.2.2.1.trans HV2.out) (hq.2.2.2.1.trans HV3.out) (hq.2.2.2.2.trans HV4.out)
          rw [HBV.out, HLT.out, HTA.out] at hask
          simp only at hask
          go_wp2_with fail
          refine hask.mono ?_
          clear hask
          rintro e w11 ⟨rfl, hb11⟩
          have HB11 : Hid (Below w.heap.size w w11) := Lib.hid (HB10.out.trans (hb11.mono HB10.out.size))
          have HA11 := Lib.hid (HA10.out.later hb11)
          have HG11 := Lib.hid (HG10.out.later hb11)
          have HT11 := Lib.hid (HT10.out.later hb11)
          have HM11 := Lib.hid (HM10.out.later hb11)
          have c11 : w11.cell? ⟨mb', mo' + j * 2, none⟩ = some (.string x.nm) := HMC.out w11 HM11.out j x HX.out
          have HD11 : Hid (Below wp.heap.size wp w11) := Lib.hid (HD10.out.trans (hb11.mono HD10.out.size))
          go_wp2_with fail
          refine And.intro (by first | exact fun _ => ⟨HA11.out, c11⟩ | exact ⟨HA11.out, c11⟩) ?_
          have HN11 := Lib.hid (HN10.out.later hb11)
          exact wpAnyT_listed (by kernel_rfl) (FB.out _ _ _ HD11 HN11 HXq)
      · intro s' wq ga HDq HNq HXq
        refine wpAnyT_next (i := 13) (by kernel_rfl) rfl ?_
        refine wpList_store_row rfl 50 (.tmp 18) (.tmp 134) rfl ga #[.bool aa, .int .i64 a2, .int .i64 a3, .int .i64 a4, .int .i64 e1, .int .i64 e2, .int .i64 e3, .int .i64 e4] rfl rfl 50 #[.bool false, .int .i64 0, .int .i64 0, .int .i64 0, .int .i64 0, .int .i64 0, .int .i64 0, .int .i64 0] HNq.out (by kernel_rfl) rfl (by kernel_rfl) ?_
        have HNr : Hid (Blk (wq.setRow ga #[.bool aa, .int .i64 a2, .int .i64 a3, .int .i64 a4, .int .i64 e1, .int .i64 e2, .int .i64 e3, .int .i64 e4]) ga 50 #[.bool aa, .int .i64 a2, .int .i64 a3, .int .i64 a4, .int .i64 e1, .int .i64 e2, .int .i64 e3, .int .i64 e4]) := Lib.hid (setRow_heap _ _ #[.bool false, .int .i64 0, .int .i64 0, .int .i64 0, .int .i64 0, .int .i64 0, .int .i64 0, .int .i64 0] _ _ (0, 0) HNq.out)
        have HDr : Hid (Below wp.heap.size wp (wq.setRow ga #[.bool aa, .int .i64 a2, .int .i64 a3, .int .i64 a4, .int .i64 e1, .int .i64 e2, .int .i64 e3, .int .i64 e4])) := Lib.hid (Go.below_setRow HDq.out HXq.out _)
        clear HNq HDq hq HHQ HQ HDp
        generalize wq.setRow ga #[.bool aa, .int .i64 a2, .int .i64 a3, .int .i64 a4, .int .i64 e1, .int .i64 e2, .int .i64 e3, .int .i64 e4] = wr at *
        have HAr := Lib.hid (HAp.out.later HDr.out)
        have cr : wr.cell? ⟨mb', mo' + j * 2, none⟩ = some (.string x.nm) := HMC.out wr (HMp.out.later HDr.out) j x HX.out
        go_wp2_with fail
        refine And.intro (by first | exact fun _ => ⟨HAr.out, cr⟩ | exact ⟨HAr.out, cr⟩) ?_
        refine wpAnyT_done (by kernel_rfl) ?_ _
        clear cr
        have HGr := Lib.hid (HGp.out.later HDr.out)
        have hle0 : w.heap.size ≤ wp.heap.size := HBp.out.size
        have hgg : g0 ≠ ga := by have h1 := HGp.out.lt; have h2 := HXq.out; omega
        have hag : w.heap.size ≠ ga := by have h1 := HAp.out.lt; have h2 := HXq.out; omega
        by_cases hj2 : j = 2
        · subst hj2
          obtain ⟨r0, rf, rz⟩ : wr.cell? ⟨g0, 0, none⟩ = some (.bool a1) ∧ (∀ o, wr.frozen? ⟨ga, o, none⟩ = false) ∧ ga < wr.heap.size := ⟨HGr.out.cell 0, HNr.out.frozen, HNr.out.lt⟩
          have rg := HGr.out.lt
          obtain ⟨q0, hq0⟩ : ∃ v, wr.cell? ⟨ga, 0, none⟩ = some v := ⟨_, HNr.out.cell 0⟩
          have HNs : Hid (Blk (wr.setCell ⟨ga, 0, none⟩ (.bool a1)) ga 50 #[.bool a1, .int .i64 a2, .int .i64 a3, .int .i64 a4, .int .i64 e1, .int .i64 e2, .int .i64 e3, .int .i64 e4]) := Lib.hid (HNr.out.set_ 0 (.bool a1))
          have HGs : Hid (Blk (wr.setCell ⟨ga, 0, none⟩ (.bool a1)) g0 50 #[.bool a1, .int .i64 a2, .int .i64 a3, .int .i64 a4, .int .i64 e1, .int .i64 e2, .int .i64 e3, .int .i64 e4]) := Lib.hid (HGr.out.far hgg _)
          have HDs : Hid (Below wp.heap.size wp (wr.setCell ⟨ga, 0, none⟩ (.bool a1))) := Lib.hid (HDr.out.setCell HXq.out _)
          go_wp2_with (first | (refine wpList_load_row rfl 50 (.tmp 18) rfl ga rfl 50 #[.bool a1, .int .i64 a2, .int .i64 a3, .int .i64 a4, .int .i64 e1, .int .i64 e2, .int .i64 e3, .int .i64 e4] (0, 0) _ HNs.out Tryz.underlying50 rfl (by kernel_rfl) ?_) | (refine wpList_load_row rfl 50 (.tmp 16) rfl g0 rfl 50 #[.bool a1, .int .i64 a2, .int .i64 a3, .int .i64 a4, .int .i64 e1, .int .i64 e2, .int .i64 e3, .int .i64 e4] (0, 0) _ HGs.out Tryz.underlying50 rfl (by kernel_rfl) ?_))
          rename_i Kz hKz
          have HBz : Hid (Below w.heap.size w (wr.setCell ⟨ga, 0, none⟩ (.bool a1))) := Lib.hid (HBp.out.trans (HDs.out.mono hle0))
          have HAz := Lib.hid (HAp.out.later HDs.out)
          have HTz := Lib.hid (HTp.out.later HDs.out)
          have HMz := Lib.hid (HMp.out.later HDs.out)
          have HGz := HGs
          exact FIN.out _ hKz _ HBz HAz HGz HTz HMz _ _ _ _ _ _ _ _ _ _ _ _ _ _ _ _ _ _ _ _ _ _ _ _ _ _ _ _ _ _ _ _ _ _ _ _ _ _ _ _ _ _ _ _ _ _ _ _ _ _ _ _ _ _ _ _ _ _ _ _ _ _ _ _ _ _ _ _ _ _ _ _ _ _ _ _
        · have haa := HAA.out hj2
          subst haa
          have hj2i : ((j : Int) == 2) = false := beq_eq_false_iff_ne.2 (by omega)
          go_wp2_with (first | (refine wpList_load_row rfl 50 (.tmp 18) rfl ga rfl 50 #[.bool aa, .int .i64 a2, .int .i64 a3, .int .i64 a4, .int .i64 e1, .int .i64 e2, .int .i64 e3, .int .i64 e4] (0, 0) _ HNr.out Tryz.underlying50 rfl (by kernel_rfl) ?_) | (refine wpList_load_row rfl 50 (.tmp 16) rfl g0 rfl 50 #[.bool aa, .int .i64 a2, .int .i64 a3, .int .i64 a4, .int .i64 e1, .int .i64 e2, .int .i64 e3, .int .i64 e4] (0, 0) _ HGr.out Tryz.underlying50 rfl (by kernel_rfl) ?_))
          rename_i Kz hKz
          have HBz : Hid (Below w.heap.size w wr) := Lib.hid (HBp.out.trans (HDr.out.mono hle0))
          have HAz := HAr
          have HTz := Lib.hid (HTp.out.later HDr.out)
          have HMz := Lib.hid (HMp.out.later HDr.out)
          have HGz := HGr
          exact FIN.out _ hKz _ HBz HAz HGz HTz HMz _ _ _ _ _ _ _ _ _ _ _ _ _ _ _ _ _ _ _ _ _ _ _ _ _ _ _ _ _ _ _ _ _ _ _ _ _ _ _ _ _ _ _ _ _ _ _ _ _ _ _ _ _ _ _ _ _ _ _ _ _ _ _ _ _ _ _ _ _ _ _ _ _ _ _ _
  · intro Kz hKz Wz HBz HAz HGz HTz HMz x17 x18 x70 x71 x72 x73 x74 x75 x76 x77 x78 x79 x80 x81 x82 x83 x84 x85 x86 x87 x88 x89 x90 x91 x92 x93 x94 x95 x96 x97 x98 x99 x100 x101 x102 x103 x104 x105 x106 x107 x108 x109 x110 x111 x112 x113 x114 x115 x116 x117 x118 x119 x120 x121 x122 x123 x124 x125 x126 x127 x128 x129 x130 x131 x132 x133 x134 x135 x136 x137 x138 x139 x140 x141 x142 x143
    dsimp only
    have HBy : Hid (Below w.heap.size w Wz) := HBz
    go_loopw [19] (fun i wr => ∃ (kk : Nat), kk ≤ L.length ∧ i = .int .i64 kk ∧ Below Wz.heap.size Wz wr ∧ Hid (∀ y, y ∈ L.take kk → sameB y.nm (⟨#[102, 101, 101]⟩ : ByteArray) = false)) (fun i _ => L.length - (intOf i).toNat)
    case atStart => exact ⟨0, by omega, rfl, Below.refl _ _, Lib.hid (fun y hy => by simp at hy)⟩
    case round =>
      obtain ⟨kk, hkk, rfl, hbel, HT⟩ := hrel
      have HBR : Hid (Below w.heap.size w wr) := Lib.hid (HBz.out.trans (hbel.mono HBz.out.size))
      have HAR := Lib.hid (HAz.out.later hbel)
      have y1 := HAR.out.cell 1
      have yz := HAR.out.lt
      by_cases hlt : kk < L.length
      · have hLW : LetsAt (· < wr.heap.size) wr ⟨LA, Lc, L⟩ := by have h := HPB.out.lets.later HBR.out; rw [HB00.out] at h; exact h
        obtain ⟨b, p, hA, hb, hcl⟩ := hLW.rd.at1 hlt
        have HSTEP : Hid (sameB L[kk].nm (⟨#[102, 101, 101]⟩ : ByteArray) = false → ∀ y, y ∈ L.take (kk + 1) → sameB y.nm (⟨#[102, 101, 101]⟩ : ByteArray) = false) := Lib.hid (fun h y hy => by
          rw [List.take_succ_eq_append_getElem hlt] at hy
          rcases List.mem_append.1 hy with hy | hy
          · exact HT.out y hy
          · rw [List.mem_singleton.1 hy]; exact h)
        simp only at hA hcl
        subst hA
        clear hLW
        generalize L[kk] = x at *
        obtain ⟨xn, xo, xm, xu, xs, xA, xc, xl⟩ := x
        obtain ⟨f0, f1, f2, f3, f4, f5⟩ := Cells.c6 hcl
        clear hcl f1 f2 f3 f4 f5
        rcases hs : sameB xn (⟨#[102, 101, 101]⟩ : ByteArray)
        · have heq : (xn.toList == [102, 101, 101]) = false := by have h := hs; unfold sameB at h; rwa [show (⟨#[102, 101, 101]⟩ : ByteArray).toList = [102, 101, 101] by kernel_rfl] at h
          have HT2 := Lib.hid (HSTEP.out hs)
          clear hs HSTEP HT
          go_wp2_with fail
          go_roundw
          case rel => exact ⟨kk + 1, by omega, by go_num, hbel, HT2⟩
          case measure => simp [intOf]; omega
        · have heq : (xn.toList == [102, 101, 101]) = true := by have h := hs; unfold sameB at h; rwa [show (⟨#[102, 101, 101]⟩ : ByteArray).toList = [102, 101, 101] by kernel_rfl] at h
          clear hs HSTEP HT
          go_wp2_with fail
          go_ret
          exact ⟨rfl, HBR.out⟩
      · have HLL : Hid (∀ y, y ∈ b0.lets.l → sameB y.nm (⟨#[102, 101, 101]⟩ : ByteArray) = false) := Lib.hid (fun y hy => HT.out y (by rw [List.take_of_length_le (by omega)]; rw [HB00.out] at hy; exact hy))
        have HGR := Lib.hid (HGz.out.later hbel)
        have HTR := Lib.hid (HTz.out.later hbel)
        have HMR := Lib.hid (HMz.out.later hbel)
        clear hbel HT HAz HGz HTz HMz HBz HBy
        go_wp2_with (refine wpList_load_row rfl 27 (.tmp 6) rfl w.heap.size rfl 27 #[.string nm, .slice LA L.length Lc, .int .i64 o, .int .i64 n, .int .i64 u, .string s, .slice A l.length c, .int .i64 oB, .int .i64 nB, .int .i64 uB, .string sB, .slice AB lB.length cB, .int .i64 oC, .int .i64 nC, .int .i64 uC, .string sC, .slice AC lC.length cC, .int .i64 oD, .int .i64 nD, .int .i64 uD, .string sD, .slice AD lD.length cD, .int .i64 q, .int .i64 sh, .int .i64 ch] (0, 0) _ HAR.out Tryz.underlying27 rfl (by kernel_rfl) ?_)
        clear y1 yz
        have hchk := un_Check b0 wr (HPB.out.later HBR.out) (by have := HL6.out; omega)
        rw [HBV.out] at hchk
        refine hchk.mono ?_
        clear hchk
        rintro e w6 ⟨rfl, hb6⟩
        have HB6 : Hid (Below w.heap.size w w6) := Lib.hid (HBR.out.trans (hb6.mono HBR.out.size))
        have HA6 := Lib.hid (HAR.out.later hb6)
        have HG6 := Lib.hid (HGR.out.later hb6)
        have HT6 := Lib.hid (HTR.out.later hb6)
        have HM6 := Lib.hid (HMR.out.later hb6)
        clear hb6 HAR HGR HTR HMR HBR
        obtain ⟨CK, hCK⟩ : ∃ CK, chkU b0 = CK := ⟨_, rfl⟩
        have HCK := Lib.hid hCK
        rw [hCK]
        clear hCK
        by_cases hck : CK = 0
        · subst hck
          have HQ := Lib.hid (fun A c => fee_all (A := A) (c := c) HCK.out HL6.out HLL.out (tripL N M 3 4 se cr ba 2) (riderL M N 1 2))
          have hgn : w.heap.size ≠ w6.heap.size := by have := HA6.out.lt; omega
          go_wp2_with (first | (refine wpList_load_row rfl 27 (.tmp 6) rfl w.heap.size rfl 27 #[.string nm, .slice LA L.length Lc, .int .i64 o, .int .i64 n, .int .i64 u, .string s, .slice A l.length c, .int .i64 oB, .int .i64 nB, .int .i64 uB, .string sB, .slice AB lB.length cB, .int .i64 oC, .int .i64 nC, .int .i64 uC, .string sC, .slice AC lC.length cC, .int .i64 oD, .int .i64 nD, .int .i64 uD, .string sD, .slice AD lD.length cD, .int .i64 q, .int .i64 sh, .int .i64 ch] (0, 0) _ HA6.out Tryz.underlying27 rfl (by kernel_rfl) ?_) | (refine wpList_store_row rfl 27 (.tmp 20) (.tmp 163) rfl w6.heap.size #[.string nm, .slice LA L.length Lc, .int .i64 o, .int .i64 n, .int .i64 u, .string s, .slice A l.length c, .int .i64 oB, .int .i64 nB, .int .i64 uB, .string sB, .slice AB lB.length cB, .int .i64 oC, .int .i64 nC, .int .i64 uC, .string sC, .slice AC lC.length cC, .int .i64 oD, .int .i64 nD, .int .i64 uD, .string sD, .slice AD lD.length cD, .int .i64 q, .int .i64 sh, .int .i64 ch] rfl rfl 27 #[.string (⟨#[]⟩ : ByteArray), .slice none 0 0, .int .i64 0, .int .i64 0, .int .i64 0, .string (⟨#[]⟩ : ByteArray), .slice none 0 0, .int .i64 0, .int .i64 0, .int .i64 0, .string (⟨#[]⟩ : ByteArray), .slice none 0 0, .int .i64 0, .int .i64 0, .int .i64 0, .string (⟨#[]⟩ : ByteArray), .slice none 0 0, .int .i64 0, .int .i64 0, .int .i64 0, .string (⟨#[]⟩ : ByteArray), .slice none 0 0, .int .i64 0, .int .i64 0, .int .i64 0] (Blk.new w6 _ _) (by kernel_rfl) rfl (by kernel_rfl) ?_; apply Hid.out))
          have HCs : Hid (Blk ((w6.alloc (.cells #[.string (⟨#[]⟩ : ByteArray), .slice none 0 0, .int .i64 0, .int .i64 0, .int .i64 0, .string (⟨#[]⟩ : ByteArray), .slice none 0 0, .int .i64 0, .int .i64 0, .int .i64 0, .string (⟨#[]⟩ : ByteArray), .slice none 0 0, .int .i64 0, .int .i64 0, .int .i64 0, .string (⟨#[]⟩ : ByteArray), .slice none 0 0, .int .i64 0, .int .i64 0, .int .i64 0, .string (⟨#[]⟩ : ByteArray), .slice none 0 0, .int .i64 0, .int .i64 0, .int .i64 0] 27)).setRow w6.heap.size #[.string nm, .slice LA L.length Lc, .int .i64 o, .int .i64 n, .int .i64 u, .string s, .slice A l.length c, .int .i64 oB, .int .i64 nB, .int .i64 uB, .string sB, .slice AB lB.length cB, .int .i64 oC, .int .i64 nC, .int .i64 uC, .string sC, .slice AC lC.length cC, .int .i64 oD, .int .i64 nD, .int .i64 uD, .string sD, .slice AD lD.length cD, .int .i64 q, .int .i64 sh, .int .i64 ch]) w6.heap.size 27 #[.string nm, .slice LA L.length Lc, .int .i64 o, .int .i64 n, .int .i64 u, .string s, .slice A l.length c, .int .i64 oB, .int .i64 nB, .int .i64 uB, .string sB, .slice AB lB.length cB, .int .i64 oC, .int .i64 nC, .int .i64 uC, .string sC, .slice AC lC.length cC, .int .i64 oD, .int .i64 nD, .int .i64 uD, .string sD, .slice AD lD.length cD, .int .i64 q, .int .i64 sh, .int .i64 ch]) := Lib.hid (setRow_heap _ _ #[.string (⟨#[]⟩ : ByteArray), .slice none 0 0, .int .i64 0, .int .i64 0, .int .i64 0, .string (⟨#[]⟩ : ByteArray), .slice none 0 0, .int .i64 0, .int .i64 0, .int .i64 0, .string (⟨#[]⟩ : ByteArray), .slice none 0 0, .int .i64 0, .int .i64 0, .int .i64 0, .string (⟨#[]⟩ : ByteArray), .slice none 0 0, .int .i64 0, .int .i64 0, .int .i64 0, .string (⟨#[]⟩ : ByteArray), .slice none 0 0, .int .i64 0, .int .i64 0, .int .i64 0] _ _ (0, 0) (Blk.new w6 _ _))
          have HDs : Hid (Below w6.heap.size w6 ((w6.alloc (.cells #[.string (⟨#[]⟩ : ByteArray), .slice none 0 0, .int .i64 0, .int .i64 0, .int .i64 0, .string (⟨#[]⟩ : ByteArray), .slice none 0 0, .int .i64 0, .int .i64 0, .int .i64 0, .string (⟨#[]⟩ : ByteArray), .slice none 0 0, .int .i64 0, .int .i64 0, .int .i64 0, .string (⟨#[]⟩ : ByteArray), .slice none 0 0, .int .i64 0, .int .i64 0, .int .i64 0, .string (⟨#[]⟩ : ByteArray), .slice none 0 0, .int .i64 0, .int .i64 0, .int .i64 0] 27)).setRow w6.heap.size #[.string nm, .slice LA L.length Lc, .int .i64 o, .int .i64 n, .int .i64 u, .string s, .slice A l.length c, .int .i64 oB, .int .i64 nB, .int .i64 uB, .string sB, .slice AB lB.length cB, .int .i64 oC, .int .i64 nC, .int .i64 uC, .string sC, .slice AC lC.length cC, .int .i64 oD, .int .i64 nD, .int .i64 uD, .string sD, .slice AD lD.length cD, .int .i64 q, .int .i64 sh, .int .i64 ch])) := Lib.hid (Go.below_setRow ((Below.refl _ _).alloc (Nat.le_refl _) _) (Nat.le_refl _) _)
          generalize (w6.alloc (.cells #[.string (⟨#[]⟩ : ByteArray), .slice none 0 0, .int .i64 0, .int .i64 0, .int .i64 0, .string (⟨#[]⟩ : ByteArray), .slice none 0 0, .int .i64 0, .int .i64 0, .int .i64 0, .string (⟨#[]⟩ : ByteArray), .slice none 0 0, .int .i64 0, .int .i64 0, .int .i64 0, .string (⟨#[]⟩ : ByteArray), .slice none 0 0, .int .i64 0, .int .i64 0, .int .i64 0, .string (⟨#[]⟩ : ByteArray), .slice none 0 0, .int .i64 0, .int .i64 0, .int .i64 0] 27)).setRow w6.heap.size #[.string nm, .slice LA L.length Lc, .int .i64 o, .int .i64 n, .int .i64 u, .string s, .slice A l.length c, .int .i64 oB, .int .i64 nB, .int .i64 uB, .string sB, .slice AB lB.length cB, .int .i64 oC, .int .i64 nC, .int .i64 uC, .string sC, .slice AC lC.length cC, .int .i64 oD, .int .i64 nD, .int .i64 uD, .string sD, .slice AD lD.length cD, .int .i64 q, .int .i64 sh, .int .i64 ch] = ws at *
          have HAs := Lib.hid (HA6.out.later HDs.out)
          have HGs := Lib.hid (HG6.out.later HDs.out)
          have HTs : Hid (FactsAt (· < w6.heap.size) ws sT) := Lib.hid (HT6.out.keep (fun b hb => HDs.out.block b hb) (fun _ h => h))
          have HMs : Hid (FactsAt (· < w6.heap.size) ws sM) := Lib.hid (HM6.out.keep (fun b hb => HDs.out.block b hb) (fun _ h => h))
          have HBs : Hid (Below w.heap.size w ws) := Lib.hid (HB6.out.trans (HDs.out.mono HB6.out.size))
          have HNE : Hid (w.heap.size < w6.heap.size ∧ g0 < w6.heap.size) := Lib.hid ⟨HA6.out.lt, HG6.out.lt⟩
          clear HDs HA6 HG6 HT6 HM6 HB6 hgn
          generalize w6.heap.size = gc at *
          refine Lib.hid ?_
          refine wpList_nil ?_
          have HLs : Hid (LetsAt (· < ws.heap.size) ws ⟨LA, Lc, L⟩) := Lib.hid (by have h := HPB.out.lets.later HBs.out; rw [HB00.out] at h; exact h)
          have HSA : Hid (∀ W : World, Below ws.heap.size ws W → W.cell? ⟨w.heap.size, 1, none⟩ = some (.slice LA L.length Lc) ∧ W.cell? ⟨w.heap.size, 7, none⟩ = some (.int .i64 oB) ∧ W.cell? ⟨w.heap.size, 8, none⟩ = some (.int .i64 nB) ∧ W.cell? ⟨w.heap.size, 9, none⟩ = some (.int .i64 uB) ∧ W.cell? ⟨w.heap.size, 10, none⟩ = some (.string sB) ∧ W.cell? ⟨w.heap.size, 11, none⟩ = some (.slice AB lB.length cB)) := Lib.hid (fun W hW => by
            have h := HAs.out.later hW
            exact ⟨h.cell 1, h.cell 7, h.cell 8, h.cell 9, h.cell 10, h.cell 11⟩)
          have hL6 : L.length ≤ 6 := by have h := HL6.out; rw [HB00.out] at h; exact h
          go_wp2_with fail
          have HD0 : Hid (Below ws.heap.size ws ws.drew) := Lib.hid (Below.drew (Below.refl _ _))
          refine wp_region_T (fun W => W.cell? ⟨w.heap.size, 1, none⟩ = some (.slice LA L.length Lc) ∧ W.cell? ⟨w.heap.size, 7, none⟩ = some (.int .i64 oB) ∧ W.cell? ⟨w.heap.size, 8, none⟩ = some (.int .i64 nB) ∧ W.cell? ⟨w.heap.size, 9, none⟩ = some (.int .i64 uB) ∧ W.cell? ⟨w.heap.size, 10, none⟩ = some (.string sB) ∧ W.cell? ⟨w.heap.size, 11, none⟩ = some (.slice AB lB.length cB)) (fun _ => false) (by kernel_rfl) (HSA.out _ HD0.out) (fun hHeld => ?_)
          refine qtq 1 ?_
          simp only [qsa, qsb, qsc]
          refine qtq 2 ?_
          simp only [qsa, qsb, qsc]
          refine qtq 4 ?_
          simp only [qsa, qsb, qsc]
          refine qtq 5 ?_
          simp only [qsa, qsb, qsc]
          refine qtq 6 ?_
          simp only [qsa, qsb, qsc]
          clear hHeld
          generalize ws.drew = wd at *
          apply cutT
          · intro finC
            have FC := Lib.hid finC
            clear finC
            refine wpAnyT_two (i := 0) (j := 7) (by kernel_rfl) rfl rfl ?_ ?_
            · go_wp2_with fail
              have HO1 : Hid (Own ws.heap.size 57 6 LT.enc (wd.alloc (.cells #[] 57)) ⟨some ⟨wd.heap.size, 0, none⟩, 0, []⟩) := Lib.hid (Own.lit wd #[] [] HD0.out.size (Nat.zero_le _) rfl LT.enc_k)
              have HD1 : Hid (Below ws.heap.size ws (wd.alloc (.cells #[] 57))) := Lib.hid (HD0.out.alloc HD0.out.size _)
              have HW1 : Hid (Below wd.heap.size wd (wd.alloc (.cells #[] 57))) := Lib.hid qbl
              have OI0 : Hid (wd.heap.size < (wd.alloc (.cells #[] 57)).heap.size) := Lib.hid (by simp)
              obtain ⟨h1, hh1⟩ : ∃ g, wd.heap.size = g := ⟨_, rfl⟩
              have HH1 := Lib.hid hh1
              rw [hh1] at OI0 HO1 ⊢
              clear hh1
              generalize wd.alloc (.cells #[] 57) = W1 at *
              go_wp2_with fail
              refine And.intro (by first | exact fun _ => (HSA.out _ HD1.out) | exact (HSA.out _ HD1.out)) ?_
              refine wpAnyT_two (i := 3) (j := 7) (by kernel_rfl) rfl rfl ?_ ?_
              · skip
                refine wpl_append_sl _ rfl (.tmp 164) (.tmp 166) _ rfl Tryz.underlying22 infoLet (by omega) LT.enc_k LT.enc_one ⟨some ⟨h1, 0, none⟩, 0, []⟩ ⟨LA, Lc, L⟩ rfl rfl HO1.out (HLs.out.later HD1.out).rd (by simp [maxLen]; omega) (by simp; omega) HD1.out.size ?_
                intro A3 c3 W3 hown hg hdj
                clear hdj
                have HD3 : Hid (Below ws.heap.size ws W3) := Lib.hid (HD1.out.grown hg HD1.out.size (fun k hk => (own_row_ge HO1.out k hk).1))
                skip
                have HO3 := Lib.hid hown
                simp only [List.nil_append] at HO3
                clear hown hg
                simp only [List.nil_append]
                go_wp2_with fail
                refine And.intro (by first | exact fun _ => (HSA.out _ HD3.out) | exact (HSA.out _ HD3.out)) ?_
                refine wpAnyT_next (i := 7) (by kernel_rfl) rfl ?_
                go_wp2_with fail
                have HG7 : Hid (Blk (W3.alloc (.cells #[.string (⟨#[102, 101, 101]⟩ : ByteArray), .int .i64 oB, .int .i64 nB, .int .i64 uB, .string sB, .slice AB lB.length cB] 57)) W3.heap.size 57 #[.string (⟨#[102, 101, 101]⟩ : ByteArray), .int .i64 oB, .int .i64 nB, .int .i64 uB, .string sB, .slice AB lB.length cB]) := Lib.hid (Blk.new _ _ _)
                have HD7 : Hid (Below ws.heap.size ws (W3.alloc (.cells #[.string (⟨#[102, 101, 101]⟩ : ByteArray), .int .i64 oB, .int .i64 nB, .int .i64 uB, .string sB, .slice AB lB.length cB] 57))) := Lib.hid (HD3.out.alloc HD3.out.size _)
                have HW7 : Hid (Below W3.heap.size W3 (W3.alloc (.cells #[.string (⟨#[102, 101, 101]⟩ : ByteArray), .int .i64 oB, .int .i64 nB, .int .i64 uB, .string sB, .slice AB lB.length cB] 57))) := Lib.hid qbl
                generalize W3.alloc (.cells #[.string (⟨#[102, 101, 101]⟩ : ByteArray), .int .i64 oB, .int .i64 nB, .int .i64 uB, .string sB, .slice AB lB.length cB] 57) = W7 at *
                obtain ⟨g7, hg7⟩ : ∃ g, W3.heap.size = g := ⟨_, rfl⟩
                rw [hg7] at HG7 ⊢
                try rw [hg7] at OI0
                clear hg7
                have HO7 : Hid (Own ws.heap.size 57 6 LT.enc W7 ⟨A3, c3, L⟩) := Lib.hid (HO3.out.below HW7.out)
                clear HW7
                go_wp2_with fail
                refine And.intro (by first | exact fun _ => (HSA.out _ HD7.out) | exact (HSA.out _ HD7.out)) ?_
                revert HO7
                revert HG7
                revert HD7
                clear HO3 HD3
                revert W7
                revert g7
                clear W3
                revert c3
                revert A3
                clear HO1 HD1 HW1 HH1 OI0 W1
                revert h1
                exact FC.out
              · go_wp2_with fail
                have HG7 : Hid (Blk (W1.alloc (.cells #[.string (⟨#[102, 101, 101]⟩ : ByteArray), .int .i64 oB, .int .i64 nB, .int .i64 uB, .string sB, .slice AB lB.length cB] 57)) W1.heap.size 57 #[.string (⟨#[102, 101, 101]⟩ : ByteArray), .int .i64 oB, .int .i64 nB, .int .i64 uB, .string sB, .slice AB lB.length cB]) := Lib.hid (Blk.new _ _ _)
                have HD7 : Hid (Below ws.heap.size ws (W1.alloc (.cells #[.string (⟨#[102, 101, 101]⟩ : ByteArray), .int .i64 oB, .int .i64 nB, .int .i64 uB, .string sB, .slice AB lB.length cB] 57))) := Lib.hid (HD1.out.alloc HD1.out.size _)
                have HW7 : Hid (Below W1.heap.size W1 (W1.alloc (.cells #[.string (⟨#[102, 101, 101]⟩ : ByteArray), .int .i64 oB, .int .i64 nB, .int .i64 uB, .string sB, .slice AB lB.length cB] 57))) := Lib.hid qbl
                generalize W1.alloc (.cells #[.string (⟨#[102, 101, 101]⟩ : ByteArray), .int .i64 oB, .int .i64 nB, .int .i64 uB, .string sB, .slice AB lB.length cB] 57) = W7 at *
                obtain ⟨g7, hg7⟩ : ∃ g, W1.heap.size = g := ⟨_, rfl⟩
                rw [hg7] at HG7 ⊢
                try rw [hg7] at OI0
                clear hg7
                have HO7 : Hid (Own ws.heap.size 57 6 LT.enc W7 ⟨some ⟨h1, 0, none⟩, 0, []⟩) := Lib.hid (HO1.out.below HW7.out)
                have hgh : g7 ≠ h1 := by have h := OI0.out; omega
                go_wp2_with fail
                refine And.intro (by first | exact fun _ => (HSA.out _ HD7.out) | exact (HSA.out _ HD7.out)) ?_
                refine wpAnyT_next (i := 3) (by kernel_rfl) rfl ?_
                refine wpl_append_sl _ rfl (.tmp 164) (.tmp 166) _ rfl Tryz.underlying22 infoLet (by omega) LT.enc_k LT.enc_one ⟨some ⟨h1, 0, none⟩, 0, []⟩ ⟨LA, Lc, L⟩ rfl rfl HO7.out (HLs.out.later HD7.out).rd (by simp [maxLen]; omega) (by simp; omega) HD7.out.size ?_
                intro A3 c3 W3 hown hg hdj
                clear hdj
                have HD3 : Hid (Below ws.heap.size ws W3) := Lib.hid (HD7.out.grown hg HD7.out.size (fun k hk => (own_row_ge HO7.out k hk).1))
                have HG3 := Lib.hid (HG7.out.grown hg (own_ne hgh))
                have HO3 := Lib.hid hown
                simp only [List.nil_append] at HO3
                clear hown hg
                simp only [List.nil_append]
                go_wp2_with fail
                refine And.intro (by first | exact fun _ => (HSA.out _ HD3.out) | exact (HSA.out _ HD3.out)) ?_
                exact wpAnyT_listed (by kernel_rfl) (FC.out h1 A3 c3 g7 W3 HD3 HG3 HO3)
            · go_wp2_with fail
              have HG7 : Hid (Blk (wd.alloc (.cells #[.string (⟨#[102, 101, 101]⟩ : ByteArray), .int .i64 oB, .int .i64 nB, .int .i64 uB, .string sB, .slice AB lB.length cB] 57)) wd.heap.size 57 #[.string (⟨#[102, 101, 101]⟩ : ByteArray), .int .i64 oB, .int .i64 nB, .int .i64 uB, .string sB, .slice AB lB.length cB]) := Lib.hid (Blk.new _ _ _)
              have HD7 : Hid (Below ws.heap.size ws (wd.alloc (.cells #[.string (⟨#[102, 101, 101]⟩ : ByteArray), .int .i64 oB, .int .i64 nB, .int .i64 uB, .string sB, .slice AB lB.length cB] 57))) := Lib.hid (HD0.out.alloc HD0.out.size _)
              have HW7 : Hid (Below wd.heap.size wd (wd.alloc (.cells #[.string (⟨#[102, 101, 101]⟩ : ByteArray), .int .i64 oB, .int .i64 nB, .int .i64 uB, .string sB, .slice AB lB.length cB] 57))) := Lib.hid qbl
              generalize wd.alloc (.cells #[.string (⟨#[102, 101, 101]⟩ : ByteArray), .int .i64 oB, .int .i64 nB, .int .i64 uB, .string sB, .slice AB lB.length cB] 57) = W7 at *
              obtain ⟨g7, hg7⟩ : ∃ g, wd.heap.size = g := ⟨_, rfl⟩
              rw [hg7] at HG7 ⊢
              try rw [hg7] at OI0
              clear hg7
              go_wp2_with fail
              refine And.intro (by first | exact fun _ => (HSA.out _ HD7.out) | exact (HSA.out _ HD7.out)) ?_
              refine wpAnyT_next (i := 0) (by kernel_rfl) rfl ?_
              go_wp2_with fail
              have hg7 := HG7.out.lt
              have HO1 : Hid (Own ws.heap.size 57 6 LT.enc (W7.alloc (.cells #[] 57)) ⟨some ⟨W7.heap.size, 0, none⟩, 0, []⟩) := Lib.hid (Own.lit W7 #[] [] HD7.out.size (Nat.zero_le _) rfl LT.enc_k)
              have HD1 : Hid (Below ws.heap.size ws (W7.alloc (.cells #[] 57))) := Lib.hid (HD7.out.alloc HD7.out.size _)
              have HW1 : Hid (Below W7.heap.size W7 (W7.alloc (.cells #[] 57))) := Lib.hid qbl
              have OI0 : Hid (W7.heap.size < (W7.alloc (.cells #[] 57)).heap.size) := Lib.hid (by simp)
              obtain ⟨h1, hh1⟩ : ∃ g, W7.heap.size = g := ⟨_, rfl⟩
              have HH1 := Lib.hid hh1
              rw [hh1] at OI0 HO1 ⊢
              clear hh1
              generalize W7.alloc (.cells #[] 57) = W1 at *
              have HG1 := Lib.hid (HG7.out.later HW1.out)
              have hgh : g7 ≠ h1 := by have h := HH1.out; omega
              go_wp2_with fail
              refine And.intro (by first | exact fun _ => (HSA.out _ HD1.out) | exact (HSA.out _ HD1.out)) ?_
              refine wpAnyT_next (i := 3) (by kernel_rfl) rfl ?_
              refine wpl_append_sl _ rfl (.tmp 164) (.tmp 166) _ rfl Tryz.underlying22 infoLet (by omega) LT.enc_k LT.enc_one ⟨some ⟨h1, 0, none⟩, 0, []⟩ ⟨LA, Lc, L⟩ rfl rfl HO1.out (HLs.out.later HD1.out).rd (by simp [maxLen]; omega) (by simp; omega) HD1.out.size ?_
              intro A3 c3 W3 hown hg hdj
              clear hdj
              have HD3 : Hid (Below ws.heap.size ws W3) := Lib.hid (HD1.out.grown hg HD1.out.size (fun k hk => (own_row_ge HO1.out k hk).1))
              have HG3 := Lib.hid (HG1.out.grown hg (own_ne hgh))
              have HO3 := Lib.hid hown
              simp only [List.nil_append] at HO3
              clear hown hg
              simp only [List.nil_append]
              go_wp2_with fail
              refine And.intro (by first | exact fun _ => (HSA.out _ HD3.out) | exact (HSA.out _ HD3.out)) ?_
              exact wpAnyT_listed (by kernel_rfl) (FC.out h1 A3 c3 g7 W3 HD3 HG3 HO3)
          · intro h1 A3 c3 g7 W7 HD7 HG7 HO7
            refine wpAnyT_next (i := 8) (by kernel_rfl) rfl ?_
            refine wpl_append_sl _ rfl (.tmp 167) (.tmp 171) _ rfl Tryz.underlying22 infoLet (by omega) LT.enc_k LT.enc_one ⟨A3, c3, L⟩ ⟨some ⟨g7, 0, none⟩, 1, [(⟨(⟨#[102, 101, 101]⟩ : ByteArray), ⟨oB, nB, uB, sB, AB, cB, lB⟩⟩ : LT)]⟩ rfl rfl HO7.out (rd_one6 (x := (⟨(⟨#[102, 101, 101]⟩ : ByteArray), ⟨oB, nB, uB, sB, AB, cB, lB⟩⟩ : LT)) HG7.out) (by simp [maxLen]; omega) (by simp; omega) HD7.out.size ?_
            intro A4 c4 W4 hown hg hdj
            clear hdj
            have HD4 : Hid (Below ws.heap.size ws W4) := Lib.hid (HD7.out.grown hg HD7.out.size (fun k hk => (own_row_ge HO7.out k hk).1))
            have HO4 := Lib.hid hown
            simp only at HO4
            clear hown hg HO7 HG7 HD7 W7
            go_wp2_with fail
            refine And.intro (by first | exact fun _ => (HSA.out _ HD4.out) | exact (HSA.out _ HD4.out)) ?_
            have hHeld := HSA.out _ HD4.out
            refine qtq 9 ?_
            simp only [qsa, qsb, qsc]
            clear hHeld
            have hgs : gc < ws.heap.size := HCs.out.lt
            have hag : w.heap.size ≠ gc := by have := HNE.out.1; omega
            have HC4 := Lib.hid (HCs.out.later HD4.out)
            have HA5 : Hid (Blk (W4.setCell ⟨gc, 1, none⟩ (.slice A4 (L.length + 1) c4)) w.heap.size 27 #[.string nm, .slice LA L.length Lc, .int .i64 o, .int .i64 n, .int .i64 u, .string s, .slice A l.length c, .int .i64 oB, .int .i64 nB, .int .i64 uB, .string sB, .slice AB lB.length cB, .int .i64 oC, .int .i64 nC, .int .i64 uC, .string sC, .slice AC lC.length cC, .int .i64 oD, .int .i64 nD, .int .i64 uD, .string sD, .slice AD lD.length cD, .int .i64 q, .int .i64 sh, .int .i64 ch]) := Lib.hid ((HAs.out.later HD4.out).far hag _)
            have HC5 : Hid (Blk (W4.setCell ⟨gc, 1, none⟩ (.slice A4 (L.length + 1) c4)) gc 27 #[.string nm, .slice A4 (L.length + 1) c4, .int .i64 o, .int .i64 n, .int .i64 u, .string s, .slice A l.length c, .int .i64 oB, .int .i64 nB, .int .i64 uB, .string sB, .slice AB lB.length cB, .int .i64 oC, .int .i64 nC, .int .i64 uC, .string sC, .slice AC lC.length cC, .int .i64 oD, .int .i64 nD, .int .i64 uD, .string sD, .slice AD lD.length cD, .int .i64 q, .int .i64 sh, .int .i64 ch]) := Lib.hid (HC4.out.set_ 1 _)
            have HK5 : Hid (∀ b, b < gc → (W4.setCell ⟨gc, 1, none⟩ (.slice A4 (L.length + 1) c4)).heap[b]? = ws.heap[b]?) := Lib.hid (fun b hb => (Below.heap_setCell _ _ _ b (by simp only; omega)).trans (HD4.out.block b (by omega)))
            have HZ5 : Hid (ws.heap.size ≤ (W4.setCell ⟨gc, 1, none⟩ (.slice A4 (L.length + 1) c4)).heap.size) := Lib.hid (by have := HD4.out.size; simp; omega)
            have HO5 : Hid (Own ws.heap.size 57 6 LT.enc (W4.setCell ⟨gc, 1, none⟩ (.slice A4 (L.length + 1) c4)) ⟨A4, c4, L ++ [(⟨(⟨#[102, 101, 101]⟩ : ByteArray), ⟨oB, nB, uB, sB, AB, cB, lB⟩⟩ : LT)]⟩) := Lib.hid (HO4.out.far hgs _)
            have HB5 : Hid (Below w.heap.size w (W4.setCell ⟨gc, 1, none⟩ (.slice A4 (L.length + 1) c4))) := Lib.hid ((HBs.out.trans (HD4.out.mono HBs.out.size)).setCell (Nat.le_of_lt HNE.out.1) _)
            have y1 := HC4.out.cell 1
            have yf := HC4.out.frozen
            have yz := HC4.out.lt
            clear HC4
            refine wpAnyT_next (i := 10) (by kernel_rfl) rfl ?_
            go_wp2_with fail
            clear y1 yf yz HO4 HD4
            generalize W4.setCell ⟨gc, 1, none⟩ (.slice A4 (L.length + 1) c4) = W5 at *
            have hsac : W5.cell? ⟨w.heap.size, 1, none⟩ = some (.slice LA L.length Lc) ∧ W5.cell? ⟨w.heap.size, 7, none⟩ = some (.int .i64 oB) ∧ W5.cell? ⟨w.heap.size, 8, none⟩ = some (.int .i64 nB) ∧ W5.cell? ⟨w.heap.size, 9, none⟩ = some (.int .i64 uB) ∧ W5.cell? ⟨w.heap.size, 10, none⟩ = some (.string sB) ∧ W5.cell? ⟨w.heap.size, 11, none⟩ = some (.slice AB lB.length cB) := ⟨HA5.out.cell 1, HA5.out.cell 7, HA5.out.cell 8, HA5.out.cell 9, HA5.out.cell 10, HA5.out.cell 11⟩
            refine And.intro (by first | exact fun _ => hsac | exact hsac) ?_
            clear hsac
            refine wpAnyT_done (by kernel_rfl) ?_ _
            have z7 := HC5.out.cell 7
            have z8 := HC5.out.cell 8
            have z9 := HC5.out.cell 9
            have z10 := HC5.out.cell 10
            have z11 := HC5.out.cell 11
            have zf := HC5.out.frozen
            have zz := HC5.out.lt
            have hle : w.heap.size ≤ gc := Nat.le_of_lt HNE.out.1
            have HC6 : Hid (Blk (((((W5.setCell ⟨gc, 7, none⟩ (.int .i64 1)).setCell ⟨gc, 8, none⟩ (.int .i64 0)).setCell ⟨gc, 9, none⟩ (.int .i64 0)).setCell ⟨gc, 10, none⟩ (.string (⟨#[102, 101, 101]⟩ : ByteArray))).setCell ⟨gc, 11, none⟩ (.slice none 0 0)) gc 27 #[.string nm, .slice A4 (L.length + 1) c4, .int .i64 o, .int .i64 n, .int .i64 u, .string s, .slice A l.length c, .int .i64 1, .int .i64 0, .int .i64 0, .string (⟨#[102, 101, 101]⟩ : ByteArray), .slice none 0 0, .int .i64 oC, .int .i64 nC, .int .i64 uC, .string sC, .slice AC lC.length cC, .int .i64 oD, .int .i64 nD, .int .i64 uD, .string sD, .slice AD lD.length cD, .int .i64 q, .int .i64 sh, .int .i64 ch]) := Lib.hid (((((HC5.out.set_ 7 _).set_ 8 _).set_ 9 _).set_ 10 _).set_ 11 _)
            have HK6 : Hid (∀ b, b < gc → (((((W5.setCell ⟨gc, 7, none⟩ (.int .i64 1)).setCell ⟨gc, 8, none⟩ (.int .i64 0)).setCell ⟨gc, 9, none⟩ (.int .i64 0)).setCell ⟨gc, 10, none⟩ (.string (⟨#[102, 101, 101]⟩ : ByteArray))).setCell ⟨gc, 11, none⟩ (.slice none 0 0)).heap[b]? = ws.heap[b]?) := Lib.hid (fun b hb => by
              rw [Below.heap_setCell _ _ _ b (by simp only; omega), Below.heap_setCell _ _ _ b (by simp only; omega), Below.heap_setCell _ _ _ b (by simp only; omega), Below.heap_setCell _ _ _ b (by simp only; omega), Below.heap_setCell _ _ _ b (by simp only; omega)]
              exact HK5.out b hb)
            have HZ6 : Hid (ws.heap.size ≤ (((((W5.setCell ⟨gc, 7, none⟩ (.int .i64 1)).setCell ⟨gc, 8, none⟩ (.int .i64 0)).setCell ⟨gc, 9, none⟩ (.int .i64 0)).setCell ⟨gc, 10, none⟩ (.string (⟨#[102, 101, 101]⟩ : ByteArray))).setCell ⟨gc, 11, none⟩ (.slice none 0 0)).heap.size) := Lib.hid (by have := HZ5.out; simpa using this)
            have HO6 : Hid (Own ws.heap.size 57 6 LT.enc (((((W5.setCell ⟨gc, 7, none⟩ (.int .i64 1)).setCell ⟨gc, 8, none⟩ (.int .i64 0)).setCell ⟨gc, 9, none⟩ (.int .i64 0)).setCell ⟨gc, 10, none⟩ (.string (⟨#[102, 101, 101]⟩ : ByteArray))).setCell ⟨gc, 11, none⟩ (.slice none 0 0)) ⟨A4, c4, L ++ [(⟨(⟨#[102, 101, 101]⟩ : ByteArray), ⟨oB, nB, uB, sB, AB, cB, lB⟩⟩ : LT)]⟩) := Lib.hid (((((HO5.out.far hgs _).far hgs _).far hgs _).far hgs _).far hgs _)
            have HB6 : Hid (Below w.heap.size w (((((W5.setCell ⟨gc, 7, none⟩ (.int .i64 1)).setCell ⟨gc, 8, none⟩ (.int .i64 0)).setCell ⟨gc, 9, none⟩ (.int .i64 0)).setCell ⟨gc, 10, none⟩ (.string (⟨#[102, 101, 101]⟩ : ByteArray))).setCell ⟨gc, 11, none⟩ (.slice none 0 0))) := Lib.hid (((((HB5.out.setCell hle _).setCell hle _).setCell hle _).setCell hle _).setCell hle _)
            clear HC5 HK5 HZ5 HO5 HB5 HA5
            go_wp2_with fail
            clear z7 z8 z9 z10 z11 zf zz
            generalize (((((W5.setCell ⟨gc, 7, none⟩ (.int .i64 1)).setCell ⟨gc, 8, none⟩ (.int .i64 0)).setCell ⟨gc, 9, none⟩ (.int .i64 0)).setCell ⟨gc, 10, none⟩ (.string (⟨#[102, 101, 101]⟩ : ByteArray))).setCell ⟨gc, 11, none⟩ (.slice none 0 0)) = W6 at *
            have HTf : Hid (FactsAt (· < W6.heap.size) W6 sT) := Lib.hid (HTs.out.keep HK6.out (fun b hb => by have := HZ6.out; omega))
            have HMf : Hid (FactsAt (· < W6.heap.size) W6 sM) := Lib.hid (HMs.out.keep HK6.out (fun b hb => by have := HZ6.out; omega))
            have HGf : Hid (Blk W6 g0 50 #[.bool a1, .int .i64 a2, .int .i64 a3, .int .i64 a4, .int .i64 e1, .int .i64 e2, .int .i64 e3, .int .i64 e4]) := Lib.hid ((HK6.out g0 HNE.out.2).trans HGs.out)
            have HBf : Hid (Byl.At (· < W6.heap.size) W6 (feeB b0 A4 c4)) := Lib.hid (feeB_at (HPB.out.later HB6.out) (by
              have h := (HO6.out.rd LT.enc_k).mono (G := (· < W6.heap.size)) (fun b hb => hb.2)
              rw [HB00.out]
              exact h))
            have HFV : Hid ((feeB b0 A4 c4).v = .agg #[.string nm, .slice A4 (L.length + 1) c4, .int .i64 o, .int .i64 n, .int .i64 u, .string s, .slice A l.length c, .int .i64 1, .int .i64 0, .int .i64 0, .string (⟨#[102, 101, 101]⟩ : ByteArray), .slice none 0 0, .int .i64 oC, .int .i64 nC, .int .i64 uC, .string sC, .slice AC lC.length cC, .int .i64 oD, .int .i64 nD, .int .i64 uD, .string sD, .slice AD lD.length cD, .int .i64 q, .int .i64 sh, .int .i64 ch]) := Lib.hid (by rw [HB00.out]; simp [feeB, Byl.v])
            have HFL : Hid ((feeB b0 A4 c4).lets.l.length ≤ 1000000) := Lib.hid (by have h := HL6.out; simp [feeB]; omega)
            have hq := HQ.out A4 c4
            clear HO6 HK6 HZ6 HTs HMs HGs HBs HAs HCs HLs HSA
            refine wp_region_T (fun W => Blk W gc 27 #[.string nm, .slice A4 (L.length + 1) c4, .int .i64 o, .int .i64 n, .int .i64 u, .string s, .slice A l.length c, .int .i64 1, .int .i64 0, .int .i64 0, .string (⟨#[102, 101, 101]⟩ : ByteArray), .slice none 0 0, .int .i64 oC, .int .i64 nC, .int .i64 uC, .string sC, .slice AC lC.length cC, .int .i64 oD, .int .i64 nD, .int .i64 uD, .string sD, .slice AD lD.length cD, .int .i64 q, .int .i64 sh, .int .i64 ch] ∧ Blk W g0 50 #[.bool a1, .int .i64 a2, .int .i64 a3, .int .i64 a4, .int .i64 e1, .int .i64 e2, .int .i64 e3, .int .i64 e4]) (fun _ => false) (by kernel_rfl) ⟨HC6.out.drew, HGf.out.drew⟩ (fun hHeld => ?_)
            refine qtq 0 ?_
            simp only [qsa, qsb, qsc]
            refine qtq 1 ?_
            simp only [qsa, qsb, qsc]
            refine wpAnyT_take2 (i := 2) (v := .agg #[.string nm, .slice A4 (L.length + 1) c4, .int .i64 o, .int .i64 n, .int .i64 u, .string s, .slice A l.length c, .int .i64 1, .int .i64 0, .int .i64 0, .string (⟨#[102, 101, 101]⟩ : ByteArray), .slice none 0 0, .int .i64 oC, .int .i64 nC, .int .i64 uC, .string sC, .slice AC lC.length cC, .int .i64 oD, .int .i64 nD, .int .i64 uD, .string sD, .slice AD lD.length cD, .int .i64 q, .int .i64 sh, .int .i64 ch]) rfl rfl (by kernel_rfl) (by kernel_rfl) (by kernel_rfl) (by kernel_rfl) (fun _ _ _ h => h) (Or.inl ⟨by rfl, fun W hSW => run_row rfl rfl hSW.1 Tryz.underlying27 rfl (by kernel_rfl)⟩) hHeld ?_
            simp only [qsa, qsb, qsc]
            refine qtq 3 ?_
            simp only [qsa, qsb, qsc]
            refine qtq 4 ?_
            simp only [qsa, qsb, qsc]
            refine wpAnyT_take2 (i := 6) (v := .agg #[.bool a1, .int .i64 a2, .int .i64 a3, .int .i64 a4, .int .i64 e1, .int .i64 e2, .int .i64 e3, .int .i64 e4]) rfl rfl (by kernel_rfl) (by kernel_rfl) (by kernel_rfl) (by kernel_rfl) (fun _ _ _ h => h) (Or.inl ⟨by rfl, fun W hSW => run_row rfl rfl hSW.2 Tryz.underlying50 rfl (by kernel_rfl)⟩) hHeld ?_
            simp only [qsa, qsb, qsc]
            refine wpAnyT_next (i := 5) (by kernel_rfl) rfl ?_
            have hd6 : Below W6.heap.size W6 W6.drew := Below.drew (Below.refl _ _)
            have hask := ask_v (feeB b0 A4 c4) sT sM _ _ W6.drew HET.out HEM.out (HBf.out.later hd6) HFL.out (HTf.out.later hd6) (HMf.out.later hd6) (a1, e1) (a2, e2) (a3, e3) (a4, e4) (hq.1.trans HV1.out) (hq.2.1.trans HV2.out) (hq.2.2.1.trans HV3.out) (hq.2.2.2.trans HV4.out)
            rw [HFV.out, HTA.out, HLT.out, HMA.out, HLM.out] at hask
            simp only at hask
            clear hd6 hq hHeld
            go_wp2_with fail
            refine hask.mono ?_
            clear hask
            rintro e W8 ⟨rfl, hb8⟩
            have HC8 : Hid (Blk W8 gc 27 #[.string nm, .slice A4 (L.length + 1) c4, .int .i64 o, .int .i64 n, .int .i64 u, .string s, .slice A l.length c, .int .i64 1, .int .i64 0, .int .i64 0, .string (⟨#[102, 101, 101]⟩ : ByteArray), .slice none 0 0, .int .i64 oC, .int .i64 nC, .int .i64 uC, .string sC, .slice AC lC.length cC, .int .i64 oD, .int .i64 nD, .int .i64 uD, .string sD, .slice AD lD.length cD, .int .i64 q, .int .i64 sh, .int .i64 ch]) := Lib.hid (HC6.out.drew.later hb8)
            have HG8 : Hid (Blk W8 g0 50 #[.bool a1, .int .i64 a2, .int .i64 a3, .int .i64 a4, .int .i64 e1, .int .i64 e2, .int .i64 e3, .int .i64 e4]) := Lib.hid (HGf.out.drew.later hb8)
            have HB8 : Hid (Below w.heap.size w W8) := Lib.hid (HB6.out.drew.trans (hb8.mono HB6.out.size))
            clear hb8
            go_wp2_with fail
            refine And.intro (by first | exact fun _ => ⟨HC8.out, HG8.out⟩ | exact ⟨HC8.out, HG8.out⟩) ?_
            refine wpAnyT_next (i := 7) (by kernel_rfl) rfl ?_
            go_wp2_with fail
            refine And.intro (by first | exact fun _ => ⟨HC8.out, HG8.out⟩ | exact ⟨HC8.out, HG8.out⟩) ?_
            have hHeld : Blk W8 gc 27 #[.string nm, .slice A4 (L.length + 1) c4, .int .i64 o, .int .i64 n, .int .i64 u, .string s, .slice A l.length c, .int .i64 1, .int .i64 0, .int .i64 0, .string (⟨#[102, 101, 101]⟩ : ByteArray), .slice none 0 0, .int .i64 oC, .int .i64 nC, .int .i64 uC, .string sC, .slice AC lC.length cC, .int .i64 oD, .int .i64 nD, .int .i64 uD, .string sD, .slice AD lD.length cD, .int .i64 q, .int .i64 sh, .int .i64 ch] ∧ Blk W8 g0 50 #[.bool a1, .int .i64 a2, .int .i64 a3, .int .i64 a4, .int .i64 e1, .int .i64 e2, .int .i64 e3, .int .i64 e4] := ⟨HC8.out, HG8.out⟩
            refine qtq 8 ?_
            simp only [qsa, qsb, qsc]
            refine qtq 9 ?_
            simp only [qsa, qsb, qsc]
            refine wpAnyT_done (by kernel_rfl) ?_ _
            clear hHeld
            go_wp2_with fail
            go_ret
            exact ⟨rfl, HB8.out⟩
        · go_wp2_with fail
          go_ret
          exact ⟨rfl, HB6.out⟩
end Go.Proofs.YtcgocdhhneckhaaGreat
