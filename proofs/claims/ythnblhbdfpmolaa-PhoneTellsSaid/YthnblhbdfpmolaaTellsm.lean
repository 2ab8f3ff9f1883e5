/- THE LAW PhoneTells IS PROVED HERE. For whatever input the call returns true, and the arguments read afterwards as before. No condition. -/
import Derived.Test.YthnblhbdfpmolaaTellsmxbv
import Derived.Test.YthnblhbdfpmolaaTellsmxbw
import Derived.OpenShut
import Derived.SizedLaws
namespace Go.Proofs.Ythnblhbdfpmolaa
open Go.ChangeShapes Go.WideShapes Go.ChangeAt Go.RowKit
set_option maxRecDepth 100000 in
theorem tells_lifted (os : Os) (started : os.Started) (H : Type) (enc : TypeId × Value → H) :
    ReturnsInHanded {} Try.checked os 3 .any (Rows.phoneTellsSpec.pre6 enc Try.prog Try.f3 Rows.phoneTellsRow.domain false) (Rows.phoneTellsSpec.post enc Try.prog Try.f3 false true false false) := by
  refine returnsInHanded_of_change_sized (C := Try.checked) Try.ownK started (by kernel_rfl) Try.func3
    (ChangeSpec.witness6 (enc := enc) (C := Try.checked) false ⟨#[], #[.agg #[.int .i64 0, .bool false, .slice none 0 0, .slice none 0 0, .slice none 0 0], .slice none 0 0, .int .i64 0, .int .i64 0, .int .i64 0, .string ByteArray.empty, .slice none 0 0], []⟩ 8 (by kernel_rfl) (by kernel_rfl) (by kernel_rfl) (by kernel_rfl)) ?_
  intro W base args ds gs before hval0 hW _ hsz0 _
  have hsz : (DataW.weightsEach Try.prog (Try.f3.params.toList ++ Rows.phoneTellsSpec.plain.varTypes Try.prog) (ds ++ gs)).all (· ≤ reachBytes) = true := hsz0
  clear hsz0
  have hval : ∀ (j : Nat) t v, Try.f3.params[j]? = some t → args[j]? = some v → Value.okWide Try.prog W .any base t v := hval0
  have hW' := hW
  obtain ⟨p, q, hA0, hV, rfl, _, _⟩ := hW
  have hA : DataW.TrodAll enc Try.prog W 0 (fun _ => true) true Try.f3.params.toList args.toList ds p := hA0
  rw [Try.params3] at hA hval hsz
  obtain ⟨v0, vs0, d0, ds0, p0, q0, hargs, rfl, rfl, h0, r0⟩ := trodAll_cons hA
  obtain ⟨v1, vs1, d1, ds1, p1, q1, rfl, rfl, rfl, h1, r1⟩ := trodAll_cons r0
  obtain ⟨v2, vs2, d2, ds2, p2, q2, rfl, rfl, rfl, h2, r2⟩ := trodAll_cons r1
  obtain ⟨v3, vs3, d3, ds3, p3, q3, rfl, rfl, rfl, h3, r3⟩ := trodAll_cons r2
  obtain ⟨v4, vs4, d4, ds4, p4, q4, rfl, rfl, rfl, h4, r4⟩ := trodAll_cons r3
  obtain ⟨v5, vs5, d5, ds5, p5, q5, rfl, rfl, rfl, h5, r5⟩ := trodAll_cons r4
  obtain ⟨v6, vs6, d6, ds6, p6, q6, rfl, rfl, rfl, h6, r6⟩ := trodAll_cons r5
  obtain ⟨rfl, rfl, rfl⟩ := trodAll_nil r6
  obtain rfl : args = #[v0, v1, v2, v3, v4, v5, v6] := by cases args; simp_all
  obtain ⟨rfl, rfl⟩ := trodVars_none hV
  have k0 := h0
  have k1 := h1
  have k2 := h2
  have k3 := h3
  have k4 := h4
  have k5 := h5
  have k6 := h6
  obtain ⟨s0, rfl, hr0_0, hr0_1⟩ := open_phone (hval 0 26 v0 rfl rfl) h0
  replace hr0_1 := hr0_1 (fun n hn => of_decide_eq_true (List.all_eq_true.1 hsz n (DataW.weights_mem_each (j := 0) rfl rfl n hn)))
  obtain ⟨fuel1, hf1⟩ := h1
  obtain ⟨sa1, sl1, sc1, rfl⟩ := okWide_slice Try.underlying27 (hval 1 27 v1 rfl rfl)
  simp only [Value.cells] at hf1
  obtain ⟨s1, hs1, hr1_0⟩ := open_stocks hf1
  obtain ⟨a2, rfl, rfl, rfl, w2⟩ := open_int Try.underlying3 (hval 2 3 v2 rfl rfl) h2
  obtain ⟨a3, rfl, rfl, rfl, w3⟩ := open_int Try.underlying3 (hval 3 3 v3 rfl rfl) h3
  obtain ⟨a4, rfl, rfl, rfl, w4⟩ := open_int Try.underlying3 (hval 4 3 v4 rfl rfl) h4
  obtain ⟨a5, rfl, rfl, rfl, w5⟩ := Go.ChangeMaps.open_string Try.underlying9 (hval 5 9 v5 rfl rfl) h5
  obtain ⟨fuel6, hf6⟩ := h6
  obtain ⟨sa6, sl6, sc6, rfl⟩ := okWide_slice Try.underlying24 (hval 6 24 v6 rfl rfl)
  simp only [Value.cells] at hf6
  obtain ⟨s6, hs6, hr6_0⟩ := open_intl hf6
  have hlt0 : ∀ x ∈ p0, x.block < W.heap.size := fun x hx => hW'.lt x (by simp [hx])
  have hlt1 : ∀ x ∈ p1, x.block < W.heap.size := fun x hx => hW'.lt x (by simp [hx])
  have hlt6 : ∀ x ∈ p6, x.block < W.heap.size := fun x hx => hW'.lt x (by simp [hx])
  rw [hs1] at hW' k1 ⊢
  rw [hs6] at hW' k6 ⊢
  clear hA hA0 hval0 hval hsz hr0_1 w5 r0 r1 r2 r3 r4 r5 r6 hf1 w2 w3 w4 hf6 hs1 hs6
  refine (phonetells s0 s1 a2 a3 a4 a5 s6 W hr0_0 hr1_0 hr6_0).mono fun e W' ⟨he, hbel⟩ => ?_
  subst he
  have nil : ∀ x ∈ ([] : List MemPlace), x.block < W.heap.size := fun x hx => by simp at hx
  refine ⟨_, rfl, _, _, _, [], p0 ++ (p1 ++ ([] ++ ([] ++ ([] ++ ([] ++ (p6 ++ ([]))))))), [], hW', ?_, ?_, rfl, hbel.frame _, fun h => by cases h⟩
  · exact trodAll_mk1 (shut_bool Try.underlying4 true)
  · exact trodAll_cons_mk (Below.trod Try.laidK (by kernel_rfl) (of_decide_eq_true (by kernel_rfl)) k0 hbel hlt0) (trodAll_cons_mk (Below.trod Try.laidK (by kernel_rfl) (of_decide_eq_true (by kernel_rfl)) k1 hbel hlt1) (trodAll_cons_mk (Below.trod Try.laidK (by kernel_rfl) (of_decide_eq_true (by kernel_rfl)) k2 hbel nil) (trodAll_cons_mk (Below.trod Try.laidK (by kernel_rfl) (of_decide_eq_true (by kernel_rfl)) k3 hbel nil) (trodAll_cons_mk (Below.trod Try.laidK (by kernel_rfl) (of_decide_eq_true (by kernel_rfl)) k4 hbel nil) (trodAll_cons_mk (Below.trod Try.laidK (by kernel_rfl) (of_decide_eq_true (by kernel_rfl)) k5 hbel nil) (trodAll_cons_mk (Below.trod Try.laidK (by kernel_rfl) (of_decide_eq_true (by kernel_rfl)) k6 hbel hlt6) trodAll_mk0))))))
theorem tells_holds : Rows.PhoneTellsSaid :=
  OpenClaim.holds_of_wide 3 Try.f3 rfl rfl rfl rfl rfl rfl rfl ⟨rfl, rfl, rfl, rfl, rfl⟩ rfl rfl rfl rfl rfl (by kernel_rfl) Try.func3 (by kernel_rfl)
    (of_decide_eq_true (by kernel_rfl)) (by unfold Func.isWrapper; first | (rw [if_pos (by decide +kernel)]; kernel_rfl) | (rw [if_neg (by decide +kernel)]; exact ⟨rfl, rfl⟩))
    (fun os started H enc _ => tells_lifted os started H enc)
#print axioms tells_holds
end Go.Proofs.Ythnblhbdfpmolaa
