/- THE LAW PhoneHolds IS PROVED HERE. For whatever input the call returns true, and the arguments read afterwards as before. No condition. -/
import Derived.Test.YthnblhbdfpmolaaHoldsxbl
import Derived.Test.YthnblhbdfpmolaaHoldsxbm
import Derived.OpenShut
import Derived.SizedLaws
namespace Go.Proofs.Ythnblhbdfpmolaa
open Go.ChangeShapes Go.WideShapes Go.ChangeAt Go.RowKit
set_option maxRecDepth 100000 in
theorem holds_lifted (os : Os) (started : os.Started) (H : Type) (enc : TypeId × Value → H) :
    ReturnsInHanded {} Try.checked os 4 .any (Rows.phoneHoldsSpec.pre6 enc Try.prog Try.f4 Rows.phoneHoldsRow.domain false) (Rows.phoneHoldsSpec.post enc Try.prog Try.f4 false true false false) := by
  refine returnsInHanded_of_change_sized (C := Try.checked) Try.ownK started (by kernel_rfl) Try.func4
    (ChangeSpec.witness6 (enc := enc) (C := Try.checked) false ⟨#[], #[.agg #[.int .i64 0, .bool false, .slice none 0 0, .slice none 0 0, .slice none 0 0], .int .i64 0, .int .i64 0, .int .i64 0, .int .i64 0], []⟩ 8 (by kernel_rfl) (by kernel_rfl) (by kernel_rfl) (by kernel_rfl)) ?_
  intro W base args ds gs before hval0 hW _ hsz0 _
  have hsz : (DataW.weightsEach Try.prog (Try.f4.params.toList ++ Rows.phoneHoldsSpec.plain.varTypes Try.prog) (ds ++ gs)).all (· ≤ reachBytes) = true := hsz0
  clear hsz0
  have hval : ∀ (j : Nat) t v, Try.f4.params[j]? = some t → args[j]? = some v → Value.okWide Try.prog W .any base t v := hval0
  have hW' := hW
  obtain ⟨p, q, hA0, hV, rfl, _, _⟩ := hW
  have hA : DataW.TrodAll enc Try.prog W 0 (fun _ => true) true Try.f4.params.toList args.toList ds p := hA0
  rw [Try.params4] at hA hval hsz
  obtain ⟨v0, vs0, d0, ds0, p0, q0, hargs, rfl, rfl, h0, r0⟩ := trodAll_cons hA
  obtain ⟨v1, vs1, d1, ds1, p1, q1, rfl, rfl, rfl, h1, r1⟩ := trodAll_cons r0
  obtain ⟨v2, vs2, d2, ds2, p2, q2, rfl, rfl, rfl, h2, r2⟩ := trodAll_cons r1
  obtain ⟨v3, vs3, d3, ds3, p3, q3, rfl, rfl, rfl, h3, r3⟩ := trodAll_cons r2
  obtain ⟨v4, vs4, d4, ds4, p4, q4, rfl, rfl, rfl, h4, r4⟩ := trodAll_cons r3
  obtain ⟨rfl, rfl, rfl⟩ := trodAll_nil r4
  obtain rfl : args = #[v0, v1, v2, v3, v4] := by cases args; simp_all
  obtain ⟨rfl, rfl⟩ := trodVars_none hV
  have k0 := h0
  have k1 := h1
  have k2 := h2
  have k3 := h3
  have k4 := h4
  obtain ⟨s0, rfl, hr0_0, hr0_1⟩ := open_phone (hval 0 26 v0 rfl rfl) h0
  replace hr0_1 := hr0_1 (fun n hn => of_decide_eq_true (List.all_eq_true.1 hsz n (DataW.weights_mem_each (j := 0) rfl rfl n hn)))
  obtain ⟨a1, rfl, rfl, rfl, w1⟩ := open_int Try.underlying3 (hval 1 3 v1 rfl rfl) h1
  obtain ⟨a2, rfl, rfl, rfl, w2⟩ := open_int Try.underlying3 (hval 2 3 v2 rfl rfl) h2
  obtain ⟨a3, rfl, rfl, rfl, w3⟩ := open_int Try.underlying3 (hval 3 3 v3 rfl rfl) h3
  obtain ⟨a4, rfl, rfl, rfl, w4⟩ := open_int Try.underlying3 (hval 4 3 v4 rfl rfl) h4
  have hlt0 : ∀ x ∈ p0, x.block < W.heap.size := fun x hx => hW'.lt x (by simp [hx])
  clear hA hA0 hval0 hval hsz r0 r1 r2 r3 r4 w1 w2 w3 w4
  refine (phoneholds s0 a1 a2 a3 a4 W hr0_0 (by have := hr0_1; unfold reachBytes at this; omega)).mono fun e W' ⟨he, hbel⟩ => ?_
  subst he
  have nil : ∀ x ∈ ([] : List MemPlace), x.block < W.heap.size := fun x hx => by simp at hx
  refine ⟨_, rfl, _, _, _, [], p0 ++ ([] ++ ([] ++ ([] ++ ([] ++ ([]))))), [], hW', ?_, ?_, rfl, hbel.frame _, fun h => by cases h⟩
  · exact trodAll_mk1 (shut_bool Try.underlying4 true)
  · exact trodAll_cons_mk (Below.trod Try.laidK (by kernel_rfl) (of_decide_eq_true (by kernel_rfl)) k0 hbel hlt0) (trodAll_cons_mk (Below.trod Try.laidK (by kernel_rfl) (of_decide_eq_true (by kernel_rfl)) k1 hbel nil) (trodAll_cons_mk (Below.trod Try.laidK (by kernel_rfl) (of_decide_eq_true (by kernel_rfl)) k2 hbel nil) (trodAll_cons_mk (Below.trod Try.laidK (by kernel_rfl) (of_decide_eq_true (by kernel_rfl)) k3 hbel nil) (trodAll_cons_mk (Below.trod Try.laidK (by kernel_rfl) (of_decide_eq_true (by kernel_rfl)) k4 hbel nil) trodAll_mk0))))
theorem holds_holds : Rows.PhoneHoldsSaid :=
  OpenClaim.holds_of_wide 4 Try.f4 rfl rfl rfl rfl rfl rfl rfl ⟨rfl, rfl, rfl, rfl, rfl⟩ rfl rfl rfl rfl rfl (by kernel_rfl) Try.func4 (by kernel_rfl)
    (of_decide_eq_true (by kernel_rfl)) (by unfold Func.isWrapper; first | (rw [if_pos (by decide +kernel)]; kernel_rfl) | (rw [if_neg (by decide +kernel)]; exact ⟨rfl, rfl⟩))
    (fun os started H enc _ => holds_lifted os started H enc)
#print axioms holds_holds
end Go.Proofs.Ythnblhbdfpmolaa
