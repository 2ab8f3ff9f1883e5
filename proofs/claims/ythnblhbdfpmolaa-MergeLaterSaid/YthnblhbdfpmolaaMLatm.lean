/- THE LAW MergeLater IS PROVED HERE. For whatever input the call returns true, and the arguments read afterwards as before. No condition. -/
import Derived.Test.YthnblhbdfpmolaaMLatmxbq
import Derived.Test.YthnblhbdfpmolaaMLatmxbu
import Derived.Test.YthnblhbdfpmolaaMLatmxbv
import Derived.OpenShut
namespace Go.Proofs.Ythnblhbdfpmolaa
open Go.ChangeShapes Go.WideShapes Go.ChangeAt Go.RowKit
set_option maxRecDepth 100000 in
theorem mlat_lifted (os : Os) (started : os.Started) (H : Type) (enc : TypeId × Value → H) :
    ReturnsInHanded {} Try.checked os 9 .any (Rows.mergeLaterSpec.pre6 enc Try.prog Try.f9 Rows.mergeLaterRow.domain false) (Rows.mergeLaterSpec.post enc Try.prog Try.f9 false true false false) := by
  refine returnsInHanded_of_change (C := Try.checked) Try.ownK started (by kernel_rfl) Try.func9
    (ChangeSpec.witness6 (enc := enc) (C := Try.checked) false ⟨#[], #[.slice none 0 0, .int .u8 0, .int .u16 0, .string ByteArray.empty], []⟩ 8 (by kernel_rfl) (by kernel_rfl) (by kernel_rfl) (by kernel_rfl)) ?_
  intro W base args ds gs before hval0 hW _ _
  have hval : ∀ (j : Nat) t v, Try.f9.params[j]? = some t → args[j]? = some v → Value.okWide Try.prog W .any base t v := hval0
  have hW' := hW
  obtain ⟨p, q, hA0, hV, rfl, _, _⟩ := hW
  have hA : DataW.TrodAll enc Try.prog W 0 (fun _ => true) true Try.f9.params.toList args.toList ds p := hA0
  rw [Try.params9] at hA hval
  obtain ⟨v0, vs0, d0, ds0, p0, q0, hargs, rfl, rfl, h0, r0⟩ := trodAll_cons hA
  obtain ⟨v1, vs1, d1, ds1, p1, q1, rfl, rfl, rfl, h1, r1⟩ := trodAll_cons r0
  obtain ⟨v2, vs2, d2, ds2, p2, q2, rfl, rfl, rfl, h2, r2⟩ := trodAll_cons r1
  obtain ⟨v3, vs3, d3, ds3, p3, q3, rfl, rfl, rfl, h3, r3⟩ := trodAll_cons r2
  obtain ⟨rfl, rfl, rfl⟩ := trodAll_nil r3
  obtain rfl : args = #[v0, v1, v2, v3] := by cases args; simp_all
  obtain ⟨rfl, rfl⟩ := trodVars_none hV
  have k0 := h0
  have k1 := h1
  have k2 := h2
  have k3 := h3
  obtain ⟨fuel0, hf0⟩ := h0
  obtain ⟨sa0, sl0, sc0, rfl⟩ := okWide_slice Try.underlying23 (hval 0 23 v0 rfl rfl)
  simp only [Value.cells] at hf0
  obtain ⟨s0, hs0, hr0_0⟩ := open_notes hf0
  obtain ⟨a1, rfl, rfl, rfl, w1⟩ := open_int Try.underlying5 (hval 1 5 v1 rfl rfl) h1
  have hb1 := u8_inb w1
  obtain ⟨a2, rfl, rfl, rfl, w2⟩ := open_int Try.underlying81 (hval 2 81 v2 rfl rfl) h2
  have hb2 := u16_inb w2
  obtain ⟨a3, rfl, rfl, rfl, w3⟩ := Go.ChangeMaps.open_string Try.underlying9 (hval 3 9 v3 rfl rfl) h3
  have hlt0 : ∀ x ∈ p0, x.block < W.heap.size := fun x hx => hW'.lt x (by simp [hx])
  rw [hs0] at hW' k0 ⊢
  clear hA hA0 hval0 hval r0 r1 r2 r3 hf0 w1 w2 hs0
  refine (mergelater s0 a1 a2 a3 W hr0_0 hb1.1 hb1.2 hb2.1 hb2.2).mono fun e W' ⟨he, hbel⟩ => ?_
  subst he
  have nil : ∀ x ∈ ([] : List MemPlace), x.block < W.heap.size := fun x hx => by simp at hx
  refine ⟨_, rfl, _, _, _, [], p0 ++ ([] ++ ([] ++ ([] ++ ([])))), [], hW', ?_, ?_, rfl, hbel.frame _, fun h => by cases h⟩
  · exact trodAll_mk1 (shut_bool Try.underlying4 true)
  · exact trodAll_cons_mk (Below.trod Try.laidK (by kernel_rfl) (of_decide_eq_true (by kernel_rfl)) k0 hbel hlt0) (trodAll_cons_mk (Below.trod Try.laidK (by kernel_rfl) (of_decide_eq_true (by kernel_rfl)) k1 hbel nil) (trodAll_cons_mk (Below.trod Try.laidK (by kernel_rfl) (of_decide_eq_true (by kernel_rfl)) k2 hbel nil) (trodAll_cons_mk (Below.trod Try.laidK (by kernel_rfl) (of_decide_eq_true (by kernel_rfl)) k3 hbel nil) trodAll_mk0)))
theorem mlat_holds : Rows.MergeLaterSaid :=
  OpenClaim.holds_of_wide 9 Try.f9 rfl rfl rfl rfl rfl rfl rfl ⟨rfl, rfl, rfl, rfl, rfl⟩ rfl rfl rfl rfl rfl (by kernel_rfl) Try.func9 (by kernel_rfl)
    (of_decide_eq_true (by kernel_rfl)) (by unfold Func.isWrapper; first | (rw [if_pos (by decide +kernel)]; kernel_rfl) | (rw [if_neg (by decide +kernel)]; exact ⟨rfl, rfl⟩))
    (fun os started H enc _ => mlat_lifted os started H enc)
#print axioms mlat_holds
end Go.Proofs.Ythnblhbdfpmolaa
