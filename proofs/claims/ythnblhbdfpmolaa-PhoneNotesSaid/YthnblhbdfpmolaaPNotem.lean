/- THE LAW PhoneNotes IS PROVED HERE. For whatever input the call returns true, and the arguments read afterwards as before. No condition. -/
import Derived.Test.YthnblhbdfpmolaaPNotemxbu
import Derived.Test.YthnblhbdfpmolaaPNotemxbv
import Derived.Test.YthnblhbdfpmolaaPNotemxbw
import Derived.OpenShut
namespace Go.Proofs.Ythnblhbdfpmolaa
open Go.ChangeShapes Go.WideShapes Go.ChangeAt Go.RowKit
theorem pnotW (ss : Sl Stock) (ol : Sl OpE) (w : World) (hs : RdStocks (· < w.heap.size) w ss) (ho : Rd (· < w.heap.size) 5 OpE.enc w ol) :
    Calls Try.prog 11 #[.slice ss.A ss.l.length ss.c, .slice ol.A ol.l.length ol.c] w fun e w' => e = .returned (.bool true) ∧ Below w.heap.size w w' := phonenotes _ _ playsN endsN ss ol w hs ho
set_option maxRecDepth 100000 in
theorem pnot_lifted (os : Os) (started : os.Started) (H : Type) (enc : TypeId × Value → H) :
    ReturnsInHanded {} Try.checked os 11 .any (Rows.phoneNotesSpec.pre6 enc Try.prog Try.f11 Rows.phoneNotesRow.domain false) (Rows.phoneNotesSpec.post enc Try.prog Try.f11 false true false false) := by
  refine returnsInHanded_of_change (C := Try.checked) Try.ownK started (by kernel_rfl) Try.func11
    (ChangeSpec.witness6 (enc := enc) (C := Try.checked) false ⟨#[], #[.slice none 0 0, .slice none 0 0], []⟩ 8 (by kernel_rfl) (by kernel_rfl) (by kernel_rfl) (by kernel_rfl)) ?_
  intro W base args ds gs before hval0 hW _ _
  have hval : ∀ (j : Nat) t v, Try.f11.params[j]? = some t → args[j]? = some v → Value.okWide Try.prog W .any base t v := hval0
  have hW' := hW
  obtain ⟨p, q, hA0, hV, rfl, _, _⟩ := hW
  have hA : DataW.TrodAll enc Try.prog W 0 (fun _ => true) true Try.f11.params.toList args.toList ds p := hA0
  rw [Try.params11] at hA hval
  obtain ⟨v0, vs0, d0, ds0, p0, q0, hargs, rfl, rfl, h0, r0⟩ := trodAll_cons hA
  obtain ⟨v1, vs1, d1, ds1, p1, q1, rfl, rfl, rfl, h1, r1⟩ := trodAll_cons r0
  obtain ⟨rfl, rfl, rfl⟩ := trodAll_nil r1
  obtain rfl : args = #[v0, v1] := by cases args; simp_all
  obtain ⟨rfl, rfl⟩ := trodVars_none hV
  have k0 := h0
  have k1 := h1
  obtain ⟨fuel0, hf0⟩ := h0
  obtain ⟨sa0, sl0, sc0, rfl⟩ := okWide_slice Try.underlying27 (hval 0 27 v0 rfl rfl)
  simp only [Value.cells] at hf0
  obtain ⟨s0, hs0, hr0_0⟩ := open_stocks hf0
  obtain ⟨fuel1, hf1⟩ := h1
  obtain ⟨sa1, sl1, sc1, rfl⟩ := okWide_slice Try.underlying83 (hval 1 83 v1 rfl rfl)
  simp only [Value.cells] at hf1
  obtain ⟨s1, hs1, hr1_0⟩ := open_ops hf1
  have hlt0 : ∀ x ∈ p0, x.block < W.heap.size := fun x hx => hW'.lt x (by simp [hx])
  have hlt1 : ∀ x ∈ p1, x.block < W.heap.size := fun x hx => hW'.lt x (by simp [hx])
  rw [hs0] at hW' k0 ⊢
  rw [hs1] at hW' k1 ⊢
  clear hA hA0 hval0 hval r0 r1 hf0 hf1 hs0 hs1
  refine (pnotW s0 s1 W hr0_0 hr1_0 ).mono fun e W' ⟨he, hbel⟩ => ?_
  subst he
  have nil : ∀ x ∈ ([] : List MemPlace), x.block < W.heap.size := fun x hx => by simp at hx
  refine ⟨_, rfl, _, _, _, [], p0 ++ (p1 ++ ([])), [], hW', ?_, ?_, rfl, hbel.frame _, fun h => by cases h⟩
  · exact trodAll_mk1 (shut_bool Try.underlying4 true)
  · exact trodAll_cons_mk (Below.trod Try.laidK (by kernel_rfl) (of_decide_eq_true (by kernel_rfl)) k0 hbel hlt0) (trodAll_cons_mk (Below.trod Try.laidK (by kernel_rfl) (of_decide_eq_true (by kernel_rfl)) k1 hbel hlt1) trodAll_mk0)
theorem pnot_holds : Rows.PhoneNotesSaid :=
  OpenClaim.holds_of_wide 11 Try.f11 rfl rfl rfl rfl rfl rfl rfl ⟨rfl, rfl, rfl, rfl, rfl⟩ rfl rfl rfl rfl rfl (by kernel_rfl) Try.func11 (by kernel_rfl)
    (of_decide_eq_true (by kernel_rfl)) (by unfold Func.isWrapper; first | (rw [if_pos (by decide +kernel)]; kernel_rfl) | (rw [if_neg (by decide +kernel)]; exact ⟨rfl, rfl⟩))
    (fun os started H enc _ => pnot_lifted os started H enc)
#print axioms pnot_holds
end Go.Proofs.Ythnblhbdfpmolaa
