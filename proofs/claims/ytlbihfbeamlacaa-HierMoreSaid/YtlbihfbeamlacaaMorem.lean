/- THE LAW HierMore IS PROVED HERE. For whatever input the call returns true, and the arguments read afterwards as before. No condition. -/
import Derived.Test.YtlbihfbeamlacaaMoremxab
import Derived.Test.YtlbihfbeamlacaaHbxbt
import Derived.OpenShut
set_option linter.unusedSimpArgs false
set_option linter.unusedVariables false
set_option maxRecDepth 100000
set_option maxHeartbeats 6400000
namespace Go.Proofs.Ytlbihfbeamlacaa
open Go.RowKit
open Go.ChangeShapes Go.WideShapes Go.ChangeAt Go.RowKit
theorem hmor_lifted (os : Os) (started : os.Started) (H : Type) (enc : TypeId × Value→H) :
    ReturnsInHanded {} Try.checked os 7 .any (Rows.hierMoreSpec.pre6 enc Try.prog Try.f7 Rows.hierMoreRow.domain false) (Rows.hierMoreSpec.post enc Try.prog Try.f7 false true false false):=by
  refine returnsInHanded_of_change (C:=Try.checked) Try.ownK started (by kernel_rfl) Try.func7
    (ChangeSpec.witness6 (enc:=enc) (C:=Try.checked) false ⟨#[],#[.int .i64 0,.slice none 0 0,.slice none 0 0,.slice none 0 0,.agg #[.int .i64 0,.int .i64 0,.int .i64 0,.int .i64 0]],[]⟩ 8 (by kernel_rfl) (by kernel_rfl) (by kernel_rfl) (by kernel_rfl)) ?_
  intro W base args ds gs before hval0 hW _ _
  have hval : ∀ (j : Nat) t v,Try.f7.params[j]? = some t→args[j]? = some v→Value.okWide Try.prog W .any base t v:=hval0
  have hW':=hW
  obtain ⟨p,q,hA0,hV,rfl,_,_⟩:=hW
  have hA : DataW.TrodAll enc Try.prog W 0 (fun _=>true) true Try.f7.params.toList args.toList ds p:=hA0
  rw [Try.params7] at hA hval
  obtain ⟨v0,vs0,d0,ds0,p0,q0,hargs,rfl,rfl,h0,r0⟩:=trodAll_cons hA
  obtain ⟨v1,vs1,d1,ds1,p1,q1,rfl,rfl,rfl,h1,r1⟩:=trodAll_cons r0
  obtain ⟨v2,vs2,d2,ds2,p2,q2,rfl,rfl,rfl,h2,r2⟩:=trodAll_cons r1
  obtain ⟨v3,vs3,d3,ds3,p3,q3,rfl,rfl,rfl,h3,r3⟩:=trodAll_cons r2
  obtain ⟨v4,vs4,d4,ds4,p4,q4,rfl,rfl,rfl,h4,r4⟩:=trodAll_cons r3
  obtain ⟨rfl,rfl,rfl⟩:=trodAll_nil r4
  obtain rfl : args = #[v0,v1,v2,v3,v4]:=by cases args; simp_all
  obtain ⟨rfl,rfl⟩:=trodVars_none hV
  have k0:=h0
  have k1:=h1
  have k2:=h2
  have k3:=h3
  have k4:=h4
  obtain ⟨a0,rfl,rfl,rfl,w0⟩:=open_int Try.underlying3 (hval 0 3 v0 rfl rfl) h0
  obtain ⟨fuel1,hf1⟩:=h1
  obtain ⟨sa1,sl1,sc1,rfl⟩:=okWide_slice Try.underlying22 (hval 1 22 v1 rfl rfl)
  simp only [Value.cells] at hf1
  obtain ⟨s1,hs1,hr1_0⟩:=open_edges hf1
  obtain ⟨fuel2,hf2⟩:=h2
  obtain ⟨sa2,sl2,sc2,rfl⟩:=okWide_slice Try.underlying23 (hval 2 23 v2 rfl rfl)
  simp only [Value.cells] at hf2
  obtain ⟨s2,hs2,hr2_0⟩:=open_intl hf2
  obtain ⟨fuel3,hf3⟩:=h3
  obtain ⟨sa3,sl3,sc3,rfl⟩:=okWide_slice Try.underlying23 (hval 3 23 v3 rfl rfl)
  simp only [Value.cells] at hf3
  obtain ⟨s3,hs3,hr3_0⟩:=open_intl hf3
  obtain ⟨s4,rfl,hr4_0⟩:=open_edge (hval 4 44 v4 rfl rfl) h4
  have hlt1 : ∀ x ∈ p1,x.block<W.heap.size:=fun x hx=>hW'.lt x (by simp [hx])
  have hlt2 : ∀ x ∈ p2,x.block<W.heap.size:=fun x hx=>hW'.lt x (by simp [hx])
  have hlt3 : ∀ x ∈ p3,x.block<W.heap.size:=fun x hx=>hW'.lt x (by simp [hx])
  have hlt4 : ∀ x ∈ p4,x.block<W.heap.size:=fun x hx=>hW'.lt x (by simp [hx])
  rw [hs1] at hW' k1 ⊢
  rw [hs2] at hW' k2 ⊢
  rw [hs3] at hW' k3 ⊢
  clear hA hA0 hval0 hval r0 r1 r2 r3 r4 w0 hf1 hf2 hf3 hs1 hs2 hs3
  refine (hiermore a0 s1 s2 s3 s4 W hr1_0 hr2_0 hr3_0 hr4_0 ).mono fun e W' ⟨he,hbel⟩=>?_
  subst he
  have nil : ∀ x ∈ ([] : List MemPlace),x.block<W.heap.size:=fun x hx=>by simp at hx
  refine ⟨_,rfl,_,_,_,[],[] ++ (p1 ++ (p2 ++ (p3 ++ (p4 ++ ([]))))),[],hW', ?_, ?_,rfl,hbel.frame _,fun h=>by cases h⟩
  · exact trodAll_mk1 (shut_bool Try.underlying4 true)
  · exact trodAll_cons_mk (Below.trod Try.laidK (by kernel_rfl) (of_decide_eq_true (by kernel_rfl)) k0 hbel nil) (trodAll_cons_mk (Below.trod Try.laidK (by kernel_rfl) (of_decide_eq_true (by kernel_rfl)) k1 hbel hlt1) (trodAll_cons_mk (Below.trod Try.laidK (by kernel_rfl) (of_decide_eq_true (by kernel_rfl)) k2 hbel hlt2) (trodAll_cons_mk (Below.trod Try.laidK (by kernel_rfl) (of_decide_eq_true (by kernel_rfl)) k3 hbel hlt3) (trodAll_cons_mk (Below.trod Try.laidK (by kernel_rfl) (of_decide_eq_true (by kernel_rfl)) k4 hbel hlt4) trodAll_mk0))))
theorem hmor_holds : Rows.HierMoreSaid :=
  OpenClaim.holds_of_wide 7 Try.f7 rfl rfl rfl rfl rfl rfl rfl ⟨rfl,rfl,rfl,rfl,rfl⟩ rfl rfl rfl rfl rfl (by kernel_rfl) Try.func7 (by kernel_rfl)
    (of_decide_eq_true (by kernel_rfl)) (by unfold Func.isWrapper; first | (rw [if_pos (by decide +kernel)]; kernel_rfl) | (rw [if_neg (by decide +kernel)]; exact ⟨rfl,rfl⟩))
    (fun os started H enc _=>hmor_lifted os started H enc)
#print axioms hmor_holds
end Go.Proofs.Ytlbihfbeamlacaa
