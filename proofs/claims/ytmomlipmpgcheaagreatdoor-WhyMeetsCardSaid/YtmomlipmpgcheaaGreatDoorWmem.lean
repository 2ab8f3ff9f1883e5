/- THE LAW WhyMeets IS PROVED HERE. For all definitions, expressions and things within the bounds that have an answer now: the change that turns the answer changes something of the reason; if nothing is needed for a reason, nothing turns the answer; with all things of the reason alone that could be otherwise nothing turns. The listed variables start as the text lays them. -/
import Derived.Test.YtmomlipmpgcheaaGreatDoorWmemxaa
import Derived.Test.YtmomlipmpgcheaaGreatDoorWbxbr
import Derived.Test.YtmomlipmpgcheaaGreatDoorCards
import Derived.Test.YtmomlipmpgcheaaGreatDoorTie
import Derived.OpenShut
import Derived.SevenTiedAt
import Derived.Stop.Joined
set_option linter.unusedSimpArgs false
set_option linter.unusedVariables false
set_option maxRecDepth 100000
set_option maxHeartbeats 6400000
namespace Go.Proofs.YtmomlipmpgcheaaGreatDoor
open Go.RowKit
open Go Go.ChangeShapes Go.WideShapes Go.ChangeAt Go.RowKit
theorem wmee_lifted (os : Os) (started : os.Started) (H : Type) (enc : TypeId × Value→H) :
    ReturnsInHanded {} Tryz.checked os 7 .any (fun w args=>(Rows.whyMeetsSpec.pre enc Tryz.prog Tryz.f7 [] false w args∧laidMetH Tryz.prog laidS w)∧sizedMet enc Tryz.prog Tryz.f7 (OpenSpec.ofChange Rows.whyMeetsSpec) false w args) (Rows.whyMeetsSpec.post enc Tryz.prog Tryz.f7 false true false false):=by
  refine returnsInHanded_of_change_and (C:=Tryz.checked) (X:=fun w _=>laidMetH Tryz.prog laidS w) (fun _ _ _ hh h=>h.of_heap hh) Tryz.ownK started (by kernel_rfl) Tryz.func7
    (ChangeSpec.witness_shaped (enc:=enc) (C:=Tryz.checked) (os:=os) (X:=fun w _=>laidMetH Tryz.prog laidS w) false (World.doorLaid Tryz.prog 400 os) #[.slice none 0 0,.agg #[.int .i64 0,.int .i64 0,.int .i64 0,.string ByteArray.empty,.slice none 0 0],.slice none 0 0] 8 rfl (World.shaped_of_RefB (by kernel_rfl) (by kernel_rfl)) (by kernel_rfl) (by kernel_rfl) (by kernel_rfl) (door_met os _)) ?_
  intro W base args ds gs before hval0 hW _ _ hL _
  have hsig:=sig_of_laid hL
  have hval : ∀ (j : Nat) t v,Tryz.f7.params[j]? = some t→args[j]? = some v→Value.okWide Tryz.prog W .any base t v:=hval0
  have hW':=hW
  obtain ⟨p,q,hA0,hV,rfl,_,_⟩:=hW
  have hA : DataW.TrodAll enc Tryz.prog W 0 (fun _=>true) true Tryz.f7.params.toList args.toList ds p:=hA0
  rw [Tryz.params7] at hA hval
  obtain ⟨v0,vs0,d0,ds0,p0,q0,hargs,rfl,rfl,h0,r0⟩:=trodAll_cons hA
  obtain ⟨v1,vs1,d1,ds1,p1,q1,rfl,rfl,rfl,h1,r1⟩:=trodAll_cons r0
  obtain ⟨v2,vs2,d2,ds2,p2,q2,rfl,rfl,rfl,h2,r2⟩:=trodAll_cons r1
  obtain ⟨rfl,rfl,rfl⟩:=trodAll_nil r2
  obtain rfl : args = #[v0,v1,v2]:=by cases args; simp_all
  obtain ⟨rfl,rfl⟩:=trodVars_none hV
  have k0:=h0
  have k1:=h1
  have k2:=h2
  obtain ⟨fuel0,hf0⟩:=h0
  obtain ⟨sa0,sl0,sc0,rfl⟩:=okWide_slice Tryz.underlying22 (hval 0 22 v0 rfl rfl)
  simp only [Value.cells] at hf0
  obtain ⟨s0,hs0,hr0_0⟩:=open_lets hf0
  obtain ⟨s1,rfl,hr1_0⟩:=open_expv (hval 1 25 v1 rfl rfl) h1
  obtain ⟨fuel2,hf2⟩:=h2
  obtain ⟨sa2,sl2,sc2,rfl⟩:=okWide_slice Tryz.underlying26 (hval 2 26 v2 rfl rfl)
  simp only [Value.cells] at hf2
  obtain ⟨s2,hs2,hr2_0⟩:=open_things hf2
  have hlt0 : ∀ x ∈ p0,x.block<W.heap.size:=fun x hx=>hW'.lt x (by simp [hx])
  have hlt1 : ∀ x ∈ p1,x.block<W.heap.size:=fun x hx=>hW'.lt x (by simp [hx])
  have hlt2 : ∀ x ∈ p2,x.block<W.heap.size:=fun x hx=>hW'.lt x (by simp [hx])
  rw [hs0] at hW' k0 ⊢
  rw [hs2] at hW' k2 ⊢
  clear hA hA0 hval0 hval r0 r1 r2 hf0 hf2 hs0 hs2
  refine (whymeets s0 s1 s2 W hsig hr0_0 hr1_0 hr2_0 ).mono fun e W' ⟨he,hbel⟩=>?_
  subst he
  have nil : ∀ x ∈ ([] : List MemPlace),x.block<W.heap.size:=fun x hx=>by simp at hx
  refine ⟨_,rfl,_,_,_,[],p0 ++ (p1 ++ (p2 ++ ([]))),[],hW', ?_, ?_,rfl,hbel.frame _,fun h=>by cases h⟩
  · exact trodAll_mk1 (shut_bool Tryz.underlying4 true)
  · exact trodAll_cons_mk (Below.trod Tryz.laidK (by kernel_rfl) (of_decide_eq_true (by kernel_rfl)) k0 hbel hlt0) (trodAll_cons_mk (Below.trod Tryz.laidK (by kernel_rfl) (of_decide_eq_true (by kernel_rfl)) k1 hbel hlt1) (trodAll_cons_mk (Below.trod Tryz.laidK (by kernel_rfl) (of_decide_eq_true (by kernel_rfl)) k2 hbel hlt2) trodAll_mk0))
theorem wmee_row : Rows.WhyMeetsSaid :=
  OpenClaim.holds_of_wide 7 Tryz.f7 rfl rfl rfl rfl rfl rfl rfl ⟨rfl,rfl,rfl,rfl,rfl⟩ rfl rfl rfl rfl rfl (by kernel_rfl) Tryz.func7 (by kernel_rfl)
    (of_decide_eq_true (by kernel_rfl)) (by unfold Func.isWrapper; first | (rw [if_pos (by decide +kernel)]; kernel_rfl) | (rw [if_neg (by decide +kernel)]; exact ⟨rfl,rfl⟩))
    (fun os started H enc _=>wmee_lifted os started H enc)
theorem wmee_holds : Rows.WhyMeetsCardSaid :=
  Claim7.holds_tied_plain_at .later [] [.data,.data] true (true, "719d6481e701eefe703d56a68ba9301ddf817b7f66fad969ee58fd1e1d071802") true
    wmee_row (fun _ h=>by cases h) (by kernel_rfl) (fun _ h=>by cases h) whyMeets_row_tie rfl ⟨rfl,rfl⟩ (by kernel_rfl) rfl
    (fun f fn hf hfn=>by
      obtain rfl : f=7:=Option.some.inj ((show Tryz.prog.funcNamed "tonneau/tonneaulaw46.WhyMeets" = some 7 by kernel_rfl).symm.trans hf) |>.symm
      obtain rfl : fn=Tryz.f7:=(Option.some.inj (Tryz.func7.symm.trans hfn)).symm
      exact ⟨by kernel_rfl,fun j t ht=>by
        rw [Tryz.params7] at ht
        have hm : t ∈ [22,25,26]:=by simpa using Array.mem_of_getElem? ht
        have hall : ([22,25,26].all fun u=>!Tryz.prog.wantsStandIn u)=true:=by kernel_rfl
        exact (show Tryz.prog.wantsStandIn t=false by simpa using List.all_eq_true.1 hall t hm)⟩)
    (by kernel_rfl)
#print axioms wmee_holds
end Go.Proofs.YtmomlipmpgcheaaGreatDoor
