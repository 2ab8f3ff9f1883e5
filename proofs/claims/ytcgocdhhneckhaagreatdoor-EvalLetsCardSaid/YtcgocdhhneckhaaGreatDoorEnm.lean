/- THE LAW EvalLets IS PROVED HERE. For all lets, expressions and facts within the bounds: a further let, after the others, has the value of its body and changes nothing else, and a further fact of its name changes nothing. The listed variable starts as the text lays it. -/
import Derived.Test.YtcgocdhhneckhaaGreatDoorEnmxae
import Derived.Test.YtcgocdhhneckhaaGreatDoorEvbxbr
import Derived.Test.YtcgocdhhneckhaaGreatDoorCards
import Derived.Test.YtcgocdhhneckhaaGreatDoorTie
import Derived.OpenShut
import Derived.SevenTiedAt
import Derived.Stop.Joined
set_option linter.unusedSimpArgs false
set_option linter.unusedVariables false
set_option maxRecDepth 100000
set_option maxHeartbeats 6400000
namespace Go.Proofs.YtcgocdhhneckhaaGreatDoor
open Go.RowKit
open Go Go.ChangeShapes Go.WideShapes Go.ChangeAt Go.RowKit
theorem elts_lifted (os : Os) (started : os.Started) (H : Type) (enc : TypeId × Value→H) : ReturnsInHanded {} Tryz.checked os 4 .any (fun w args=>(Rows.evalLetsSpec.pre enc Tryz.prog Tryz.f4 [] false w args∧laidMetH Tryz.prog laidS w)∧sizedMet enc Tryz.prog Tryz.f4 (OpenSpec.ofChange Rows.evalLetsSpec) false w args) (Rows.evalLetsSpec.post enc Tryz.prog Tryz.f4 false true false false):=by
 refine returnsInHanded_of_change_and (C:=Tryz.checked) (X:=fun w _=>laidMetH Tryz.prog laidS w) (fun _ _ _ hh h=>h.of_heap hh) Tryz.ownK started Zy Tryz.func4
  (ChangeSpec.witness_shaped (enc:=enc) (C:=Tryz.checked) (os:=os) (X:=fun w _=>laidMetH Tryz.prog laidS w) false (World.doorLaid Tryz.prog 400 os) #[.slice none 0 0,.agg #[.int .i64 0,.int .i64 0,.int .i64 0,.string ByteArray.empty,.slice none 0 0],.slice none 0 0,.slice none 0 0,.int .i64 0] 8 rfl (World.shaped_of_RefB Zy Zy) Zy Zy Zy (door_met os _)) ?_
 intro W base args ds gs before hval0 hW _ _ hL _;have hsig:=sig_of_laid hL;have hval : ∀ (j : Nat) t v,Tryz.f4.params[j]? = some t→args[j]? = some v→Value.okWide Tryz.prog W .any base t v:=hval0;have hW':=hW;obtain ⟨p,q,hA0,hV,rfl,_,_⟩:=hW;have hA : DataW.TrodAll enc Tryz.prog W 0 (fun _=>true) true Tryz.f4.params.toList args.toList ds p:=hA0;rw [Tryz.params4] at hA hval;obtain ⟨v0,vs0,d0,ds0,p0,q0,hargs,rfl,rfl,h0,r0⟩:=trodAll_cons hA;obtain ⟨v1,vs1,d1,ds1,p1,q1,rfl,rfl,rfl,h1,r1⟩:=trodAll_cons r0;obtain ⟨v2,vs2,d2,ds2,p2,q2,rfl,rfl,rfl,h2,r2⟩:=trodAll_cons r1;obtain ⟨v3,vs3,d3,ds3,p3,q3,rfl,rfl,rfl,h3,r3⟩:=trodAll_cons r2;obtain ⟨v4,vs4,d4,ds4,p4,q4,rfl,rfl,rfl,h4,r4⟩:=trodAll_cons r3;obtain ⟨rfl,rfl,rfl⟩:=trodAll_nil r4;(obtain rfl : args = #[v0,v1,v2,v3,v4]:=by cases args; simp_all);obtain ⟨rfl,rfl⟩:=trodVars_none hV;have k0:=h0;have k1:=h1;have k2:=h2;have k3:=h3;have k4:=h4;obtain ⟨fuel0,hf0⟩:=h0;obtain ⟨sa0,sl0,sc0,rfl⟩:=okWide_slice Tryz.underlying22 (hval 0 22 v0 rfl rfl);simp only [Value.cells] at hf0;obtain ⟨s0,hs0,hr0_0⟩:=open_lets hf0;obtain ⟨s1,rfl,hr1_0⟩:=open_expv (hval 1 25 v1 rfl rfl) h1;obtain ⟨fuel2,hf2⟩:=h2;obtain ⟨sa2,sl2,sc2,rfl⟩:=okWide_slice Tryz.underlying26 (hval 2 26 v2 rfl rfl);simp only [Value.cells] at hf2;obtain ⟨s2,hs2,hr2_0⟩:=open_facts hf2;obtain ⟨fuel3,hf3⟩:=h3;obtain ⟨sa3,sl3,sc3,rfl⟩:=okWide_slice Tryz.underlying26 (hval 3 26 v3 rfl rfl);simp only [Value.cells] at hf3;obtain ⟨s3,hs3,hr3_0⟩:=open_facts hf3;obtain ⟨a4,rfl,rfl,rfl,w4⟩:=open_int Tryz.underlying3 (hval 4 3 v4 rfl rfl) h4;have hlt0 : ∀ x ∈ p0,x.block<W.heap.size:=fun x hx=>hW'.lt x (by simp [hx]);have hlt1 : ∀ x ∈ p1,x.block<W.heap.size:=fun x hx=>hW'.lt x (by simp [hx]);have hlt2 : ∀ x ∈ p2,x.block<W.heap.size:=fun x hx=>hW'.lt x (by simp [hx]);have hlt3 : ∀ x ∈ p3,x.block<W.heap.size:=fun x hx=>hW'.lt x (by simp [hx]);rw [hs0] at hW' k0 ⊢;rw [hs2] at hW' k2 ⊢;rw [hs3] at hW' k3 ⊢;clear hA hA0 hval0 hval r0 r1 r2 r3 r4 hf0 hf2 hf3 hs0 hs2 hs3;refine (evallets s0 s1 s2 s3 a4 W hsig hr0_0 hr1_0 hr2_0 hr3_0 (i64_in w4)).mono fun e W' ⟨he,hbel⟩=>?_;subst he;(have nil : ∀ x ∈ ([] : List MemPlace),x.block<W.heap.size:=fun x hx=>by simp at hx);refine ⟨_,rfl,_,_,_,[],p0 ++ (p1 ++ (p2 ++ (p3 ++ ([] ++ ([]))))),[],hW', ?_, ?_,rfl,hbel.frame _,fun h=>by cases h⟩
 ·exact trodAll_mk1 (shut_bool Tryz.underlying4 true)
 ·exact trodAll_cons_mk (Below.trod Tryz.laidK Zy (of_decide_eq_true Zy) k0 hbel hlt0) (trodAll_cons_mk (Below.trod Tryz.laidK Zy (of_decide_eq_true Zy) k1 hbel hlt1) (trodAll_cons_mk (Below.trod Tryz.laidK Zy (of_decide_eq_true Zy) k2 hbel hlt2) (trodAll_cons_mk (Below.trod Tryz.laidK Zy (of_decide_eq_true Zy) k3 hbel hlt3) (trodAll_cons_mk (Below.trod Tryz.laidK Zy (of_decide_eq_true Zy) k4 hbel nil) trodAll_mk0))))
theorem elts_row : Rows.EvalLetsSaid :=
 OpenClaim.holds_of_wide 4 Tryz.f4 rfl rfl rfl rfl rfl rfl rfl ⟨rfl,rfl,rfl,rfl,rfl⟩ rfl rfl rfl rfl rfl Zy Tryz.func4 Zy
  (of_decide_eq_true Zy) (by unfold Func.isWrapper; first | (rw [if_pos (by decide +kernel)]; kernel_rfl) | (rw [if_neg (by decide +kernel)]; exact ⟨rfl,rfl⟩))
  (fun os started H enc _=>elts_lifted os started H enc)
theorem elts_holds : Rows.EvalLetsCardSaid :=
 Claim7.holds_tied_plain_at .later [] [.data] true (true, "d86fedc9ddda8a04c339a0215126aac23c726c4c69dc386bf8bb5015f82c75b9") true
  elts_row (fun _ h=>by cases h) Zy (fun _ h=>by cases h) evalLets_row_tie rfl ⟨rfl,rfl⟩ Zy rfl
  (fun f fn hf hfn=>by
   (obtain rfl : f=4:=Option.some.inj ((show Tryz.prog.funcNamed "tonneau/tonneaulaw32.EvalLets" = some 4 by kernel_rfl).symm.trans hf) |>.symm);obtain rfl : fn=Tryz.f4:=(Option.some.inj (Tryz.func4.symm.trans hfn)).symm
   exact ⟨by kernel_rfl,fun j t ht=>by
    rw [Tryz.params4] at ht;(have hm : t ∈ [22,25,26,26,3]:=by simpa using Array.mem_of_getElem? ht);(have hall : ([22,25,26,26,3].all fun u=>!Tryz.prog.wantsStandIn u)=true:=by kernel_rfl);exact (show Tryz.prog.wantsStandIn t=false by simpa using List.all_eq_true.1 hall t hm)⟩)
  Zy
#print axioms elts_holds
end Go.Proofs.YtcgocdhhneckhaaGreatDoor
