/- THE LAW ChangeBefore IS PROVED HERE. For all at most 4 versions with texts of at most 500 bytes, texts of at most 500 bytes, and times: after a change the version in force is the same at each time before it, and the new one at each time from then on; all earlier versions stay as they were; the versions are right; and a text that does not parse, or has wrong units, or another name, is never adopted. The listed variable starts as the text lays it. -/
import Derived.Test.YtpbdjpfbhicmdaaGreatDoorCbemxab
import Derived.Test.YtpbdjpfbhicmdaaGreatDoorCbxbr
import Derived.Test.YtpbdjpfbhicmdaaGreatDoorCards
import Derived.Test.YtpbdjpfbhicmdaaGreatDoorTie
import Derived.OpenShut
import Derived.SevenTiedAt
import Derived.Stop.Joined
set_option linter.unusedSimpArgs false
set_option linter.unusedVariables false
set_option maxRecDepth 100000
set_option maxHeartbeats 6400000
namespace Go.Proofs.YtpbdjpfbhicmdaaGreatDoor
open Go.RowKit
open Go Go.ChangeShapes Go.WideShapes Go.ChangeAt Go.RowKit
theorem chbe_lifted (os : Os) (started : os.Started) (H : Type) (enc : TypeId × Value→H) :
    ReturnsInHanded {} Tryz.checked os 4 .any (fun w args=>(Rows.changeBeforeSpec.pre enc Tryz.prog Tryz.f4 [] false w args∧laidMetH Tryz.prog laidS w)∧sizedMet enc Tryz.prog Tryz.f4 (OpenSpec.ofChange Rows.changeBeforeSpec) false w args) (Rows.changeBeforeSpec.post enc Tryz.prog Tryz.f4 false true false false):=by
  refine returnsInHanded_of_change_and (C:=Tryz.checked) (X:=fun w _=>laidMetH Tryz.prog laidS w) (fun _ _ _ hh h=>h.of_heap hh) Tryz.ownK started (by kernel_rfl) Tryz.func4
    (ChangeSpec.witness_shaped (enc:=enc) (C:=Tryz.checked) (os:=os) (X:=fun w _=>laidMetH Tryz.prog laidS w) false (World.doorLaid Tryz.prog 400 os) #[.slice none 0 0,.string ByteArray.empty,.int .i64 0,.int .i64 0] 8 rfl (World.shaped_of_RefB (by kernel_rfl) (by kernel_rfl)) (by kernel_rfl) (by kernel_rfl) (by kernel_rfl) (door_met os _)) ?_
  intro W base args ds gs before hval0 hW _ _ hL _
  have hsig:=sig_of_laid hL
  have hval : ∀ (j : Nat) t v,Tryz.f4.params[j]? = some t→args[j]? = some v→Value.okWide Tryz.prog W .any base t v:=hval0
  have hW':=hW
  obtain ⟨p,q,hA0,hV,rfl,_,_⟩:=hW
  have hA : DataW.TrodAll enc Tryz.prog W 0 (fun _=>true) true Tryz.f4.params.toList args.toList ds p:=hA0
  rw [Tryz.params4] at hA hval
  obtain ⟨v0,vs0,d0,ds0,p0,q0,hargs,rfl,rfl,h0,r0⟩:=trodAll_cons hA
  obtain ⟨v1,vs1,d1,ds1,p1,q1,rfl,rfl,rfl,h1,r1⟩:=trodAll_cons r0
  obtain ⟨v2,vs2,d2,ds2,p2,q2,rfl,rfl,rfl,h2,r2⟩:=trodAll_cons r1
  obtain ⟨v3,vs3,d3,ds3,p3,q3,rfl,rfl,rfl,h3,r3⟩:=trodAll_cons r2
  obtain ⟨rfl,rfl,rfl⟩:=trodAll_nil r3
  obtain rfl : args = #[v0,v1,v2,v3]:=by cases args; simp_all
  obtain ⟨rfl,rfl⟩:=trodVars_none hV
  have k0:=h0
  have k1:=h1
  have k2:=h2
  have k3:=h3
  obtain ⟨fuel0,hf0⟩:=h0
  obtain ⟨sa0,sl0,sc0,rfl⟩:=okWide_slice Tryz.underlying22 (hval 0 22 v0 rfl rfl)
  simp only [Value.cells] at hf0
  obtain ⟨s0,hs0,hr0_0,hr0_1⟩:=open_vers hf0
  obtain ⟨a1,rfl,rfl,rfl,w1⟩:=Go.ChangeMaps.open_string Tryz.underlying9 (hval 1 9 v1 rfl rfl) h1
  obtain ⟨a2,rfl,rfl,rfl,w2⟩:=open_int Tryz.underlying3 (hval 2 3 v2 rfl rfl) h2
  obtain ⟨a3,rfl,rfl,rfl,w3⟩:=open_int Tryz.underlying3 (hval 3 3 v3 rfl rfl) h3
  have hlt0 : ∀ x ∈ p0,x.block<W.heap.size:=fun x hx=>hW'.lt x (by simp [hx])
  rw [hs0] at hW' k0 ⊢
  clear hA hA0 hval0 hval r0 r1 r2 r3 hf0 hs0
  refine (changebefore s0 a1 a2 a3 W hsig hr0_0 hr0_1 w1 (i64_in w2) (i64_in w3)).mono fun e W' ⟨he,hbel⟩=>?_
  subst he
  have nil : ∀ x ∈ ([] : List MemPlace),x.block<W.heap.size:=fun x hx=>by simp at hx
  refine ⟨_,rfl,_,_,_,[],p0 ++ ([] ++ ([] ++ ([] ++ ([])))),[],hW', ?_, ?_,rfl,hbel.frame _,fun h=>by cases h⟩
  · exact trodAll_mk1 (shut_bool Tryz.underlying4 true)
  · exact trodAll_cons_mk (Below.trod Tryz.laidK (by kernel_rfl) (of_decide_eq_true (by kernel_rfl)) k0 hbel hlt0) (trodAll_cons_mk (Below.trod Tryz.laidK (by kernel_rfl) (of_decide_eq_true (by kernel_rfl)) k1 hbel nil) (trodAll_cons_mk (Below.trod Tryz.laidK (by kernel_rfl) (of_decide_eq_true (by kernel_rfl)) k2 hbel nil) (trodAll_cons_mk (Below.trod Tryz.laidK (by kernel_rfl) (of_decide_eq_true (by kernel_rfl)) k3 hbel nil) trodAll_mk0)))
theorem chbe_row : Rows.ChangeBeforeSaid :=
  OpenClaim.holds_of_wide 4 Tryz.f4 rfl rfl rfl rfl rfl rfl rfl ⟨rfl,rfl,rfl,rfl,rfl⟩ rfl rfl rfl rfl rfl (by kernel_rfl) Tryz.func4 (by kernel_rfl)
    (of_decide_eq_true (by kernel_rfl)) (by unfold Func.isWrapper; first | (rw [if_pos (by decide +kernel)]; kernel_rfl) | (rw [if_neg (by decide +kernel)]; exact ⟨rfl,rfl⟩))
    (fun os started H enc _=>chbe_lifted os started H enc)
theorem chbe_holds : Rows.ChangeBeforeCardSaid :=
  Claim7.holds_tied_plain_at .later [] [.data] true (true, "7b1ef1dc3081f22a58eae3a9fe54a13827a14e763807b6c4d23c00b284209515") true
    chbe_row (fun _ h=>by cases h) (by kernel_rfl) (fun _ h=>by cases h) changeBefore_row_tie rfl ⟨rfl,rfl⟩ (by kernel_rfl) rfl
    (fun f fn hf hfn=>by
      obtain rfl : f=4:=Option.some.inj ((show Tryz.prog.funcNamed "tonneau/tonneaulaw35.ChangeBefore" = some 4 by kernel_rfl).symm.trans hf) |>.symm
      obtain rfl : fn=Tryz.f4:=(Option.some.inj (Tryz.func4.symm.trans hfn)).symm
      exact ⟨by kernel_rfl,fun j t ht=>by
        rw [Tryz.params4] at ht
        have hm : t ∈ [22,9,3,3]:=by simpa using Array.mem_of_getElem? ht
        have hall : ([22,9,3,3].all fun u=>!Tryz.prog.wantsStandIn u)=true:=by kernel_rfl
        exact (show Tryz.prog.wantsStandIn t=false by simpa using List.all_eq_true.1 hall t hm)⟩)
    (by kernel_rfl)
#print axioms chbe_holds
end Go.Proofs.YtpbdjpfbhicmdaaGreatDoor
