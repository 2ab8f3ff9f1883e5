/- THE LAW ChangeKeeps IS PROVED HERE. For all bylaws, and cases within the bounds: a case is broken exactly if the bylaws have wrong units, do not admit its trip, or make it dearer; what bylaws promise themselves they keep; with a greater fare a case is broken only if it was before; and each case is judged by itself, in whatever order. The listed variable starts as the text lays it. -/
import Derived.Test.YtpbdjpfbhicmdaaGreatDoorCkemxaa
import Derived.Test.YtpbdjpfbhicmdaaGreatDoorCbxbr
import Derived.Test.YtpbdjpfbhicmdaaGreatDoorCards
import Derived.Test.YtpbdjpfbhicmdaaGreatDoorTie
import Derived.OpenShut
import Derived.SevenTiedAt
import Derived.Stop.Joined
set_option linter.unusedSimpArgs false
set_option linter.unusedVariables false
set_option maxRecDepth 100000
set_option maxHeartbeats 6400000
namespace Go.Proofs.YtpbdjpfbhicmdaaGreatDoor
open Go.RowKit
open Go Go.ChangeShapes Go.WideShapes Go.ChangeAt Go.RowKit
theorem chke_lifted (os : Os) (started : os.Started) (H : Type) (enc : TypeId × Value→H) :
    ReturnsInHanded {} Tryz.checked os 5 .any (fun w args=>(Rows.changeKeepsSpec.pre enc Tryz.prog Tryz.f5 [] false w args∧laidMetH Tryz.prog laidS w)∧sizedMet enc Tryz.prog Tryz.f5 (OpenSpec.ofChange Rows.changeKeepsSpec) false w args) (Rows.changeKeepsSpec.post enc Tryz.prog Tryz.f5 false true false false):=by
  refine returnsInHanded_of_change_and (C:=Tryz.checked) (X:=fun w _=>laidMetH Tryz.prog laidS w) (fun _ _ _ hh h=>h.of_heap hh) Tryz.ownK started (by kernel_rfl) Tryz.func5
    (ChangeSpec.witness_shaped (enc:=enc) (C:=Tryz.checked) (os:=os) (X:=fun w _=>laidMetH Tryz.prog laidS w) false (World.doorLaid Tryz.prog 400 os) #[.agg #[.string ByteArray.empty,.slice none 0 0,.int .i64 0,.int .i64 0,.int .i64 0,.string ByteArray.empty,.slice none 0 0,.int .i64 0,.int .i64 0,.int .i64 0,.string ByteArray.empty,.slice none 0 0,.int .i64 0,.int .i64 0,.int .i64 0,.string ByteArray.empty,.slice none 0 0,.int .i64 0,.int .i64 0,.int .i64 0,.string ByteArray.empty,.slice none 0 0,.int .i64 0,.int .i64 0,.int .i64 0],.slice none 0 0,.int .u16 0] 8 rfl (World.shaped_of_RefB (by kernel_rfl) (by kernel_rfl)) (by kernel_rfl) (by kernel_rfl) (by kernel_rfl) (door_met os _)) ?_
  intro W base args ds gs before hval0 hW _ _ hL _
  have hsig:=sig_of_laid hL
  have hval : ∀ (j : Nat) t v,Tryz.f5.params[j]? = some t→args[j]? = some v→Value.okWide Tryz.prog W .any base t v:=hval0
  have hW':=hW
  obtain ⟨p,q,hA0,hV,rfl,_,_⟩:=hW
  have hA : DataW.TrodAll enc Tryz.prog W 0 (fun _=>true) true Tryz.f5.params.toList args.toList ds p:=hA0
  rw [Tryz.params5] at hA hval
  obtain ⟨v0,vs0,d0,ds0,p0,q0,hargs,rfl,rfl,h0,r0⟩:=trodAll_cons hA
  obtain ⟨v1,vs1,d1,ds1,p1,q1,rfl,rfl,rfl,h1,r1⟩:=trodAll_cons r0
  obtain ⟨v2,vs2,d2,ds2,p2,q2,rfl,rfl,rfl,h2,r2⟩:=trodAll_cons r1
  obtain ⟨rfl,rfl,rfl⟩:=trodAll_nil r2
  obtain rfl : args = #[v0,v1,v2]:=by cases args; simp_all
  obtain ⟨rfl,rfl⟩:=trodVars_none hV
  have k0:=h0
  have k1:=h1
  have k2:=h2
  obtain ⟨s0,rfl,hr0_0,hr0_1,hr0_2,hr0_3⟩:=open_byl (hval 0 28 v0 rfl rfl) h0
  obtain ⟨fuel1,hf1⟩:=h1
  obtain ⟨sa1,sl1,sc1,rfl⟩:=okWide_slice Tryz.underlying29 (hval 1 29 v1 rfl rfl)
  simp only [Value.cells] at hf1
  obtain ⟨s1,hs1,hr1_0,hr1_1⟩:=open_cases hf1
  obtain ⟨a2,rfl,rfl,rfl,w2⟩:=open_int Tryz.underlying52 (hval 2 52 v2 rfl rfl) h2
  have hb2:=u16_inb w2
  have hlt0 : ∀ x ∈ p0,x.block<W.heap.size:=fun x hx=>hW'.lt x (by simp [hx])
  have hlt1 : ∀ x ∈ p1,x.block<W.heap.size:=fun x hx=>hW'.lt x (by simp [hx])
  rw [hs1] at hW' k1 ⊢
  clear hA hA0 hval0 hval r0 r1 r2 hf1 w2 hs1
  refine (changekeeps s0 s1 a2 W hsig hr0_0 hr0_1 hr0_2 hr0_3 hr1_0 hr1_1 hb2.1 hb2.2).mono fun e W' ⟨he,hbel⟩=>?_
  subst he
  have nil : ∀ x ∈ ([] : List MemPlace),x.block<W.heap.size:=fun x hx=>by simp at hx
  refine ⟨_,rfl,_,_,_,[],p0 ++ (p1 ++ ([] ++ ([]))),[],hW', ?_, ?_,rfl,hbel.frame _,fun h=>by cases h⟩
  · exact trodAll_mk1 (shut_bool Tryz.underlying4 true)
  · exact trodAll_cons_mk (Below.trod Tryz.laidK (by kernel_rfl) (of_decide_eq_true (by kernel_rfl)) k0 hbel hlt0) (trodAll_cons_mk (Below.trod Tryz.laidK (by kernel_rfl) (of_decide_eq_true (by kernel_rfl)) k1 hbel hlt1) (trodAll_cons_mk (Below.trod Tryz.laidK (by kernel_rfl) (of_decide_eq_true (by kernel_rfl)) k2 hbel nil) trodAll_mk0))
theorem chke_row : Rows.ChangeKeepsSaid :=
  OpenClaim.holds_of_wide 5 Tryz.f5 rfl rfl rfl rfl rfl rfl rfl ⟨rfl,rfl,rfl,rfl,rfl⟩ rfl rfl rfl rfl rfl (by kernel_rfl) Tryz.func5 (by kernel_rfl)
    (of_decide_eq_true (by kernel_rfl)) (by unfold Func.isWrapper; first | (rw [if_pos (by decide +kernel)]; kernel_rfl) | (rw [if_neg (by decide +kernel)]; exact ⟨rfl,rfl⟩))
    (fun os started H enc _=>chke_lifted os started H enc)
theorem chke_holds : Rows.ChangeKeepsCardSaid :=
  Claim7.holds_tied_plain_at .later [] [.data] true (true, "7b1ef1dc3081f22a58eae3a9fe54a13827a14e763807b6c4d23c00b284209515") true
    chke_row (fun _ h=>by cases h) (by kernel_rfl) (fun _ h=>by cases h) changeKeeps_row_tie rfl ⟨rfl,rfl⟩ (by kernel_rfl) rfl
    (fun f fn hf hfn=>by
      obtain rfl : f=5:=Option.some.inj ((show Tryz.prog.funcNamed "tonneau/tonneaulaw35.ChangeKeeps" = some 5 by kernel_rfl).symm.trans hf) |>.symm
      obtain rfl : fn=Tryz.f5:=(Option.some.inj (Tryz.func5.symm.trans hfn)).symm
      exact ⟨by kernel_rfl,fun j t ht=>by
        rw [Tryz.params5] at ht
        have hm : t ∈ [28,29,52]:=by simpa using Array.mem_of_getElem? ht
        have hall : ([28,29,52].all fun u=>!Tryz.prog.wantsStandIn u)=true:=by kernel_rfl
        exact (show Tryz.prog.wantsStandIn t=false by simpa using List.all_eq_true.1 hall t hm)⟩)
    (by kernel_rfl)
#print axioms chke_holds
end Go.Proofs.YtpbdjpfbhicmdaaGreatDoor
