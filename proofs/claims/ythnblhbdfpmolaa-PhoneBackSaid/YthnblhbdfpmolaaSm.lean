/- Walks of the helpers of the laws of layer 43: the small examples. -/
import Derived.Test.YthnblhbdfpmolaaPh17
import Derived.Test.YthnblhbdfpmolaaR8
namespace Go.Proofs.Ythnblhbdfpmolaa
open Go.RowKit
theorem cutT {G : Prop} (T : Prop) (main : T → G) (fin : T) : G := main fin
section
variable {P : Program} {ops : Array Oper} {Q : Exit → Act → World → Prop} {md : Region.Mode} {S : World → Prop} {T : Nat → Bool}
theorem wpAnyT_three {i j l : Nat} {o o' o'' : Oper} {fuel : Nat} {listed : Array Bool} {a : Act} {w : World} (hr : Region.ready md ops listed = [i, j, l]) (ho : ops[i]? = some o) (ho' : ops[j]? = some o') (ho'' : ops[l]? = some o'')
    (h : wpList P ops (QT Q fun a' w' => (T i = false → S w') ∧ wpAnyT P md ops Q S T fuel (listed.setIfInBounds i true) a' w') [o] a w)
    (h' : wpList P ops (QT Q fun a' w' => (T j = false → S w') ∧ wpAnyT P md ops Q S T fuel (listed.setIfInBounds j true) a' w') [o'] a w)
    (h'' : wpList P ops (QT Q fun a' w' => (T l = false → S w') ∧ wpAnyT P md ops Q S T fuel (listed.setIfInBounds l true) a' w') [o''] a w) : wpAnyT P md ops Q S T (fuel + 1) listed a w := by
  refine ⟨fun h0 => ?_, fun k hk => ?_⟩
  · rw [hr] at h0; cases h0
  · rw [hr] at hk
    rcases List.mem_cons.1 hk with rfl | hk
    · exact wpOp_of_list ho h
    · rcases List.mem_cons.1 hk with rfl | hk
      · exact wpOp_of_list ho' h'
      · rcases List.mem_singleton.1 hk with rfl
        exact wpOp_of_list ho'' h''
end
def nB : ByteArray := ⟨#[110]⟩
def P0 : PhoneD := ⟨3, false, [], [], List.replicate 12 0⟩
def P1 : PhoneD := ⟨3, false, [⟨0, 6, 0⟩], [], List.replicate 12 0⟩
def P2 : PhoneD := ⟨3, true, [⟨0, 6, 0⟩], [], List.replicate 12 0⟩
def P3 : PhoneD := ⟨3, true, [⟨0, 6, 4⟩], [⟨3, 0, List.replicate 12 0, 100, nB⟩], List.replicate 12 0⟩
def P4 : PhoneD := ⟨3, false, [], [⟨3, 0, List.replicate 12 0, 100, nB⟩], List.replicate 12 0⟩
theorem sm_new : newP 3 = (P0, 0) := rfl
theorem sm_lend : P0.lend [⟨10, 0, []⟩] 0 6 = (P1, [⟨10, 0, [⟨3, 6, 0⟩]⟩], 0) := by rfl
theorem sm_cut : P1.cutS = (P2, 0) := by rfl
theorem sm_pro1 : P2.promise 0 4 100 nB = (P3, 0) := by rfl
theorem sm_pro2 : (P3.promise 0 3 101 nB).2 = 21 := by rfl
theorem sm_pro3 : (P3.promise 0 2 99 nB).2 = 19 := by rfl
theorem sm_take1 : (StockD.take ⟨10, 0, [⟨3, 6, 0⟩]⟩ 5).2 = 21 := by rfl
theorem sm_take2 : StockD.take ⟨10, 0, [⟨3, 6, 0⟩]⟩ 4 = (⟨10, 4, [⟨3, 6, 0⟩]⟩, 0) := by rfl
theorem sm_join : P3.join [⟨10, 4, [⟨3, 6, 0⟩]⟩] (List.replicate 12 0) = (P4, [⟨10, 8, []⟩], P3.N, 0) := by rfl
theorem sm_right : P4.right = true := by rfl
theorem sm_free : StockD.free ⟨10, 8, []⟩ = 2 := by rfl
end Go.Proofs.Ythnblhbdfpmolaa
