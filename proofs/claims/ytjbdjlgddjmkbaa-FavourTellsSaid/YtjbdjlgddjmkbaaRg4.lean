/- A drawn region: pure operations first, then the cells' facts. -/
import Derived.Test.YtjbdjlgddjmkbaaRg3
namespace Go.Proofs.Ytjbdjlgddjmkbaa
open Go.RowKit
section
variable {P : Program} {ops : Array Oper} {Q : Exit → Act → World → Prop} {md : Region.Mode}
theorem wpAnyT_weaken {S' : World → Prop} {T' T : Nat → Bool} : ∀ (fuel : Nat) (listed : Array Bool) (a : Act) (w : World), wpAnyT P md ops Q S' T' fuel listed a w → wpAnyT P md ops Q (fun _ => True) T fuel listed a w
  | 0, _, _, _, h => h
  | fuel + 1, _, _, _, h => ⟨h.1, fun i hi => wpOp_mono (fun a' w' h' => ⟨fun _ => trivial, wpAnyT_weaken fuel _ a' w' h'.2⟩) (h.2 i hi)⟩
theorem wpAnyT_switch {T : Nat → Bool} {fuel : Nat} {listed : Array Bool} {a : Act} {w : World} (S' : World → Prop) (T' : Nat → Bool) (hS : S' w) (h : S' w → wpAnyT P md ops Q S' T' fuel listed a w) : wpAnyT P md ops Q (fun _ => True) T fuel listed a w :=
  wpAnyT_weaken _ _ _ _ (h hS)
end
end Go.Proofs.Ytjbdjlgddjmkbaa
