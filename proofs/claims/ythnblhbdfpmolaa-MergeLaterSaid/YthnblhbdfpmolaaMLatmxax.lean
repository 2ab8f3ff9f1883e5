/- A drawn region: taking an operation, with its place given as a number. -/
import Derived.Test.YthnblhbdfpmolaaMLatmxat
namespace Go.Proofs.Ythnblhbdfpmolaa
open Go.RowKit
section
variable {P : Program} {ops : Array Oper} {Q : Exit → Act → World → Prop} {md : Region.Mode} {S : World → Prop} {T : Nat → Bool}
theorem wpAnyT_take2 {i d : Nat} {oi : Oper} {v : Value} {fuel : Nat} {listed : Array Bool} {a : Act} {w : World} (hi : ops[i]? = some oi) (hd : oi.dst = some d)
    (hs : Region.noSelect ops = true) (hf : Region.free md ops listed i = true) (hr : (Region.ready md ops listed).contains i = true) (hw : waitT md ops T i = true)
    (hQ : ∀ c a w, Q (.panic c) (a.put oi.dst v) w → Q (.panic c) a w) (hy : YieldsIf P ops S oi v a) (hS : S w)
    (h : wpAnyT P md ops Q S T fuel (listed.setIfInBounds i true) { a with tmps := a.tmps.setIfInBounds d v } w) : wpAnyT P md ops Q S T (fuel + 1) listed a w :=
  wpAnyT_take hi hs hf hr hw hQ hy hS (by rw [hd]; exact h)
end
end Go.Proofs.Ythnblhbdfpmolaa
