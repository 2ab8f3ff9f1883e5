/-
  No cell of these rows narrows 'for every input' (looked for: loops, veiled, ifaces, maps, wideKeys, modest, calm, conditions, laid).
  DERIVED. THE GIVEN ROWS OF THIS SEAT. 5 by the template 'for every input the law returns true; each argument reads behind the call as it read before'; 0 by the template 'total and deterministic' (their statements: YtjbdjlgddjmkbaaTotals.lean).
  GIVEN WITH THE SEED: the statements are not yours to turn. If you find one false, say at which input.
  Laid BY PROGRAM, IN A SANDBOX (cutbox-rows.mjs): the forced cells as the released guide's own fill.sh prints them over the translation 5e8d9d5d525d64ca… (all of the seat's roots in one cut). By AI agents, Wed Nov 11 2026. No macro, syntax, notation, axiom, sorry.
-/
import Derived.Test.YtjbdjlgddjmkbaaChecked
import GoSem.Claim
import GoSem.ClaimJoined
import GoSem.ClaimMapViews
import Derived.JoinedTies
import Derived.KernelRfl
namespace Go.Proofs.Ytjbdjlgddjmkbaa
/- THE CELL 'sum', in the pinned program and in every row, IS THE sha256 OF THE DUMP (.gsa) THAT YtjbdjlgddjmkbaaProg.lean LOADS. Nothing in Lean hashes anything: it is a label: what it is worth is what the hold of that sum in a sandbox is worth. -/
noncomputable def Try.pinned : Pinned := { name := "ytjbdjlgddjmkbaa", sum := "5e8d9d5d525d64caa5825325d40606458cc75b8ec9efe44ed0582ddb8b29e4b1", checked := Try.checked }
namespace Rows
def none {H : Type} : Left H := { results := [], args := [] }

/-- 'tonneaulaw28.FavourTells': WHATEVER THE INPUT: true; the input reads as it did. -/
def favourTellsSpec : ChangeSpec := { name := "favourTells", fn := fun _ => fun
  | [d1, d2, d3, d4] => { results := [.lit (.bool true)], args := [d1, d2, d3, d4] }
  | _ => none }
def favourTellsRow : OpenClaim := { program := "ytjbdjlgddjmkbaa", sum := "5e8d9d5d525d64caa5825325d40606458cc75b8ec9efe44ed0582ddb8b29e4b1", func := "tonneau/tonneaulaw28.FavourTells", spec := "favourTells", inPlace := ["slices.overlaps[tonneau/api.Balance]"], unfollowed := true, recurses := true, apart := false }
def FavourTellsSaid : Prop := favourTellsRow.holds Try.pinned (OpenSpec.ofChange favourTellsSpec)

/-- ITS FALSE NEIGHBOUR: 'it returns false'. Refute it at one input. -/
def favourTellsWrong : ChangeSpec := { name := "favourTells", fn := fun _ => fun
  | [d1, d2, d3, d4] => { results := [.lit (.bool false)], args := [d1, d2, d3, d4] }
  | _ => none }
def FavourTellsWrongFalsely : Prop := favourTellsRow.holds Try.pinned (OpenSpec.ofChange favourTellsWrong)

/-- 'tonneaulaw28.FavourLag': WHATEVER THE INPUT: true; the input reads as it did. -/
def favourLagSpec : ChangeSpec := { name := "favourLag", fn := fun _ => fun
  | [d1, d2] => { results := [.lit (.bool true)], args := [d1, d2] }
  | _ => none }
def favourLagRow : OpenClaim := { program := "ytjbdjlgddjmkbaa", sum := "5e8d9d5d525d64caa5825325d40606458cc75b8ec9efe44ed0582ddb8b29e4b1", func := "tonneau/tonneaulaw28.FavourLag", spec := "favourLag", inPlace := ["slices.overlaps[tonneau/api.Balance]"], unfollowed := true, recurses := true, apart := false }
def FavourLagSaid : Prop := favourLagRow.holds Try.pinned (OpenSpec.ofChange favourLagSpec)

/-- ITS FALSE NEIGHBOUR: 'it returns false'. Refute it at one input. -/
def favourLagWrong : ChangeSpec := { name := "favourLag", fn := fun _ => fun
  | [d1, d2] => { results := [.lit (.bool false)], args := [d1, d2] }
  | _ => none }
def FavourLagWrongFalsely : Prop := favourLagRow.holds Try.pinned (OpenSpec.ofChange favourLagWrong)

/-- 'tonneaulaw28.FavourSum': WHATEVER THE INPUT: true; the input reads as it did. -/
def favourSumSpec : ChangeSpec := { name := "favourSum", fn := fun _ => fun
  | [d1, d2, d3] => { results := [.lit (.bool true)], args := [d1, d2, d3] }
  | _ => none }
def favourSumRow : OpenClaim := { program := "ytjbdjlgddjmkbaa", sum := "5e8d9d5d525d64caa5825325d40606458cc75b8ec9efe44ed0582ddb8b29e4b1", func := "tonneau/tonneaulaw28.FavourSum", spec := "favourSum", inPlace := ["slices.overlaps[tonneau/api.Balance]"], unfollowed := true, recurses := true, apart := false }
def FavourSumSaid : Prop := favourSumRow.holds Try.pinned (OpenSpec.ofChange favourSumSpec)

/-- ITS FALSE NEIGHBOUR: 'it returns false'. Refute it at one input. -/
def favourSumWrong : ChangeSpec := { name := "favourSum", fn := fun _ => fun
  | [d1, d2, d3] => { results := [.lit (.bool false)], args := [d1, d2, d3] }
  | _ => none }
def FavourSumWrongFalsely : Prop := favourSumRow.holds Try.pinned (OpenSpec.ofChange favourSumWrong)

/-- 'tonneaulaw28.FavourBears': WHATEVER THE INPUT: true; the input reads as it did. -/
def favourBearsSpec : ChangeSpec := { name := "favourBears", fn := fun _ => fun
  | [d1, d2, d3] => { results := [.lit (.bool true)], args := [d1, d2, d3] }
  | _ => none }
def favourBearsRow : OpenClaim := { program := "ytjbdjlgddjmkbaa", sum := "5e8d9d5d525d64caa5825325d40606458cc75b8ec9efe44ed0582ddb8b29e4b1", func := "tonneau/tonneaulaw28.FavourBears", spec := "favourBears", inPlace := ["slices.overlaps[tonneau/api.Balance]"], unfollowed := true, recurses := true, apart := false }
def FavourBearsSaid : Prop := favourBearsRow.holds Try.pinned (OpenSpec.ofChange favourBearsSpec)

/-- ITS FALSE NEIGHBOUR: 'it returns false'. Refute it at one input. -/
def favourBearsWrong : ChangeSpec := { name := "favourBears", fn := fun _ => fun
  | [d1, d2, d3] => { results := [.lit (.bool false)], args := [d1, d2, d3] }
  | _ => none }
def FavourBearsWrongFalsely : Prop := favourBearsRow.holds Try.pinned (OpenSpec.ofChange favourBearsWrong)

/-- 'tonneaulaw28.FavourOrder': WHATEVER THE INPUT: true; the input reads as it did. -/
def favourOrderSpec : ChangeSpec := { name := "favourOrder", fn := fun _ => fun
  | [d1, d2, d3, d4, d5] => { results := [.lit (.bool true)], args := [d1, d2, d3, d4, d5] }
  | _ => none }
def favourOrderRow : OpenClaim := { program := "ytjbdjlgddjmkbaa", sum := "5e8d9d5d525d64caa5825325d40606458cc75b8ec9efe44ed0582ddb8b29e4b1", func := "tonneau/tonneaulaw28.FavourOrder", spec := "favourOrder", inPlace := ["slices.overlaps[tonneau/api.Balance]"], unfollowed := true, recurses := true, apart := false }
def FavourOrderSaid : Prop := favourOrderRow.holds Try.pinned (OpenSpec.ofChange favourOrderSpec)

/-- ITS FALSE NEIGHBOUR: 'it returns false'. Refute it at one input. -/
def favourOrderWrong : ChangeSpec := { name := "favourOrder", fn := fun _ => fun
  | [d1, d2, d3, d4, d5] => { results := [.lit (.bool false)], args := [d1, d2, d3, d4, d5] }
  | _ => none }
def FavourOrderWrongFalsely : Prop := favourOrderRow.holds Try.pinned (OpenSpec.ofChange favourOrderWrong)

/- THE SECOND FORM. 'bulk': how many values and letters a reading holds, each counted each time it is reached (what is shared counts as often as it is met; a slice's spare places count too). A statement '..UptoSaid' is the law's where the arguments, and the package variables that the reading takes, are together of bulk at most 1048576: NARROWER than '..Said'. Prove '..Said' where nothing that the law and all that it calls make is longer than what came in: it says more and counts as full. Else prove '..UptoSaid'. A law counts once. -/
mutual
def uptoBulk {H : Type} : DataW H → Nat
  | .lit (.string bytes) => bytes.length + 1
  | .lit _ => 1
  | .nil => 1
  | .ptr d => uptoBulk d + 1
  | .slice elems spare => uptoBulkAll elems + uptoBulkAll spare + 1
  | .agg parts => uptoBulkAll parts + 1
  | .iface _ d => uptoBulk d + 1
  | .map entries => uptoBulkEntries entries + 1
  | .held _ => 1
def uptoBulkAll {H : Type} : List (DataW H) → Nat
  | [] => 0
  | d :: r => uptoBulk d + uptoBulkAll r
def uptoBulkEntries {H : Type} : List (Lit × DataW H) → Nat
  | [] => 0
  | x :: r => uptoBulkEntry x + uptoBulkEntries r
def uptoBulkEntry {H : Type} : Lit × DataW H → Nat
  | (.string bytes, d) => bytes.length + uptoBulk d + 1
  | (_, d) => uptoBulk d + 1
 end
def uptoSmall : (H : Type) → List (DataW H) → Bool := fun _ ds => decide (uptoBulkAll ds ≤ 1048576)
def OpenSpec.upto (s : _root_.Go.ChangeSpec) : _root_.Go.OpenSpec := { _root_.Go.OpenSpec.ofChange s with cond := some uptoSmall }

/-- 'tonneaulaw28.FavourTells', WHERE WHAT IT READS IS OF BULK AT MOST 1048576: true; the input reads as it did. -/
def favourTellsUptoRow : OpenClaim := { program := "ytjbdjlgddjmkbaa", sum := "5e8d9d5d525d64caa5825325d40606458cc75b8ec9efe44ed0582ddb8b29e4b1", func := "tonneau/tonneaulaw28.FavourTells", spec := "favourTells", inPlace := ["slices.overlaps[tonneau/api.Balance]"], unfollowed := true, recurses := true, apart := false, narrowed := true }
def FavourTellsUptoSaid : Prop := favourTellsUptoRow.holds Try.pinned (OpenSpec.upto favourTellsSpec)

/-- 'tonneaulaw28.FavourLag', WHERE WHAT IT READS IS OF BULK AT MOST 1048576: true; the input reads as it did. -/
def favourLagUptoRow : OpenClaim := { program := "ytjbdjlgddjmkbaa", sum := "5e8d9d5d525d64caa5825325d40606458cc75b8ec9efe44ed0582ddb8b29e4b1", func := "tonneau/tonneaulaw28.FavourLag", spec := "favourLag", inPlace := ["slices.overlaps[tonneau/api.Balance]"], unfollowed := true, recurses := true, apart := false, narrowed := true }
def FavourLagUptoSaid : Prop := favourLagUptoRow.holds Try.pinned (OpenSpec.upto favourLagSpec)

/-- 'tonneaulaw28.FavourSum', WHERE WHAT IT READS IS OF BULK AT MOST 1048576: true; the input reads as it did. -/
def favourSumUptoRow : OpenClaim := { program := "ytjbdjlgddjmkbaa", sum := "5e8d9d5d525d64caa5825325d40606458cc75b8ec9efe44ed0582ddb8b29e4b1", func := "tonneau/tonneaulaw28.FavourSum", spec := "favourSum", inPlace := ["slices.overlaps[tonneau/api.Balance]"], unfollowed := true, recurses := true, apart := false, narrowed := true }
def FavourSumUptoSaid : Prop := favourSumUptoRow.holds Try.pinned (OpenSpec.upto favourSumSpec)

/-- 'tonneaulaw28.FavourBears', WHERE WHAT IT READS IS OF BULK AT MOST 1048576: true; the input reads as it did. -/
def favourBearsUptoRow : OpenClaim := { program := "ytjbdjlgddjmkbaa", sum := "5e8d9d5d525d64caa5825325d40606458cc75b8ec9efe44ed0582ddb8b29e4b1", func := "tonneau/tonneaulaw28.FavourBears", spec := "favourBears", inPlace := ["slices.overlaps[tonneau/api.Balance]"], unfollowed := true, recurses := true, apart := false, narrowed := true }
def FavourBearsUptoSaid : Prop := favourBearsUptoRow.holds Try.pinned (OpenSpec.upto favourBearsSpec)

/-- 'tonneaulaw28.FavourOrder', WHERE WHAT IT READS IS OF BULK AT MOST 1048576: true; the input reads as it did. -/
def favourOrderUptoRow : OpenClaim := { program := "ytjbdjlgddjmkbaa", sum := "5e8d9d5d525d64caa5825325d40606458cc75b8ec9efe44ed0582ddb8b29e4b1", func := "tonneau/tonneaulaw28.FavourOrder", spec := "favourOrder", inPlace := ["slices.overlaps[tonneau/api.Balance]"], unfollowed := true, recurses := true, apart := false, narrowed := true }
def FavourOrderUptoSaid : Prop := favourOrderUptoRow.holds Try.pinned (OpenSpec.upto favourOrderSpec)

end Rows
end Go.Proofs.Ytjbdjlgddjmkbaa
