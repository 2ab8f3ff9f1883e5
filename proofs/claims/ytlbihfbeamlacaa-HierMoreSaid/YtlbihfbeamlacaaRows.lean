/-
  No cell of these rows narrows 'for every input' (looked for: loops, veiled, ifaces, maps, wideKeys, modest, calm, conditions, laid).
  DERIVED. THE GIVEN ROWS OF THIS SEAT. 5 by the template 'for every input the law returns true; each argument reads behind the call as it read before'; 0 by the template 'total and deterministic' (their statements: YtlbihfbeamlacaaTotals.lean).
  GIVEN WITH THE SEED: the statements are not yours to turn. If you find one false, say at which input.
  Laid BY PROGRAM, IN A SANDBOX (cutbox-rows.mjs): the forced cells as the released guide's own fill.sh prints them over the translation f5d741d99160bc13… (all of the seat's roots in one cut). By AI agents, Wed Nov 11 2026. No macro, syntax, notation, axiom, sorry.
-/
import Derived.Test.YtlbihfbeamlacaaChecked
import GoSem.Claim
import GoSem.ClaimJoined
import GoSem.ClaimMapViews
import Derived.JoinedTies
import Derived.KernelRfl
namespace Go.Proofs.Ytlbihfbeamlacaa
/- THE CELL 'sum', in the pinned program and in every row, IS THE sha256 OF THE DUMP (.gsa) THAT YtlbihfbeamlacaaProg.lean LOADS. Nothing in Lean hashes anything: it is a label: what it is worth is what the hold of that sum in a sandbox is worth. -/
noncomputable def Try.pinned : Pinned := { name := "ytlbihfbeamlacaa", sum := "f5d741d99160bc13b37d2aea78e7d3f1e5120044aad0cf3fffeb044b0dfd8ec1", checked := Try.checked }
namespace Rows
def none {H : Type} : Left H := { results := [], args := [] }

/-- 'tonneaulaw13.HierTells': WHATEVER THE INPUT: true; the input reads as it did. -/
def hierTellsSpec : ChangeSpec := { name := "hierTells", fn := fun _ => fun
  | [d1, d2, d3, d4] => { results := [.lit (.bool true)], args := [d1, d2, d3, d4] }
  | _ => none }
def hierTellsRow : OpenClaim := { program := "ytlbihfbeamlacaa", sum := "f5d741d99160bc13b37d2aea78e7d3f1e5120044aad0cf3fffeb044b0dfd8ec1", func := "tonneau/tonneaulaw13.HierTells", spec := "hierTells", unfollowed := true, recurses := true, plainKeys := false, apart := false }
def HierTellsSaid : Prop := hierTellsRow.holds Try.pinned (OpenSpec.ofChange hierTellsSpec)

/-- ITS FALSE NEIGHBOUR: 'it returns false'. Refute it at one input. -/
def hierTellsWrong : ChangeSpec := { name := "hierTells", fn := fun _ => fun
  | [d1, d2, d3, d4] => { results := [.lit (.bool false)], args := [d1, d2, d3, d4] }
  | _ => none }
def HierTellsWrongFalsely : Prop := hierTellsRow.holds Try.pinned (OpenSpec.ofChange hierTellsWrong)

/-- 'tonneaulaw13.HierShortest': WHATEVER THE INPUT: true; the input reads as it did. -/
def hierShortestSpec : ChangeSpec := { name := "hierShortest", fn := fun _ => fun
  | [d1, d2, d3, d4, d5] => { results := [.lit (.bool true)], args := [d1, d2, d3, d4, d5] }
  | _ => none }
def hierShortestRow : OpenClaim := { program := "ytlbihfbeamlacaa", sum := "f5d741d99160bc13b37d2aea78e7d3f1e5120044aad0cf3fffeb044b0dfd8ec1", func := "tonneau/tonneaulaw13.HierShortest", spec := "hierShortest", unfollowed := true, recurses := true, plainKeys := false, apart := false }
def HierShortestSaid : Prop := hierShortestRow.holds Try.pinned (OpenSpec.ofChange hierShortestSpec)

/-- ITS FALSE NEIGHBOUR: 'it returns false'. Refute it at one input. -/
def hierShortestWrong : ChangeSpec := { name := "hierShortest", fn := fun _ => fun
  | [d1, d2, d3, d4, d5] => { results := [.lit (.bool false)], args := [d1, d2, d3, d4, d5] }
  | _ => none }
def HierShortestWrongFalsely : Prop := hierShortestRow.holds Try.pinned (OpenSpec.ofChange hierShortestWrong)

/-- 'tonneaulaw13.HierPaths': WHATEVER THE INPUT: true; the input reads as it did. -/
def hierPathsSpec : ChangeSpec := { name := "hierPaths", fn := fun _ => fun
  | [d1, d2, d3, d4, d5] => { results := [.lit (.bool true)], args := [d1, d2, d3, d4, d5] }
  | _ => none }
def hierPathsRow : OpenClaim := { program := "ytlbihfbeamlacaa", sum := "f5d741d99160bc13b37d2aea78e7d3f1e5120044aad0cf3fffeb044b0dfd8ec1", func := "tonneau/tonneaulaw13.HierPaths", spec := "hierPaths", unfollowed := true, recurses := true, plainKeys := false, apart := false }
def HierPathsSaid : Prop := hierPathsRow.holds Try.pinned (OpenSpec.ofChange hierPathsSpec)

/-- ITS FALSE NEIGHBOUR: 'it returns false'. Refute it at one input. -/
def hierPathsWrong : ChangeSpec := { name := "hierPaths", fn := fun _ => fun
  | [d1, d2, d3, d4, d5] => { results := [.lit (.bool false)], args := [d1, d2, d3, d4, d5] }
  | _ => none }
def HierPathsWrongFalsely : Prop := hierPathsRow.holds Try.pinned (OpenSpec.ofChange hierPathsWrong)

/-- 'tonneaulaw13.HierUnpacks': WHATEVER THE INPUT: true; the input reads as it did. -/
def hierUnpacksSpec : ChangeSpec := { name := "hierUnpacks", fn := fun _ => fun
  | [d1, d2, d3] => { results := [.lit (.bool true)], args := [d1, d2, d3] }
  | _ => none }
def hierUnpacksRow : OpenClaim := { program := "ytlbihfbeamlacaa", sum := "f5d741d99160bc13b37d2aea78e7d3f1e5120044aad0cf3fffeb044b0dfd8ec1", func := "tonneau/tonneaulaw13.HierUnpacks", spec := "hierUnpacks", unfollowed := true, recurses := true, plainKeys := false, apart := false }
def HierUnpacksSaid : Prop := hierUnpacksRow.holds Try.pinned (OpenSpec.ofChange hierUnpacksSpec)

/-- ITS FALSE NEIGHBOUR: 'it returns false'. Refute it at one input. -/
def hierUnpacksWrong : ChangeSpec := { name := "hierUnpacks", fn := fun _ => fun
  | [d1, d2, d3] => { results := [.lit (.bool false)], args := [d1, d2, d3] }
  | _ => none }
def HierUnpacksWrongFalsely : Prop := hierUnpacksRow.holds Try.pinned (OpenSpec.ofChange hierUnpacksWrong)

/-- 'tonneaulaw13.HierMore': WHATEVER THE INPUT: true; the input reads as it did. -/
def hierMoreSpec : ChangeSpec := { name := "hierMore", fn := fun _ => fun
  | [d1, d2, d3, d4, d5] => { results := [.lit (.bool true)], args := [d1, d2, d3, d4, d5] }
  | _ => none }
def hierMoreRow : OpenClaim := { program := "ytlbihfbeamlacaa", sum := "f5d741d99160bc13b37d2aea78e7d3f1e5120044aad0cf3fffeb044b0dfd8ec1", func := "tonneau/tonneaulaw13.HierMore", spec := "hierMore", unfollowed := true, recurses := true, plainKeys := false, apart := false }
def HierMoreSaid : Prop := hierMoreRow.holds Try.pinned (OpenSpec.ofChange hierMoreSpec)

/-- ITS FALSE NEIGHBOUR: 'it returns false'. Refute it at one input. -/
def hierMoreWrong : ChangeSpec := { name := "hierMore", fn := fun _ => fun
  | [d1, d2, d3, d4, d5] => { results := [.lit (.bool false)], args := [d1, d2, d3, d4, d5] }
  | _ => none }
def HierMoreWrongFalsely : Prop := hierMoreRow.holds Try.pinned (OpenSpec.ofChange hierMoreWrong)

/- THE SECOND FORM. 'bulk': how many values and letters a reading holds, each counted each time it is reached (what is shared counts as often as it is met; a slice's spare places count too). A statement '..UptoSaid' is the law's where the arguments, and the package variables that the reading takes, are together of bulk at most 1048576: NARROWER than '..Said'. Prove '..Said' where nothing that the law and all that it calls make is longer than what came in: it says more and counts as full. Else prove '..UptoSaid'. A law counts once. -/
mutual
def uptoBulk {H : Type} : DataW H → Nat
  | .lit (.string bytes) => bytes.length + 1
  | .lit _ => 1
  | .nil => 1
  | .ptr d => uptoBulk d + 1
  | .slice elems spare => uptoBulkAll elems + uptoBulkAll spare + 1
  | .agg parts => uptoBulkAll parts + 1
  | .iface _ d => uptoBulk d + 1
  | .map entries => uptoBulkEntries entries + 1
  | .held _ => 1
def uptoBulkAll {H : Type} : List (DataW H) → Nat
  | [] => 0
  | d :: r => uptoBulk d + uptoBulkAll r
def uptoBulkEntries {H : Type} : List (Lit × DataW H) → Nat
  | [] => 0
  | x :: r => uptoBulkEntry x + uptoBulkEntries r
def uptoBulkEntry {H : Type} : Lit × DataW H → Nat
  | (.string bytes, d) => bytes.length + uptoBulk d + 1
  | (_, d) => uptoBulk d + 1
 end
def uptoSmall : (H : Type) → List (DataW H) → Bool := fun _ ds => decide (uptoBulkAll ds ≤ 1048576)
def OpenSpec.upto (s : _root_.Go.ChangeSpec) : _root_.Go.OpenSpec := { _root_.Go.OpenSpec.ofChange s with cond := some uptoSmall }

/-- 'tonneaulaw13.HierTells', WHERE WHAT IT READS IS OF BULK AT MOST 1048576: true; the input reads as it did. -/
def hierTellsUptoRow : OpenClaim := { program := "ytlbihfbeamlacaa", sum := "f5d741d99160bc13b37d2aea78e7d3f1e5120044aad0cf3fffeb044b0dfd8ec1", func := "tonneau/tonneaulaw13.HierTells", spec := "hierTells", unfollowed := true, recurses := true, plainKeys := false, apart := false, narrowed := true }
def HierTellsUptoSaid : Prop := hierTellsUptoRow.holds Try.pinned (OpenSpec.upto hierTellsSpec)

/-- 'tonneaulaw13.HierShortest', WHERE WHAT IT READS IS OF BULK AT MOST 1048576: true; the input reads as it did. -/
def hierShortestUptoRow : OpenClaim := { program := "ytlbihfbeamlacaa", sum := "f5d741d99160bc13b37d2aea78e7d3f1e5120044aad0cf3fffeb044b0dfd8ec1", func := "tonneau/tonneaulaw13.HierShortest", spec := "hierShortest", unfollowed := true, recurses := true, plainKeys := false, apart := false, narrowed := true }
def HierShortestUptoSaid : Prop := hierShortestUptoRow.holds Try.pinned (OpenSpec.upto hierShortestSpec)

/-- 'tonneaulaw13.HierPaths', WHERE WHAT IT READS IS OF BULK AT MOST 1048576: true; the input reads as it did. -/
def hierPathsUptoRow : OpenClaim := { program := "ytlbihfbeamlacaa", sum := "f5d741d99160bc13b37d2aea78e7d3f1e5120044aad0cf3fffeb044b0dfd8ec1", func := "tonneau/tonneaulaw13.HierPaths", spec := "hierPaths", unfollowed := true, recurses := true, plainKeys := false, apart := false, narrowed := true }
def HierPathsUptoSaid : Prop := hierPathsUptoRow.holds Try.pinned (OpenSpec.upto hierPathsSpec)

/-- 'tonneaulaw13.HierUnpacks', WHERE WHAT IT READS IS OF BULK AT MOST 1048576: true; the input reads as it did. -/
def hierUnpacksUptoRow : OpenClaim := { program := "ytlbihfbeamlacaa", sum := "f5d741d99160bc13b37d2aea78e7d3f1e5120044aad0cf3fffeb044b0dfd8ec1", func := "tonneau/tonneaulaw13.HierUnpacks", spec := "hierUnpacks", unfollowed := true, recurses := true, plainKeys := false, apart := false, narrowed := true }
def HierUnpacksUptoSaid : Prop := hierUnpacksUptoRow.holds Try.pinned (OpenSpec.upto hierUnpacksSpec)

/-- 'tonneaulaw13.HierMore', WHERE WHAT IT READS IS OF BULK AT MOST 1048576: true; the input reads as it did. -/
def hierMoreUptoRow : OpenClaim := { program := "ytlbihfbeamlacaa", sum := "f5d741d99160bc13b37d2aea78e7d3f1e5120044aad0cf3fffeb044b0dfd8ec1", func := "tonneau/tonneaulaw13.HierMore", spec := "hierMore", unfollowed := true, recurses := true, plainKeys := false, apart := false, narrowed := true }
def HierMoreUptoSaid : Prop := hierMoreUptoRow.holds Try.pinned (OpenSpec.upto hierMoreSpec)

end Rows
end Go.Proofs.Ytlbihfbeamlacaa
