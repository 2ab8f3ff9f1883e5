/-
  NARROWER THAN 'FOR EVERY INPUT', by the rows' own cells (each row's printed sentence says how): FareCut: loops · FareTells: loops · FareNames: loops · FareTotal: loops.
  DERIVED. THE GIVEN ROWS OF THIS SEAT. 4 by the template 'for every input the law returns true; each argument reads behind the call as it read before'; 0 by the template 'total and deterministic' (their statements: YtcgocdhhneckhaaGreatTotals.lean).
  GIVEN WITH THE SEED: the statements are not yours to turn. If you find one false, say at which input.
  Laid BY PROGRAM, IN A SANDBOX (cutbox-rows.mjs): the forced cells as the released guide's own fill.sh prints them over the translation b3c5e1f77ac32c4c… (all of the seat's roots in one cut). By AI agents, Wed Nov 11 2026. No macro, syntax, notation, axiom, sorry.
-/
import Derived.Test.YtcgocdhhneckhaaGreatChecked
import GoSem.Claim
import GoSem.ClaimJoined
import GoSem.ClaimMapViews
import Derived.JoinedTies
import Derived.KernelRfl
namespace Go.Proofs.YtcgocdhhneckhaaGreat
/- THE CELL 'sum', in the pinned program and in every row, IS THE sha256 OF THE DUMP (.gsa) THAT YtcgocdhhneckhaaGreatProg.lean LOADS. Nothing in Lean hashes anything: it is a label: what it is worth is what the hold of that sum in a sandbox is worth. -/
noncomputable def Tryz.pinned : Pinned := { name := "ytcgocdhhneckhaagreat", sum := "b3c5e1f77ac32c4ce38d399597a2584242e3ca57ce704020a1a450e3950009e1", checked := Tryz.checked }
namespace Rows
def none {H : Type} : Left H := { results := [], args := [] }

/-- 'tonneaulaw33.FareCut': WHATEVER THE INPUT: true; the input reads as it did. -/
def fareCutSpec : ChangeSpec := { name := "fareCut", fn := fun _ => fun
  | [d1, d2, d3] => { results := [.lit (.bool true)], args := [d1, d2, d3] }
  | _ => none }
def fareCutRow : OpenClaim := { program := "ytcgocdhhneckhaagreat", sum := "b3c5e1f77ac32c4ce38d399597a2584242e3ca57ce704020a1a450e3950009e1", func := "tonneau/tonneaulaw33.FareCut", spec := "fareCut", unfollowed := true, recurses := true, loops := true, apart := false }
def FareCutSaid : Prop := fareCutRow.holds Tryz.pinned (OpenSpec.ofChange fareCutSpec)

/-- ITS FALSE NEIGHBOUR: 'it returns false'. Refute it at one input. -/
def fareCutWrong : ChangeSpec := { name := "fareCut", fn := fun _ => fun
  | [d1, d2, d3] => { results := [.lit (.bool false)], args := [d1, d2, d3] }
  | _ => none }
def FareCutWrongFalsely : Prop := fareCutRow.holds Tryz.pinned (OpenSpec.ofChange fareCutWrong)

/-- 'tonneaulaw33.FareTells': WHATEVER THE INPUT: true; the input reads as it did. -/
def fareTellsSpec : ChangeSpec := { name := "fareTells", fn := fun _ => fun
  | [d1, d2, d3, d4, d5, d6] => { results := [.lit (.bool true)], args := [d1, d2, d3, d4, d5, d6] }
  | _ => none }
def fareTellsRow : OpenClaim := { program := "ytcgocdhhneckhaagreat", sum := "b3c5e1f77ac32c4ce38d399597a2584242e3ca57ce704020a1a450e3950009e1", func := "tonneau/tonneaulaw33.FareTells", spec := "fareTells", unfollowed := true, recurses := true, loops := true, apart := false }
def FareTellsSaid : Prop := fareTellsRow.holds Tryz.pinned (OpenSpec.ofChange fareTellsSpec)

/-- ITS FALSE NEIGHBOUR: 'it returns false'. Refute it at one input. -/
def fareTellsWrong : ChangeSpec := { name := "fareTells", fn := fun _ => fun
  | [d1, d2, d3, d4, d5, d6] => { results := [.lit (.bool false)], args := [d1, d2, d3, d4, d5, d6] }
  | _ => none }
def FareTellsWrongFalsely : Prop := fareTellsRow.holds Tryz.pinned (OpenSpec.ofChange fareTellsWrong)

/-- 'tonneaulaw33.FareNames': WHATEVER THE INPUT: true; the input reads as it did. -/
def fareNamesSpec : ChangeSpec := { name := "fareNames", fn := fun _ => fun
  | [d1, d2, d3, d4, d5, d6] => { results := [.lit (.bool true)], args := [d1, d2, d3, d4, d5, d6] }
  | _ => none }
def fareNamesRow : OpenClaim := { program := "ytcgocdhhneckhaagreat", sum := "b3c5e1f77ac32c4ce38d399597a2584242e3ca57ce704020a1a450e3950009e1", func := "tonneau/tonneaulaw33.FareNames", spec := "fareNames", unfollowed := true, recurses := true, loops := true, apart := false }
def FareNamesSaid : Prop := fareNamesRow.holds Tryz.pinned (OpenSpec.ofChange fareNamesSpec)

/-- ITS FALSE NEIGHBOUR: 'it returns false'. Refute it at one input. -/
def fareNamesWrong : ChangeSpec := { name := "fareNames", fn := fun _ => fun
  | [d1, d2, d3, d4, d5, d6] => { results := [.lit (.bool false)], args := [d1, d2, d3, d4, d5, d6] }
  | _ => none }
def FareNamesWrongFalsely : Prop := fareNamesRow.holds Tryz.pinned (OpenSpec.ofChange fareNamesWrong)

/-- 'tonneaulaw33.FareTotal': WHATEVER THE INPUT: true; the input reads as it did. -/
def fareTotalSpec : ChangeSpec := { name := "fareTotal", fn := fun _ => fun
  | [d1, d2, d3, d4] => { results := [.lit (.bool true)], args := [d1, d2, d3, d4] }
  | _ => none }
def fareTotalRow : OpenClaim := { program := "ytcgocdhhneckhaagreat", sum := "b3c5e1f77ac32c4ce38d399597a2584242e3ca57ce704020a1a450e3950009e1", func := "tonneau/tonneaulaw33.FareTotal", spec := "fareTotal", unfollowed := true, recurses := true, loops := true, apart := false }
def FareTotalSaid : Prop := fareTotalRow.holds Tryz.pinned (OpenSpec.ofChange fareTotalSpec)

/-- ITS FALSE NEIGHBOUR: 'it returns false'. Refute it at one input. -/
def fareTotalWrong : ChangeSpec := { name := "fareTotal", fn := fun _ => fun
  | [d1, d2, d3, d4] => { results := [.lit (.bool false)], args := [d1, d2, d3, d4] }
  | _ => none }
def FareTotalWrongFalsely : Prop := fareTotalRow.holds Tryz.pinned (OpenSpec.ofChange fareTotalWrong)

/- THE SECOND FORM. 'bulk': how many values and letters a reading holds, each counted each time it is reached (what is shared counts as often as it is met; a slice's spare places count too). A statement '..UptoSaid' is the law's where the arguments, and the package variables that the reading takes, are together of bulk at most 1048576: NARROWER than '..Said'. Prove '..Said' where nothing that the law and all that it calls make is longer than what came in: it says more and counts as full. Else prove '..UptoSaid'. A law counts once. -/
mutual
def uptoBulk {H : Type} : DataW H → Nat
  | .lit (.string bytes) => bytes.length + 1
  | .lit _ => 1
  | .nil => 1
  | .ptr d => uptoBulk d + 1
  | .slice elems spare => uptoBulkAll elems + uptoBulkAll spare + 1
  | .agg parts => uptoBulkAll parts + 1
  | .iface _ d => uptoBulk d + 1
  | .map entries => uptoBulkEntries entries + 1
  | .held _ => 1
def uptoBulkAll {H : Type} : List (DataW H) → Nat
  | [] => 0
  | d :: r => uptoBulk d + uptoBulkAll r
def uptoBulkEntries {H : Type} : List (Lit × DataW H) → Nat
  | [] => 0
  | x :: r => uptoBulkEntry x + uptoBulkEntries r
def uptoBulkEntry {H : Type} : Lit × DataW H → Nat
  | (.string bytes, d) => bytes.length + uptoBulk d + 1
  | (_, d) => uptoBulk d + 1
 end
def uptoSmall : (H : Type) → List (DataW H) → Bool := fun _ ds => decide (uptoBulkAll ds ≤ 1048576)
def OpenSpec.upto (s : _root_.Go.ChangeSpec) : _root_.Go.OpenSpec := { _root_.Go.OpenSpec.ofChange s with cond := some uptoSmall }

/-- 'tonneaulaw33.FareCut', WHERE WHAT IT READS IS OF BULK AT MOST 1048576: true; the input reads as it did. -/
def fareCutUptoRow : OpenClaim := { program := "ytcgocdhhneckhaagreat", sum := "b3c5e1f77ac32c4ce38d399597a2584242e3ca57ce704020a1a450e3950009e1", func := "tonneau/tonneaulaw33.FareCut", spec := "fareCut", unfollowed := true, recurses := true, loops := true, apart := false, narrowed := true }
def FareCutUptoSaid : Prop := fareCutUptoRow.holds Tryz.pinned (OpenSpec.upto fareCutSpec)

/-- 'tonneaulaw33.FareTells', WHERE WHAT IT READS IS OF BULK AT MOST 1048576: true; the input reads as it did. -/
def fareTellsUptoRow : OpenClaim := { program := "ytcgocdhhneckhaagreat", sum := "b3c5e1f77ac32c4ce38d399597a2584242e3ca57ce704020a1a450e3950009e1", func := "tonneau/tonneaulaw33.FareTells", spec := "fareTells", unfollowed := true, recurses := true, loops := true, apart := false, narrowed := true }
def FareTellsUptoSaid : Prop := fareTellsUptoRow.holds Tryz.pinned (OpenSpec.upto fareTellsSpec)

/-- 'tonneaulaw33.FareNames', WHERE WHAT IT READS IS OF BULK AT MOST 1048576: true; the input reads as it did. -/
def fareNamesUptoRow : OpenClaim := { program := "ytcgocdhhneckhaagreat", sum := "b3c5e1f77ac32c4ce38d399597a2584242e3ca57ce704020a1a450e3950009e1", func := "tonneau/tonneaulaw33.FareNames", spec := "fareNames", unfollowed := true, recurses := true, loops := true, apart := false, narrowed := true }
def FareNamesUptoSaid : Prop := fareNamesUptoRow.holds Tryz.pinned (OpenSpec.upto fareNamesSpec)

/-- 'tonneaulaw33.FareTotal', WHERE WHAT IT READS IS OF BULK AT MOST 1048576: true; the input reads as it did. -/
def fareTotalUptoRow : OpenClaim := { program := "ytcgocdhhneckhaagreat", sum := "b3c5e1f77ac32c4ce38d399597a2584242e3ca57ce704020a1a450e3950009e1", func := "tonneau/tonneaulaw33.FareTotal", spec := "fareTotal", unfollowed := true, recurses := true, loops := true, apart := false, narrowed := true }
def FareTotalUptoSaid : Prop := fareTotalUptoRow.holds Tryz.pinned (OpenSpec.upto fareTotalSpec)

end Rows
end Go.Proofs.YtcgocdhhneckhaaGreat
