/-
  NARROWER THAN 'FOR EVERY INPUT', by the rows' own cells (each row's printed sentence says how): EvalTells: loops, laid · EvalLets: loops, laid · EvalLazy: loops, laid · EvalWhole: loops, laid · EvalSound: loops, laid.
  DERIVED. THE GIVEN ROWS OF THIS SEAT. 5 by the template 'for every input the law returns true; each argument reads behind the call as it read before'; 0 by the template 'total and deterministic' (their statements: YtcgocdhhneckhaaGreatDoorTotals.lean).
  GIVEN WITH THE SEED: the statements are not yours to turn. If you find one false, say at which input.
  Laid BY PROGRAM, IN A SANDBOX (cutbox-rows.mjs): the forced cells as the released guide's own fill.sh prints them over the translation 9562ef11d5231e12… (all of the seat's roots in one cut). By AI agents, Wed Nov 11 2026. No macro, syntax, notation, axiom, sorry.
-/
import Derived.Test.YtcgocdhhneckhaaGreatDoorChecked
import GoSem.Claim
import GoSem.ClaimJoined
import GoSem.ClaimMapViews
import Derived.JoinedTies
import Derived.KernelRfl
namespace Go.Proofs.YtcgocdhhneckhaaGreatDoor
/- THE CELL 'sum', in the pinned program and in every row, IS THE sha256 OF THE DUMP (.gsa) THAT YtcgocdhhneckhaaGreatDoorProg.lean LOADS. Nothing in Lean hashes anything: it is a label: what it is worth is what the hold of that sum in a sandbox is worth. -/
noncomputable def Tryz.pinned : Pinned := { name := "ytcgocdhhneckhaagreatdoor", sum := "9562ef11d5231e12a6b0e438c8467eed40682867a9c5aef837f066a43fbd1e1d", checked := Tryz.checked }
namespace Rows
def none {H : Type} : Left H := { results := [], args := [] }

/- WHAT THE LISTED PACKAGE-LEVEL VARIABLES READ AS WHEN THE CALL BEGINS. Each datum BY PROGRAM (the guide's laid-datum.mjs) off the statement by which the dump's own 'gosem.cut.vars' lays the variable. In a bare row this is a premise. The card (YtcgocdhhneckhaaGreatDoorCards.lean) ties it to the program's text. -/
def laid_tonneau_lex_signs {H : Type} : DataW H := .agg [.lit (.string [61, 61]), .lit (.string [59]), .lit (.string [44]), .lit (.string [61]), .lit (.string [60]), .lit (.string [43]), .lit (.string [45]), .lit (.string [42]), .lit (.string [47]), .lit (.string [40]), .lit (.string [41])]

/-- 'tonneaulaw32.EvalTells': WHATEVER THE INPUT: true; the input reads as it did. -/
def evalTellsSpec : ChangeSpec := { name := "evalTells", fn := fun _ => fun
  | [d1, d2, d3, d4] => { results := [.lit (.bool true)], args := [d1, d2, d3, d4] }
  | _ => none }
def evalTellsRow : OpenClaim := { program := "ytcgocdhhneckhaagreatdoor", sum := "9562ef11d5231e12a6b0e438c8467eed40682867a9c5aef837f066a43fbd1e1d", func := "tonneau/tonneaulaw32.EvalTells", spec := "evalTells", unfollowed := true, recurses := true, named := ["tonneau/lex.signs"], loops := true, apart := false, laid := [("tonneau/lex.signs", laid_tonneau_lex_signs)] }
def EvalTellsSaid : Prop := evalTellsRow.holds Tryz.pinned (OpenSpec.ofChange evalTellsSpec)

/-- ITS FALSE NEIGHBOUR: 'it returns false'. Refute it at one input. -/
def evalTellsWrong : ChangeSpec := { name := "evalTells", fn := fun _ => fun
  | [d1, d2, d3, d4] => { results := [.lit (.bool false)], args := [d1, d2, d3, d4] }
  | _ => none }
def EvalTellsWrongFalsely : Prop := evalTellsRow.holds Tryz.pinned (OpenSpec.ofChange evalTellsWrong)

/-- 'tonneaulaw32.EvalLets': WHATEVER THE INPUT: true; the input reads as it did. -/
def evalLetsSpec : ChangeSpec := { name := "evalLets", fn := fun _ => fun
  | [d1, d2, d3, d4, d5] => { results := [.lit (.bool true)], args := [d1, d2, d3, d4, d5] }
  | _ => none }
def evalLetsRow : OpenClaim := { program := "ytcgocdhhneckhaagreatdoor", sum := "9562ef11d5231e12a6b0e438c8467eed40682867a9c5aef837f066a43fbd1e1d", func := "tonneau/tonneaulaw32.EvalLets", spec := "evalLets", unfollowed := true, recurses := true, named := ["tonneau/lex.signs"], loops := true, apart := false, laid := [("tonneau/lex.signs", laid_tonneau_lex_signs)] }
def EvalLetsSaid : Prop := evalLetsRow.holds Tryz.pinned (OpenSpec.ofChange evalLetsSpec)

/-- ITS FALSE NEIGHBOUR: 'it returns false'. Refute it at one input. -/
def evalLetsWrong : ChangeSpec := { name := "evalLets", fn := fun _ => fun
  | [d1, d2, d3, d4, d5] => { results := [.lit (.bool false)], args := [d1, d2, d3, d4, d5] }
  | _ => none }
def EvalLetsWrongFalsely : Prop := evalLetsRow.holds Tryz.pinned (OpenSpec.ofChange evalLetsWrong)

/-- 'tonneaulaw32.EvalLazy': WHATEVER THE INPUT: true; the input reads as it did. -/
def evalLazySpec : ChangeSpec := { name := "evalLazy", fn := fun _ => fun
  | [d1, d2, d3, d4, d5] => { results := [.lit (.bool true)], args := [d1, d2, d3, d4, d5] }
  | _ => none }
def evalLazyRow : OpenClaim := { program := "ytcgocdhhneckhaagreatdoor", sum := "9562ef11d5231e12a6b0e438c8467eed40682867a9c5aef837f066a43fbd1e1d", func := "tonneau/tonneaulaw32.EvalLazy", spec := "evalLazy", unfollowed := true, recurses := true, named := ["tonneau/lex.signs"], loops := true, apart := false, laid := [("tonneau/lex.signs", laid_tonneau_lex_signs)] }
def EvalLazySaid : Prop := evalLazyRow.holds Tryz.pinned (OpenSpec.ofChange evalLazySpec)

/-- ITS FALSE NEIGHBOUR: 'it returns false'. Refute it at one input. -/
def evalLazyWrong : ChangeSpec := { name := "evalLazy", fn := fun _ => fun
  | [d1, d2, d3, d4, d5] => { results := [.lit (.bool false)], args := [d1, d2, d3, d4, d5] }
  | _ => none }
def EvalLazyWrongFalsely : Prop := evalLazyRow.holds Tryz.pinned (OpenSpec.ofChange evalLazyWrong)

/-- 'tonneaulaw32.EvalWhole': WHATEVER THE INPUT: true; the input reads as it did. -/
def evalWholeSpec : ChangeSpec := { name := "evalWhole", fn := fun _ => fun
  | [d1, d2, d3, d4, d5] => { results := [.lit (.bool true)], args := [d1, d2, d3, d4, d5] }
  | _ => none }
def evalWholeRow : OpenClaim := { program := "ytcgocdhhneckhaagreatdoor", sum := "9562ef11d5231e12a6b0e438c8467eed40682867a9c5aef837f066a43fbd1e1d", func := "tonneau/tonneaulaw32.EvalWhole", spec := "evalWhole", unfollowed := true, recurses := true, named := ["tonneau/lex.signs"], loops := true, apart := false, laid := [("tonneau/lex.signs", laid_tonneau_lex_signs)] }
def EvalWholeSaid : Prop := evalWholeRow.holds Tryz.pinned (OpenSpec.ofChange evalWholeSpec)

/-- ITS FALSE NEIGHBOUR: 'it returns false'. Refute it at one input. -/
def evalWholeWrong : ChangeSpec := { name := "evalWhole", fn := fun _ => fun
  | [d1, d2, d3, d4, d5] => { results := [.lit (.bool false)], args := [d1, d2, d3, d4, d5] }
  | _ => none }
def EvalWholeWrongFalsely : Prop := evalWholeRow.holds Tryz.pinned (OpenSpec.ofChange evalWholeWrong)

/-- 'tonneaulaw32.EvalSound': WHATEVER THE INPUT: true; the input reads as it did. -/
def evalSoundSpec : ChangeSpec := { name := "evalSound", fn := fun _ => fun
  | [d1, d2, d3, d4] => { results := [.lit (.bool true)], args := [d1, d2, d3, d4] }
  | _ => none }
def evalSoundRow : OpenClaim := { program := "ytcgocdhhneckhaagreatdoor", sum := "9562ef11d5231e12a6b0e438c8467eed40682867a9c5aef837f066a43fbd1e1d", func := "tonneau/tonneaulaw32.EvalSound", spec := "evalSound", unfollowed := true, recurses := true, named := ["tonneau/lex.signs"], loops := true, apart := false, laid := [("tonneau/lex.signs", laid_tonneau_lex_signs)] }
def EvalSoundSaid : Prop := evalSoundRow.holds Tryz.pinned (OpenSpec.ofChange evalSoundSpec)

/-- ITS FALSE NEIGHBOUR: 'it returns false'. Refute it at one input. -/
def evalSoundWrong : ChangeSpec := { name := "evalSound", fn := fun _ => fun
  | [d1, d2, d3, d4] => { results := [.lit (.bool false)], args := [d1, d2, d3, d4] }
  | _ => none }
def EvalSoundWrongFalsely : Prop := evalSoundRow.holds Tryz.pinned (OpenSpec.ofChange evalSoundWrong)

/- THE SECOND FORM. 'bulk': how many values and letters a reading holds, each counted each time it is reached (what is shared counts as often as it is met; a slice's spare places count too). A statement '..UptoSaid' is the law's where the arguments, and the package variables that the reading takes, are together of bulk at most 1048576: NARROWER than '..Said'. Prove '..Said' where nothing that the law and all that it calls make is longer than what came in: it says more and counts as full. Else prove '..UptoSaid'. A law counts once. -/
mutual
def uptoBulk {H : Type} : DataW H → Nat
  | .lit (.string bytes) => bytes.length + 1
  | .lit _ => 1
  | .nil => 1
  | .ptr d => uptoBulk d + 1
  | .slice elems spare => uptoBulkAll elems + uptoBulkAll spare + 1
  | .agg parts => uptoBulkAll parts + 1
  | .iface _ d => uptoBulk d + 1
  | .map entries => uptoBulkEntries entries + 1
  | .held _ => 1
def uptoBulkAll {H : Type} : List (DataW H) → Nat
  | [] => 0
  | d :: r => uptoBulk d + uptoBulkAll r
def uptoBulkEntries {H : Type} : List (Lit × DataW H) → Nat
  | [] => 0
  | x :: r => uptoBulkEntry x + uptoBulkEntries r
def uptoBulkEntry {H : Type} : Lit × DataW H → Nat
  | (.string bytes, d) => bytes.length + uptoBulk d + 1
  | (_, d) => uptoBulk d + 1
 end
def uptoSmall : (H : Type) → List (DataW H) → Bool := fun _ ds => decide (uptoBulkAll ds ≤ 1048576)
def OpenSpec.upto (s : _root_.Go.ChangeSpec) : _root_.Go.OpenSpec := { _root_.Go.OpenSpec.ofChange s with cond := some uptoSmall }

/-- 'tonneaulaw32.EvalTells', WHERE WHAT IT READS IS OF BULK AT MOST 1048576: true; the input reads as it did. -/
def evalTellsUptoRow : OpenClaim := { program := "ytcgocdhhneckhaagreatdoor", sum := "9562ef11d5231e12a6b0e438c8467eed40682867a9c5aef837f066a43fbd1e1d", func := "tonneau/tonneaulaw32.EvalTells", spec := "evalTells", unfollowed := true, recurses := true, named := ["tonneau/lex.signs"], loops := true, apart := false, laid := [("tonneau/lex.signs", laid_tonneau_lex_signs)], narrowed := true }
def EvalTellsUptoSaid : Prop := evalTellsUptoRow.holds Tryz.pinned (OpenSpec.upto evalTellsSpec)

/-- 'tonneaulaw32.EvalLets', WHERE WHAT IT READS IS OF BULK AT MOST 1048576: true; the input reads as it did. -/
def evalLetsUptoRow : OpenClaim := { program := "ytcgocdhhneckhaagreatdoor", sum := "9562ef11d5231e12a6b0e438c8467eed40682867a9c5aef837f066a43fbd1e1d", func := "tonneau/tonneaulaw32.EvalLets", spec := "evalLets", unfollowed := true, recurses := true, named := ["tonneau/lex.signs"], loops := true, apart := false, laid := [("tonneau/lex.signs", laid_tonneau_lex_signs)], narrowed := true }
def EvalLetsUptoSaid : Prop := evalLetsUptoRow.holds Tryz.pinned (OpenSpec.upto evalLetsSpec)

/-- 'tonneaulaw32.EvalLazy', WHERE WHAT IT READS IS OF BULK AT MOST 1048576: true; the input reads as it did. -/
def evalLazyUptoRow : OpenClaim := { program := "ytcgocdhhneckhaagreatdoor", sum := "9562ef11d5231e12a6b0e438c8467eed40682867a9c5aef837f066a43fbd1e1d", func := "tonneau/tonneaulaw32.EvalLazy", spec := "evalLazy", unfollowed := true, recurses := true, named := ["tonneau/lex.signs"], loops := true, apart := false, laid := [("tonneau/lex.signs", laid_tonneau_lex_signs)], narrowed := true }
def EvalLazyUptoSaid : Prop := evalLazyUptoRow.holds Tryz.pinned (OpenSpec.upto evalLazySpec)

/-- 'tonneaulaw32.EvalWhole', WHERE WHAT IT READS IS OF BULK AT MOST 1048576: true; the input reads as it did. -/
def evalWholeUptoRow : OpenClaim := { program := "ytcgocdhhneckhaagreatdoor", sum := "9562ef11d5231e12a6b0e438c8467eed40682867a9c5aef837f066a43fbd1e1d", func := "tonneau/tonneaulaw32.EvalWhole", spec := "evalWhole", unfollowed := true, recurses := true, named := ["tonneau/lex.signs"], loops := true, apart := false, laid := [("tonneau/lex.signs", laid_tonneau_lex_signs)], narrowed := true }
def EvalWholeUptoSaid : Prop := evalWholeUptoRow.holds Tryz.pinned (OpenSpec.upto evalWholeSpec)

/-- 'tonneaulaw32.EvalSound', WHERE WHAT IT READS IS OF BULK AT MOST 1048576: true; the input reads as it did. -/
def evalSoundUptoRow : OpenClaim := { program := "ytcgocdhhneckhaagreatdoor", sum := "9562ef11d5231e12a6b0e438c8467eed40682867a9c5aef837f066a43fbd1e1d", func := "tonneau/tonneaulaw32.EvalSound", spec := "evalSound", unfollowed := true, recurses := true, named := ["tonneau/lex.signs"], loops := true, apart := false, laid := [("tonneau/lex.signs", laid_tonneau_lex_signs)], narrowed := true }
def EvalSoundUptoSaid : Prop := evalSoundUptoRow.holds Tryz.pinned (OpenSpec.upto evalSoundSpec)

end Rows
end Go.Proofs.YtcgocdhhneckhaaGreatDoor
