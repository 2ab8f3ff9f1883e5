/-
  NARROWER THAN 'FOR EVERY INPUT', by the rows' own cells (each row's printed sentence says how): ChangeTells: loops, laid · ChangeBefore: laid · ChangeKeeps: loops, laid · ChangeAt: laid.
  DERIVED. THE GIVEN ROWS OF THIS SEAT. 4 by the template 'for every input the law returns true; each argument reads behind the call as it read before'; 0 by the template 'total and deterministic' (their statements: YtpbdjpfbhicmdaaGreatDoorTotals.lean).
  GIVEN WITH THE SEED: the statements are not yours to turn. If you find one false, say at which input.
  Laid BY PROGRAM, IN A SANDBOX (cutbox-rows.mjs): the forced cells as the released guide's own fill.sh prints them over the translation 5bb3b47cd832f67f… (all of the seat's roots in one cut). By AI agents, Wed Nov 11 2026. No macro, syntax, notation, axiom, sorry.
-/
import Derived.Test.YtpbdjpfbhicmdaaGreatDoorChecked
import GoSem.Claim
import GoSem.ClaimJoined
import GoSem.ClaimMapViews
import Derived.JoinedTies
import Derived.KernelRfl
namespace Go.Proofs.YtpbdjpfbhicmdaaGreatDoor
/- THE CELL 'sum', in the pinned program and in every row, IS THE sha256 OF THE DUMP (.gsa) THAT YtpbdjpfbhicmdaaGreatDoorProg.lean LOADS. Nothing in Lean hashes anything: it is a label: what it is worth is what the hold of that sum in a sandbox is worth. -/
noncomputable def Tryz.pinned : Pinned := { name := "ytpbdjpfbhicmdaagreatdoor", sum := "5bb3b47cd832f67fda871bfa99beb839d75a7f9266b806c3258f93ffcadf736c", checked := Tryz.checked }
namespace Rows
def none {H : Type} : Left H := { results := [], args := [] }

/- WHAT THE LISTED PACKAGE-LEVEL VARIABLES READ AS WHEN THE CALL BEGINS. Each datum BY PROGRAM (the guide's laid-datum.mjs) off the statement by which the dump's own 'gosem.cut.vars' lays the variable. In a bare row this is a premise. The card (YtpbdjpfbhicmdaaGreatDoorCards.lean) ties it to the program's text. -/
def laid_tonneau_lex_signs {H : Type} : DataW H := .agg [.lit (.string [61, 61]), .lit (.string [59]), .lit (.string [44]), .lit (.string [61]), .lit (.string [60]), .lit (.string [43]), .lit (.string [45]), .lit (.string [42]), .lit (.string [47]), .lit (.string [40]), .lit (.string [41])]

/-- 'tonneaulaw35.ChangeTells': WHATEVER THE INPUT: true; the input reads as it did. -/
def changeTellsSpec : ChangeSpec := { name := "changeTells", fn := fun _ => fun
  | [d1, d2, d3, d4, d5] => { results := [.lit (.bool true)], args := [d1, d2, d3, d4, d5] }
  | _ => none }
def changeTellsRow : OpenClaim := { program := "ytpbdjpfbhicmdaagreatdoor", sum := "5bb3b47cd832f67fda871bfa99beb839d75a7f9266b806c3258f93ffcadf736c", func := "tonneau/tonneaulaw35.ChangeTells", spec := "changeTells", unfollowed := true, recurses := true, named := ["tonneau/lex.signs"], loops := true, apart := false, laid := [("tonneau/lex.signs", laid_tonneau_lex_signs)] }
def ChangeTellsSaid : Prop := changeTellsRow.holds Tryz.pinned (OpenSpec.ofChange changeTellsSpec)

/-- ITS FALSE NEIGHBOUR: 'it returns false'. Refute it at one input. -/
def changeTellsWrong : ChangeSpec := { name := "changeTells", fn := fun _ => fun
  | [d1, d2, d3, d4, d5] => { results := [.lit (.bool false)], args := [d1, d2, d3, d4, d5] }
  | _ => none }
def ChangeTellsWrongFalsely : Prop := changeTellsRow.holds Tryz.pinned (OpenSpec.ofChange changeTellsWrong)

/-- 'tonneaulaw35.ChangeBefore': WHATEVER THE INPUT: true; the input reads as it did. -/
def changeBeforeSpec : ChangeSpec := { name := "changeBefore", fn := fun _ => fun
  | [d1, d2, d3, d4] => { results := [.lit (.bool true)], args := [d1, d2, d3, d4] }
  | _ => none }
def changeBeforeRow : OpenClaim := { program := "ytpbdjpfbhicmdaagreatdoor", sum := "5bb3b47cd832f67fda871bfa99beb839d75a7f9266b806c3258f93ffcadf736c", func := "tonneau/tonneaulaw35.ChangeBefore", spec := "changeBefore", unfollowed := true, recurses := true, named := ["tonneau/lex.signs"], apart := false, laid := [("tonneau/lex.signs", laid_tonneau_lex_signs)] }
def ChangeBeforeSaid : Prop := changeBeforeRow.holds Tryz.pinned (OpenSpec.ofChange changeBeforeSpec)

/-- ITS FALSE NEIGHBOUR: 'it returns false'. Refute it at one input. -/
def changeBeforeWrong : ChangeSpec := { name := "changeBefore", fn := fun _ => fun
  | [d1, d2, d3, d4] => { results := [.lit (.bool false)], args := [d1, d2, d3, d4] }
  | _ => none }
def ChangeBeforeWrongFalsely : Prop := changeBeforeRow.holds Tryz.pinned (OpenSpec.ofChange changeBeforeWrong)

/-- 'tonneaulaw35.ChangeKeeps': WHATEVER THE INPUT: true; the input reads as it did. -/
def changeKeepsSpec : ChangeSpec := { name := "changeKeeps", fn := fun _ => fun
  | [d1, d2, d3] => { results := [.lit (.bool true)], args := [d1, d2, d3] }
  | _ => none }
def changeKeepsRow : OpenClaim := { program := "ytpbdjpfbhicmdaagreatdoor", sum := "5bb3b47cd832f67fda871bfa99beb839d75a7f9266b806c3258f93ffcadf736c", func := "tonneau/tonneaulaw35.ChangeKeeps", spec := "changeKeeps", unfollowed := true, recurses := true, named := ["tonneau/lex.signs"], loops := true, apart := false, laid := [("tonneau/lex.signs", laid_tonneau_lex_signs)] }
def ChangeKeepsSaid : Prop := changeKeepsRow.holds Tryz.pinned (OpenSpec.ofChange changeKeepsSpec)

/-- ITS FALSE NEIGHBOUR: 'it returns false'. Refute it at one input. -/
def changeKeepsWrong : ChangeSpec := { name := "changeKeeps", fn := fun _ => fun
  | [d1, d2, d3] => { results := [.lit (.bool false)], args := [d1, d2, d3] }
  | _ => none }
def ChangeKeepsWrongFalsely : Prop := changeKeepsRow.holds Tryz.pinned (OpenSpec.ofChange changeKeepsWrong)

/-- 'tonneaulaw35.ChangeAt': WHATEVER THE INPUT: true; the input reads as it did. -/
def changeAtSpec : ChangeSpec := { name := "changeAt", fn := fun _ => fun
  | [d1, d2, d3] => { results := [.lit (.bool true)], args := [d1, d2, d3] }
  | _ => none }
def changeAtRow : OpenClaim := { program := "ytpbdjpfbhicmdaagreatdoor", sum := "5bb3b47cd832f67fda871bfa99beb839d75a7f9266b806c3258f93ffcadf736c", func := "tonneau/tonneaulaw35.ChangeAt", spec := "changeAt", unfollowed := true, recurses := true, named := ["tonneau/lex.signs"], apart := false, laid := [("tonneau/lex.signs", laid_tonneau_lex_signs)] }
def ChangeAtSaid : Prop := changeAtRow.holds Tryz.pinned (OpenSpec.ofChange changeAtSpec)

/-- ITS FALSE NEIGHBOUR: 'it returns false'. Refute it at one input. -/
def changeAtWrong : ChangeSpec := { name := "changeAt", fn := fun _ => fun
  | [d1, d2, d3] => { results := [.lit (.bool false)], args := [d1, d2, d3] }
  | _ => none }
def ChangeAtWrongFalsely : Prop := changeAtRow.holds Tryz.pinned (OpenSpec.ofChange changeAtWrong)

/- THE SECOND FORM. 'bulk': how many values and letters a reading holds, each counted each time it is reached (what is shared counts as often as it is met; a slice's spare places count too). A statement '..UptoSaid' is the law's where the arguments, and the package variables that the reading takes, are together of bulk at most 1048576: NARROWER than '..Said'. Prove '..Said' where nothing that the law and all that it calls make is longer than what came in: it says more and counts as full. Else prove '..UptoSaid'. A law counts once. -/
mutual
def uptoBulk {H : Type} : DataW H → Nat
  | .lit (.string bytes) => bytes.length + 1
  | .lit _ => 1
  | .nil => 1
  | .ptr d => uptoBulk d + 1
  | .slice elems spare => uptoBulkAll elems + uptoBulkAll spare + 1
  | .agg parts => uptoBulkAll parts + 1
  | .iface _ d => uptoBulk d + 1
  | .map entries => uptoBulkEntries entries + 1
  | .held _ => 1
def uptoBulkAll {H : Type} : List (DataW H) → Nat
  | [] => 0
  | d :: r => uptoBulk d + uptoBulkAll r
def uptoBulkEntries {H : Type} : List (Lit × DataW H) → Nat
  | [] => 0
  | x :: r => uptoBulkEntry x + uptoBulkEntries r
def uptoBulkEntry {H : Type} : Lit × DataW H → Nat
  | (.string bytes, d) => bytes.length + uptoBulk d + 1
  | (_, d) => uptoBulk d + 1
 end
def uptoSmall : (H : Type) → List (DataW H) → Bool := fun _ ds => decide (uptoBulkAll ds ≤ 1048576)
def OpenSpec.upto (s : _root_.Go.ChangeSpec) : _root_.Go.OpenSpec := { _root_.Go.OpenSpec.ofChange s with cond := some uptoSmall }

/-- 'tonneaulaw35.ChangeTells', WHERE WHAT IT READS IS OF BULK AT MOST 1048576: true; the input reads as it did. -/
def changeTellsUptoRow : OpenClaim := { program := "ytpbdjpfbhicmdaagreatdoor", sum := "5bb3b47cd832f67fda871bfa99beb839d75a7f9266b806c3258f93ffcadf736c", func := "tonneau/tonneaulaw35.ChangeTells", spec := "changeTells", unfollowed := true, recurses := true, named := ["tonneau/lex.signs"], loops := true, apart := false, laid := [("tonneau/lex.signs", laid_tonneau_lex_signs)], narrowed := true }
def ChangeTellsUptoSaid : Prop := changeTellsUptoRow.holds Tryz.pinned (OpenSpec.upto changeTellsSpec)

/-- 'tonneaulaw35.ChangeBefore', WHERE WHAT IT READS IS OF BULK AT MOST 1048576: true; the input reads as it did. -/
def changeBeforeUptoRow : OpenClaim := { program := "ytpbdjpfbhicmdaagreatdoor", sum := "5bb3b47cd832f67fda871bfa99beb839d75a7f9266b806c3258f93ffcadf736c", func := "tonneau/tonneaulaw35.ChangeBefore", spec := "changeBefore", unfollowed := true, recurses := true, named := ["tonneau/lex.signs"], apart := false, laid := [("tonneau/lex.signs", laid_tonneau_lex_signs)], narrowed := true }
def ChangeBeforeUptoSaid : Prop := changeBeforeUptoRow.holds Tryz.pinned (OpenSpec.upto changeBeforeSpec)

/-- 'tonneaulaw35.ChangeKeeps', WHERE WHAT IT READS IS OF BULK AT MOST 1048576: true; the input reads as it did. -/
def changeKeepsUptoRow : OpenClaim := { program := "ytpbdjpfbhicmdaagreatdoor", sum := "5bb3b47cd832f67fda871bfa99beb839d75a7f9266b806c3258f93ffcadf736c", func := "tonneau/tonneaulaw35.ChangeKeeps", spec := "changeKeeps", unfollowed := true, recurses := true, named := ["tonneau/lex.signs"], loops := true, apart := false, laid := [("tonneau/lex.signs", laid_tonneau_lex_signs)], narrowed := true }
def ChangeKeepsUptoSaid : Prop := changeKeepsUptoRow.holds Tryz.pinned (OpenSpec.upto changeKeepsSpec)

/-- 'tonneaulaw35.ChangeAt', WHERE WHAT IT READS IS OF BULK AT MOST 1048576: true; the input reads as it did. -/
def changeAtUptoRow : OpenClaim := { program := "ytpbdjpfbhicmdaagreatdoor", sum := "5bb3b47cd832f67fda871bfa99beb839d75a7f9266b806c3258f93ffcadf736c", func := "tonneau/tonneaulaw35.ChangeAt", spec := "changeAt", unfollowed := true, recurses := true, named := ["tonneau/lex.signs"], apart := false, laid := [("tonneau/lex.signs", laid_tonneau_lex_signs)], narrowed := true }
def ChangeAtUptoSaid : Prop := changeAtUptoRow.holds Tryz.pinned (OpenSpec.upto changeAtSpec)

end Rows
end Go.Proofs.YtpbdjpfbhicmdaaGreatDoor
