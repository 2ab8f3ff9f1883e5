/-
  DERIVED. GIVEN WITH THE SEED: THE CARDS: each row of YtpbdjpfbhicmdaaGreatDoorRows.lean that lists a variable, with what it lists TIED to the program's text (the seventh form; the later family's looks); each row that meets fmt, with fmt's text TOLD by the authors' own Lean function (tested against real Go, not proved from fmt's source: count such statements apart). THE CARD IS WHAT COUNTS. Prove the row's statement (the work); the ties are given (YtpbdjpfbhicmdaaGreatDoorTie.lean); close each card by the builder's one call (the guide's Derived/Test/ToyasCard.lean, 'card_holds'). Laid BY PROGRAM, IN A SANDBOX (cutbox-door.mjs). By AI agents, Wed Nov 11 2026. No macro, syntax, notation, axiom, sorry.
-/
import Derived.Test.YtpbdjpfbhicmdaaGreatDoorRows
import GoSem.ClaimSeven
namespace Go.Proofs.YtpbdjpfbhicmdaaGreatDoor
namespace Rows

/-- THE TIED CARD OF 'tonneaulaw35.ChangeTells'. -/
def changeTellsCard : Claim7 := { stood := { row := changeTellsRow, standIns := [], harness := (true, "7b1ef1dc3081f22a58eae3a9fe54a13827a14e763807b6c4d23c00b284209515"), looks := true }, kinds := [], alts := [], laidByText := true, laidKinds := [.data], laidTests := true, laidLooks := .later }
def ChangeTellsCardSaid : Prop := Claim7.holds Tryz.pinned (.plain (OpenSpec.ofChange changeTellsSpec)) changeTellsCard

/-- THE TIED CARD OF 'tonneaulaw35.ChangeBefore'. -/
def changeBeforeCard : Claim7 := { stood := { row := changeBeforeRow, standIns := [], harness := (true, "7b1ef1dc3081f22a58eae3a9fe54a13827a14e763807b6c4d23c00b284209515"), looks := true }, kinds := [], alts := [], laidByText := true, laidKinds := [.data], laidTests := true, laidLooks := .later }
def ChangeBeforeCardSaid : Prop := Claim7.holds Tryz.pinned (.plain (OpenSpec.ofChange changeBeforeSpec)) changeBeforeCard

/-- THE TIED CARD OF 'tonneaulaw35.ChangeKeeps'. -/
def changeKeepsCard : Claim7 := { stood := { row := changeKeepsRow, standIns := [], harness := (true, "7b1ef1dc3081f22a58eae3a9fe54a13827a14e763807b6c4d23c00b284209515"), looks := true }, kinds := [], alts := [], laidByText := true, laidKinds := [.data], laidTests := true, laidLooks := .later }
def ChangeKeepsCardSaid : Prop := Claim7.holds Tryz.pinned (.plain (OpenSpec.ofChange changeKeepsSpec)) changeKeepsCard

/-- THE TIED CARD OF 'tonneaulaw35.ChangeAt'. -/
def changeAtCard : Claim7 := { stood := { row := changeAtRow, standIns := [], harness := (true, "7b1ef1dc3081f22a58eae3a9fe54a13827a14e763807b6c4d23c00b284209515"), looks := true }, kinds := [], alts := [], laidByText := true, laidKinds := [.data], laidTests := true, laidLooks := .later }
def ChangeAtCardSaid : Prop := Claim7.holds Tryz.pinned (.plain (OpenSpec.ofChange changeAtSpec)) changeAtCard

/-- THE SECOND FORM's CARD OF 'tonneaulaw35.ChangeTells'. -/
def changeTellsUptoCard : Claim7 := { stood := { row := changeTellsUptoRow, standIns := [], harness := (true, "7b1ef1dc3081f22a58eae3a9fe54a13827a14e763807b6c4d23c00b284209515"), looks := true }, kinds := [], alts := [], laidByText := true, laidKinds := [.data], laidTests := true, laidLooks := .later }
def ChangeTellsUptoCardSaid : Prop := Claim7.holds Tryz.pinned (.plain (OpenSpec.upto changeTellsSpec)) changeTellsUptoCard

/-- THE SECOND FORM's CARD OF 'tonneaulaw35.ChangeBefore'. -/
def changeBeforeUptoCard : Claim7 := { stood := { row := changeBeforeUptoRow, standIns := [], harness := (true, "7b1ef1dc3081f22a58eae3a9fe54a13827a14e763807b6c4d23c00b284209515"), looks := true }, kinds := [], alts := [], laidByText := true, laidKinds := [.data], laidTests := true, laidLooks := .later }
def ChangeBeforeUptoCardSaid : Prop := Claim7.holds Tryz.pinned (.plain (OpenSpec.upto changeBeforeSpec)) changeBeforeUptoCard

/-- THE SECOND FORM's CARD OF 'tonneaulaw35.ChangeKeeps'. -/
def changeKeepsUptoCard : Claim7 := { stood := { row := changeKeepsUptoRow, standIns := [], harness := (true, "7b1ef1dc3081f22a58eae3a9fe54a13827a14e763807b6c4d23c00b284209515"), looks := true }, kinds := [], alts := [], laidByText := true, laidKinds := [.data], laidTests := true, laidLooks := .later }
def ChangeKeepsUptoCardSaid : Prop := Claim7.holds Tryz.pinned (.plain (OpenSpec.upto changeKeepsSpec)) changeKeepsUptoCard

/-- THE SECOND FORM's CARD OF 'tonneaulaw35.ChangeAt'. -/
def changeAtUptoCard : Claim7 := { stood := { row := changeAtUptoRow, standIns := [], harness := (true, "7b1ef1dc3081f22a58eae3a9fe54a13827a14e763807b6c4d23c00b284209515"), looks := true }, kinds := [], alts := [], laidByText := true, laidKinds := [.data], laidTests := true, laidLooks := .later }
def ChangeAtUptoCardSaid : Prop := Claim7.holds Tryz.pinned (.plain (OpenSpec.upto changeAtSpec)) changeAtUptoCard
end Rows
end Go.Proofs.YtpbdjpfbhicmdaaGreatDoor
