/-
  DERIVED. GIVEN WITH THE SEED: THE CARDS: each row of YtmomlipmpgcheaaGreatDoorRows.lean that lists a variable, with what it lists TIED to the program's text (the seventh form; the later family's looks); each row that meets fmt, with fmt's text TOLD by the authors' own Lean function (tested against real Go, not proved from fmt's source: count such statements apart). THE CARD IS WHAT COUNTS. Prove the row's statement (the work); the ties are given (YtmomlipmpgcheaaGreatDoorTie.lean); close each card by the builder's one call (the guide's Derived/Test/ToyasCard.lean, 'card_holds'). Laid BY PROGRAM, IN A SANDBOX (cutbox-door.mjs). By AI agents, Wed Nov 11 2026. No macro, syntax, notation, axiom, sorry.
-/
import Derived.Test.YtmomlipmpgcheaaGreatDoorRows
import GoSem.ClaimSeven
namespace Go.Proofs.YtmomlipmpgcheaaGreatDoor
namespace Rows

/-- THE TIED CARD OF 'tonneaulaw46.WhyTells'. -/
def whyTellsCard : Claim7 := { stood := { row := whyTellsRow, standIns := [], harness := (true, "719d6481e701eefe703d56a68ba9301ddf817b7f66fad969ee58fd1e1d071802"), looks := true }, kinds := [], alts := [], laidByText := true, laidKinds := [.data, .data], laidTests := true, laidLooks := .later }
def WhyTellsCardSaid : Prop := Claim7.holds Tryz.pinned (.plain (OpenSpec.ofChange whyTellsSpec)) whyTellsCard

/-- THE TIED CARD OF 'tonneaulaw46.WhyFollows'. -/
def whyFollowsCard : Claim7 := { stood := { row := whyFollowsRow, standIns := [], harness := (true, "719d6481e701eefe703d56a68ba9301ddf817b7f66fad969ee58fd1e1d071802"), looks := true }, kinds := [], alts := [], laidByText := true, laidKinds := [.data, .data], laidTests := true, laidLooks := .later }
def WhyFollowsCardSaid : Prop := Claim7.holds Tryz.pinned (.plain (OpenSpec.ofChange whyFollowsSpec)) whyFollowsCard

/-- THE TIED CARD OF 'tonneaulaw46.WhyTurns'. -/
def whyTurnsCard : Claim7 := { stood := { row := whyTurnsRow, standIns := [], harness := (true, "719d6481e701eefe703d56a68ba9301ddf817b7f66fad969ee58fd1e1d071802"), looks := true }, kinds := [], alts := [], laidByText := true, laidKinds := [.data, .data], laidTests := true, laidLooks := .later }
def WhyTurnsCardSaid : Prop := Claim7.holds Tryz.pinned (.plain (OpenSpec.ofChange whyTurnsSpec)) whyTurnsCard

/-- THE TIED CARD OF 'tonneaulaw46.WhyNames'. -/
def whyNamesCard : Claim7 := { stood := { row := whyNamesRow, standIns := [], harness := (true, "719d6481e701eefe703d56a68ba9301ddf817b7f66fad969ee58fd1e1d071802"), looks := true }, kinds := [], alts := [], laidByText := true, laidKinds := [.data, .data], laidTests := true, laidLooks := .later }
def WhyNamesCardSaid : Prop := Claim7.holds Tryz.pinned (.plain (OpenSpec.ofChange whyNamesSpec)) whyNamesCard

/-- THE TIED CARD OF 'tonneaulaw46.WhyMeets'. -/
def whyMeetsCard : Claim7 := { stood := { row := whyMeetsRow, standIns := [], harness := (true, "719d6481e701eefe703d56a68ba9301ddf817b7f66fad969ee58fd1e1d071802"), looks := true }, kinds := [], alts := [], laidByText := true, laidKinds := [.data, .data], laidTests := true, laidLooks := .later }
def WhyMeetsCardSaid : Prop := Claim7.holds Tryz.pinned (.plain (OpenSpec.ofChange whyMeetsSpec)) whyMeetsCard

/-- THE SECOND FORM's CARD OF 'tonneaulaw46.WhyTells'. -/
def whyTellsUptoCard : Claim7 := { stood := { row := whyTellsUptoRow, standIns := [], harness := (true, "719d6481e701eefe703d56a68ba9301ddf817b7f66fad969ee58fd1e1d071802"), looks := true }, kinds := [], alts := [], laidByText := true, laidKinds := [.data, .data], laidTests := true, laidLooks := .later }
def WhyTellsUptoCardSaid : Prop := Claim7.holds Tryz.pinned (.plain (OpenSpec.upto whyTellsSpec)) whyTellsUptoCard

/-- THE SECOND FORM's CARD OF 'tonneaulaw46.WhyFollows'. -/
def whyFollowsUptoCard : Claim7 := { stood := { row := whyFollowsUptoRow, standIns := [], harness := (true, "719d6481e701eefe703d56a68ba9301ddf817b7f66fad969ee58fd1e1d071802"), looks := true }, kinds := [], alts := [], laidByText := true, laidKinds := [.data, .data], laidTests := true, laidLooks := .later }
def WhyFollowsUptoCardSaid : Prop := Claim7.holds Tryz.pinned (.plain (OpenSpec.upto whyFollowsSpec)) whyFollowsUptoCard

/-- THE SECOND FORM's CARD OF 'tonneaulaw46.WhyTurns'. -/
def whyTurnsUptoCard : Claim7 := { stood := { row := whyTurnsUptoRow, standIns := [], harness := (true, "719d6481e701eefe703d56a68ba9301ddf817b7f66fad969ee58fd1e1d071802"), looks := true }, kinds := [], alts := [], laidByText := true, laidKinds := [.data, .data], laidTests := true, laidLooks := .later }
def WhyTurnsUptoCardSaid : Prop := Claim7.holds Tryz.pinned (.plain (OpenSpec.upto whyTurnsSpec)) whyTurnsUptoCard

/-- THE SECOND FORM's CARD OF 'tonneaulaw46.WhyNames'. -/
def whyNamesUptoCard : Claim7 := { stood := { row := whyNamesUptoRow, standIns := [], harness := (true, "719d6481e701eefe703d56a68ba9301ddf817b7f66fad969ee58fd1e1d071802"), looks := true }, kinds := [], alts := [], laidByText := true, laidKinds := [.data, .data], laidTests := true, laidLooks := .later }
def WhyNamesUptoCardSaid : Prop := Claim7.holds Tryz.pinned (.plain (OpenSpec.upto whyNamesSpec)) whyNamesUptoCard

/-- THE SECOND FORM's CARD OF 'tonneaulaw46.WhyMeets'. -/
def whyMeetsUptoCard : Claim7 := { stood := { row := whyMeetsUptoRow, standIns := [], harness := (true, "719d6481e701eefe703d56a68ba9301ddf817b7f66fad969ee58fd1e1d071802"), looks := true }, kinds := [], alts := [], laidByText := true, laidKinds := [.data, .data], laidTests := true, laidLooks := .later }
def WhyMeetsUptoCardSaid : Prop := Claim7.holds Tryz.pinned (.plain (OpenSpec.upto whyMeetsSpec)) whyMeetsUptoCard
end Rows
end Go.Proofs.YtmomlipmpgcheaaGreatDoor
