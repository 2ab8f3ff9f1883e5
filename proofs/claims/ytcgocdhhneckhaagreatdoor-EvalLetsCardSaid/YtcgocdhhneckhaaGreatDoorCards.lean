/-
  DERIVED. GIVEN WITH THE SEED: THE CARDS: each row of YtcgocdhhneckhaaGreatDoorRows.lean that lists a variable, with what it lists TIED to the program's text (the seventh form; the later family's looks); each row that meets fmt, with fmt's text TOLD by the authors' own Lean function (tested against real Go, not proved from fmt's source: count such statements apart). THE CARD IS WHAT COUNTS. Prove the row's statement (the work); the ties are given (YtcgocdhhneckhaaGreatDoorTie.lean); close each card by the builder's one call (the guide's Derived/Test/ToyasCard.lean, 'card_holds'). Laid BY PROGRAM, IN A SANDBOX (cutbox-door.mjs). By AI agents, Wed Nov 11 2026. No macro, syntax, notation, axiom, sorry.
-/
import Derived.Test.YtcgocdhhneckhaaGreatDoorRows
import GoSem.ClaimSeven
namespace Go.Proofs.YtcgocdhhneckhaaGreatDoor
namespace Rows

/-- THE TIED CARD OF 'tonneaulaw32.EvalTells'. -/
def evalTellsCard : Claim7 := { stood := { row := evalTellsRow, standIns := [], harness := (true, "d86fedc9ddda8a04c339a0215126aac23c726c4c69dc386bf8bb5015f82c75b9"), looks := true }, kinds := [], alts := [], laidByText := true, laidKinds := [.data], laidTests := true, laidLooks := .later }
def EvalTellsCardSaid : Prop := Claim7.holds Tryz.pinned (.plain (OpenSpec.ofChange evalTellsSpec)) evalTellsCard

/-- THE TIED CARD OF 'tonneaulaw32.EvalLets'. -/
def evalLetsCard : Claim7 := { stood := { row := evalLetsRow, standIns := [], harness := (true, "d86fedc9ddda8a04c339a0215126aac23c726c4c69dc386bf8bb5015f82c75b9"), looks := true }, kinds := [], alts := [], laidByText := true, laidKinds := [.data], laidTests := true, laidLooks := .later }
def EvalLetsCardSaid : Prop := Claim7.holds Tryz.pinned (.plain (OpenSpec.ofChange evalLetsSpec)) evalLetsCard

/-- THE TIED CARD OF 'tonneaulaw32.EvalLazy'. -/
def evalLazyCard : Claim7 := { stood := { row := evalLazyRow, standIns := [], harness := (true, "d86fedc9ddda8a04c339a0215126aac23c726c4c69dc386bf8bb5015f82c75b9"), looks := true }, kinds := [], alts := [], laidByText := true, laidKinds := [.data], laidTests := true, laidLooks := .later }
def EvalLazyCardSaid : Prop := Claim7.holds Tryz.pinned (.plain (OpenSpec.ofChange evalLazySpec)) evalLazyCard

/-- THE TIED CARD OF 'tonneaulaw32.EvalWhole'. -/
def evalWholeCard : Claim7 := { stood := { row := evalWholeRow, standIns := [], harness := (true, "d86fedc9ddda8a04c339a0215126aac23c726c4c69dc386bf8bb5015f82c75b9"), looks := true }, kinds := [], alts := [], laidByText := true, laidKinds := [.data], laidTests := true, laidLooks := .later }
def EvalWholeCardSaid : Prop := Claim7.holds Tryz.pinned (.plain (OpenSpec.ofChange evalWholeSpec)) evalWholeCard

/-- THE TIED CARD OF 'tonneaulaw32.EvalSound'. -/
def evalSoundCard : Claim7 := { stood := { row := evalSoundRow, standIns := [], harness := (true, "d86fedc9ddda8a04c339a0215126aac23c726c4c69dc386bf8bb5015f82c75b9"), looks := true }, kinds := [], alts := [], laidByText := true, laidKinds := [.data], laidTests := true, laidLooks := .later }
def EvalSoundCardSaid : Prop := Claim7.holds Tryz.pinned (.plain (OpenSpec.ofChange evalSoundSpec)) evalSoundCard

/-- THE SECOND FORM's CARD OF 'tonneaulaw32.EvalTells'. -/
def evalTellsUptoCard : Claim7 := { stood := { row := evalTellsUptoRow, standIns := [], harness := (true, "d86fedc9ddda8a04c339a0215126aac23c726c4c69dc386bf8bb5015f82c75b9"), looks := true }, kinds := [], alts := [], laidByText := true, laidKinds := [.data], laidTests := true, laidLooks := .later }
def EvalTellsUptoCardSaid : Prop := Claim7.holds Tryz.pinned (.plain (OpenSpec.upto evalTellsSpec)) evalTellsUptoCard

/-- THE SECOND FORM's CARD OF 'tonneaulaw32.EvalLets'. -/
def evalLetsUptoCard : Claim7 := { stood := { row := evalLetsUptoRow, standIns := [], harness := (true, "d86fedc9ddda8a04c339a0215126aac23c726c4c69dc386bf8bb5015f82c75b9"), looks := true }, kinds := [], alts := [], laidByText := true, laidKinds := [.data], laidTests := true, laidLooks := .later }
def EvalLetsUptoCardSaid : Prop := Claim7.holds Tryz.pinned (.plain (OpenSpec.upto evalLetsSpec)) evalLetsUptoCard

/-- THE SECOND FORM's CARD OF 'tonneaulaw32.EvalLazy'. -/
def evalLazyUptoCard : Claim7 := { stood := { row := evalLazyUptoRow, standIns := [], harness := (true, "d86fedc9ddda8a04c339a0215126aac23c726c4c69dc386bf8bb5015f82c75b9"), looks := true }, kinds := [], alts := [], laidByText := true, laidKinds := [.data], laidTests := true, laidLooks := .later }
def EvalLazyUptoCardSaid : Prop := Claim7.holds Tryz.pinned (.plain (OpenSpec.upto evalLazySpec)) evalLazyUptoCard

/-- THE SECOND FORM's CARD OF 'tonneaulaw32.EvalWhole'. -/
def evalWholeUptoCard : Claim7 := { stood := { row := evalWholeUptoRow, standIns := [], harness := (true, "d86fedc9ddda8a04c339a0215126aac23c726c4c69dc386bf8bb5015f82c75b9"), looks := true }, kinds := [], alts := [], laidByText := true, laidKinds := [.data], laidTests := true, laidLooks := .later }
def EvalWholeUptoCardSaid : Prop := Claim7.holds Tryz.pinned (.plain (OpenSpec.upto evalWholeSpec)) evalWholeUptoCard

/-- THE SECOND FORM's CARD OF 'tonneaulaw32.EvalSound'. -/
def evalSoundUptoCard : Claim7 := { stood := { row := evalSoundUptoRow, standIns := [], harness := (true, "d86fedc9ddda8a04c339a0215126aac23c726c4c69dc386bf8bb5015f82c75b9"), looks := true }, kinds := [], alts := [], laidByText := true, laidKinds := [.data], laidTests := true, laidLooks := .later }
def EvalSoundUptoCardSaid : Prop := Claim7.holds Tryz.pinned (.plain (OpenSpec.upto evalSoundSpec)) evalSoundUptoCard
end Rows
end Go.Proofs.YtcgocdhhneckhaaGreatDoor
