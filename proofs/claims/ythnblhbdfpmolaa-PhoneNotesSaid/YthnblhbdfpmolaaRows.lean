/-
  No cell of these rows narrows 'for every input' (looked for: loops, veiled, ifaces, maps, wideKeys, modest, calm, conditions, laid).
  DERIVED. THE GIVEN ROWS OF THIS SEAT. 9 by the template 'for every input the law returns true; each argument reads behind the call as it read before'; 0 by the template 'total and deterministic' (their statements: YthnblhbdfpmolaaTotals.lean).
  GIVEN WITH THE SEED: the statements are not yours to turn. If you find one false, say at which input.
  Laid BY PROGRAM, IN A SANDBOX (cutbox-rows.mjs): the forced cells as the released guide's own fill.sh prints them over the translation 41a336650a89469b… (all of the seat's roots in one cut). By AI agents, Wed Nov 11 2026. No macro, syntax, notation, axiom, sorry.
-/
import Derived.Test.YthnblhbdfpmolaaChecked
import GoSem.Claim
import GoSem.ClaimJoined
import GoSem.ClaimMapViews
import Derived.JoinedTies
import Derived.KernelRfl
namespace Go.Proofs.Ythnblhbdfpmolaa
/- THE CELL 'sum', in the pinned program and in every row, IS THE sha256 OF THE DUMP (.gsa) THAT YthnblhbdfpmolaaProg.lean LOADS. Nothing in Lean hashes anything: it is a label: what it is worth is what the hold of that sum in a sandbox is worth. -/
noncomputable def Try.pinned : Pinned := { name := "ythnblhbdfpmolaa", sum := "41a336650a89469b7616d0afe10f8cf302ee832e0cf0d7cd64ea5a7dd1e39b7a", checked := Try.checked }
namespace Rows
def none {H : Type} : Left H := { results := [], args := [] }

/-- 'tonneaulaw43.PhoneTells': WHATEVER THE INPUT: true; the input reads as it did. -/
def phoneTellsSpec : ChangeSpec := { name := "phoneTells", fn := fun _ => fun
  | [d1, d2, d3, d4, d5, d6, d7] => { results := [.lit (.bool true)], args := [d1, d2, d3, d4, d5, d6, d7] }
  | _ => none }
def phoneTellsRow : OpenClaim := { program := "ythnblhbdfpmolaa", sum := "41a336650a89469b7616d0afe10f8cf302ee832e0cf0d7cd64ea5a7dd1e39b7a", func := "tonneau/tonneaulaw43.PhoneTells", spec := "phoneTells", inPlace := ["slices.overlaps[tonneau/api.Loan]", "slices.overlaps[tonneau/phone.Hold]"], unfollowed := true, recurses := true, plainKeys := false, apart := false }
def PhoneTellsSaid : Prop := phoneTellsRow.holds Try.pinned (OpenSpec.ofChange phoneTellsSpec)

/-- ITS FALSE NEIGHBOUR: 'it returns false'. Refute it at one input. -/
def phoneTellsWrong : ChangeSpec := { name := "phoneTells", fn := fun _ => fun
  | [d1, d2, d3, d4, d5, d6, d7] => { results := [.lit (.bool false)], args := [d1, d2, d3, d4, d5, d6, d7] }
  | _ => none }
def PhoneTellsWrongFalsely : Prop := phoneTellsRow.holds Try.pinned (OpenSpec.ofChange phoneTellsWrong)

/-- 'tonneaulaw43.PhoneHolds': WHATEVER THE INPUT: true; the input reads as it did. -/
def phoneHoldsSpec : ChangeSpec := { name := "phoneHolds", fn := fun _ => fun
  | [d1, d2, d3, d4, d5] => { results := [.lit (.bool true)], args := [d1, d2, d3, d4, d5] }
  | _ => none }
def phoneHoldsRow : OpenClaim := { program := "ythnblhbdfpmolaa", sum := "41a336650a89469b7616d0afe10f8cf302ee832e0cf0d7cd64ea5a7dd1e39b7a", func := "tonneau/tonneaulaw43.PhoneHolds", spec := "phoneHolds", inPlace := ["slices.overlaps[tonneau/api.Loan]", "slices.overlaps[tonneau/phone.Hold]"], unfollowed := true, recurses := true, plainKeys := false, apart := false }
def PhoneHoldsSaid : Prop := phoneHoldsRow.holds Try.pinned (OpenSpec.ofChange phoneHoldsSpec)

/-- ITS FALSE NEIGHBOUR: 'it returns false'. Refute it at one input. -/
def phoneHoldsWrong : ChangeSpec := { name := "phoneHolds", fn := fun _ => fun
  | [d1, d2, d3, d4, d5] => { results := [.lit (.bool false)], args := [d1, d2, d3, d4, d5] }
  | _ => none }
def PhoneHoldsWrongFalsely : Prop := phoneHoldsRow.holds Try.pinned (OpenSpec.ofChange phoneHoldsWrong)

/-- 'tonneaulaw43.PhoneBack': WHATEVER THE INPUT: true; the input reads as it did. -/
def phoneBackSpec : ChangeSpec := { name := "phoneBack", fn := fun _ => fun
  | [d1, d2, d3, d4, d5] => { results := [.lit (.bool true)], args := [d1, d2, d3, d4, d5] }
  | _ => none }
def phoneBackRow : OpenClaim := { program := "ythnblhbdfpmolaa", sum := "41a336650a89469b7616d0afe10f8cf302ee832e0cf0d7cd64ea5a7dd1e39b7a", func := "tonneau/tonneaulaw43.PhoneBack", spec := "phoneBack", inPlace := ["slices.overlaps[tonneau/api.Loan]", "slices.overlaps[tonneau/phone.Hold]"], unfollowed := true, recurses := true, plainKeys := false, apart := false }
def PhoneBackSaid : Prop := phoneBackRow.holds Try.pinned (OpenSpec.ofChange phoneBackSpec)

/-- ITS FALSE NEIGHBOUR: 'it returns false'. Refute it at one input. -/
def phoneBackWrong : ChangeSpec := { name := "phoneBack", fn := fun _ => fun
  | [d1, d2, d3, d4, d5] => { results := [.lit (.bool false)], args := [d1, d2, d3, d4, d5] }
  | _ => none }
def PhoneBackWrongFalsely : Prop := phoneBackRow.holds Try.pinned (OpenSpec.ofChange phoneBackWrong)

/-- 'tonneaulaw41.MergeTells': WHATEVER THE INPUT: true; the input reads as it did. -/
def mergeTellsSpec : ChangeSpec := { name := "mergeTells", fn := fun _ => fun
  | [d1, d2, d3, d4] => { results := [.lit (.bool true)], args := [d1, d2, d3, d4] }
  | _ => none }
def mergeTellsRow : OpenClaim := { program := "ythnblhbdfpmolaa", sum := "41a336650a89469b7616d0afe10f8cf302ee832e0cf0d7cd64ea5a7dd1e39b7a", func := "tonneau/tonneaulaw41.MergeTells", spec := "mergeTells", unfollowed := true, recurses := true, plainKeys := false, apart := false }
def MergeTellsSaid : Prop := mergeTellsRow.holds Try.pinned (OpenSpec.ofChange mergeTellsSpec)

/-- ITS FALSE NEIGHBOUR: 'it returns false'. Refute it at one input. -/
def mergeTellsWrong : ChangeSpec := { name := "mergeTells", fn := fun _ => fun
  | [d1, d2, d3, d4] => { results := [.lit (.bool false)], args := [d1, d2, d3, d4] }
  | _ => none }
def MergeTellsWrongFalsely : Prop := mergeTellsRow.holds Try.pinned (OpenSpec.ofChange mergeTellsWrong)

/-- 'tonneaulaw41.MergeSame': WHATEVER THE INPUT: true; the input reads as it did. -/
def mergeSameSpec : ChangeSpec := { name := "mergeSame", fn := fun _ => fun
  | [d1, d2, d3] => { results := [.lit (.bool true)], args := [d1, d2, d3] }
  | _ => none }
def mergeSameRow : OpenClaim := { program := "ythnblhbdfpmolaa", sum := "41a336650a89469b7616d0afe10f8cf302ee832e0cf0d7cd64ea5a7dd1e39b7a", func := "tonneau/tonneaulaw41.MergeSame", spec := "mergeSame", unfollowed := true, recurses := true, plainKeys := false, apart := false }
def MergeSameSaid : Prop := mergeSameRow.holds Try.pinned (OpenSpec.ofChange mergeSameSpec)

/-- ITS FALSE NEIGHBOUR: 'it returns false'. Refute it at one input. -/
def mergeSameWrong : ChangeSpec := { name := "mergeSame", fn := fun _ => fun
  | [d1, d2, d3] => { results := [.lit (.bool false)], args := [d1, d2, d3] }
  | _ => none }
def MergeSameWrongFalsely : Prop := mergeSameRow.holds Try.pinned (OpenSpec.ofChange mergeSameWrong)

/-- 'tonneaulaw41.MergeOrder': WHATEVER THE INPUT: true; the input reads as it did. -/
def mergeOrderSpec : ChangeSpec := { name := "mergeOrder", fn := fun _ => fun
  | [d] => { results := [.lit (.bool true)], args := [d] }
  | _ => none }
def mergeOrderRow : OpenClaim := { program := "ythnblhbdfpmolaa", sum := "41a336650a89469b7616d0afe10f8cf302ee832e0cf0d7cd64ea5a7dd1e39b7a", func := "tonneau/tonneaulaw41.MergeOrder", spec := "mergeOrder", unfollowed := true, recurses := true, plainKeys := false, apart := false }
def MergeOrderSaid : Prop := mergeOrderRow.holds Try.pinned (OpenSpec.ofChange mergeOrderSpec)

/-- ITS FALSE NEIGHBOUR: 'it returns false'. Refute it at one input. -/
def mergeOrderWrong : ChangeSpec := { name := "mergeOrder", fn := fun _ => fun
  | [d] => { results := [.lit (.bool false)], args := [d] }
  | _ => none }
def MergeOrderWrongFalsely : Prop := mergeOrderRow.holds Try.pinned (OpenSpec.ofChange mergeOrderWrong)

/-- 'tonneaulaw41.MergeLater': WHATEVER THE INPUT: true; the input reads as it did. -/
def mergeLaterSpec : ChangeSpec := { name := "mergeLater", fn := fun _ => fun
  | [d1, d2, d3, d4] => { results := [.lit (.bool true)], args := [d1, d2, d3, d4] }
  | _ => none }
def mergeLaterRow : OpenClaim := { program := "ythnblhbdfpmolaa", sum := "41a336650a89469b7616d0afe10f8cf302ee832e0cf0d7cd64ea5a7dd1e39b7a", func := "tonneau/tonneaulaw41.MergeLater", spec := "mergeLater", unfollowed := true, recurses := true, plainKeys := false, apart := false }
def MergeLaterSaid : Prop := mergeLaterRow.holds Try.pinned (OpenSpec.ofChange mergeLaterSpec)

/-- ITS FALSE NEIGHBOUR: 'it returns false'. Refute it at one input. -/
def mergeLaterWrong : ChangeSpec := { name := "mergeLater", fn := fun _ => fun
  | [d1, d2, d3, d4] => { results := [.lit (.bool false)], args := [d1, d2, d3, d4] }
  | _ => none }
def MergeLaterWrongFalsely : Prop := mergeLaterRow.holds Try.pinned (OpenSpec.ofChange mergeLaterWrong)

/-- 'tonneaulaw43.PhoneOnce': WHATEVER THE INPUT: true; the input reads as it did. -/
def phoneOnceSpec : ChangeSpec := { name := "phoneOnce", fn := fun _ => fun
  | [d1, d2] => { results := [.lit (.bool true)], args := [d1, d2] }
  | _ => none }
def phoneOnceRow : OpenClaim := { program := "ythnblhbdfpmolaa", sum := "41a336650a89469b7616d0afe10f8cf302ee832e0cf0d7cd64ea5a7dd1e39b7a", func := "tonneau/tonneaulaw43.PhoneOnce", spec := "phoneOnce", inPlace := ["slices.overlaps[tonneau/api.Loan]", "slices.overlaps[tonneau/phone.Hold]"], unfollowed := true, recurses := true, plainKeys := false, apart := false }
def PhoneOnceSaid : Prop := phoneOnceRow.holds Try.pinned (OpenSpec.ofChange phoneOnceSpec)

/-- ITS FALSE NEIGHBOUR: 'it returns false'. Refute it at one input. -/
def phoneOnceWrong : ChangeSpec := { name := "phoneOnce", fn := fun _ => fun
  | [d1, d2] => { results := [.lit (.bool false)], args := [d1, d2] }
  | _ => none }
def PhoneOnceWrongFalsely : Prop := phoneOnceRow.holds Try.pinned (OpenSpec.ofChange phoneOnceWrong)

/-- 'tonneaulaw43.PhoneNotes': WHATEVER THE INPUT: true; the input reads as it did. -/
def phoneNotesSpec : ChangeSpec := { name := "phoneNotes", fn := fun _ => fun
  | [d1, d2] => { results := [.lit (.bool true)], args := [d1, d2] }
  | _ => none }
def phoneNotesRow : OpenClaim := { program := "ythnblhbdfpmolaa", sum := "41a336650a89469b7616d0afe10f8cf302ee832e0cf0d7cd64ea5a7dd1e39b7a", func := "tonneau/tonneaulaw43.PhoneNotes", spec := "phoneNotes", inPlace := ["slices.overlaps[tonneau/api.Loan]", "slices.overlaps[tonneau/phone.Hold]"], unfollowed := true, recurses := true, plainKeys := false, apart := false }
def PhoneNotesSaid : Prop := phoneNotesRow.holds Try.pinned (OpenSpec.ofChange phoneNotesSpec)

/-- ITS FALSE NEIGHBOUR: 'it returns false'. Refute it at one input. -/
def phoneNotesWrong : ChangeSpec := { name := "phoneNotes", fn := fun _ => fun
  | [d1, d2] => { results := [.lit (.bool false)], args := [d1, d2] }
  | _ => none }
def PhoneNotesWrongFalsely : Prop := phoneNotesRow.holds Try.pinned (OpenSpec.ofChange phoneNotesWrong)

/- THE SECOND FORM. 'bulk': how many values and letters a reading holds, each counted each time it is reached (what is shared counts as often as it is met; a slice's spare places count too). A statement '..UptoSaid' is the law's where the arguments, and the package variables that the reading takes, are together of bulk at most 1048576: NARROWER than '..Said'. Prove '..Said' where nothing that the law and all that it calls make is longer than what came in: it says more and counts as full. Else prove '..UptoSaid'. A law counts once. -/
mutual
def uptoBulk {H : Type} : DataW H → Nat
  | .lit (.string bytes) => bytes.length + 1
  | .lit _ => 1
  | .nil => 1
  | .ptr d => uptoBulk d + 1
  | .slice elems spare => uptoBulkAll elems + uptoBulkAll spare + 1
  | .agg parts => uptoBulkAll parts + 1
  | .iface _ d => uptoBulk d + 1
  | .map entries => uptoBulkEntries entries + 1
  | .held _ => 1
def uptoBulkAll {H : Type} : List (DataW H) → Nat
  | [] => 0
  | d :: r => uptoBulk d + uptoBulkAll r
def uptoBulkEntries {H : Type} : List (Lit × DataW H) → Nat
  | [] => 0
  | x :: r => uptoBulkEntry x + uptoBulkEntries r
def uptoBulkEntry {H : Type} : Lit × DataW H → Nat
  | (.string bytes, d) => bytes.length + uptoBulk d + 1
  | (_, d) => uptoBulk d + 1
 end
def uptoSmall : (H : Type) → List (DataW H) → Bool := fun _ ds => decide (uptoBulkAll ds ≤ 1048576)
def OpenSpec.upto (s : _root_.Go.ChangeSpec) : _root_.Go.OpenSpec := { _root_.Go.OpenSpec.ofChange s with cond := some uptoSmall }

/-- 'tonneaulaw43.PhoneTells', WHERE WHAT IT READS IS OF BULK AT MOST 1048576: true; the input reads as it did. -/
def phoneTellsUptoRow : OpenClaim := { program := "ythnblhbdfpmolaa", sum := "41a336650a89469b7616d0afe10f8cf302ee832e0cf0d7cd64ea5a7dd1e39b7a", func := "tonneau/tonneaulaw43.PhoneTells", spec := "phoneTells", inPlace := ["slices.overlaps[tonneau/api.Loan]", "slices.overlaps[tonneau/phone.Hold]"], unfollowed := true, recurses := true, plainKeys := false, apart := false, narrowed := true }
def PhoneTellsUptoSaid : Prop := phoneTellsUptoRow.holds Try.pinned (OpenSpec.upto phoneTellsSpec)

/-- 'tonneaulaw43.PhoneHolds', WHERE WHAT IT READS IS OF BULK AT MOST 1048576: true; the input reads as it did. -/
def phoneHoldsUptoRow : OpenClaim := { program := "ythnblhbdfpmolaa", sum := "41a336650a89469b7616d0afe10f8cf302ee832e0cf0d7cd64ea5a7dd1e39b7a", func := "tonneau/tonneaulaw43.PhoneHolds", spec := "phoneHolds", inPlace := ["slices.overlaps[tonneau/api.Loan]", "slices.overlaps[tonneau/phone.Hold]"], unfollowed := true, recurses := true, plainKeys := false, apart := false, narrowed := true }
def PhoneHoldsUptoSaid : Prop := phoneHoldsUptoRow.holds Try.pinned (OpenSpec.upto phoneHoldsSpec)

/-- 'tonneaulaw43.PhoneBack', WHERE WHAT IT READS IS OF BULK AT MOST 1048576: true; the input reads as it did. -/
def phoneBackUptoRow : OpenClaim := { program := "ythnblhbdfpmolaa", sum := "41a336650a89469b7616d0afe10f8cf302ee832e0cf0d7cd64ea5a7dd1e39b7a", func := "tonneau/tonneaulaw43.PhoneBack", spec := "phoneBack", inPlace := ["slices.overlaps[tonneau/api.Loan]", "slices.overlaps[tonneau/phone.Hold]"], unfollowed := true, recurses := true, plainKeys := false, apart := false, narrowed := true }
def PhoneBackUptoSaid : Prop := phoneBackUptoRow.holds Try.pinned (OpenSpec.upto phoneBackSpec)

/-- 'tonneaulaw41.MergeTells', WHERE WHAT IT READS IS OF BULK AT MOST 1048576: true; the input reads as it did. -/
def mergeTellsUptoRow : OpenClaim := { program := "ythnblhbdfpmolaa", sum := "41a336650a89469b7616d0afe10f8cf302ee832e0cf0d7cd64ea5a7dd1e39b7a", func := "tonneau/tonneaulaw41.MergeTells", spec := "mergeTells", unfollowed := true, recurses := true, plainKeys := false, apart := false, narrowed := true }
def MergeTellsUptoSaid : Prop := mergeTellsUptoRow.holds Try.pinned (OpenSpec.upto mergeTellsSpec)

/-- 'tonneaulaw41.MergeSame', WHERE WHAT IT READS IS OF BULK AT MOST 1048576: true; the input reads as it did. -/
def mergeSameUptoRow : OpenClaim := { program := "ythnblhbdfpmolaa", sum := "41a336650a89469b7616d0afe10f8cf302ee832e0cf0d7cd64ea5a7dd1e39b7a", func := "tonneau/tonneaulaw41.MergeSame", spec := "mergeSame", unfollowed := true, recurses := true, plainKeys := false, apart := false, narrowed := true }
def MergeSameUptoSaid : Prop := mergeSameUptoRow.holds Try.pinned (OpenSpec.upto mergeSameSpec)

/-- 'tonneaulaw41.MergeOrder', WHERE WHAT IT READS IS OF BULK AT MOST 1048576: true; the input reads as it did. -/
def mergeOrderUptoRow : OpenClaim := { program := "ythnblhbdfpmolaa", sum := "41a336650a89469b7616d0afe10f8cf302ee832e0cf0d7cd64ea5a7dd1e39b7a", func := "tonneau/tonneaulaw41.MergeOrder", spec := "mergeOrder", unfollowed := true, recurses := true, plainKeys := false, apart := false, narrowed := true }
def MergeOrderUptoSaid : Prop := mergeOrderUptoRow.holds Try.pinned (OpenSpec.upto mergeOrderSpec)

/-- 'tonneaulaw41.MergeLater', WHERE WHAT IT READS IS OF BULK AT MOST 1048576: true; the input reads as it did. -/
def mergeLaterUptoRow : OpenClaim := { program := "ythnblhbdfpmolaa", sum := "41a336650a89469b7616d0afe10f8cf302ee832e0cf0d7cd64ea5a7dd1e39b7a", func := "tonneau/tonneaulaw41.MergeLater", spec := "mergeLater", unfollowed := true, recurses := true, plainKeys := false, apart := false, narrowed := true }
def MergeLaterUptoSaid : Prop := mergeLaterUptoRow.holds Try.pinned (OpenSpec.upto mergeLaterSpec)

/-- 'tonneaulaw43.PhoneOnce', WHERE WHAT IT READS IS OF BULK AT MOST 1048576: true; the input reads as it did. -/
def phoneOnceUptoRow : OpenClaim := { program := "ythnblhbdfpmolaa", sum := "41a336650a89469b7616d0afe10f8cf302ee832e0cf0d7cd64ea5a7dd1e39b7a", func := "tonneau/tonneaulaw43.PhoneOnce", spec := "phoneOnce", inPlace := ["slices.overlaps[tonneau/api.Loan]", "slices.overlaps[tonneau/phone.Hold]"], unfollowed := true, recurses := true, plainKeys := false, apart := false, narrowed := true }
def PhoneOnceUptoSaid : Prop := phoneOnceUptoRow.holds Try.pinned (OpenSpec.upto phoneOnceSpec)

/-- 'tonneaulaw43.PhoneNotes', WHERE WHAT IT READS IS OF BULK AT MOST 1048576: true; the input reads as it did. -/
def phoneNotesUptoRow : OpenClaim := { program := "ythnblhbdfpmolaa", sum := "41a336650a89469b7616d0afe10f8cf302ee832e0cf0d7cd64ea5a7dd1e39b7a", func := "tonneau/tonneaulaw43.PhoneNotes", spec := "phoneNotes", inPlace := ["slices.overlaps[tonneau/api.Loan]", "slices.overlaps[tonneau/phone.Hold]"], unfollowed := true, recurses := true, plainKeys := false, apart := false, narrowed := true }
def PhoneNotesUptoSaid : Prop := phoneNotesUptoRow.holds Try.pinned (OpenSpec.upto phoneNotesSpec)

end Rows
end Go.Proofs.Ythnblhbdfpmolaa
