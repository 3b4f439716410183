/-
  No cell of these rows narrows 'for every input' (looked for: loops, veiled, ifaces, maps, wideKeys, modest, calm, conditions, laid).
  DERIVED. THE GIVEN ROWS OF THIS SEAT. 8 by the template 'for every input the law returns true; each argument reads behind the call as it read before'; 0 by the template 'total and deterministic' (their statements: YtjhkehdbjnhplaaTotals.lean).
  GIVEN WITH THE SEED: the statements are not yours to turn. If you find one false, say at which input.
  Laid BY PROGRAM, IN A SANDBOX (cutbox-rows.mjs): the forced cells as the released guide's own fill.sh prints them over the translation 8a2e6432336ba4c7… (all of the seat's roots in one cut). By AI agents, Wed Nov 11 2026. No macro, syntax, notation, axiom, sorry.
-/
import Derived.Test.YtjhkehdbjnhplaaChecked
import GoSem.Claim
import GoSem.ClaimJoined
import GoSem.ClaimMapViews
import Derived.JoinedTies
import Derived.KernelRfl
namespace Go.Proofs.Ytjhkehdbjnhplaa
/- THE CELL 'sum', in the pinned program and in every row, IS THE sha256 OF THE DUMP (.gsa) THAT YtjhkehdbjnhplaaProg.lean LOADS. Nothing in Lean hashes anything: it is a label: what it is worth is what the hold of that sum in a sandbox is worth. -/
noncomputable def Try.pinned : Pinned := { name := "ytjhkehdbjnhplaa", sum := "8a2e6432336ba4c76dfd9c462ddcca8d98fccd4cd926caf40058068ab668c2d3", checked := Try.checked }
namespace Rows
def none {H : Type} : Left H := { results := [], args := [] }

/-- 'hotspotlaw45.RegulateCodes': WHATEVER THE INPUT: true; the input reads as it did. -/
def regulateCodesSpec : ChangeSpec := { name := "regulateCodes", fn := fun _ => fun
  | [d1, d2] => { results := [.lit (.bool true)], args := [d1, d2] }
  | _ => none }
def regulateCodesRow : OpenClaim := { program := "ytjhkehdbjnhplaa", sum := "8a2e6432336ba4c76dfd9c462ddcca8d98fccd4cd926caf40058068ab668c2d3", func := "hotspot/hotspotlaw45.RegulateCodes", spec := "regulateCodes", unfollowed := true, recurses := true, apart := false }
def RegulateCodesSaid : Prop := regulateCodesRow.holds Try.pinned (OpenSpec.ofChange regulateCodesSpec)

/-- ITS FALSE NEIGHBOUR: 'it returns false'. Refute it at one input. -/
def regulateCodesWrong : ChangeSpec := { name := "regulateCodes", fn := fun _ => fun
  | [d1, d2] => { results := [.lit (.bool false)], args := [d1, d2] }
  | _ => none }
def RegulateCodesWrongFalsely : Prop := regulateCodesRow.holds Try.pinned (OpenSpec.ofChange regulateCodesWrong)

/-- 'hotspotlaw45.RegulatePowers': WHATEVER THE INPUT: true; the input reads as it did. -/
def regulatePowersSpec : ChangeSpec := { name := "regulatePowers", fn := fun _ => fun
  | [d1, d2, d3, d4] => { results := [.lit (.bool true)], args := [d1, d2, d3, d4] }
  | _ => none }
def regulatePowersRow : OpenClaim := { program := "ytjhkehdbjnhplaa", sum := "8a2e6432336ba4c76dfd9c462ddcca8d98fccd4cd926caf40058068ab668c2d3", func := "hotspot/hotspotlaw45.RegulatePowers", spec := "regulatePowers", inPlace := ["slices.overlaps[hotspot/api.RegulateBlock]"], unfollowed := true, recurses := true, apart := false }
def RegulatePowersSaid : Prop := regulatePowersRow.holds Try.pinned (OpenSpec.ofChange regulatePowersSpec)

/-- ITS FALSE NEIGHBOUR: 'it returns false'. Refute it at one input. -/
def regulatePowersWrong : ChangeSpec := { name := "regulatePowers", fn := fun _ => fun
  | [d1, d2, d3, d4] => { results := [.lit (.bool false)], args := [d1, d2, d3, d4] }
  | _ => none }
def RegulatePowersWrongFalsely : Prop := regulatePowersRow.holds Try.pinned (OpenSpec.ofChange regulatePowersWrong)

/-- 'hotspotlaw45.RegulateBlocks': WHATEVER THE INPUT: true; the input reads as it did. -/
def regulateBlocksSpec : ChangeSpec := { name := "regulateBlocks", fn := fun _ => fun
  | [d1, d2, d3, d4] => { results := [.lit (.bool true)], args := [d1, d2, d3, d4] }
  | _ => none }
def regulateBlocksRow : OpenClaim := { program := "ytjhkehdbjnhplaa", sum := "8a2e6432336ba4c76dfd9c462ddcca8d98fccd4cd926caf40058068ab668c2d3", func := "hotspot/hotspotlaw45.RegulateBlocks", spec := "regulateBlocks", inPlace := ["slices.overlaps[hotspot/api.RegulateBlock]"], unfollowed := true, recurses := true, apart := false }
def RegulateBlocksSaid : Prop := regulateBlocksRow.holds Try.pinned (OpenSpec.ofChange regulateBlocksSpec)

/-- ITS FALSE NEIGHBOUR: 'it returns false'. Refute it at one input. -/
def regulateBlocksWrong : ChangeSpec := { name := "regulateBlocks", fn := fun _ => fun
  | [d1, d2, d3, d4] => { results := [.lit (.bool false)], args := [d1, d2, d3, d4] }
  | _ => none }
def RegulateBlocksWrongFalsely : Prop := regulateBlocksRow.holds Try.pinned (OpenSpec.ofChange regulateBlocksWrong)

/-- 'hotspotlaw45.RegulateStates': WHATEVER THE INPUT: true; the input reads as it did. -/
def regulateStatesSpec : ChangeSpec := { name := "regulateStates", fn := fun _ => fun
  | [d1, d2, d3, d4] => { results := [.lit (.bool true)], args := [d1, d2, d3, d4] }
  | _ => none }
def regulateStatesRow : OpenClaim := { program := "ytjhkehdbjnhplaa", sum := "8a2e6432336ba4c76dfd9c462ddcca8d98fccd4cd926caf40058068ab668c2d3", func := "hotspot/hotspotlaw45.RegulateStates", spec := "regulateStates", inPlace := ["slices.overlaps[int]"], unfollowed := true, recurses := true, apart := false }
def RegulateStatesSaid : Prop := regulateStatesRow.holds Try.pinned (OpenSpec.ofChange regulateStatesSpec)

/-- ITS FALSE NEIGHBOUR: 'it returns false'. Refute it at one input. -/
def regulateStatesWrong : ChangeSpec := { name := "regulateStates", fn := fun _ => fun
  | [d1, d2, d3, d4] => { results := [.lit (.bool false)], args := [d1, d2, d3, d4] }
  | _ => none }
def RegulateStatesWrongFalsely : Prop := regulateStatesRow.holds Try.pinned (OpenSpec.ofChange regulateStatesWrong)

/-- 'hotspotlaw45.RegulateSteps': WHATEVER THE INPUT: true; the input reads as it did. -/
def regulateStepsSpec : ChangeSpec := { name := "regulateSteps", fn := fun _ => fun
  | [d1, d2, d3, d4] => { results := [.lit (.bool true)], args := [d1, d2, d3, d4] }
  | _ => none }
def regulateStepsRow : OpenClaim := { program := "ytjhkehdbjnhplaa", sum := "8a2e6432336ba4c76dfd9c462ddcca8d98fccd4cd926caf40058068ab668c2d3", func := "hotspot/hotspotlaw45.RegulateSteps", spec := "regulateSteps", inPlace := ["slices.overlaps[hotspot/api.RegulateBlock]"], unfollowed := true, recurses := true, apart := false }
def RegulateStepsSaid : Prop := regulateStepsRow.holds Try.pinned (OpenSpec.ofChange regulateStepsSpec)

/-- ITS FALSE NEIGHBOUR: 'it returns false'. Refute it at one input. -/
def regulateStepsWrong : ChangeSpec := { name := "regulateSteps", fn := fun _ => fun
  | [d1, d2, d3, d4] => { results := [.lit (.bool false)], args := [d1, d2, d3, d4] }
  | _ => none }
def RegulateStepsWrongFalsely : Prop := regulateStepsRow.holds Try.pinned (OpenSpec.ofChange regulateStepsWrong)

/-- 'hotspotlaw45.RegulateQuiet': WHATEVER THE INPUT: true; the input reads as it did. -/
def regulateQuietSpec : ChangeSpec := { name := "regulateQuiet", fn := fun _ => fun
  | [d1, d2] => { results := [.lit (.bool true)], args := [d1, d2] }
  | _ => none }
def regulateQuietRow : OpenClaim := { program := "ytjhkehdbjnhplaa", sum := "8a2e6432336ba4c76dfd9c462ddcca8d98fccd4cd926caf40058068ab668c2d3", func := "hotspot/hotspotlaw45.RegulateQuiet", spec := "regulateQuiet", inPlace := ["slices.overlaps[hotspot/api.RegulateBlock]"], unfollowed := true, recurses := true, apart := false }
def RegulateQuietSaid : Prop := regulateQuietRow.holds Try.pinned (OpenSpec.ofChange regulateQuietSpec)

/-- ITS FALSE NEIGHBOUR: 'it returns false'. Refute it at one input. -/
def regulateQuietWrong : ChangeSpec := { name := "regulateQuiet", fn := fun _ => fun
  | [d1, d2] => { results := [.lit (.bool false)], args := [d1, d2] }
  | _ => none }
def RegulateQuietWrongFalsely : Prop := regulateQuietRow.holds Try.pinned (OpenSpec.ofChange regulateQuietWrong)

/-- 'hotspotlaw45.RegulateMeets': WHATEVER THE INPUT: true; the input reads as it did. -/
def regulateMeetsSpec : ChangeSpec := { name := "regulateMeets", fn := fun _ => fun
  | [d1, d2] => { results := [.lit (.bool true)], args := [d1, d2] }
  | _ => none }
def regulateMeetsRow : OpenClaim := { program := "ytjhkehdbjnhplaa", sum := "8a2e6432336ba4c76dfd9c462ddcca8d98fccd4cd926caf40058068ab668c2d3", func := "hotspot/hotspotlaw45.RegulateMeets", spec := "regulateMeets", inPlace := ["slices.overlaps[hotspot/api.RegulateBlock]"], unfollowed := true, recurses := true, apart := false }
def RegulateMeetsSaid : Prop := regulateMeetsRow.holds Try.pinned (OpenSpec.ofChange regulateMeetsSpec)

/-- ITS FALSE NEIGHBOUR: 'it returns false'. Refute it at one input. -/
def regulateMeetsWrong : ChangeSpec := { name := "regulateMeets", fn := fun _ => fun
  | [d1, d2] => { results := [.lit (.bool false)], args := [d1, d2] }
  | _ => none }
def RegulateMeetsWrongFalsely : Prop := regulateMeetsRow.holds Try.pinned (OpenSpec.ofChange regulateMeetsWrong)

/-- 'hotspotlaw45.RegulateNames': WHATEVER THE INPUT: true; the input reads as it did. -/
def regulateNamesSpec : ChangeSpec := { name := "regulateNames", fn := fun _ => fun
  | [] => { results := [.lit (.bool true)], args := [] }
  | _ => none }
def regulateNamesRow : OpenClaim := { program := "ytjhkehdbjnhplaa", sum := "8a2e6432336ba4c76dfd9c462ddcca8d98fccd4cd926caf40058068ab668c2d3", func := "hotspot/hotspotlaw45.RegulateNames", spec := "regulateNames", inPlace := ["slices.overlaps[int]", "slices.overlaps[hotspot/api.RegulateBlock]"], unfollowed := true, recurses := true, apart := false }
def RegulateNamesSaid : Prop := regulateNamesRow.holds Try.pinned (OpenSpec.ofChange regulateNamesSpec)

/-- ITS FALSE NEIGHBOUR: 'it returns false'. Refute it at one input. -/
def regulateNamesWrong : ChangeSpec := { name := "regulateNames", fn := fun _ => fun
  | [] => { results := [.lit (.bool false)], args := [] }
  | _ => none }
def RegulateNamesWrongFalsely : Prop := regulateNamesRow.holds Try.pinned (OpenSpec.ofChange regulateNamesWrong)

/- THE SECOND FORM. 'bulk': how many values and letters a reading holds, each counted each time it is reached (what is shared counts as often as it is met; a slice's spare places count too). A statement '..UptoSaid' is the law's where the arguments, and the package variables that the reading takes, are together of bulk at most 1048576: NARROWER than '..Said'. Prove '..Said' where nothing that the law and all that it calls make is longer than what came in: it says more and counts as full. Else prove '..UptoSaid'. A law counts once. -/
mutual
def uptoBulk {H : Type} : DataW H → Nat
  | .lit (.string bytes) => bytes.length + 1
  | .lit _ => 1
  | .nil => 1
  | .ptr d => uptoBulk d + 1
  | .slice elems spare => uptoBulkAll elems + uptoBulkAll spare + 1
  | .agg parts => uptoBulkAll parts + 1
  | .iface _ d => uptoBulk d + 1
  | .map entries => uptoBulkEntries entries + 1
  | .held _ => 1
def uptoBulkAll {H : Type} : List (DataW H) → Nat
  | [] => 0
  | d :: r => uptoBulk d + uptoBulkAll r
def uptoBulkEntries {H : Type} : List (Lit × DataW H) → Nat
  | [] => 0
  | x :: r => uptoBulkEntry x + uptoBulkEntries r
def uptoBulkEntry {H : Type} : Lit × DataW H → Nat
  | (.string bytes, d) => bytes.length + uptoBulk d + 1
  | (_, d) => uptoBulk d + 1
 end
def uptoSmall : (H : Type) → List (DataW H) → Bool := fun _ ds => decide (uptoBulkAll ds ≤ 1048576)
def OpenSpec.upto (s : _root_.Go.ChangeSpec) : _root_.Go.OpenSpec := { _root_.Go.OpenSpec.ofChange s with cond := some uptoSmall }

/-- 'hotspotlaw45.RegulateCodes', WHERE WHAT IT READS IS OF BULK AT MOST 1048576: true; the input reads as it did. -/
def regulateCodesUptoRow : OpenClaim := { program := "ytjhkehdbjnhplaa", sum := "8a2e6432336ba4c76dfd9c462ddcca8d98fccd4cd926caf40058068ab668c2d3", func := "hotspot/hotspotlaw45.RegulateCodes", spec := "regulateCodes", unfollowed := true, recurses := true, apart := false, narrowed := true }
def RegulateCodesUptoSaid : Prop := regulateCodesUptoRow.holds Try.pinned (OpenSpec.upto regulateCodesSpec)

/-- 'hotspotlaw45.RegulatePowers', WHERE WHAT IT READS IS OF BULK AT MOST 1048576: true; the input reads as it did. -/
def regulatePowersUptoRow : OpenClaim := { program := "ytjhkehdbjnhplaa", sum := "8a2e6432336ba4c76dfd9c462ddcca8d98fccd4cd926caf40058068ab668c2d3", func := "hotspot/hotspotlaw45.RegulatePowers", spec := "regulatePowers", inPlace := ["slices.overlaps[hotspot/api.RegulateBlock]"], unfollowed := true, recurses := true, apart := false, narrowed := true }
def RegulatePowersUptoSaid : Prop := regulatePowersUptoRow.holds Try.pinned (OpenSpec.upto regulatePowersSpec)

/-- 'hotspotlaw45.RegulateBlocks', WHERE WHAT IT READS IS OF BULK AT MOST 1048576: true; the input reads as it did. -/
def regulateBlocksUptoRow : OpenClaim := { program := "ytjhkehdbjnhplaa", sum := "8a2e6432336ba4c76dfd9c462ddcca8d98fccd4cd926caf40058068ab668c2d3", func := "hotspot/hotspotlaw45.RegulateBlocks", spec := "regulateBlocks", inPlace := ["slices.overlaps[hotspot/api.RegulateBlock]"], unfollowed := true, recurses := true, apart := false, narrowed := true }
def RegulateBlocksUptoSaid : Prop := regulateBlocksUptoRow.holds Try.pinned (OpenSpec.upto regulateBlocksSpec)

/-- 'hotspotlaw45.RegulateStates', WHERE WHAT IT READS IS OF BULK AT MOST 1048576: true; the input reads as it did. -/
def regulateStatesUptoRow : OpenClaim := { program := "ytjhkehdbjnhplaa", sum := "8a2e6432336ba4c76dfd9c462ddcca8d98fccd4cd926caf40058068ab668c2d3", func := "hotspot/hotspotlaw45.RegulateStates", spec := "regulateStates", inPlace := ["slices.overlaps[int]"], unfollowed := true, recurses := true, apart := false, narrowed := true }
def RegulateStatesUptoSaid : Prop := regulateStatesUptoRow.holds Try.pinned (OpenSpec.upto regulateStatesSpec)

/-- 'hotspotlaw45.RegulateSteps', WHERE WHAT IT READS IS OF BULK AT MOST 1048576: true; the input reads as it did. -/
def regulateStepsUptoRow : OpenClaim := { program := "ytjhkehdbjnhplaa", sum := "8a2e6432336ba4c76dfd9c462ddcca8d98fccd4cd926caf40058068ab668c2d3", func := "hotspot/hotspotlaw45.RegulateSteps", spec := "regulateSteps", inPlace := ["slices.overlaps[hotspot/api.RegulateBlock]"], unfollowed := true, recurses := true, apart := false, narrowed := true }
def RegulateStepsUptoSaid : Prop := regulateStepsUptoRow.holds Try.pinned (OpenSpec.upto regulateStepsSpec)

/-- 'hotspotlaw45.RegulateQuiet', WHERE WHAT IT READS IS OF BULK AT MOST 1048576: true; the input reads as it did. -/
def regulateQuietUptoRow : OpenClaim := { program := "ytjhkehdbjnhplaa", sum := "8a2e6432336ba4c76dfd9c462ddcca8d98fccd4cd926caf40058068ab668c2d3", func := "hotspot/hotspotlaw45.RegulateQuiet", spec := "regulateQuiet", inPlace := ["slices.overlaps[hotspot/api.RegulateBlock]"], unfollowed := true, recurses := true, apart := false, narrowed := true }
def RegulateQuietUptoSaid : Prop := regulateQuietUptoRow.holds Try.pinned (OpenSpec.upto regulateQuietSpec)

/-- 'hotspotlaw45.RegulateMeets', WHERE WHAT IT READS IS OF BULK AT MOST 1048576: true; the input reads as it did. -/
def regulateMeetsUptoRow : OpenClaim := { program := "ytjhkehdbjnhplaa", sum := "8a2e6432336ba4c76dfd9c462ddcca8d98fccd4cd926caf40058068ab668c2d3", func := "hotspot/hotspotlaw45.RegulateMeets", spec := "regulateMeets", inPlace := ["slices.overlaps[hotspot/api.RegulateBlock]"], unfollowed := true, recurses := true, apart := false, narrowed := true }
def RegulateMeetsUptoSaid : Prop := regulateMeetsUptoRow.holds Try.pinned (OpenSpec.upto regulateMeetsSpec)

/-- 'hotspotlaw45.RegulateNames', WHERE WHAT IT READS IS OF BULK AT MOST 1048576: true; the input reads as it did. -/
def regulateNamesUptoRow : OpenClaim := { program := "ytjhkehdbjnhplaa", sum := "8a2e6432336ba4c76dfd9c462ddcca8d98fccd4cd926caf40058068ab668c2d3", func := "hotspot/hotspotlaw45.RegulateNames", spec := "regulateNames", inPlace := ["slices.overlaps[int]", "slices.overlaps[hotspot/api.RegulateBlock]"], unfollowed := true, recurses := true, apart := false, narrowed := true }
def RegulateNamesUptoSaid : Prop := regulateNamesUptoRow.holds Try.pinned (OpenSpec.upto regulateNamesSpec)

end Rows
end Go.Proofs.Ytjhkehdbjnhplaa
