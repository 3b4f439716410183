/-
  No cell of these rows narrows 'for every input' (looked for: loops, veiled, ifaces, maps, wideKeys, modest, calm, conditions, laid).
  DERIVED. THE GIVEN ROWS OF THIS SEAT. 8 by the template 'for every input the law returns true; each argument reads behind the call as it read before'; 0 by the template 'total and deterministic' (their statements: YtefiemaoacmdkaaTotals.lean).
  GIVEN WITH THE SEED: the statements are not yours to turn. If you find one false, say at which input.
  Laid BY PROGRAM, IN A SANDBOX (cutbox-rows.mjs): the forced cells as the released guide's own fill.sh prints them over the translation 2c6b86b02b17e75f… (all of the seat's roots in one cut). By AI agents, Wed Nov 11 2026. No macro, syntax, notation, axiom, sorry.
-/
import Derived.Test.YtefiemaoacmdkaaChecked
import GoSem.Claim
import GoSem.ClaimJoined
import GoSem.ClaimMapViews
import Derived.JoinedTies
import Derived.KernelRfl
namespace Go.Proofs.Ytefiemaoacmdkaa
/- THE CELL 'sum', in the pinned program and in every row, IS THE sha256 OF THE DUMP (.gsa) THAT YtefiemaoacmdkaaProg.lean LOADS. Nothing in Lean hashes anything: it is a label: what it is worth is what the hold of that sum in a sandbox is worth. -/
noncomputable def Try.pinned : Pinned := { name := "ytefiemaoacmdkaa", sum := "2c6b86b02b17e75f87d86ad3028eeba5eadf404eedf0904b163108cca4b1c29c", checked := Try.checked }
namespace Rows
def none {H : Type} : Left H := { results := [], args := [] }

/-- 'hotspotlaw34.BufferMaps': WHATEVER THE INPUT: true; the input reads as it did. -/
def bufferMapsSpec : ChangeSpec := { name := "bufferMaps", fn := fun _ => fun
  | [d1, d2, d3] => { results := [.lit (.bool true)], args := [d1, d2, d3] }
  | _ => none }
def bufferMapsRow : OpenClaim := { program := "ytefiemaoacmdkaa", sum := "2c6b86b02b17e75f87d86ad3028eeba5eadf404eedf0904b163108cca4b1c29c", func := "hotspot/hotspotlaw34.BufferMaps", spec := "bufferMaps", unfollowed := true, recurses := true, apart := false }
def BufferMapsSaid : Prop := bufferMapsRow.holds Try.pinned (OpenSpec.ofChange bufferMapsSpec)

/-- ITS FALSE NEIGHBOUR: 'it returns false'. Refute it at one input. -/
def bufferMapsWrong : ChangeSpec := { name := "bufferMaps", fn := fun _ => fun
  | [d1, d2, d3] => { results := [.lit (.bool false)], args := [d1, d2, d3] }
  | _ => none }
def BufferMapsWrongFalsely : Prop := bufferMapsRow.holds Try.pinned (OpenSpec.ofChange bufferMapsWrong)

/-- 'hotspotlaw34.BufferAwake': WHATEVER THE INPUT: true; the input reads as it did. -/
def bufferAwakeSpec : ChangeSpec := { name := "bufferAwake", fn := fun _ => fun
  | [d1, d2, d3, d4] => { results := [.lit (.bool true)], args := [d1, d2, d3, d4] }
  | _ => none }
def bufferAwakeRow : OpenClaim := { program := "ytefiemaoacmdkaa", sum := "2c6b86b02b17e75f87d86ad3028eeba5eadf404eedf0904b163108cca4b1c29c", func := "hotspot/hotspotlaw34.BufferAwake", spec := "bufferAwake", inPlace := ["slices.overlaps[hotspot/api.Sleeper]"], unfollowed := true, recurses := true, apart := false }
def BufferAwakeSaid : Prop := bufferAwakeRow.holds Try.pinned (OpenSpec.ofChange bufferAwakeSpec)

/-- ITS FALSE NEIGHBOUR: 'it returns false'. Refute it at one input. -/
def bufferAwakeWrong : ChangeSpec := { name := "bufferAwake", fn := fun _ => fun
  | [d1, d2, d3, d4] => { results := [.lit (.bool false)], args := [d1, d2, d3, d4] }
  | _ => none }
def BufferAwakeWrongFalsely : Prop := bufferAwakeRow.holds Try.pinned (OpenSpec.ofChange bufferAwakeWrong)

/-- 'hotspotlaw34.BufferAged': WHATEVER THE INPUT: true; the input reads as it did. -/
def bufferAgedSpec : ChangeSpec := { name := "bufferAged", fn := fun _ => fun
  | [d1, d2] => { results := [.lit (.bool true)], args := [d1, d2] }
  | _ => none }
def bufferAgedRow : OpenClaim := { program := "ytefiemaoacmdkaa", sum := "2c6b86b02b17e75f87d86ad3028eeba5eadf404eedf0904b163108cca4b1c29c", func := "hotspot/hotspotlaw34.BufferAged", spec := "bufferAged", inPlace := ["slices.overlaps[hotspot/api.Sleeper]"], unfollowed := true, recurses := true, apart := false }
def BufferAgedSaid : Prop := bufferAgedRow.holds Try.pinned (OpenSpec.ofChange bufferAgedSpec)

/-- ITS FALSE NEIGHBOUR: 'it returns false'. Refute it at one input. -/
def bufferAgedWrong : ChangeSpec := { name := "bufferAged", fn := fun _ => fun
  | [d1, d2] => { results := [.lit (.bool false)], args := [d1, d2] }
  | _ => none }
def BufferAgedWrongFalsely : Prop := bufferAgedRow.holds Try.pinned (OpenSpec.ofChange bufferAgedWrong)

/-- 'hotspotlaw34.BufferMap': WHATEVER THE INPUT: true; the input reads as it did. -/
def bufferMapSpec : ChangeSpec := { name := "bufferMap", fn := fun _ => fun
  | [d1, d2] => { results := [.lit (.bool true)], args := [d1, d2] }
  | _ => none }
def bufferMapRow : OpenClaim := { program := "ytefiemaoacmdkaa", sum := "2c6b86b02b17e75f87d86ad3028eeba5eadf404eedf0904b163108cca4b1c29c", func := "hotspot/hotspotlaw34.BufferMap", spec := "bufferMap", inPlace := ["slices.overlaps[hotspot/api.Sleeper]"], unfollowed := true, recurses := true, apart := false }
def BufferMapSaid : Prop := bufferMapRow.holds Try.pinned (OpenSpec.ofChange bufferMapSpec)

/-- ITS FALSE NEIGHBOUR: 'it returns false'. Refute it at one input. -/
def bufferMapWrong : ChangeSpec := { name := "bufferMap", fn := fun _ => fun
  | [d1, d2] => { results := [.lit (.bool false)], args := [d1, d2] }
  | _ => none }
def BufferMapWrongFalsely : Prop := bufferMapRow.holds Try.pinned (OpenSpec.ofChange bufferMapWrong)

/-- 'hotspotlaw34.BufferSteps': WHATEVER THE INPUT: true; the input reads as it did. -/
def bufferStepsSpec : ChangeSpec := { name := "bufferSteps", fn := fun _ => fun
  | [d1, d2] => { results := [.lit (.bool true)], args := [d1, d2] }
  | _ => none }
def bufferStepsRow : OpenClaim := { program := "ytefiemaoacmdkaa", sum := "2c6b86b02b17e75f87d86ad3028eeba5eadf404eedf0904b163108cca4b1c29c", func := "hotspot/hotspotlaw34.BufferSteps", spec := "bufferSteps", inPlace := ["slices.overlaps[hotspot/api.Sleeper]"], unfollowed := true, recurses := true, apart := false }
def BufferStepsSaid : Prop := bufferStepsRow.holds Try.pinned (OpenSpec.ofChange bufferStepsSpec)

/-- ITS FALSE NEIGHBOUR: 'it returns false'. Refute it at one input. -/
def bufferStepsWrong : ChangeSpec := { name := "bufferSteps", fn := fun _ => fun
  | [d1, d2] => { results := [.lit (.bool false)], args := [d1, d2] }
  | _ => none }
def BufferStepsWrongFalsely : Prop := bufferStepsRow.holds Try.pinned (OpenSpec.ofChange bufferStepsWrong)

/-- 'hotspotlaw34.BufferOnce': WHATEVER THE INPUT: true; the input reads as it did. -/
def bufferOnceSpec : ChangeSpec := { name := "bufferOnce", fn := fun _ => fun
  | [d1, d2, d3] => { results := [.lit (.bool true)], args := [d1, d2, d3] }
  | _ => none }
def bufferOnceRow : OpenClaim := { program := "ytefiemaoacmdkaa", sum := "2c6b86b02b17e75f87d86ad3028eeba5eadf404eedf0904b163108cca4b1c29c", func := "hotspot/hotspotlaw34.BufferOnce", spec := "bufferOnce", inPlace := ["slices.overlaps[hotspot/api.Sleeper]"], unfollowed := true, recurses := true, apart := false }
def BufferOnceSaid : Prop := bufferOnceRow.holds Try.pinned (OpenSpec.ofChange bufferOnceSpec)

/-- ITS FALSE NEIGHBOUR: 'it returns false'. Refute it at one input. -/
def bufferOnceWrong : ChangeSpec := { name := "bufferOnce", fn := fun _ => fun
  | [d1, d2, d3] => { results := [.lit (.bool false)], args := [d1, d2, d3] }
  | _ => none }
def BufferOnceWrongFalsely : Prop := bufferOnceRow.holds Try.pinned (OpenSpec.ofChange bufferOnceWrong)

/-- 'hotspotlaw34.BufferKeeps': WHATEVER THE INPUT: true; the input reads as it did. -/
def bufferKeepsSpec : ChangeSpec := { name := "bufferKeeps", fn := fun _ => fun
  | [d1, d2] => { results := [.lit (.bool true)], args := [d1, d2] }
  | _ => none }
def bufferKeepsRow : OpenClaim := { program := "ytefiemaoacmdkaa", sum := "2c6b86b02b17e75f87d86ad3028eeba5eadf404eedf0904b163108cca4b1c29c", func := "hotspot/hotspotlaw34.BufferKeeps", spec := "bufferKeeps", inPlace := ["slices.overlaps[hotspot/api.Sleeper]"], unfollowed := true, recurses := true, apart := false }
def BufferKeepsSaid : Prop := bufferKeepsRow.holds Try.pinned (OpenSpec.ofChange bufferKeepsSpec)

/-- ITS FALSE NEIGHBOUR: 'it returns false'. Refute it at one input. -/
def bufferKeepsWrong : ChangeSpec := { name := "bufferKeeps", fn := fun _ => fun
  | [d1, d2] => { results := [.lit (.bool false)], args := [d1, d2] }
  | _ => none }
def BufferKeepsWrongFalsely : Prop := bufferKeepsRow.holds Try.pinned (OpenSpec.ofChange bufferKeepsWrong)

/-- 'hotspotlaw34.BufferNames': WHATEVER THE INPUT: true; the input reads as it did. -/
def bufferNamesSpec : ChangeSpec := { name := "bufferNames", fn := fun _ => fun
  | [] => { results := [.lit (.bool true)], args := [] }
  | _ => none }
def bufferNamesRow : OpenClaim := { program := "ytefiemaoacmdkaa", sum := "2c6b86b02b17e75f87d86ad3028eeba5eadf404eedf0904b163108cca4b1c29c", func := "hotspot/hotspotlaw34.BufferNames", spec := "bufferNames", inPlace := ["slices.overlaps[hotspot/api.Sleeper]"], unfollowed := true, recurses := true, apart := false }
def BufferNamesSaid : Prop := bufferNamesRow.holds Try.pinned (OpenSpec.ofChange bufferNamesSpec)

/-- ITS FALSE NEIGHBOUR: 'it returns false'. Refute it at one input. -/
def bufferNamesWrong : ChangeSpec := { name := "bufferNames", fn := fun _ => fun
  | [] => { results := [.lit (.bool false)], args := [] }
  | _ => none }
def BufferNamesWrongFalsely : Prop := bufferNamesRow.holds Try.pinned (OpenSpec.ofChange bufferNamesWrong)

/- THE SECOND FORM. 'bulk': how many values and letters a reading holds, each counted each time it is reached (what is shared counts as often as it is met; a slice's spare places count too). A statement '..UptoSaid' is the law's where the arguments, and the package variables that the reading takes, are together of bulk at most 1048576: NARROWER than '..Said'. Prove '..Said' where nothing that the law and all that it calls make is longer than what came in: it says more and counts as full. Else prove '..UptoSaid'. A law counts once. -/
mutual
def uptoBulk {H : Type} : DataW H → Nat
  | .lit (.string bytes) => bytes.length + 1
  | .lit _ => 1
  | .nil => 1
  | .ptr d => uptoBulk d + 1
  | .slice elems spare => uptoBulkAll elems + uptoBulkAll spare + 1
  | .agg parts => uptoBulkAll parts + 1
  | .iface _ d => uptoBulk d + 1
  | .map entries => uptoBulkEntries entries + 1
  | .held _ => 1
def uptoBulkAll {H : Type} : List (DataW H) → Nat
  | [] => 0
  | d :: r => uptoBulk d + uptoBulkAll r
def uptoBulkEntries {H : Type} : List (Lit × DataW H) → Nat
  | [] => 0
  | x :: r => uptoBulkEntry x + uptoBulkEntries r
def uptoBulkEntry {H : Type} : Lit × DataW H → Nat
  | (.string bytes, d) => bytes.length + uptoBulk d + 1
  | (_, d) => uptoBulk d + 1
 end
def uptoSmall : (H : Type) → List (DataW H) → Bool := fun _ ds => decide (uptoBulkAll ds ≤ 1048576)
def OpenSpec.upto (s : _root_.Go.ChangeSpec) : _root_.Go.OpenSpec := { _root_.Go.OpenSpec.ofChange s with cond := some uptoSmall }

/-- 'hotspotlaw34.BufferMaps', WHERE WHAT IT READS IS OF BULK AT MOST 1048576: true; the input reads as it did. -/
def bufferMapsUptoRow : OpenClaim := { program := "ytefiemaoacmdkaa", sum := "2c6b86b02b17e75f87d86ad3028eeba5eadf404eedf0904b163108cca4b1c29c", func := "hotspot/hotspotlaw34.BufferMaps", spec := "bufferMaps", unfollowed := true, recurses := true, apart := false, narrowed := true }
def BufferMapsUptoSaid : Prop := bufferMapsUptoRow.holds Try.pinned (OpenSpec.upto bufferMapsSpec)

/-- 'hotspotlaw34.BufferAwake', WHERE WHAT IT READS IS OF BULK AT MOST 1048576: true; the input reads as it did. -/
def bufferAwakeUptoRow : OpenClaim := { program := "ytefiemaoacmdkaa", sum := "2c6b86b02b17e75f87d86ad3028eeba5eadf404eedf0904b163108cca4b1c29c", func := "hotspot/hotspotlaw34.BufferAwake", spec := "bufferAwake", inPlace := ["slices.overlaps[hotspot/api.Sleeper]"], unfollowed := true, recurses := true, apart := false, narrowed := true }
def BufferAwakeUptoSaid : Prop := bufferAwakeUptoRow.holds Try.pinned (OpenSpec.upto bufferAwakeSpec)

/-- 'hotspotlaw34.BufferAged', WHERE WHAT IT READS IS OF BULK AT MOST 1048576: true; the input reads as it did. -/
def bufferAgedUptoRow : OpenClaim := { program := "ytefiemaoacmdkaa", sum := "2c6b86b02b17e75f87d86ad3028eeba5eadf404eedf0904b163108cca4b1c29c", func := "hotspot/hotspotlaw34.BufferAged", spec := "bufferAged", inPlace := ["slices.overlaps[hotspot/api.Sleeper]"], unfollowed := true, recurses := true, apart := false, narrowed := true }
def BufferAgedUptoSaid : Prop := bufferAgedUptoRow.holds Try.pinned (OpenSpec.upto bufferAgedSpec)

/-- 'hotspotlaw34.BufferMap', WHERE WHAT IT READS IS OF BULK AT MOST 1048576: true; the input reads as it did. -/
def bufferMapUptoRow : OpenClaim := { program := "ytefiemaoacmdkaa", sum := "2c6b86b02b17e75f87d86ad3028eeba5eadf404eedf0904b163108cca4b1c29c", func := "hotspot/hotspotlaw34.BufferMap", spec := "bufferMap", inPlace := ["slices.overlaps[hotspot/api.Sleeper]"], unfollowed := true, recurses := true, apart := false, narrowed := true }
def BufferMapUptoSaid : Prop := bufferMapUptoRow.holds Try.pinned (OpenSpec.upto bufferMapSpec)

/-- 'hotspotlaw34.BufferSteps', WHERE WHAT IT READS IS OF BULK AT MOST 1048576: true; the input reads as it did. -/
def bufferStepsUptoRow : OpenClaim := { program := "ytefiemaoacmdkaa", sum := "2c6b86b02b17e75f87d86ad3028eeba5eadf404eedf0904b163108cca4b1c29c", func := "hotspot/hotspotlaw34.BufferSteps", spec := "bufferSteps", inPlace := ["slices.overlaps[hotspot/api.Sleeper]"], unfollowed := true, recurses := true, apart := false, narrowed := true }
def BufferStepsUptoSaid : Prop := bufferStepsUptoRow.holds Try.pinned (OpenSpec.upto bufferStepsSpec)

/-- 'hotspotlaw34.BufferOnce', WHERE WHAT IT READS IS OF BULK AT MOST 1048576: true; the input reads as it did. -/
def bufferOnceUptoRow : OpenClaim := { program := "ytefiemaoacmdkaa", sum := "2c6b86b02b17e75f87d86ad3028eeba5eadf404eedf0904b163108cca4b1c29c", func := "hotspot/hotspotlaw34.BufferOnce", spec := "bufferOnce", inPlace := ["slices.overlaps[hotspot/api.Sleeper]"], unfollowed := true, recurses := true, apart := false, narrowed := true }
def BufferOnceUptoSaid : Prop := bufferOnceUptoRow.holds Try.pinned (OpenSpec.upto bufferOnceSpec)

/-- 'hotspotlaw34.BufferKeeps', WHERE WHAT IT READS IS OF BULK AT MOST 1048576: true; the input reads as it did. -/
def bufferKeepsUptoRow : OpenClaim := { program := "ytefiemaoacmdkaa", sum := "2c6b86b02b17e75f87d86ad3028eeba5eadf404eedf0904b163108cca4b1c29c", func := "hotspot/hotspotlaw34.BufferKeeps", spec := "bufferKeeps", inPlace := ["slices.overlaps[hotspot/api.Sleeper]"], unfollowed := true, recurses := true, apart := false, narrowed := true }
def BufferKeepsUptoSaid : Prop := bufferKeepsUptoRow.holds Try.pinned (OpenSpec.upto bufferKeepsSpec)

/-- 'hotspotlaw34.BufferNames', WHERE WHAT IT READS IS OF BULK AT MOST 1048576: true; the input reads as it did. -/
def bufferNamesUptoRow : OpenClaim := { program := "ytefiemaoacmdkaa", sum := "2c6b86b02b17e75f87d86ad3028eeba5eadf404eedf0904b163108cca4b1c29c", func := "hotspot/hotspotlaw34.BufferNames", spec := "bufferNames", inPlace := ["slices.overlaps[hotspot/api.Sleeper]"], unfollowed := true, recurses := true, apart := false, narrowed := true }
def BufferNamesUptoSaid : Prop := bufferNamesUptoRow.holds Try.pinned (OpenSpec.upto bufferNamesSpec)

end Rows
end Go.Proofs.Ytefiemaoacmdkaa
