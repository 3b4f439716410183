/-
  No cell of these rows narrows 'for every input' (looked for: loops, veiled, ifaces, maps, wideKeys, modest, calm, conditions, laid).
  DERIVED. THE GIVEN ROWS OF THIS SEAT. 8 by the template 'for every input the law returns true; each argument reads behind the call as it read before'; 0 by the template 'total and deterministic' (their statements: YtpgcekjnpieibaaTotals.lean).
  GIVEN WITH THE SEED: the statements are not yours to turn. If you find one false, say at which input.
  Laid BY PROGRAM, IN A SANDBOX (cutbox-rows.mjs): the forced cells as the released guide's own fill.sh prints them over the translation 14e57505b5295503… (all of the seat's roots in one cut). By AI agents, Wed Nov 11 2026. No macro, syntax, notation, axiom, sorry.
-/
import Derived.Test.YtpgcekjnpieibaaChecked
import GoSem.Claim
import GoSem.ClaimJoined
import GoSem.ClaimMapViews
import Derived.JoinedTies
import Derived.KernelRfl
namespace Go.Proofs.Ytpgcekjnpieibaa
/- THE CELL 'sum', in the pinned program and in every row, IS THE sha256 OF THE DUMP (.gsa) THAT YtpgcekjnpieibaaProg.lean LOADS. Nothing in Lean hashes anything: it is a label: what it is worth is what the hold of that sum in a sandbox is worth. -/
noncomputable def Try.pinned : Pinned := { name := "ytpgcekjnpieibaa", sum := "14e57505b529550388141476027a3e61665bc6fe84fdc60409196618bb6a2358", checked := Try.checked }
namespace Rows
def none {H : Type} : Left H := { results := [], args := [] }

/-- 'hotspotlaw36.WakeTells': WHATEVER THE INPUT: true; the input reads as it did. -/
def wakeTellsSpec : ChangeSpec := { name := "wakeTells", fn := fun _ => fun
  | [d1, d2] => { results := [.lit (.bool true)], args := [d1, d2] }
  | _ => none }
def wakeTellsRow : OpenClaim := { program := "ytpgcekjnpieibaa", sum := "14e57505b529550388141476027a3e61665bc6fe84fdc60409196618bb6a2358", func := "hotspot/hotspotlaw36.WakeTells", spec := "wakeTells", apart := false }
def WakeTellsSaid : Prop := wakeTellsRow.holds Try.pinned (OpenSpec.ofChange wakeTellsSpec)

/-- ITS FALSE NEIGHBOUR: 'it returns false'. Refute it at one input. -/
def wakeTellsWrong : ChangeSpec := { name := "wakeTells", fn := fun _ => fun
  | [d1, d2] => { results := [.lit (.bool false)], args := [d1, d2] }
  | _ => none }
def WakeTellsWrongFalsely : Prop := wakeTellsRow.holds Try.pinned (OpenSpec.ofChange wakeTellsWrong)

/-- 'hotspotlaw36.WakeNext': WHATEVER THE INPUT: true; the input reads as it did. -/
def wakeNextSpec : ChangeSpec := { name := "wakeNext", fn := fun _ => fun
  | [d1, d2] => { results := [.lit (.bool true)], args := [d1, d2] }
  | _ => none }
def wakeNextRow : OpenClaim := { program := "ytpgcekjnpieibaa", sum := "14e57505b529550388141476027a3e61665bc6fe84fdc60409196618bb6a2358", func := "hotspot/hotspotlaw36.WakeNext", spec := "wakeNext", apart := false }
def WakeNextSaid : Prop := wakeNextRow.holds Try.pinned (OpenSpec.ofChange wakeNextSpec)

/-- ITS FALSE NEIGHBOUR: 'it returns false'. Refute it at one input. -/
def wakeNextWrong : ChangeSpec := { name := "wakeNext", fn := fun _ => fun
  | [d1, d2] => { results := [.lit (.bool false)], args := [d1, d2] }
  | _ => none }
def WakeNextWrongFalsely : Prop := wakeNextRow.holds Try.pinned (OpenSpec.ofChange wakeNextWrong)

/-- 'hotspotlaw36.WakeAwake': WHATEVER THE INPUT: true; the input reads as it did. -/
def wakeAwakeSpec : ChangeSpec := { name := "wakeAwake", fn := fun _ => fun
  | [d1, d2, d3] => { results := [.lit (.bool true)], args := [d1, d2, d3] }
  | _ => none }
def wakeAwakeRow : OpenClaim := { program := "ytpgcekjnpieibaa", sum := "14e57505b529550388141476027a3e61665bc6fe84fdc60409196618bb6a2358", func := "hotspot/hotspotlaw36.WakeAwake", spec := "wakeAwake", apart := false }
def WakeAwakeSaid : Prop := wakeAwakeRow.holds Try.pinned (OpenSpec.ofChange wakeAwakeSpec)

/-- ITS FALSE NEIGHBOUR: 'it returns false'. Refute it at one input. -/
def wakeAwakeWrong : ChangeSpec := { name := "wakeAwake", fn := fun _ => fun
  | [d1, d2, d3] => { results := [.lit (.bool false)], args := [d1, d2, d3] }
  | _ => none }
def WakeAwakeWrongFalsely : Prop := wakeAwakeRow.holds Try.pinned (OpenSpec.ofChange wakeAwakeWrong)

/-- 'hotspotlaw36.WakeShared': WHATEVER THE INPUT: true; the input reads as it did. -/
def wakeSharedSpec : ChangeSpec := { name := "wakeShared", fn := fun _ => fun
  | [d1, d2, d3, d4] => { results := [.lit (.bool true)], args := [d1, d2, d3, d4] }
  | _ => none }
def wakeSharedRow : OpenClaim := { program := "ytpgcekjnpieibaa", sum := "14e57505b529550388141476027a3e61665bc6fe84fdc60409196618bb6a2358", func := "hotspot/hotspotlaw36.WakeShared", spec := "wakeShared", apart := false }
def WakeSharedSaid : Prop := wakeSharedRow.holds Try.pinned (OpenSpec.ofChange wakeSharedSpec)

/-- ITS FALSE NEIGHBOUR: 'it returns false'. Refute it at one input. -/
def wakeSharedWrong : ChangeSpec := { name := "wakeShared", fn := fun _ => fun
  | [d1, d2, d3, d4] => { results := [.lit (.bool false)], args := [d1, d2, d3, d4] }
  | _ => none }
def WakeSharedWrongFalsely : Prop := wakeSharedRow.holds Try.pinned (OpenSpec.ofChange wakeSharedWrong)

/-- 'hotspotlaw36.WakeOverlaps': WHATEVER THE INPUT: true; the input reads as it did. -/
def wakeOverlapsSpec : ChangeSpec := { name := "wakeOverlaps", fn := fun _ => fun
  | [d1, d2, d3] => { results := [.lit (.bool true)], args := [d1, d2, d3] }
  | _ => none }
def wakeOverlapsRow : OpenClaim := { program := "ytpgcekjnpieibaa", sum := "14e57505b529550388141476027a3e61665bc6fe84fdc60409196618bb6a2358", func := "hotspot/hotspotlaw36.WakeOverlaps", spec := "wakeOverlaps", unfollowed := true, recurses := true, apart := false }
def WakeOverlapsSaid : Prop := wakeOverlapsRow.holds Try.pinned (OpenSpec.ofChange wakeOverlapsSpec)

/-- ITS FALSE NEIGHBOUR: 'it returns false'. Refute it at one input. -/
def wakeOverlapsWrong : ChangeSpec := { name := "wakeOverlaps", fn := fun _ => fun
  | [d1, d2, d3] => { results := [.lit (.bool false)], args := [d1, d2, d3] }
  | _ => none }
def WakeOverlapsWrongFalsely : Prop := wakeOverlapsRow.holds Try.pinned (OpenSpec.ofChange wakeOverlapsWrong)

/-- 'hotspotlaw36.WakeTables': WHATEVER THE INPUT: true; the input reads as it did. -/
def wakeTablesSpec : ChangeSpec := { name := "wakeTables", fn := fun _ => fun
  | [d1, d2, d3, d4] => { results := [.lit (.bool true)], args := [d1, d2, d3, d4] }
  | _ => none }
def wakeTablesRow : OpenClaim := { program := "ytpgcekjnpieibaa", sum := "14e57505b529550388141476027a3e61665bc6fe84fdc60409196618bb6a2358", func := "hotspot/hotspotlaw36.WakeTables", spec := "wakeTables", inPlace := ["slices.overlaps[hotspot/api.WakeRule]"], unfollowed := true, recurses := true, apart := false }
def WakeTablesSaid : Prop := wakeTablesRow.holds Try.pinned (OpenSpec.ofChange wakeTablesSpec)

/-- ITS FALSE NEIGHBOUR: 'it returns false'. Refute it at one input. -/
def wakeTablesWrong : ChangeSpec := { name := "wakeTables", fn := fun _ => fun
  | [d1, d2, d3, d4] => { results := [.lit (.bool false)], args := [d1, d2, d3, d4] }
  | _ => none }
def WakeTablesWrongFalsely : Prop := wakeTablesRow.holds Try.pinned (OpenSpec.ofChange wakeTablesWrong)

/-- 'hotspotlaw36.WakeAnswers': WHATEVER THE INPUT: true; the input reads as it did. -/
def wakeAnswersSpec : ChangeSpec := { name := "wakeAnswers", fn := fun _ => fun
  | [d1, d2] => { results := [.lit (.bool true)], args := [d1, d2] }
  | _ => none }
def wakeAnswersRow : OpenClaim := { program := "ytpgcekjnpieibaa", sum := "14e57505b529550388141476027a3e61665bc6fe84fdc60409196618bb6a2358", func := "hotspot/hotspotlaw36.WakeAnswers", spec := "wakeAnswers", inPlace := ["slices.overlaps[hotspot/api.WakeRule]"], unfollowed := true, recurses := true, apart := false }
def WakeAnswersSaid : Prop := wakeAnswersRow.holds Try.pinned (OpenSpec.ofChange wakeAnswersSpec)

/-- ITS FALSE NEIGHBOUR: 'it returns false'. Refute it at one input. -/
def wakeAnswersWrong : ChangeSpec := { name := "wakeAnswers", fn := fun _ => fun
  | [d1, d2] => { results := [.lit (.bool false)], args := [d1, d2] }
  | _ => none }
def WakeAnswersWrongFalsely : Prop := wakeAnswersRow.holds Try.pinned (OpenSpec.ofChange wakeAnswersWrong)

/-- 'hotspotlaw36.WakeNames': WHATEVER THE INPUT: true; the input reads as it did. -/
def wakeNamesSpec : ChangeSpec := { name := "wakeNames", fn := fun _ => fun
  | [] => { results := [.lit (.bool true)], args := [] }
  | _ => none }
def wakeNamesRow : OpenClaim := { program := "ytpgcekjnpieibaa", sum := "14e57505b529550388141476027a3e61665bc6fe84fdc60409196618bb6a2358", func := "hotspot/hotspotlaw36.WakeNames", spec := "wakeNames", inPlace := ["slices.overlaps[hotspot/api.WakeRule]"], unfollowed := true, recurses := true, apart := false }
def WakeNamesSaid : Prop := wakeNamesRow.holds Try.pinned (OpenSpec.ofChange wakeNamesSpec)

/-- ITS FALSE NEIGHBOUR: 'it returns false'. Refute it at one input. -/
def wakeNamesWrong : ChangeSpec := { name := "wakeNames", fn := fun _ => fun
  | [] => { results := [.lit (.bool false)], args := [] }
  | _ => none }
def WakeNamesWrongFalsely : Prop := wakeNamesRow.holds Try.pinned (OpenSpec.ofChange wakeNamesWrong)

/- THE SECOND FORM. 'bulk': how many values and letters a reading holds, each counted each time it is reached (what is shared counts as often as it is met; a slice's spare places count too). A statement '..UptoSaid' is the law's where the arguments, and the package variables that the reading takes, are together of bulk at most 1048576: NARROWER than '..Said'. Prove '..Said' where nothing that the law and all that it calls make is longer than what came in: it says more and counts as full. Else prove '..UptoSaid'. A law counts once. -/
mutual
def uptoBulk {H : Type} : DataW H → Nat
  | .lit (.string bytes) => bytes.length + 1
  | .lit _ => 1
  | .nil => 1
  | .ptr d => uptoBulk d + 1
  | .slice elems spare => uptoBulkAll elems + uptoBulkAll spare + 1
  | .agg parts => uptoBulkAll parts + 1
  | .iface _ d => uptoBulk d + 1
  | .map entries => uptoBulkEntries entries + 1
  | .held _ => 1
def uptoBulkAll {H : Type} : List (DataW H) → Nat
  | [] => 0
  | d :: r => uptoBulk d + uptoBulkAll r
def uptoBulkEntries {H : Type} : List (Lit × DataW H) → Nat
  | [] => 0
  | x :: r => uptoBulkEntry x + uptoBulkEntries r
def uptoBulkEntry {H : Type} : Lit × DataW H → Nat
  | (.string bytes, d) => bytes.length + uptoBulk d + 1
  | (_, d) => uptoBulk d + 1
 end
def uptoSmall : (H : Type) → List (DataW H) → Bool := fun _ ds => decide (uptoBulkAll ds ≤ 1048576)
def OpenSpec.upto (s : _root_.Go.ChangeSpec) : _root_.Go.OpenSpec := { _root_.Go.OpenSpec.ofChange s with cond := some uptoSmall }

/-- 'hotspotlaw36.WakeTells', WHERE WHAT IT READS IS OF BULK AT MOST 1048576: true; the input reads as it did. -/
def wakeTellsUptoRow : OpenClaim := { program := "ytpgcekjnpieibaa", sum := "14e57505b529550388141476027a3e61665bc6fe84fdc60409196618bb6a2358", func := "hotspot/hotspotlaw36.WakeTells", spec := "wakeTells", apart := false, narrowed := true }
def WakeTellsUptoSaid : Prop := wakeTellsUptoRow.holds Try.pinned (OpenSpec.upto wakeTellsSpec)

/-- 'hotspotlaw36.WakeNext', WHERE WHAT IT READS IS OF BULK AT MOST 1048576: true; the input reads as it did. -/
def wakeNextUptoRow : OpenClaim := { program := "ytpgcekjnpieibaa", sum := "14e57505b529550388141476027a3e61665bc6fe84fdc60409196618bb6a2358", func := "hotspot/hotspotlaw36.WakeNext", spec := "wakeNext", apart := false, narrowed := true }
def WakeNextUptoSaid : Prop := wakeNextUptoRow.holds Try.pinned (OpenSpec.upto wakeNextSpec)

/-- 'hotspotlaw36.WakeAwake', WHERE WHAT IT READS IS OF BULK AT MOST 1048576: true; the input reads as it did. -/
def wakeAwakeUptoRow : OpenClaim := { program := "ytpgcekjnpieibaa", sum := "14e57505b529550388141476027a3e61665bc6fe84fdc60409196618bb6a2358", func := "hotspot/hotspotlaw36.WakeAwake", spec := "wakeAwake", apart := false, narrowed := true }
def WakeAwakeUptoSaid : Prop := wakeAwakeUptoRow.holds Try.pinned (OpenSpec.upto wakeAwakeSpec)

/-- 'hotspotlaw36.WakeShared', WHERE WHAT IT READS IS OF BULK AT MOST 1048576: true; the input reads as it did. -/
def wakeSharedUptoRow : OpenClaim := { program := "ytpgcekjnpieibaa", sum := "14e57505b529550388141476027a3e61665bc6fe84fdc60409196618bb6a2358", func := "hotspot/hotspotlaw36.WakeShared", spec := "wakeShared", apart := false, narrowed := true }
def WakeSharedUptoSaid : Prop := wakeSharedUptoRow.holds Try.pinned (OpenSpec.upto wakeSharedSpec)

/-- 'hotspotlaw36.WakeOverlaps', WHERE WHAT IT READS IS OF BULK AT MOST 1048576: true; the input reads as it did. -/
def wakeOverlapsUptoRow : OpenClaim := { program := "ytpgcekjnpieibaa", sum := "14e57505b529550388141476027a3e61665bc6fe84fdc60409196618bb6a2358", func := "hotspot/hotspotlaw36.WakeOverlaps", spec := "wakeOverlaps", unfollowed := true, recurses := true, apart := false, narrowed := true }
def WakeOverlapsUptoSaid : Prop := wakeOverlapsUptoRow.holds Try.pinned (OpenSpec.upto wakeOverlapsSpec)

/-- 'hotspotlaw36.WakeTables', WHERE WHAT IT READS IS OF BULK AT MOST 1048576: true; the input reads as it did. -/
def wakeTablesUptoRow : OpenClaim := { program := "ytpgcekjnpieibaa", sum := "14e57505b529550388141476027a3e61665bc6fe84fdc60409196618bb6a2358", func := "hotspot/hotspotlaw36.WakeTables", spec := "wakeTables", inPlace := ["slices.overlaps[hotspot/api.WakeRule]"], unfollowed := true, recurses := true, apart := false, narrowed := true }
def WakeTablesUptoSaid : Prop := wakeTablesUptoRow.holds Try.pinned (OpenSpec.upto wakeTablesSpec)

/-- 'hotspotlaw36.WakeAnswers', WHERE WHAT IT READS IS OF BULK AT MOST 1048576: true; the input reads as it did. -/
def wakeAnswersUptoRow : OpenClaim := { program := "ytpgcekjnpieibaa", sum := "14e57505b529550388141476027a3e61665bc6fe84fdc60409196618bb6a2358", func := "hotspot/hotspotlaw36.WakeAnswers", spec := "wakeAnswers", inPlace := ["slices.overlaps[hotspot/api.WakeRule]"], unfollowed := true, recurses := true, apart := false, narrowed := true }
def WakeAnswersUptoSaid : Prop := wakeAnswersUptoRow.holds Try.pinned (OpenSpec.upto wakeAnswersSpec)

/-- 'hotspotlaw36.WakeNames', WHERE WHAT IT READS IS OF BULK AT MOST 1048576: true; the input reads as it did. -/
def wakeNamesUptoRow : OpenClaim := { program := "ytpgcekjnpieibaa", sum := "14e57505b529550388141476027a3e61665bc6fe84fdc60409196618bb6a2358", func := "hotspot/hotspotlaw36.WakeNames", spec := "wakeNames", inPlace := ["slices.overlaps[hotspot/api.WakeRule]"], unfollowed := true, recurses := true, apart := false, narrowed := true }
def WakeNamesUptoSaid : Prop := wakeNamesUptoRow.holds Try.pinned (OpenSpec.upto wakeNamesSpec)

end Rows
end Go.Proofs.Ytpgcekjnpieibaa
