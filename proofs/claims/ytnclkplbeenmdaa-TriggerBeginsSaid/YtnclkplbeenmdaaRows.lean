/-
  No cell of these rows narrows 'for every input' (looked for: loops, veiled, ifaces, maps, wideKeys, modest, calm, conditions, laid).
  DERIVED. THE GIVEN ROWS OF THIS SEAT. 8 by the template 'for every input the law returns true; each argument reads behind the call as it read before'; 0 by the template 'total and deterministic' (their statements: YtnclkplbeenmdaaTotals.lean).
  GIVEN WITH THE SEED: the statements are not yours to turn. If you find one false, say at which input.
  Laid BY PROGRAM, IN A SANDBOX (cutbox-rows.mjs): the forced cells as the released guide's own fill.sh prints them over the translation 2d2a63fc8640c106… (all of the seat's roots in one cut). By AI agents, Wed Nov 11 2026. No macro, syntax, notation, axiom, sorry.
-/
import Derived.Test.YtnclkplbeenmdaaChecked
import GoSem.Claim
import GoSem.ClaimJoined
import GoSem.ClaimMapViews
import Derived.JoinedTies
import Derived.KernelRfl
namespace Go.Proofs.Ytnclkplbeenmdaa
/- THE CELL 'sum', in the pinned program and in every row, IS THE sha256 OF THE DUMP (.gsa) THAT YtnclkplbeenmdaaProg.lean LOADS. Nothing in Lean hashes anything: it is a label: what it is worth is what the hold of that sum in a sandbox is worth. -/
noncomputable def Try.pinned : Pinned := { name := "ytnclkplbeenmdaa", sum := "2d2a63fc8640c106e981ab3677e6397adaae20eb3ec821c58f546f3355af2060", checked := Try.checked }
namespace Rows
def none {H : Type} : Left H := { results := [], args := [] }

/-- 'hotspotlaw35.TriggerTells': WHATEVER THE INPUT: true; the input reads as it did. -/
def triggerTellsSpec : ChangeSpec := { name := "triggerTells", fn := fun _ => fun
  | [d1, d2, d3] => { results := [.lit (.bool true)], args := [d1, d2, d3] }
  | _ => none }
def triggerTellsRow : OpenClaim := { program := "ytnclkplbeenmdaa", sum := "2d2a63fc8640c106e981ab3677e6397adaae20eb3ec821c58f546f3355af2060", func := "hotspot/hotspotlaw35.TriggerTells", spec := "triggerTells", apart := false }
def TriggerTellsSaid : Prop := triggerTellsRow.holds Try.pinned (OpenSpec.ofChange triggerTellsSpec)

/-- ITS FALSE NEIGHBOUR: 'it returns false'. Refute it at one input. -/
def triggerTellsWrong : ChangeSpec := { name := "triggerTells", fn := fun _ => fun
  | [d1, d2, d3] => { results := [.lit (.bool false)], args := [d1, d2, d3] }
  | _ => none }
def TriggerTellsWrongFalsely : Prop := triggerTellsRow.holds Try.pinned (OpenSpec.ofChange triggerTellsWrong)

/-- 'hotspotlaw35.TriggerMaps': WHATEVER THE INPUT: true; the input reads as it did. -/
def triggerMapsSpec : ChangeSpec := { name := "triggerMaps", fn := fun _ => fun
  | [d1, d2] => { results := [.lit (.bool true)], args := [d1, d2] }
  | _ => none }
def triggerMapsRow : OpenClaim := { program := "ytnclkplbeenmdaa", sum := "2d2a63fc8640c106e981ab3677e6397adaae20eb3ec821c58f546f3355af2060", func := "hotspot/hotspotlaw35.TriggerMaps", spec := "triggerMaps", unfollowed := true, recurses := true, apart := false }
def TriggerMapsSaid : Prop := triggerMapsRow.holds Try.pinned (OpenSpec.ofChange triggerMapsSpec)

/-- ITS FALSE NEIGHBOUR: 'it returns false'. Refute it at one input. -/
def triggerMapsWrong : ChangeSpec := { name := "triggerMaps", fn := fun _ => fun
  | [d1, d2] => { results := [.lit (.bool false)], args := [d1, d2] }
  | _ => none }
def TriggerMapsWrongFalsely : Prop := triggerMapsRow.holds Try.pinned (OpenSpec.ofChange triggerMapsWrong)

/-- 'hotspotlaw35.TriggerBegins': WHATEVER THE INPUT: true; the input reads as it did. -/
def triggerBeginsSpec : ChangeSpec := { name := "triggerBegins", fn := fun _ => fun
  | [d1, d2, d3, d4, d5] => { results := [.lit (.bool true)], args := [d1, d2, d3, d4, d5] }
  | _ => none }
def triggerBeginsRow : OpenClaim := { program := "ytnclkplbeenmdaa", sum := "2d2a63fc8640c106e981ab3677e6397adaae20eb3ec821c58f546f3355af2060", func := "hotspot/hotspotlaw35.TriggerBegins", spec := "triggerBegins", unfollowed := true, recurses := true, apart := false }
def TriggerBeginsSaid : Prop := triggerBeginsRow.holds Try.pinned (OpenSpec.ofChange triggerBeginsSpec)

/-- ITS FALSE NEIGHBOUR: 'it returns false'. Refute it at one input. -/
def triggerBeginsWrong : ChangeSpec := { name := "triggerBegins", fn := fun _ => fun
  | [d1, d2, d3, d4, d5] => { results := [.lit (.bool false)], args := [d1, d2, d3, d4, d5] }
  | _ => none }
def TriggerBeginsWrongFalsely : Prop := triggerBeginsRow.holds Try.pinned (OpenSpec.ofChange triggerBeginsWrong)

/-- 'hotspotlaw35.TriggerKeeps': WHATEVER THE INPUT: true; the input reads as it did. -/
def triggerKeepsSpec : ChangeSpec := { name := "triggerKeeps", fn := fun _ => fun
  | [d1, d2, d3, d4, d5] => { results := [.lit (.bool true)], args := [d1, d2, d3, d4, d5] }
  | _ => none }
def triggerKeepsRow : OpenClaim := { program := "ytnclkplbeenmdaa", sum := "2d2a63fc8640c106e981ab3677e6397adaae20eb3ec821c58f546f3355af2060", func := "hotspot/hotspotlaw35.TriggerKeeps", spec := "triggerKeeps", unfollowed := true, recurses := true, apart := false }
def TriggerKeepsSaid : Prop := triggerKeepsRow.holds Try.pinned (OpenSpec.ofChange triggerKeepsSpec)

/-- ITS FALSE NEIGHBOUR: 'it returns false'. Refute it at one input. -/
def triggerKeepsWrong : ChangeSpec := { name := "triggerKeeps", fn := fun _ => fun
  | [d1, d2, d3, d4, d5] => { results := [.lit (.bool false)], args := [d1, d2, d3, d4, d5] }
  | _ => none }
def TriggerKeepsWrongFalsely : Prop := triggerKeepsRow.holds Try.pinned (OpenSpec.ofChange triggerKeepsWrong)

/-- 'hotspotlaw35.TriggerUntil': WHATEVER THE INPUT: true; the input reads as it did. -/
def triggerUntilSpec : ChangeSpec := { name := "triggerUntil", fn := fun _ => fun
  | [d1, d2, d3, d4, d5] => { results := [.lit (.bool true)], args := [d1, d2, d3, d4, d5] }
  | _ => none }
def triggerUntilRow : OpenClaim := { program := "ytnclkplbeenmdaa", sum := "2d2a63fc8640c106e981ab3677e6397adaae20eb3ec821c58f546f3355af2060", func := "hotspot/hotspotlaw35.TriggerUntil", spec := "triggerUntil", unfollowed := true, recurses := true, apart := false }
def TriggerUntilSaid : Prop := triggerUntilRow.holds Try.pinned (OpenSpec.ofChange triggerUntilSpec)

/-- ITS FALSE NEIGHBOUR: 'it returns false'. Refute it at one input. -/
def triggerUntilWrong : ChangeSpec := { name := "triggerUntil", fn := fun _ => fun
  | [d1, d2, d3, d4, d5] => { results := [.lit (.bool false)], args := [d1, d2, d3, d4, d5] }
  | _ => none }
def TriggerUntilWrongFalsely : Prop := triggerUntilRow.holds Try.pinned (OpenSpec.ofChange triggerUntilWrong)

/-- 'hotspotlaw35.TriggerEnds': WHATEVER THE INPUT: true; the input reads as it did. -/
def triggerEndsSpec : ChangeSpec := { name := "triggerEnds", fn := fun _ => fun
  | [d1, d2, d3, d4, d5] => { results := [.lit (.bool true)], args := [d1, d2, d3, d4, d5] }
  | _ => none }
def triggerEndsRow : OpenClaim := { program := "ytnclkplbeenmdaa", sum := "2d2a63fc8640c106e981ab3677e6397adaae20eb3ec821c58f546f3355af2060", func := "hotspot/hotspotlaw35.TriggerEnds", spec := "triggerEnds", unfollowed := true, recurses := true, apart := false }
def TriggerEndsSaid : Prop := triggerEndsRow.holds Try.pinned (OpenSpec.ofChange triggerEndsSpec)

/-- ITS FALSE NEIGHBOUR: 'it returns false'. Refute it at one input. -/
def triggerEndsWrong : ChangeSpec := { name := "triggerEnds", fn := fun _ => fun
  | [d1, d2, d3, d4, d5] => { results := [.lit (.bool false)], args := [d1, d2, d3, d4, d5] }
  | _ => none }
def TriggerEndsWrongFalsely : Prop := triggerEndsRow.holds Try.pinned (OpenSpec.ofChange triggerEndsWrong)

/-- 'hotspotlaw35.TriggerMap': WHATEVER THE INPUT: true; the input reads as it did. -/
def triggerMapSpec : ChangeSpec := { name := "triggerMap", fn := fun _ => fun
  | [d1, d2, d3] => { results := [.lit (.bool true)], args := [d1, d2, d3] }
  | _ => none }
def triggerMapRow : OpenClaim := { program := "ytnclkplbeenmdaa", sum := "2d2a63fc8640c106e981ab3677e6397adaae20eb3ec821c58f546f3355af2060", func := "hotspot/hotspotlaw35.TriggerMap", spec := "triggerMap", unfollowed := true, recurses := true, apart := false }
def TriggerMapSaid : Prop := triggerMapRow.holds Try.pinned (OpenSpec.ofChange triggerMapSpec)

/-- ITS FALSE NEIGHBOUR: 'it returns false'. Refute it at one input. -/
def triggerMapWrong : ChangeSpec := { name := "triggerMap", fn := fun _ => fun
  | [d1, d2, d3] => { results := [.lit (.bool false)], args := [d1, d2, d3] }
  | _ => none }
def TriggerMapWrongFalsely : Prop := triggerMapRow.holds Try.pinned (OpenSpec.ofChange triggerMapWrong)

/-- 'hotspotlaw35.TriggerNames': WHATEVER THE INPUT: true; the input reads as it did. -/
def triggerNamesSpec : ChangeSpec := { name := "triggerNames", fn := fun _ => fun
  | [] => { results := [.lit (.bool true)], args := [] }
  | _ => none }
def triggerNamesRow : OpenClaim := { program := "ytnclkplbeenmdaa", sum := "2d2a63fc8640c106e981ab3677e6397adaae20eb3ec821c58f546f3355af2060", func := "hotspot/hotspotlaw35.TriggerNames", spec := "triggerNames", unfollowed := true, recurses := true, apart := false }
def TriggerNamesSaid : Prop := triggerNamesRow.holds Try.pinned (OpenSpec.ofChange triggerNamesSpec)

/-- ITS FALSE NEIGHBOUR: 'it returns false'. Refute it at one input. -/
def triggerNamesWrong : ChangeSpec := { name := "triggerNames", fn := fun _ => fun
  | [] => { results := [.lit (.bool false)], args := [] }
  | _ => none }
def TriggerNamesWrongFalsely : Prop := triggerNamesRow.holds Try.pinned (OpenSpec.ofChange triggerNamesWrong)

/- THE SECOND FORM. 'bulk': how many values and letters a reading holds, each counted each time it is reached (what is shared counts as often as it is met; a slice's spare places count too). A statement '..UptoSaid' is the law's where the arguments, and the package variables that the reading takes, are together of bulk at most 1048576: NARROWER than '..Said'. Prove '..Said' where nothing that the law and all that it calls make is longer than what came in: it says more and counts as full. Else prove '..UptoSaid'. A law counts once. -/
mutual
def uptoBulk {H : Type} : DataW H → Nat
  | .lit (.string bytes) => bytes.length + 1
  | .lit _ => 1
  | .nil => 1
  | .ptr d => uptoBulk d + 1
  | .slice elems spare => uptoBulkAll elems + uptoBulkAll spare + 1
  | .agg parts => uptoBulkAll parts + 1
  | .iface _ d => uptoBulk d + 1
  | .map entries => uptoBulkEntries entries + 1
  | .held _ => 1
def uptoBulkAll {H : Type} : List (DataW H) → Nat
  | [] => 0
  | d :: r => uptoBulk d + uptoBulkAll r
def uptoBulkEntries {H : Type} : List (Lit × DataW H) → Nat
  | [] => 0
  | x :: r => uptoBulkEntry x + uptoBulkEntries r
def uptoBulkEntry {H : Type} : Lit × DataW H → Nat
  | (.string bytes, d) => bytes.length + uptoBulk d + 1
  | (_, d) => uptoBulk d + 1
 end
def uptoSmall : (H : Type) → List (DataW H) → Bool := fun _ ds => decide (uptoBulkAll ds ≤ 1048576)
def OpenSpec.upto (s : _root_.Go.ChangeSpec) : _root_.Go.OpenSpec := { _root_.Go.OpenSpec.ofChange s with cond := some uptoSmall }

/-- 'hotspotlaw35.TriggerTells', WHERE WHAT IT READS IS OF BULK AT MOST 1048576: true; the input reads as it did. -/
def triggerTellsUptoRow : OpenClaim := { program := "ytnclkplbeenmdaa", sum := "2d2a63fc8640c106e981ab3677e6397adaae20eb3ec821c58f546f3355af2060", func := "hotspot/hotspotlaw35.TriggerTells", spec := "triggerTells", apart := false, narrowed := true }
def TriggerTellsUptoSaid : Prop := triggerTellsUptoRow.holds Try.pinned (OpenSpec.upto triggerTellsSpec)

/-- 'hotspotlaw35.TriggerMaps', WHERE WHAT IT READS IS OF BULK AT MOST 1048576: true; the input reads as it did. -/
def triggerMapsUptoRow : OpenClaim := { program := "ytnclkplbeenmdaa", sum := "2d2a63fc8640c106e981ab3677e6397adaae20eb3ec821c58f546f3355af2060", func := "hotspot/hotspotlaw35.TriggerMaps", spec := "triggerMaps", unfollowed := true, recurses := true, apart := false, narrowed := true }
def TriggerMapsUptoSaid : Prop := triggerMapsUptoRow.holds Try.pinned (OpenSpec.upto triggerMapsSpec)

/-- 'hotspotlaw35.TriggerBegins', WHERE WHAT IT READS IS OF BULK AT MOST 1048576: true; the input reads as it did. -/
def triggerBeginsUptoRow : OpenClaim := { program := "ytnclkplbeenmdaa", sum := "2d2a63fc8640c106e981ab3677e6397adaae20eb3ec821c58f546f3355af2060", func := "hotspot/hotspotlaw35.TriggerBegins", spec := "triggerBegins", unfollowed := true, recurses := true, apart := false, narrowed := true }
def TriggerBeginsUptoSaid : Prop := triggerBeginsUptoRow.holds Try.pinned (OpenSpec.upto triggerBeginsSpec)

/-- 'hotspotlaw35.TriggerKeeps', WHERE WHAT IT READS IS OF BULK AT MOST 1048576: true; the input reads as it did. -/
def triggerKeepsUptoRow : OpenClaim := { program := "ytnclkplbeenmdaa", sum := "2d2a63fc8640c106e981ab3677e6397adaae20eb3ec821c58f546f3355af2060", func := "hotspot/hotspotlaw35.TriggerKeeps", spec := "triggerKeeps", unfollowed := true, recurses := true, apart := false, narrowed := true }
def TriggerKeepsUptoSaid : Prop := triggerKeepsUptoRow.holds Try.pinned (OpenSpec.upto triggerKeepsSpec)

/-- 'hotspotlaw35.TriggerUntil', WHERE WHAT IT READS IS OF BULK AT MOST 1048576: true; the input reads as it did. -/
def triggerUntilUptoRow : OpenClaim := { program := "ytnclkplbeenmdaa", sum := "2d2a63fc8640c106e981ab3677e6397adaae20eb3ec821c58f546f3355af2060", func := "hotspot/hotspotlaw35.TriggerUntil", spec := "triggerUntil", unfollowed := true, recurses := true, apart := false, narrowed := true }
def TriggerUntilUptoSaid : Prop := triggerUntilUptoRow.holds Try.pinned (OpenSpec.upto triggerUntilSpec)

/-- 'hotspotlaw35.TriggerEnds', WHERE WHAT IT READS IS OF BULK AT MOST 1048576: true; the input reads as it did. -/
def triggerEndsUptoRow : OpenClaim := { program := "ytnclkplbeenmdaa", sum := "2d2a63fc8640c106e981ab3677e6397adaae20eb3ec821c58f546f3355af2060", func := "hotspot/hotspotlaw35.TriggerEnds", spec := "triggerEnds", unfollowed := true, recurses := true, apart := false, narrowed := true }
def TriggerEndsUptoSaid : Prop := triggerEndsUptoRow.holds Try.pinned (OpenSpec.upto triggerEndsSpec)

/-- 'hotspotlaw35.TriggerMap', WHERE WHAT IT READS IS OF BULK AT MOST 1048576: true; the input reads as it did. -/
def triggerMapUptoRow : OpenClaim := { program := "ytnclkplbeenmdaa", sum := "2d2a63fc8640c106e981ab3677e6397adaae20eb3ec821c58f546f3355af2060", func := "hotspot/hotspotlaw35.TriggerMap", spec := "triggerMap", unfollowed := true, recurses := true, apart := false, narrowed := true }
def TriggerMapUptoSaid : Prop := triggerMapUptoRow.holds Try.pinned (OpenSpec.upto triggerMapSpec)

/-- 'hotspotlaw35.TriggerNames', WHERE WHAT IT READS IS OF BULK AT MOST 1048576: true; the input reads as it did. -/
def triggerNamesUptoRow : OpenClaim := { program := "ytnclkplbeenmdaa", sum := "2d2a63fc8640c106e981ab3677e6397adaae20eb3ec821c58f546f3355af2060", func := "hotspot/hotspotlaw35.TriggerNames", spec := "triggerNames", unfollowed := true, recurses := true, apart := false, narrowed := true }
def TriggerNamesUptoSaid : Prop := triggerNamesUptoRow.holds Try.pinned (OpenSpec.upto triggerNamesSpec)

end Rows
end Go.Proofs.Ytnclkplbeenmdaa
