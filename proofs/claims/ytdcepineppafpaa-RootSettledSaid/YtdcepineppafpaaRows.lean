/-
  No cell of these rows narrows 'for every input' (looked for: loops, veiled, ifaces, maps, wideKeys, modest, calm, conditions, laid).
  DERIVED. THE GIVEN ROWS OF THIS SEAT. 8 by the template 'for every input the law returns true; each argument reads behind the call as it read before'; 0 by the template 'total and deterministic' (their statements: YtdcepineppafpaaTotals.lean).
  GIVEN WITH THE SEED: the statements are not yours to turn. If you find one false, say at which input.
  Laid BY PROGRAM, IN A SANDBOX (cutbox-rows.mjs): the forced cells as the released guide's own fill.sh prints them over the translation 2e6310800d1ae112… (all of the seat's roots in one cut). By AI agents, Wed Nov 11 2026. No macro, syntax, notation, axiom, sorry.
-/
import Derived.Test.YtdcepineppafpaaChecked
import GoSem.Claim
import GoSem.ClaimJoined
import GoSem.ClaimMapViews
import Derived.JoinedTies
import Derived.KernelRfl
namespace Go.Proofs.Ytdcepineppafpaa
/- THE CELL 'sum', in the pinned program and in every row, IS THE sha256 OF THE DUMP (.gsa) THAT YtdcepineppafpaaProg.lean LOADS. Nothing in Lean hashes anything: it is a label: what it is worth is what the hold of that sum in a sandbox is worth. -/
noncomputable def Try.pinned : Pinned := { name := "ytdcepineppafpaa", sum := "2e6310800d1ae112f330ad24400ea2972e62214e0d588e6b56bf0e52c50c7ea5", checked := Try.checked }
namespace Rows
def none {H : Type} : Left H := { results := [], args := [] }

/-- 'hotspotlaw40.RootCodes': WHATEVER THE INPUT: true; the input reads as it did. -/
def rootCodesSpec : ChangeSpec := { name := "rootCodes", fn := fun _ => fun
  | [d1, d2] => { results := [.lit (.bool true)], args := [d1, d2] }
  | _ => none }
def rootCodesRow : OpenClaim := { program := "ytdcepineppafpaa", sum := "2e6310800d1ae112f330ad24400ea2972e62214e0d588e6b56bf0e52c50c7ea5", func := "hotspot/hotspotlaw40.RootCodes", spec := "rootCodes", apart := false }
def RootCodesSaid : Prop := rootCodesRow.holds Try.pinned (OpenSpec.ofChange rootCodesSpec)

/-- ITS FALSE NEIGHBOUR: 'it returns false'. Refute it at one input. -/
def rootCodesWrong : ChangeSpec := { name := "rootCodes", fn := fun _ => fun
  | [d1, d2] => { results := [.lit (.bool false)], args := [d1, d2] }
  | _ => none }
def RootCodesWrongFalsely : Prop := rootCodesRow.holds Try.pinned (OpenSpec.ofChange rootCodesWrong)

/-- 'hotspotlaw40.RootHandles': WHATEVER THE INPUT: true; the input reads as it did. -/
def rootHandlesSpec : ChangeSpec := { name := "rootHandles", fn := fun _ => fun
  | [d1, d2, d3, d4, d5] => { results := [.lit (.bool true)], args := [d1, d2, d3, d4, d5] }
  | _ => none }
def rootHandlesRow : OpenClaim := { program := "ytdcepineppafpaa", sum := "2e6310800d1ae112f330ad24400ea2972e62214e0d588e6b56bf0e52c50c7ea5", func := "hotspot/hotspotlaw40.RootHandles", spec := "rootHandles", inPlace := ["internal/bytealg.Compare", "slices.overlaps[hotspot/api.Tree]"], unfollowed := true, recurses := true, apart := false }
def RootHandlesSaid : Prop := rootHandlesRow.holds Try.pinned (OpenSpec.ofChange rootHandlesSpec)

/-- ITS FALSE NEIGHBOUR: 'it returns false'. Refute it at one input. -/
def rootHandlesWrong : ChangeSpec := { name := "rootHandles", fn := fun _ => fun
  | [d1, d2, d3, d4, d5] => { results := [.lit (.bool false)], args := [d1, d2, d3, d4, d5] }
  | _ => none }
def RootHandlesWrongFalsely : Prop := rootHandlesRow.holds Try.pinned (OpenSpec.ofChange rootHandlesWrong)

/-- 'hotspotlaw40.RootKnows': WHATEVER THE INPUT: true; the input reads as it did. -/
def rootKnowsSpec : ChangeSpec := { name := "rootKnows", fn := fun _ => fun
  | [d1, d2, d3, d4, d5] => { results := [.lit (.bool true)], args := [d1, d2, d3, d4, d5] }
  | _ => none }
def rootKnowsRow : OpenClaim := { program := "ytdcepineppafpaa", sum := "2e6310800d1ae112f330ad24400ea2972e62214e0d588e6b56bf0e52c50c7ea5", func := "hotspot/hotspotlaw40.RootKnows", spec := "rootKnows", inPlace := ["internal/bytealg.Compare", "slices.overlaps[hotspot/api.Proxied]"], unfollowed := true, recurses := true, apart := false }
def RootKnowsSaid : Prop := rootKnowsRow.holds Try.pinned (OpenSpec.ofChange rootKnowsSpec)

/-- ITS FALSE NEIGHBOUR: 'it returns false'. Refute it at one input. -/
def rootKnowsWrong : ChangeSpec := { name := "rootKnows", fn := fun _ => fun
  | [d1, d2, d3, d4, d5] => { results := [.lit (.bool false)], args := [d1, d2, d3, d4, d5] }
  | _ => none }
def RootKnowsWrongFalsely : Prop := rootKnowsRow.holds Try.pinned (OpenSpec.ofChange rootKnowsWrong)

/-- 'hotspotlaw40.RootFresh': WHATEVER THE INPUT: true; the input reads as it did. -/
def rootFreshSpec : ChangeSpec := { name := "rootFresh", fn := fun _ => fun
  | [d1, d2, d3, d4, d5] => { results := [.lit (.bool true)], args := [d1, d2, d3, d4, d5] }
  | _ => none }
def rootFreshRow : OpenClaim := { program := "ytdcepineppafpaa", sum := "2e6310800d1ae112f330ad24400ea2972e62214e0d588e6b56bf0e52c50c7ea5", func := "hotspot/hotspotlaw40.RootFresh", spec := "rootFresh", inPlace := ["internal/bytealg.Compare", "slices.overlaps[hotspot/api.Tree]"], unfollowed := true, recurses := true, apart := false }
def RootFreshSaid : Prop := rootFreshRow.holds Try.pinned (OpenSpec.ofChange rootFreshSpec)

/-- ITS FALSE NEIGHBOUR: 'it returns false'. Refute it at one input. -/
def rootFreshWrong : ChangeSpec := { name := "rootFresh", fn := fun _ => fun
  | [d1, d2, d3, d4, d5] => { results := [.lit (.bool false)], args := [d1, d2, d3, d4, d5] }
  | _ => none }
def RootFreshWrongFalsely : Prop := rootFreshRow.holds Try.pinned (OpenSpec.ofChange rootFreshWrong)

/-- 'hotspotlaw40.RootSettled': WHATEVER THE INPUT: true; the input reads as it did. -/
def rootSettledSpec : ChangeSpec := { name := "rootSettled", fn := fun _ => fun
  | [d1, d2, d3] => { results := [.lit (.bool true)], args := [d1, d2, d3] }
  | _ => none }
def rootSettledRow : OpenClaim := { program := "ytdcepineppafpaa", sum := "2e6310800d1ae112f330ad24400ea2972e62214e0d588e6b56bf0e52c50c7ea5", func := "hotspot/hotspotlaw40.RootSettled", spec := "rootSettled", inPlace := ["internal/bytealg.Compare", "slices.overlaps[hotspot/api.Tree]"], unfollowed := true, recurses := true, apart := false }
def RootSettledSaid : Prop := rootSettledRow.holds Try.pinned (OpenSpec.ofChange rootSettledSpec)

/-- ITS FALSE NEIGHBOUR: 'it returns false'. Refute it at one input. -/
def rootSettledWrong : ChangeSpec := { name := "rootSettled", fn := fun _ => fun
  | [d1, d2, d3] => { results := [.lit (.bool false)], args := [d1, d2, d3] }
  | _ => none }
def RootSettledWrongFalsely : Prop := rootSettledRow.holds Try.pinned (OpenSpec.ofChange rootSettledWrong)

/-- 'hotspotlaw40.RootProxies': WHATEVER THE INPUT: true; the input reads as it did. -/
def rootProxiesSpec : ChangeSpec := { name := "rootProxies", fn := fun _ => fun
  | [d1, d2, d3, d4, d5] => { results := [.lit (.bool true)], args := [d1, d2, d3, d4, d5] }
  | _ => none }
def rootProxiesRow : OpenClaim := { program := "ytdcepineppafpaa", sum := "2e6310800d1ae112f330ad24400ea2972e62214e0d588e6b56bf0e52c50c7ea5", func := "hotspot/hotspotlaw40.RootProxies", spec := "rootProxies", inPlace := ["internal/bytealg.Compare", "slices.overlaps[hotspot/api.Tree]", "slices.overlaps[hotspot/api.Proxied]"], unfollowed := true, recurses := true, apart := false }
def RootProxiesSaid : Prop := rootProxiesRow.holds Try.pinned (OpenSpec.ofChange rootProxiesSpec)

/-- ITS FALSE NEIGHBOUR: 'it returns false'. Refute it at one input. -/
def rootProxiesWrong : ChangeSpec := { name := "rootProxies", fn := fun _ => fun
  | [d1, d2, d3, d4, d5] => { results := [.lit (.bool false)], args := [d1, d2, d3, d4, d5] }
  | _ => none }
def RootProxiesWrongFalsely : Prop := rootProxiesRow.holds Try.pinned (OpenSpec.ofChange rootProxiesWrong)

/-- 'hotspotlaw40.RootWire': WHATEVER THE INPUT: true; the input reads as it did. -/
def rootWireSpec : ChangeSpec := { name := "rootWire", fn := fun _ => fun
  | [d1, d2] => { results := [.lit (.bool true)], args := [d1, d2] }
  | _ => none }
def rootWireRow : OpenClaim := { program := "ytdcepineppafpaa", sum := "2e6310800d1ae112f330ad24400ea2972e62214e0d588e6b56bf0e52c50c7ea5", func := "hotspot/hotspotlaw40.RootWire", spec := "rootWire", inPlace := ["internal/bytealg.Compare", "slices.overlaps[hotspot/api.Tree]"], unfollowed := true, recurses := true, apart := false }
def RootWireSaid : Prop := rootWireRow.holds Try.pinned (OpenSpec.ofChange rootWireSpec)

/-- ITS FALSE NEIGHBOUR: 'it returns false'. Refute it at one input. -/
def rootWireWrong : ChangeSpec := { name := "rootWire", fn := fun _ => fun
  | [d1, d2] => { results := [.lit (.bool false)], args := [d1, d2] }
  | _ => none }
def RootWireWrongFalsely : Prop := rootWireRow.holds Try.pinned (OpenSpec.ofChange rootWireWrong)

/-- 'hotspotlaw40.RootNames': WHATEVER THE INPUT: true; the input reads as it did. -/
def rootNamesSpec : ChangeSpec := { name := "rootNames", fn := fun _ => fun
  | [] => { results := [.lit (.bool true)], args := [] }
  | _ => none }
def rootNamesRow : OpenClaim := { program := "ytdcepineppafpaa", sum := "2e6310800d1ae112f330ad24400ea2972e62214e0d588e6b56bf0e52c50c7ea5", func := "hotspot/hotspotlaw40.RootNames", spec := "rootNames", inPlace := ["internal/bytealg.Compare", "slices.overlaps[hotspot/api.Tree]", "slices.overlaps[hotspot/api.Proxied]"], unfollowed := true, recurses := true, apart := false }
def RootNamesSaid : Prop := rootNamesRow.holds Try.pinned (OpenSpec.ofChange rootNamesSpec)

/-- ITS FALSE NEIGHBOUR: 'it returns false'. Refute it at one input. -/
def rootNamesWrong : ChangeSpec := { name := "rootNames", fn := fun _ => fun
  | [] => { results := [.lit (.bool false)], args := [] }
  | _ => none }
def RootNamesWrongFalsely : Prop := rootNamesRow.holds Try.pinned (OpenSpec.ofChange rootNamesWrong)

/- THE SECOND FORM. 'bulk': how many values and letters a reading holds, each counted each time it is reached (what is shared counts as often as it is met; a slice's spare places count too). A statement '..UptoSaid' is the law's where the arguments, and the package variables that the reading takes, are together of bulk at most 1048576: NARROWER than '..Said'. Prove '..Said' where nothing that the law and all that it calls make is longer than what came in: it says more and counts as full. Else prove '..UptoSaid'. A law counts once. -/
mutual
def uptoBulk {H : Type} : DataW H → Nat
  | .lit (.string bytes) => bytes.length + 1
  | .lit _ => 1
  | .nil => 1
  | .ptr d => uptoBulk d + 1
  | .slice elems spare => uptoBulkAll elems + uptoBulkAll spare + 1
  | .agg parts => uptoBulkAll parts + 1
  | .iface _ d => uptoBulk d + 1
  | .map entries => uptoBulkEntries entries + 1
  | .held _ => 1
def uptoBulkAll {H : Type} : List (DataW H) → Nat
  | [] => 0
  | d :: r => uptoBulk d + uptoBulkAll r
def uptoBulkEntries {H : Type} : List (Lit × DataW H) → Nat
  | [] => 0
  | x :: r => uptoBulkEntry x + uptoBulkEntries r
def uptoBulkEntry {H : Type} : Lit × DataW H → Nat
  | (.string bytes, d) => bytes.length + uptoBulk d + 1
  | (_, d) => uptoBulk d + 1
 end
def uptoSmall : (H : Type) → List (DataW H) → Bool := fun _ ds => decide (uptoBulkAll ds ≤ 1048576)
def OpenSpec.upto (s : _root_.Go.ChangeSpec) : _root_.Go.OpenSpec := { _root_.Go.OpenSpec.ofChange s with cond := some uptoSmall }

/-- 'hotspotlaw40.RootCodes', WHERE WHAT IT READS IS OF BULK AT MOST 1048576: true; the input reads as it did. -/
def rootCodesUptoRow : OpenClaim := { program := "ytdcepineppafpaa", sum := "2e6310800d1ae112f330ad24400ea2972e62214e0d588e6b56bf0e52c50c7ea5", func := "hotspot/hotspotlaw40.RootCodes", spec := "rootCodes", apart := false, narrowed := true }
def RootCodesUptoSaid : Prop := rootCodesUptoRow.holds Try.pinned (OpenSpec.upto rootCodesSpec)

/-- 'hotspotlaw40.RootHandles', WHERE WHAT IT READS IS OF BULK AT MOST 1048576: true; the input reads as it did. -/
def rootHandlesUptoRow : OpenClaim := { program := "ytdcepineppafpaa", sum := "2e6310800d1ae112f330ad24400ea2972e62214e0d588e6b56bf0e52c50c7ea5", func := "hotspot/hotspotlaw40.RootHandles", spec := "rootHandles", inPlace := ["internal/bytealg.Compare", "slices.overlaps[hotspot/api.Tree]"], unfollowed := true, recurses := true, apart := false, narrowed := true }
def RootHandlesUptoSaid : Prop := rootHandlesUptoRow.holds Try.pinned (OpenSpec.upto rootHandlesSpec)

/-- 'hotspotlaw40.RootKnows', WHERE WHAT IT READS IS OF BULK AT MOST 1048576: true; the input reads as it did. -/
def rootKnowsUptoRow : OpenClaim := { program := "ytdcepineppafpaa", sum := "2e6310800d1ae112f330ad24400ea2972e62214e0d588e6b56bf0e52c50c7ea5", func := "hotspot/hotspotlaw40.RootKnows", spec := "rootKnows", inPlace := ["internal/bytealg.Compare", "slices.overlaps[hotspot/api.Proxied]"], unfollowed := true, recurses := true, apart := false, narrowed := true }
def RootKnowsUptoSaid : Prop := rootKnowsUptoRow.holds Try.pinned (OpenSpec.upto rootKnowsSpec)

/-- 'hotspotlaw40.RootFresh', WHERE WHAT IT READS IS OF BULK AT MOST 1048576: true; the input reads as it did. -/
def rootFreshUptoRow : OpenClaim := { program := "ytdcepineppafpaa", sum := "2e6310800d1ae112f330ad24400ea2972e62214e0d588e6b56bf0e52c50c7ea5", func := "hotspot/hotspotlaw40.RootFresh", spec := "rootFresh", inPlace := ["internal/bytealg.Compare", "slices.overlaps[hotspot/api.Tree]"], unfollowed := true, recurses := true, apart := false, narrowed := true }
def RootFreshUptoSaid : Prop := rootFreshUptoRow.holds Try.pinned (OpenSpec.upto rootFreshSpec)

/-- 'hotspotlaw40.RootSettled', WHERE WHAT IT READS IS OF BULK AT MOST 1048576: true; the input reads as it did. -/
def rootSettledUptoRow : OpenClaim := { program := "ytdcepineppafpaa", sum := "2e6310800d1ae112f330ad24400ea2972e62214e0d588e6b56bf0e52c50c7ea5", func := "hotspot/hotspotlaw40.RootSettled", spec := "rootSettled", inPlace := ["internal/bytealg.Compare", "slices.overlaps[hotspot/api.Tree]"], unfollowed := true, recurses := true, apart := false, narrowed := true }
def RootSettledUptoSaid : Prop := rootSettledUptoRow.holds Try.pinned (OpenSpec.upto rootSettledSpec)

/-- 'hotspotlaw40.RootProxies', WHERE WHAT IT READS IS OF BULK AT MOST 1048576: true; the input reads as it did. -/
def rootProxiesUptoRow : OpenClaim := { program := "ytdcepineppafpaa", sum := "2e6310800d1ae112f330ad24400ea2972e62214e0d588e6b56bf0e52c50c7ea5", func := "hotspot/hotspotlaw40.RootProxies", spec := "rootProxies", inPlace := ["internal/bytealg.Compare", "slices.overlaps[hotspot/api.Tree]", "slices.overlaps[hotspot/api.Proxied]"], unfollowed := true, recurses := true, apart := false, narrowed := true }
def RootProxiesUptoSaid : Prop := rootProxiesUptoRow.holds Try.pinned (OpenSpec.upto rootProxiesSpec)

/-- 'hotspotlaw40.RootWire', WHERE WHAT IT READS IS OF BULK AT MOST 1048576: true; the input reads as it did. -/
def rootWireUptoRow : OpenClaim := { program := "ytdcepineppafpaa", sum := "2e6310800d1ae112f330ad24400ea2972e62214e0d588e6b56bf0e52c50c7ea5", func := "hotspot/hotspotlaw40.RootWire", spec := "rootWire", inPlace := ["internal/bytealg.Compare", "slices.overlaps[hotspot/api.Tree]"], unfollowed := true, recurses := true, apart := false, narrowed := true }
def RootWireUptoSaid : Prop := rootWireUptoRow.holds Try.pinned (OpenSpec.upto rootWireSpec)

/-- 'hotspotlaw40.RootNames', WHERE WHAT IT READS IS OF BULK AT MOST 1048576: true; the input reads as it did. -/
def rootNamesUptoRow : OpenClaim := { program := "ytdcepineppafpaa", sum := "2e6310800d1ae112f330ad24400ea2972e62214e0d588e6b56bf0e52c50c7ea5", func := "hotspot/hotspotlaw40.RootNames", spec := "rootNames", inPlace := ["internal/bytealg.Compare", "slices.overlaps[hotspot/api.Tree]", "slices.overlaps[hotspot/api.Proxied]"], unfollowed := true, recurses := true, apart := false, narrowed := true }
def RootNamesUptoSaid : Prop := rootNamesUptoRow.holds Try.pinned (OpenSpec.upto rootNamesSpec)

end Rows
end Go.Proofs.Ytdcepineppafpaa
