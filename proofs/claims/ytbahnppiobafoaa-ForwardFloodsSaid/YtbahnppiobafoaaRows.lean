/-
  No cell of these rows narrows 'for every input' (looked for: loops, veiled, ifaces, maps, wideKeys, modest, calm, conditions, laid).
  DERIVED. THE GIVEN ROWS OF THIS SEAT. 7 by the template 'for every input the law returns true; each argument reads behind the call as it read before'; 0 by the template 'total and deterministic' (their statements: YtbahnppiobafoaaTotals.lean).
  GIVEN WITH THE SEED: the statements are not yours to turn. If you find one false, say at which input.
  Laid BY PROGRAM, IN A SANDBOX (cutbox-rows.mjs): the forced cells as the released guide's own fill.sh prints them over the translation 43e79d452c0cfb39… (all of the seat's roots in one cut). By AI agents, Wed Nov 11 2026. No macro, syntax, notation, axiom, sorry.
-/
import Derived.Test.YtbahnppiobafoaaChecked
import GoSem.Claim
import GoSem.ClaimJoined
import GoSem.ClaimMapViews
import Derived.JoinedTies
import Derived.KernelRfl
namespace Go.Proofs.Ytbahnppiobafoaa
/- THE CELL 'sum', in the pinned program and in every row, IS THE sha256 OF THE DUMP (.gsa) THAT YtbahnppiobafoaaProg.lean LOADS. Nothing in Lean hashes anything: it is a label: what it is worth is what the hold of that sum in a sandbox is worth. -/
noncomputable def Try.pinned : Pinned := { name := "ytbahnppiobafoaa", sum := "43e79d452c0cfb391d108f40245e5d93ad91419c01967727140d9b86b502105c", checked := Try.checked }
namespace Rows
def none {H : Type} : Left H := { results := [], args := [] }

/-- 'hotspotlaw41.ForwardBytes': WHATEVER THE INPUT: true; the input reads as it did. -/
def forwardBytesSpec : ChangeSpec := { name := "forwardBytes", fn := fun _ => fun
  | [d1, d2] => { results := [.lit (.bool true)], args := [d1, d2] }
  | _ => none }
def forwardBytesRow : OpenClaim := { program := "ytbahnppiobafoaa", sum := "43e79d452c0cfb391d108f40245e5d93ad91419c01967727140d9b86b502105c", func := "hotspot/hotspotlaw41.ForwardBytes", spec := "forwardBytes", apart := false }
def ForwardBytesSaid : Prop := forwardBytesRow.holds Try.pinned (OpenSpec.ofChange forwardBytesSpec)

/-- ITS FALSE NEIGHBOUR: 'it returns false'. Refute it at one input. -/
def forwardBytesWrong : ChangeSpec := { name := "forwardBytes", fn := fun _ => fun
  | [d1, d2] => { results := [.lit (.bool false)], args := [d1, d2] }
  | _ => none }
def ForwardBytesWrongFalsely : Prop := forwardBytesRow.holds Try.pinned (OpenSpec.ofChange forwardBytesWrong)

/-- 'hotspotlaw41.ForwardReceives': WHATEVER THE INPUT: true; the input reads as it did. -/
def forwardReceivesSpec : ChangeSpec := { name := "forwardReceives", fn := fun _ => fun
  | [d1, d2, d3] => { results := [.lit (.bool true)], args := [d1, d2, d3] }
  | _ => none }
def forwardReceivesRow : OpenClaim := { program := "ytbahnppiobafoaa", sum := "43e79d452c0cfb391d108f40245e5d93ad91419c01967727140d9b86b502105c", func := "hotspot/hotspotlaw41.ForwardReceives", spec := "forwardReceives", inPlace := ["internal/bytealg.Compare"], unfollowed := true, recurses := true, apart := false }
def ForwardReceivesSaid : Prop := forwardReceivesRow.holds Try.pinned (OpenSpec.ofChange forwardReceivesSpec)

/-- ITS FALSE NEIGHBOUR: 'it returns false'. Refute it at one input. -/
def forwardReceivesWrong : ChangeSpec := { name := "forwardReceives", fn := fun _ => fun
  | [d1, d2, d3] => { results := [.lit (.bool false)], args := [d1, d2, d3] }
  | _ => none }
def ForwardReceivesWrongFalsely : Prop := forwardReceivesRow.holds Try.pinned (OpenSpec.ofChange forwardReceivesWrong)

/-- 'hotspotlaw41.ForwardOnce': WHATEVER THE INPUT: true; the input reads as it did. -/
def forwardOnceSpec : ChangeSpec := { name := "forwardOnce", fn := fun _ => fun
  | [d1, d2] => { results := [.lit (.bool true)], args := [d1, d2] }
  | _ => none }
def forwardOnceRow : OpenClaim := { program := "ytbahnppiobafoaa", sum := "43e79d452c0cfb391d108f40245e5d93ad91419c01967727140d9b86b502105c", func := "hotspot/hotspotlaw41.ForwardOnce", spec := "forwardOnce", inPlace := ["internal/bytealg.Compare", "slices.overlaps[hotspot/api.ForwardHop]"], unfollowed := true, recurses := true, apart := false }
def ForwardOnceSaid : Prop := forwardOnceRow.holds Try.pinned (OpenSpec.ofChange forwardOnceSpec)

/-- ITS FALSE NEIGHBOUR: 'it returns false'. Refute it at one input. -/
def forwardOnceWrong : ChangeSpec := { name := "forwardOnce", fn := fun _ => fun
  | [d1, d2] => { results := [.lit (.bool false)], args := [d1, d2] }
  | _ => none }
def ForwardOnceWrongFalsely : Prop := forwardOnceRow.holds Try.pinned (OpenSpec.ofChange forwardOnceWrong)

/-- 'hotspotlaw41.ForwardArrives': WHATEVER THE INPUT: true; the input reads as it did. -/
def forwardArrivesSpec : ChangeSpec := { name := "forwardArrives", fn := fun _ => fun
  | [d1, d2, d3, d4] => { results := [.lit (.bool true)], args := [d1, d2, d3, d4] }
  | _ => none }
def forwardArrivesRow : OpenClaim := { program := "ytbahnppiobafoaa", sum := "43e79d452c0cfb391d108f40245e5d93ad91419c01967727140d9b86b502105c", func := "hotspot/hotspotlaw41.ForwardArrives", spec := "forwardArrives", inPlace := ["internal/bytealg.Compare", "slices.overlaps[hotspot/api.ForwardHop]"], unfollowed := true, recurses := true, apart := false }
def ForwardArrivesSaid : Prop := forwardArrivesRow.holds Try.pinned (OpenSpec.ofChange forwardArrivesSpec)

/-- ITS FALSE NEIGHBOUR: 'it returns false'. Refute it at one input. -/
def forwardArrivesWrong : ChangeSpec := { name := "forwardArrives", fn := fun _ => fun
  | [d1, d2, d3, d4] => { results := [.lit (.bool false)], args := [d1, d2, d3, d4] }
  | _ => none }
def ForwardArrivesWrongFalsely : Prop := forwardArrivesRow.holds Try.pinned (OpenSpec.ofChange forwardArrivesWrong)

/-- 'hotspotlaw41.ForwardFloods': WHATEVER THE INPUT: true; the input reads as it did. -/
def forwardFloodsSpec : ChangeSpec := { name := "forwardFloods", fn := fun _ => fun
  | [d1, d2, d3] => { results := [.lit (.bool true)], args := [d1, d2, d3] }
  | _ => none }
def forwardFloodsRow : OpenClaim := { program := "ytbahnppiobafoaa", sum := "43e79d452c0cfb391d108f40245e5d93ad91419c01967727140d9b86b502105c", func := "hotspot/hotspotlaw41.ForwardFloods", spec := "forwardFloods", inPlace := ["internal/bytealg.Compare", "slices.overlaps[hotspot/api.ForwardHop]"], unfollowed := true, recurses := true, apart := false }
def ForwardFloodsSaid : Prop := forwardFloodsRow.holds Try.pinned (OpenSpec.ofChange forwardFloodsSpec)

/-- ITS FALSE NEIGHBOUR: 'it returns false'. Refute it at one input. -/
def forwardFloodsWrong : ChangeSpec := { name := "forwardFloods", fn := fun _ => fun
  | [d1, d2, d3] => { results := [.lit (.bool false)], args := [d1, d2, d3] }
  | _ => none }
def ForwardFloodsWrongFalsely : Prop := forwardFloodsRow.holds Try.pinned (OpenSpec.ofChange forwardFloodsWrong)

/-- 'hotspotlaw41.ForwardBack': WHATEVER THE INPUT: true; the input reads as it did. -/
def forwardBackSpec : ChangeSpec := { name := "forwardBack", fn := fun _ => fun
  | [d1, d2] => { results := [.lit (.bool true)], args := [d1, d2] }
  | _ => none }
def forwardBackRow : OpenClaim := { program := "ytbahnppiobafoaa", sum := "43e79d452c0cfb391d108f40245e5d93ad91419c01967727140d9b86b502105c", func := "hotspot/hotspotlaw41.ForwardBack", spec := "forwardBack", inPlace := ["internal/bytealg.Compare", "slices.overlaps[hotspot/api.ForwardHop]"], unfollowed := true, recurses := true, apart := false }
def ForwardBackSaid : Prop := forwardBackRow.holds Try.pinned (OpenSpec.ofChange forwardBackSpec)

/-- ITS FALSE NEIGHBOUR: 'it returns false'. Refute it at one input. -/
def forwardBackWrong : ChangeSpec := { name := "forwardBack", fn := fun _ => fun
  | [d1, d2] => { results := [.lit (.bool false)], args := [d1, d2] }
  | _ => none }
def ForwardBackWrongFalsely : Prop := forwardBackRow.holds Try.pinned (OpenSpec.ofChange forwardBackWrong)

/-- 'hotspotlaw41.ForwardNames': WHATEVER THE INPUT: true; the input reads as it did. -/
def forwardNamesSpec : ChangeSpec := { name := "forwardNames", fn := fun _ => fun
  | [] => { results := [.lit (.bool true)], args := [] }
  | _ => none }
def forwardNamesRow : OpenClaim := { program := "ytbahnppiobafoaa", sum := "43e79d452c0cfb391d108f40245e5d93ad91419c01967727140d9b86b502105c", func := "hotspot/hotspotlaw41.ForwardNames", spec := "forwardNames", inPlace := ["internal/bytealg.Compare", "slices.overlaps[hotspot/api.ForwardHop]"], unfollowed := true, recurses := true, apart := false }
def ForwardNamesSaid : Prop := forwardNamesRow.holds Try.pinned (OpenSpec.ofChange forwardNamesSpec)

/-- ITS FALSE NEIGHBOUR: 'it returns false'. Refute it at one input. -/
def forwardNamesWrong : ChangeSpec := { name := "forwardNames", fn := fun _ => fun
  | [] => { results := [.lit (.bool false)], args := [] }
  | _ => none }
def ForwardNamesWrongFalsely : Prop := forwardNamesRow.holds Try.pinned (OpenSpec.ofChange forwardNamesWrong)

/- THE SECOND FORM. 'bulk': how many values and letters a reading holds, each counted each time it is reached (what is shared counts as often as it is met; a slice's spare places count too). A statement '..UptoSaid' is the law's where the arguments, and the package variables that the reading takes, are together of bulk at most 1048576: NARROWER than '..Said'. Prove '..Said' where nothing that the law and all that it calls make is longer than what came in: it says more and counts as full. Else prove '..UptoSaid'. A law counts once. -/
mutual
def uptoBulk {H : Type} : DataW H → Nat
  | .lit (.string bytes) => bytes.length + 1
  | .lit _ => 1
  | .nil => 1
  | .ptr d => uptoBulk d + 1
  | .slice elems spare => uptoBulkAll elems + uptoBulkAll spare + 1
  | .agg parts => uptoBulkAll parts + 1
  | .iface _ d => uptoBulk d + 1
  | .map entries => uptoBulkEntries entries + 1
  | .held _ => 1
def uptoBulkAll {H : Type} : List (DataW H) → Nat
  | [] => 0
  | d :: r => uptoBulk d + uptoBulkAll r
def uptoBulkEntries {H : Type} : List (Lit × DataW H) → Nat
  | [] => 0
  | x :: r => uptoBulkEntry x + uptoBulkEntries r
def uptoBulkEntry {H : Type} : Lit × DataW H → Nat
  | (.string bytes, d) => bytes.length + uptoBulk d + 1
  | (_, d) => uptoBulk d + 1
 end
def uptoSmall : (H : Type) → List (DataW H) → Bool := fun _ ds => decide (uptoBulkAll ds ≤ 1048576)
def OpenSpec.upto (s : _root_.Go.ChangeSpec) : _root_.Go.OpenSpec := { _root_.Go.OpenSpec.ofChange s with cond := some uptoSmall }

/-- 'hotspotlaw41.ForwardBytes', WHERE WHAT IT READS IS OF BULK AT MOST 1048576: true; the input reads as it did. -/
def forwardBytesUptoRow : OpenClaim := { program := "ytbahnppiobafoaa", sum := "43e79d452c0cfb391d108f40245e5d93ad91419c01967727140d9b86b502105c", func := "hotspot/hotspotlaw41.ForwardBytes", spec := "forwardBytes", apart := false, narrowed := true }
def ForwardBytesUptoSaid : Prop := forwardBytesUptoRow.holds Try.pinned (OpenSpec.upto forwardBytesSpec)

/-- 'hotspotlaw41.ForwardReceives', WHERE WHAT IT READS IS OF BULK AT MOST 1048576: true; the input reads as it did. -/
def forwardReceivesUptoRow : OpenClaim := { program := "ytbahnppiobafoaa", sum := "43e79d452c0cfb391d108f40245e5d93ad91419c01967727140d9b86b502105c", func := "hotspot/hotspotlaw41.ForwardReceives", spec := "forwardReceives", inPlace := ["internal/bytealg.Compare"], unfollowed := true, recurses := true, apart := false, narrowed := true }
def ForwardReceivesUptoSaid : Prop := forwardReceivesUptoRow.holds Try.pinned (OpenSpec.upto forwardReceivesSpec)

/-- 'hotspotlaw41.ForwardOnce', WHERE WHAT IT READS IS OF BULK AT MOST 1048576: true; the input reads as it did. -/
def forwardOnceUptoRow : OpenClaim := { program := "ytbahnppiobafoaa", sum := "43e79d452c0cfb391d108f40245e5d93ad91419c01967727140d9b86b502105c", func := "hotspot/hotspotlaw41.ForwardOnce", spec := "forwardOnce", inPlace := ["internal/bytealg.Compare", "slices.overlaps[hotspot/api.ForwardHop]"], unfollowed := true, recurses := true, apart := false, narrowed := true }
def ForwardOnceUptoSaid : Prop := forwardOnceUptoRow.holds Try.pinned (OpenSpec.upto forwardOnceSpec)

/-- 'hotspotlaw41.ForwardArrives', WHERE WHAT IT READS IS OF BULK AT MOST 1048576: true; the input reads as it did. -/
def forwardArrivesUptoRow : OpenClaim := { program := "ytbahnppiobafoaa", sum := "43e79d452c0cfb391d108f40245e5d93ad91419c01967727140d9b86b502105c", func := "hotspot/hotspotlaw41.ForwardArrives", spec := "forwardArrives", inPlace := ["internal/bytealg.Compare", "slices.overlaps[hotspot/api.ForwardHop]"], unfollowed := true, recurses := true, apart := false, narrowed := true }
def ForwardArrivesUptoSaid : Prop := forwardArrivesUptoRow.holds Try.pinned (OpenSpec.upto forwardArrivesSpec)

/-- 'hotspotlaw41.ForwardFloods', WHERE WHAT IT READS IS OF BULK AT MOST 1048576: true; the input reads as it did. -/
def forwardFloodsUptoRow : OpenClaim := { program := "ytbahnppiobafoaa", sum := "43e79d452c0cfb391d108f40245e5d93ad91419c01967727140d9b86b502105c", func := "hotspot/hotspotlaw41.ForwardFloods", spec := "forwardFloods", inPlace := ["internal/bytealg.Compare", "slices.overlaps[hotspot/api.ForwardHop]"], unfollowed := true, recurses := true, apart := false, narrowed := true }
def ForwardFloodsUptoSaid : Prop := forwardFloodsUptoRow.holds Try.pinned (OpenSpec.upto forwardFloodsSpec)

/-- 'hotspotlaw41.ForwardBack', WHERE WHAT IT READS IS OF BULK AT MOST 1048576: true; the input reads as it did. -/
def forwardBackUptoRow : OpenClaim := { program := "ytbahnppiobafoaa", sum := "43e79d452c0cfb391d108f40245e5d93ad91419c01967727140d9b86b502105c", func := "hotspot/hotspotlaw41.ForwardBack", spec := "forwardBack", inPlace := ["internal/bytealg.Compare", "slices.overlaps[hotspot/api.ForwardHop]"], unfollowed := true, recurses := true, apart := false, narrowed := true }
def ForwardBackUptoSaid : Prop := forwardBackUptoRow.holds Try.pinned (OpenSpec.upto forwardBackSpec)

/-- 'hotspotlaw41.ForwardNames', WHERE WHAT IT READS IS OF BULK AT MOST 1048576: true; the input reads as it did. -/
def forwardNamesUptoRow : OpenClaim := { program := "ytbahnppiobafoaa", sum := "43e79d452c0cfb391d108f40245e5d93ad91419c01967727140d9b86b502105c", func := "hotspot/hotspotlaw41.ForwardNames", spec := "forwardNames", inPlace := ["internal/bytealg.Compare", "slices.overlaps[hotspot/api.ForwardHop]"], unfollowed := true, recurses := true, apart := false, narrowed := true }
def ForwardNamesUptoSaid : Prop := forwardNamesUptoRow.holds Try.pinned (OpenSpec.upto forwardNamesSpec)

end Rows
end Go.Proofs.Ytbahnppiobafoaa
