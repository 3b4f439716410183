/-
  No cell of these rows narrows 'for every input' (looked for: loops, veiled, ifaces, maps, wideKeys, modest, calm, conditions, laid).
  DERIVED. THE GIVEN ROWS OF THIS SEAT. 8 by the template 'for every input the law returns true; each argument reads behind the call as it read before'; 0 by the template 'total and deterministic' (their statements: YtiameicjjlfimaaTotals.lean).
  GIVEN WITH THE SEED: the statements are not yours to turn. If you find one false, say at which input.
  Laid BY PROGRAM, IN A SANDBOX (cutbox-rows.mjs): the forced cells as the released guide's own fill.sh prints them over the translation 2c1bc0e8f499699f… (all of the seat's roots in one cut). By AI agents, Wed Nov 11 2026. No macro, syntax, notation, axiom, sorry.
-/
import Derived.Test.YtiameicjjlfimaaChecked
import GoSem.Claim
import GoSem.ClaimJoined
import GoSem.ClaimMapViews
import Derived.JoinedTies
import Derived.KernelRfl
namespace Go.Proofs.Ytiameicjjlfimaa
/- THE CELL 'sum', in the pinned program and in every row, IS THE sha256 OF THE DUMP (.gsa) THAT YtiameicjjlfimaaProg.lean LOADS. Nothing in Lean hashes anything: it is a label: what it is worth is what the hold of that sum in a sandbox is worth. -/
noncomputable def Try.pinned : Pinned := { name := "ytiameicjjlfimaa", sum := "2c1bc0e8f499699f6328e613f9f74ad2dd776c1c26fe94930de7e63a98c971ed", checked := Try.checked }
namespace Rows
def none {H : Type} : Left H := { results := [], args := [] }

/-- 'hotspotlaw02.AddressMatch': WHATEVER THE INPUT: true; the input reads as it did. -/
def addressMatchSpec : ChangeSpec := { name := "addressMatch", fn := fun _ => fun
  | [d1, d2, d3, d4] => { results := [.lit (.bool true)], args := [d1, d2, d3, d4] }
  | _ => none }
def addressMatchRow : OpenClaim := { program := "ytiameicjjlfimaa", sum := "2c1bc0e8f499699f6328e613f9f74ad2dd776c1c26fe94930de7e63a98c971ed", func := "hotspot/hotspotlaw02.AddressMatch", spec := "addressMatch", apart := false }
def AddressMatchSaid : Prop := addressMatchRow.holds Try.pinned (OpenSpec.ofChange addressMatchSpec)

/-- ITS FALSE NEIGHBOUR: 'it returns false'. Refute it at one input. -/
def addressMatchWrong : ChangeSpec := { name := "addressMatch", fn := fun _ => fun
  | [d1, d2, d3, d4] => { results := [.lit (.bool false)], args := [d1, d2, d3, d4] }
  | _ => none }
def AddressMatchWrongFalsely : Prop := addressMatchRow.holds Try.pinned (OpenSpec.ofChange addressMatchWrong)

/-- 'hotspotlaw02.AddressText': WHATEVER THE INPUT: true; the input reads as it did. -/
def addressTextSpec : ChangeSpec := { name := "addressText", fn := fun _ => fun
  | [d1, d2, d3] => { results := [.lit (.bool true)], args := [d1, d2, d3] }
  | _ => none }
def addressTextRow : OpenClaim := { program := "ytiameicjjlfimaa", sum := "2c1bc0e8f499699f6328e613f9f74ad2dd776c1c26fe94930de7e63a98c971ed", func := "hotspot/hotspotlaw02.AddressText", spec := "addressText", inPlace := ["internal/bytealg.Compare"], apart := false }
def AddressTextSaid : Prop := addressTextRow.holds Try.pinned (OpenSpec.ofChange addressTextSpec)

/-- ITS FALSE NEIGHBOUR: 'it returns false'. Refute it at one input. -/
def addressTextWrong : ChangeSpec := { name := "addressText", fn := fun _ => fun
  | [d1, d2, d3] => { results := [.lit (.bool false)], args := [d1, d2, d3] }
  | _ => none }
def AddressTextWrongFalsely : Prop := addressTextRow.holds Try.pinned (OpenSpec.ofChange addressTextWrong)

/-- 'hotspotlaw02.AddressNumber': WHATEVER THE INPUT: true; the input reads as it did. -/
def addressNumberSpec : ChangeSpec := { name := "addressNumber", fn := fun _ => fun
  | [d1, d2, d3] => { results := [.lit (.bool true)], args := [d1, d2, d3] }
  | _ => none }
def addressNumberRow : OpenClaim := { program := "ytiameicjjlfimaa", sum := "2c1bc0e8f499699f6328e613f9f74ad2dd776c1c26fe94930de7e63a98c971ed", func := "hotspot/hotspotlaw02.AddressNumber", spec := "addressNumber", inPlace := ["internal/bytealg.Compare"], apart := false }
def AddressNumberSaid : Prop := addressNumberRow.holds Try.pinned (OpenSpec.ofChange addressNumberSpec)

/-- ITS FALSE NEIGHBOUR: 'it returns false'. Refute it at one input. -/
def addressNumberWrong : ChangeSpec := { name := "addressNumber", fn := fun _ => fun
  | [d1, d2, d3] => { results := [.lit (.bool false)], args := [d1, d2, d3] }
  | _ => none }
def AddressNumberWrongFalsely : Prop := addressNumberRow.holds Try.pinned (OpenSpec.ofChange addressNumberWrong)

/-- 'hotspotlaw02.AddressTells': WHATEVER THE INPUT: true; the input reads as it did. -/
def addressTellsSpec : ChangeSpec := { name := "addressTells", fn := fun _ => fun
  | [d1, d2, d3, d4, d5] => { results := [.lit (.bool true)], args := [d1, d2, d3, d4, d5] }
  | _ => none }
def addressTellsRow : OpenClaim := { program := "ytiameicjjlfimaa", sum := "2c1bc0e8f499699f6328e613f9f74ad2dd776c1c26fe94930de7e63a98c971ed", func := "hotspot/hotspotlaw02.AddressTells", spec := "addressTells", inPlace := ["internal/bytealg.Compare"], apart := false }
def AddressTellsSaid : Prop := addressTellsRow.holds Try.pinned (OpenSpec.ofChange addressTellsSpec)

/-- ITS FALSE NEIGHBOUR: 'it returns false'. Refute it at one input. -/
def addressTellsWrong : ChangeSpec := { name := "addressTells", fn := fun _ => fun
  | [d1, d2, d3, d4, d5] => { results := [.lit (.bool false)], args := [d1, d2, d3, d4, d5] }
  | _ => none }
def AddressTellsWrongFalsely : Prop := addressTellsRow.holds Try.pinned (OpenSpec.ofChange addressTellsWrong)

/-- 'hotspotlaw02.AddressSets': WHATEVER THE INPUT: true; the input reads as it did. -/
def addressSetsSpec : ChangeSpec := { name := "addressSets", fn := fun _ => fun
  | [d1, d2, d3] => { results := [.lit (.bool true)], args := [d1, d2, d3] }
  | _ => none }
def addressSetsRow : OpenClaim := { program := "ytiameicjjlfimaa", sum := "2c1bc0e8f499699f6328e613f9f74ad2dd776c1c26fe94930de7e63a98c971ed", func := "hotspot/hotspotlaw02.AddressSets", spec := "addressSets", inPlace := ["internal/bytealg.Compare"], unfollowed := true, recurses := true, apart := false }
def AddressSetsSaid : Prop := addressSetsRow.holds Try.pinned (OpenSpec.ofChange addressSetsSpec)

/-- ITS FALSE NEIGHBOUR: 'it returns false'. Refute it at one input. -/
def addressSetsWrong : ChangeSpec := { name := "addressSets", fn := fun _ => fun
  | [d1, d2, d3] => { results := [.lit (.bool false)], args := [d1, d2, d3] }
  | _ => none }
def AddressSetsWrongFalsely : Prop := addressSetsRow.holds Try.pinned (OpenSpec.ofChange addressSetsWrong)

/-- 'hotspotlaw02.AddressLaws': WHATEVER THE INPUT: true; the input reads as it did. -/
def addressLawsSpec : ChangeSpec := { name := "addressLaws", fn := fun _ => fun
  | [d1, d2, d3] => { results := [.lit (.bool true)], args := [d1, d2, d3] }
  | _ => none }
def addressLawsRow : OpenClaim := { program := "ytiameicjjlfimaa", sum := "2c1bc0e8f499699f6328e613f9f74ad2dd776c1c26fe94930de7e63a98c971ed", func := "hotspot/hotspotlaw02.AddressLaws", spec := "addressLaws", inPlace := ["internal/bytealg.Compare"], unfollowed := true, recurses := true, apart := false }
def AddressLawsSaid : Prop := addressLawsRow.holds Try.pinned (OpenSpec.ofChange addressLawsSpec)

/-- ITS FALSE NEIGHBOUR: 'it returns false'. Refute it at one input. -/
def addressLawsWrong : ChangeSpec := { name := "addressLaws", fn := fun _ => fun
  | [d1, d2, d3] => { results := [.lit (.bool false)], args := [d1, d2, d3] }
  | _ => none }
def AddressLawsWrongFalsely : Prop := addressLawsRow.holds Try.pinned (OpenSpec.ofChange addressLawsWrong)

/-- 'hotspotlaw02.AddressNames': WHATEVER THE INPUT: true; the input reads as it did. -/
def addressNamesSpec : ChangeSpec := { name := "addressNames", fn := fun _ => fun
  | [] => { results := [.lit (.bool true)], args := [] }
  | _ => none }
def addressNamesRow : OpenClaim := { program := "ytiameicjjlfimaa", sum := "2c1bc0e8f499699f6328e613f9f74ad2dd776c1c26fe94930de7e63a98c971ed", func := "hotspot/hotspotlaw02.AddressNames", spec := "addressNames", inPlace := ["internal/bytealg.Compare"], unfollowed := true, recurses := true, apart := false }
def AddressNamesSaid : Prop := addressNamesRow.holds Try.pinned (OpenSpec.ofChange addressNamesSpec)

/-- ITS FALSE NEIGHBOUR: 'it returns false'. Refute it at one input. -/
def addressNamesWrong : ChangeSpec := { name := "addressNames", fn := fun _ => fun
  | [] => { results := [.lit (.bool false)], args := [] }
  | _ => none }
def AddressNamesWrongFalsely : Prop := addressNamesRow.holds Try.pinned (OpenSpec.ofChange addressNamesWrong)

/-- 'hotspotlaw02.AddressUndo': WHATEVER THE INPUT: true; the input reads as it did. -/
def addressUndoSpec : ChangeSpec := { name := "addressUndo", fn := fun _ => fun
  | [d1, d2, d3] => { results := [.lit (.bool true)], args := [d1, d2, d3] }
  | _ => none }
def addressUndoRow : OpenClaim := { program := "ytiameicjjlfimaa", sum := "2c1bc0e8f499699f6328e613f9f74ad2dd776c1c26fe94930de7e63a98c971ed", func := "hotspot/hotspotlaw02.AddressUndo", spec := "addressUndo", inPlace := ["internal/bytealg.Compare"], unfollowed := true, recurses := true, apart := false }
def AddressUndoSaid : Prop := addressUndoRow.holds Try.pinned (OpenSpec.ofChange addressUndoSpec)

/-- ITS FALSE NEIGHBOUR: 'it returns false'. Refute it at one input. -/
def addressUndoWrong : ChangeSpec := { name := "addressUndo", fn := fun _ => fun
  | [d1, d2, d3] => { results := [.lit (.bool false)], args := [d1, d2, d3] }
  | _ => none }
def AddressUndoWrongFalsely : Prop := addressUndoRow.holds Try.pinned (OpenSpec.ofChange addressUndoWrong)

/- THE SECOND FORM. 'bulk': how many values and letters a reading holds, each counted each time it is reached (what is shared counts as often as it is met; a slice's spare places count too). A statement '..UptoSaid' is the law's where the arguments, and the package variables that the reading takes, are together of bulk at most 1048576: NARROWER than '..Said'. Prove '..Said' where nothing that the law and all that it calls make is longer than what came in: it says more and counts as full. Else prove '..UptoSaid'. A law counts once. -/
mutual
def uptoBulk {H : Type} : DataW H → Nat
  | .lit (.string bytes) => bytes.length + 1
  | .lit _ => 1
  | .nil => 1
  | .ptr d => uptoBulk d + 1
  | .slice elems spare => uptoBulkAll elems + uptoBulkAll spare + 1
  | .agg parts => uptoBulkAll parts + 1
  | .iface _ d => uptoBulk d + 1
  | .map entries => uptoBulkEntries entries + 1
  | .held _ => 1
def uptoBulkAll {H : Type} : List (DataW H) → Nat
  | [] => 0
  | d :: r => uptoBulk d + uptoBulkAll r
def uptoBulkEntries {H : Type} : List (Lit × DataW H) → Nat
  | [] => 0
  | x :: r => uptoBulkEntry x + uptoBulkEntries r
def uptoBulkEntry {H : Type} : Lit × DataW H → Nat
  | (.string bytes, d) => bytes.length + uptoBulk d + 1
  | (_, d) => uptoBulk d + 1
 end
def uptoSmall : (H : Type) → List (DataW H) → Bool := fun _ ds => decide (uptoBulkAll ds ≤ 1048576)
def OpenSpec.upto (s : _root_.Go.ChangeSpec) : _root_.Go.OpenSpec := { _root_.Go.OpenSpec.ofChange s with cond := some uptoSmall }

/-- 'hotspotlaw02.AddressMatch', WHERE WHAT IT READS IS OF BULK AT MOST 1048576: true; the input reads as it did. -/
def addressMatchUptoRow : OpenClaim := { program := "ytiameicjjlfimaa", sum := "2c1bc0e8f499699f6328e613f9f74ad2dd776c1c26fe94930de7e63a98c971ed", func := "hotspot/hotspotlaw02.AddressMatch", spec := "addressMatch", apart := false, narrowed := true }
def AddressMatchUptoSaid : Prop := addressMatchUptoRow.holds Try.pinned (OpenSpec.upto addressMatchSpec)

/-- 'hotspotlaw02.AddressText', WHERE WHAT IT READS IS OF BULK AT MOST 1048576: true; the input reads as it did. -/
def addressTextUptoRow : OpenClaim := { program := "ytiameicjjlfimaa", sum := "2c1bc0e8f499699f6328e613f9f74ad2dd776c1c26fe94930de7e63a98c971ed", func := "hotspot/hotspotlaw02.AddressText", spec := "addressText", inPlace := ["internal/bytealg.Compare"], apart := false, narrowed := true }
def AddressTextUptoSaid : Prop := addressTextUptoRow.holds Try.pinned (OpenSpec.upto addressTextSpec)

/-- 'hotspotlaw02.AddressNumber', WHERE WHAT IT READS IS OF BULK AT MOST 1048576: true; the input reads as it did. -/
def addressNumberUptoRow : OpenClaim := { program := "ytiameicjjlfimaa", sum := "2c1bc0e8f499699f6328e613f9f74ad2dd776c1c26fe94930de7e63a98c971ed", func := "hotspot/hotspotlaw02.AddressNumber", spec := "addressNumber", inPlace := ["internal/bytealg.Compare"], apart := false, narrowed := true }
def AddressNumberUptoSaid : Prop := addressNumberUptoRow.holds Try.pinned (OpenSpec.upto addressNumberSpec)

/-- 'hotspotlaw02.AddressTells', WHERE WHAT IT READS IS OF BULK AT MOST 1048576: true; the input reads as it did. -/
def addressTellsUptoRow : OpenClaim := { program := "ytiameicjjlfimaa", sum := "2c1bc0e8f499699f6328e613f9f74ad2dd776c1c26fe94930de7e63a98c971ed", func := "hotspot/hotspotlaw02.AddressTells", spec := "addressTells", inPlace := ["internal/bytealg.Compare"], apart := false, narrowed := true }
def AddressTellsUptoSaid : Prop := addressTellsUptoRow.holds Try.pinned (OpenSpec.upto addressTellsSpec)

/-- 'hotspotlaw02.AddressSets', WHERE WHAT IT READS IS OF BULK AT MOST 1048576: true; the input reads as it did. -/
def addressSetsUptoRow : OpenClaim := { program := "ytiameicjjlfimaa", sum := "2c1bc0e8f499699f6328e613f9f74ad2dd776c1c26fe94930de7e63a98c971ed", func := "hotspot/hotspotlaw02.AddressSets", spec := "addressSets", inPlace := ["internal/bytealg.Compare"], unfollowed := true, recurses := true, apart := false, narrowed := true }
def AddressSetsUptoSaid : Prop := addressSetsUptoRow.holds Try.pinned (OpenSpec.upto addressSetsSpec)

/-- 'hotspotlaw02.AddressLaws', WHERE WHAT IT READS IS OF BULK AT MOST 1048576: true; the input reads as it did. -/
def addressLawsUptoRow : OpenClaim := { program := "ytiameicjjlfimaa", sum := "2c1bc0e8f499699f6328e613f9f74ad2dd776c1c26fe94930de7e63a98c971ed", func := "hotspot/hotspotlaw02.AddressLaws", spec := "addressLaws", inPlace := ["internal/bytealg.Compare"], unfollowed := true, recurses := true, apart := false, narrowed := true }
def AddressLawsUptoSaid : Prop := addressLawsUptoRow.holds Try.pinned (OpenSpec.upto addressLawsSpec)

/-- 'hotspotlaw02.AddressNames', WHERE WHAT IT READS IS OF BULK AT MOST 1048576: true; the input reads as it did. -/
def addressNamesUptoRow : OpenClaim := { program := "ytiameicjjlfimaa", sum := "2c1bc0e8f499699f6328e613f9f74ad2dd776c1c26fe94930de7e63a98c971ed", func := "hotspot/hotspotlaw02.AddressNames", spec := "addressNames", inPlace := ["internal/bytealg.Compare"], unfollowed := true, recurses := true, apart := false, narrowed := true }
def AddressNamesUptoSaid : Prop := addressNamesUptoRow.holds Try.pinned (OpenSpec.upto addressNamesSpec)

/-- 'hotspotlaw02.AddressUndo', WHERE WHAT IT READS IS OF BULK AT MOST 1048576: true; the input reads as it did. -/
def addressUndoUptoRow : OpenClaim := { program := "ytiameicjjlfimaa", sum := "2c1bc0e8f499699f6328e613f9f74ad2dd776c1c26fe94930de7e63a98c971ed", func := "hotspot/hotspotlaw02.AddressUndo", spec := "addressUndo", inPlace := ["internal/bytealg.Compare"], unfollowed := true, recurses := true, apart := false, narrowed := true }
def AddressUndoUptoSaid : Prop := addressUndoUptoRow.holds Try.pinned (OpenSpec.upto addressUndoSpec)

end Rows
end Go.Proofs.Ytiameicjjlfimaa
