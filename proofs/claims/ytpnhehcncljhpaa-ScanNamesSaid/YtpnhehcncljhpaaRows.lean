/-
  NARROWER THAN 'FOR EVERY INPUT', by the rows' own cells (each row's printed sentence says how): ScanPlans: loops · ScanKeeps: loops · ScanStays: loops.
  DERIVED. THE GIVEN ROWS OF THIS SEAT. 6 by the template 'for every input the law returns true; each argument reads behind the call as it read before'; 0 by the template 'total and deterministic' (their statements: YtpnhehcncljhpaaTotals.lean).
  GIVEN WITH THE SEED: the statements are not yours to turn. If you find one false, say at which input.
  Laid BY PROGRAM, IN A SANDBOX (cutbox-rows.mjs): the forced cells as the released guide's own fill.sh prints them over the translation a4db570274e759e3… (all of the seat's roots in one cut). By AI agents, Wed Nov 11 2026. No macro, syntax, notation, axiom, sorry.
-/
import Derived.Test.YtpnhehcncljhpaaChecked
import GoSem.Claim
import GoSem.ClaimJoined
import GoSem.ClaimMapViews
import Derived.JoinedTies
import Derived.KernelRfl
namespace Go.Proofs.Ytpnhehcncljhpaa
/- THE CELL 'sum', in the pinned program and in every row, IS THE sha256 OF THE DUMP (.gsa) THAT YtpnhehcncljhpaaProg.lean LOADS. Nothing in Lean hashes anything: it is a label: what it is worth is what the hold of that sum in a sandbox is worth. -/
noncomputable def Try.pinned : Pinned := { name := "ytpnhehcncljhpaa", sum := "a4db570274e759e3fde0205954dc57137c2cdfed7f9e0bc69c7e8024607411db", checked := Try.checked }
namespace Rows
def none {H : Type} : Left H := { results := [], args := [] }

/-- 'hotspotlaw28.ScanPlans': WHATEVER THE INPUT: true; the input reads as it did. -/
def scanPlansSpec : ChangeSpec := { name := "scanPlans", fn := fun _ => fun
  | [d1, d2, d3, d4, d5, d6] => { results := [.lit (.bool true)], args := [d1, d2, d3, d4, d5, d6] }
  | _ => none }
def scanPlansRow : OpenClaim := { program := "ytpnhehcncljhpaa", sum := "a4db570274e759e3fde0205954dc57137c2cdfed7f9e0bc69c7e8024607411db", func := "hotspot/hotspotlaw28.ScanPlans", spec := "scanPlans", unfollowed := true, recurses := true, loops := true, apart := false }
def ScanPlansSaid : Prop := scanPlansRow.holds Try.pinned (OpenSpec.ofChange scanPlansSpec)

/-- ITS FALSE NEIGHBOUR: 'it returns false'. Refute it at one input. -/
def scanPlansWrong : ChangeSpec := { name := "scanPlans", fn := fun _ => fun
  | [d1, d2, d3, d4, d5, d6] => { results := [.lit (.bool false)], args := [d1, d2, d3, d4, d5, d6] }
  | _ => none }
def ScanPlansWrongFalsely : Prop := scanPlansRow.holds Try.pinned (OpenSpec.ofChange scanPlansWrong)

/-- 'hotspotlaw28.ScanKeeps': WHATEVER THE INPUT: true; the input reads as it did. -/
def scanKeepsSpec : ChangeSpec := { name := "scanKeeps", fn := fun _ => fun
  | [d1, d2, d3, d4, d5, d6] => { results := [.lit (.bool true)], args := [d1, d2, d3, d4, d5, d6] }
  | _ => none }
def scanKeepsRow : OpenClaim := { program := "ytpnhehcncljhpaa", sum := "a4db570274e759e3fde0205954dc57137c2cdfed7f9e0bc69c7e8024607411db", func := "hotspot/hotspotlaw28.ScanKeeps", spec := "scanKeeps", inPlace := ["internal/bytealg.Compare", "slices.overlaps[hotspot/api.Candidate]"], unfollowed := true, recurses := true, loops := true, apart := false }
def ScanKeepsSaid : Prop := scanKeepsRow.holds Try.pinned (OpenSpec.ofChange scanKeepsSpec)

/-- ITS FALSE NEIGHBOUR: 'it returns false'. Refute it at one input. -/
def scanKeepsWrong : ChangeSpec := { name := "scanKeeps", fn := fun _ => fun
  | [d1, d2, d3, d4, d5, d6] => { results := [.lit (.bool false)], args := [d1, d2, d3, d4, d5, d6] }
  | _ => none }
def ScanKeepsWrongFalsely : Prop := scanKeepsRow.holds Try.pinned (OpenSpec.ofChange scanKeepsWrong)

/-- 'hotspotlaw28.ScanBest': WHATEVER THE INPUT: true; the input reads as it did. -/
def scanBestSpec : ChangeSpec := { name := "scanBest", fn := fun _ => fun
  | [d1, d2, d3] => { results := [.lit (.bool true)], args := [d1, d2, d3] }
  | _ => none }
def scanBestRow : OpenClaim := { program := "ytpnhehcncljhpaa", sum := "a4db570274e759e3fde0205954dc57137c2cdfed7f9e0bc69c7e8024607411db", func := "hotspot/hotspotlaw28.ScanBest", spec := "scanBest", inPlace := ["internal/bytealg.Compare", "slices.overlaps[hotspot/api.Candidate]"], unfollowed := true, recurses := true, apart := false }
def ScanBestSaid : Prop := scanBestRow.holds Try.pinned (OpenSpec.ofChange scanBestSpec)

/-- ITS FALSE NEIGHBOUR: 'it returns false'. Refute it at one input. -/
def scanBestWrong : ChangeSpec := { name := "scanBest", fn := fun _ => fun
  | [d1, d2, d3] => { results := [.lit (.bool false)], args := [d1, d2, d3] }
  | _ => none }
def ScanBestWrongFalsely : Prop := scanBestRow.holds Try.pinned (OpenSpec.ofChange scanBestWrong)

/-- 'hotspotlaw28.ScanVisits': WHATEVER THE INPUT: true; the input reads as it did. -/
def scanVisitsSpec : ChangeSpec := { name := "scanVisits", fn := fun _ => fun
  | [d1, d2, d3] => { results := [.lit (.bool true)], args := [d1, d2, d3] }
  | _ => none }
def scanVisitsRow : OpenClaim := { program := "ytpnhehcncljhpaa", sum := "a4db570274e759e3fde0205954dc57137c2cdfed7f9e0bc69c7e8024607411db", func := "hotspot/hotspotlaw28.ScanVisits", spec := "scanVisits", inPlace := ["internal/bytealg.Compare", "slices.overlaps[hotspot/api.Candidate]"], unfollowed := true, recurses := true, apart := false }
def ScanVisitsSaid : Prop := scanVisitsRow.holds Try.pinned (OpenSpec.ofChange scanVisitsSpec)

/-- ITS FALSE NEIGHBOUR: 'it returns false'. Refute it at one input. -/
def scanVisitsWrong : ChangeSpec := { name := "scanVisits", fn := fun _ => fun
  | [d1, d2, d3] => { results := [.lit (.bool false)], args := [d1, d2, d3] }
  | _ => none }
def ScanVisitsWrongFalsely : Prop := scanVisitsRow.holds Try.pinned (OpenSpec.ofChange scanVisitsWrong)

/-- 'hotspotlaw28.ScanStays': WHATEVER THE INPUT: true; the input reads as it did. -/
def scanStaysSpec : ChangeSpec := { name := "scanStays", fn := fun _ => fun
  | [d1, d2, d3, d4, d5, d6, d7] => { results := [.lit (.bool true)], args := [d1, d2, d3, d4, d5, d6, d7] }
  | _ => none }
def scanStaysRow : OpenClaim := { program := "ytpnhehcncljhpaa", sum := "a4db570274e759e3fde0205954dc57137c2cdfed7f9e0bc69c7e8024607411db", func := "hotspot/hotspotlaw28.ScanStays", spec := "scanStays", inPlace := ["internal/bytealg.Compare", "slices.overlaps[hotspot/api.Candidate]"], unfollowed := true, recurses := true, loops := true, apart := false }
def ScanStaysSaid : Prop := scanStaysRow.holds Try.pinned (OpenSpec.ofChange scanStaysSpec)

/-- ITS FALSE NEIGHBOUR: 'it returns false'. Refute it at one input. -/
def scanStaysWrong : ChangeSpec := { name := "scanStays", fn := fun _ => fun
  | [d1, d2, d3, d4, d5, d6, d7] => { results := [.lit (.bool false)], args := [d1, d2, d3, d4, d5, d6, d7] }
  | _ => none }
def ScanStaysWrongFalsely : Prop := scanStaysRow.holds Try.pinned (OpenSpec.ofChange scanStaysWrong)

/-- 'hotspotlaw28.ScanNames': WHATEVER THE INPUT: true; the input reads as it did. -/
def scanNamesSpec : ChangeSpec := { name := "scanNames", fn := fun _ => fun
  | [] => { results := [.lit (.bool true)], args := [] }
  | _ => none }
def scanNamesRow : OpenClaim := { program := "ytpnhehcncljhpaa", sum := "a4db570274e759e3fde0205954dc57137c2cdfed7f9e0bc69c7e8024607411db", func := "hotspot/hotspotlaw28.ScanNames", spec := "scanNames", inPlace := ["internal/bytealg.Compare", "slices.overlaps[hotspot/api.Candidate]"], unfollowed := true, recurses := true, apart := false }
def ScanNamesSaid : Prop := scanNamesRow.holds Try.pinned (OpenSpec.ofChange scanNamesSpec)

/-- ITS FALSE NEIGHBOUR: 'it returns false'. Refute it at one input. -/
def scanNamesWrong : ChangeSpec := { name := "scanNames", fn := fun _ => fun
  | [] => { results := [.lit (.bool false)], args := [] }
  | _ => none }
def ScanNamesWrongFalsely : Prop := scanNamesRow.holds Try.pinned (OpenSpec.ofChange scanNamesWrong)

/- THE SECOND FORM. 'bulk': how many values and letters a reading holds, each counted each time it is reached (what is shared counts as often as it is met; a slice's spare places count too). A statement '..UptoSaid' is the law's where the arguments, and the package variables that the reading takes, are together of bulk at most 1048576: NARROWER than '..Said'. Prove '..Said' where nothing that the law and all that it calls make is longer than what came in: it says more and counts as full. Else prove '..UptoSaid'. A law counts once. -/
mutual
def uptoBulk {H : Type} : DataW H → Nat
  | .lit (.string bytes) => bytes.length + 1
  | .lit _ => 1
  | .nil => 1
  | .ptr d => uptoBulk d + 1
  | .slice elems spare => uptoBulkAll elems + uptoBulkAll spare + 1
  | .agg parts => uptoBulkAll parts + 1
  | .iface _ d => uptoBulk d + 1
  | .map entries => uptoBulkEntries entries + 1
  | .held _ => 1
def uptoBulkAll {H : Type} : List (DataW H) → Nat
  | [] => 0
  | d :: r => uptoBulk d + uptoBulkAll r
def uptoBulkEntries {H : Type} : List (Lit × DataW H) → Nat
  | [] => 0
  | x :: r => uptoBulkEntry x + uptoBulkEntries r
def uptoBulkEntry {H : Type} : Lit × DataW H → Nat
  | (.string bytes, d) => bytes.length + uptoBulk d + 1
  | (_, d) => uptoBulk d + 1
 end
def uptoSmall : (H : Type) → List (DataW H) → Bool := fun _ ds => decide (uptoBulkAll ds ≤ 1048576)
def OpenSpec.upto (s : _root_.Go.ChangeSpec) : _root_.Go.OpenSpec := { _root_.Go.OpenSpec.ofChange s with cond := some uptoSmall }

/-- 'hotspotlaw28.ScanPlans', WHERE WHAT IT READS IS OF BULK AT MOST 1048576: true; the input reads as it did. -/
def scanPlansUptoRow : OpenClaim := { program := "ytpnhehcncljhpaa", sum := "a4db570274e759e3fde0205954dc57137c2cdfed7f9e0bc69c7e8024607411db", func := "hotspot/hotspotlaw28.ScanPlans", spec := "scanPlans", unfollowed := true, recurses := true, loops := true, apart := false, narrowed := true }
def ScanPlansUptoSaid : Prop := scanPlansUptoRow.holds Try.pinned (OpenSpec.upto scanPlansSpec)

/-- 'hotspotlaw28.ScanKeeps', WHERE WHAT IT READS IS OF BULK AT MOST 1048576: true; the input reads as it did. -/
def scanKeepsUptoRow : OpenClaim := { program := "ytpnhehcncljhpaa", sum := "a4db570274e759e3fde0205954dc57137c2cdfed7f9e0bc69c7e8024607411db", func := "hotspot/hotspotlaw28.ScanKeeps", spec := "scanKeeps", inPlace := ["internal/bytealg.Compare", "slices.overlaps[hotspot/api.Candidate]"], unfollowed := true, recurses := true, loops := true, apart := false, narrowed := true }
def ScanKeepsUptoSaid : Prop := scanKeepsUptoRow.holds Try.pinned (OpenSpec.upto scanKeepsSpec)

/-- 'hotspotlaw28.ScanBest', WHERE WHAT IT READS IS OF BULK AT MOST 1048576: true; the input reads as it did. -/
def scanBestUptoRow : OpenClaim := { program := "ytpnhehcncljhpaa", sum := "a4db570274e759e3fde0205954dc57137c2cdfed7f9e0bc69c7e8024607411db", func := "hotspot/hotspotlaw28.ScanBest", spec := "scanBest", inPlace := ["internal/bytealg.Compare", "slices.overlaps[hotspot/api.Candidate]"], unfollowed := true, recurses := true, apart := false, narrowed := true }
def ScanBestUptoSaid : Prop := scanBestUptoRow.holds Try.pinned (OpenSpec.upto scanBestSpec)

/-- 'hotspotlaw28.ScanVisits', WHERE WHAT IT READS IS OF BULK AT MOST 1048576: true; the input reads as it did. -/
def scanVisitsUptoRow : OpenClaim := { program := "ytpnhehcncljhpaa", sum := "a4db570274e759e3fde0205954dc57137c2cdfed7f9e0bc69c7e8024607411db", func := "hotspot/hotspotlaw28.ScanVisits", spec := "scanVisits", inPlace := ["internal/bytealg.Compare", "slices.overlaps[hotspot/api.Candidate]"], unfollowed := true, recurses := true, apart := false, narrowed := true }
def ScanVisitsUptoSaid : Prop := scanVisitsUptoRow.holds Try.pinned (OpenSpec.upto scanVisitsSpec)

/-- 'hotspotlaw28.ScanStays', WHERE WHAT IT READS IS OF BULK AT MOST 1048576: true; the input reads as it did. -/
def scanStaysUptoRow : OpenClaim := { program := "ytpnhehcncljhpaa", sum := "a4db570274e759e3fde0205954dc57137c2cdfed7f9e0bc69c7e8024607411db", func := "hotspot/hotspotlaw28.ScanStays", spec := "scanStays", inPlace := ["internal/bytealg.Compare", "slices.overlaps[hotspot/api.Candidate]"], unfollowed := true, recurses := true, loops := true, apart := false, narrowed := true }
def ScanStaysUptoSaid : Prop := scanStaysUptoRow.holds Try.pinned (OpenSpec.upto scanStaysSpec)

/-- 'hotspotlaw28.ScanNames', WHERE WHAT IT READS IS OF BULK AT MOST 1048576: true; the input reads as it did. -/
def scanNamesUptoRow : OpenClaim := { program := "ytpnhehcncljhpaa", sum := "a4db570274e759e3fde0205954dc57137c2cdfed7f9e0bc69c7e8024607411db", func := "hotspot/hotspotlaw28.ScanNames", spec := "scanNames", inPlace := ["internal/bytealg.Compare", "slices.overlaps[hotspot/api.Candidate]"], unfollowed := true, recurses := true, apart := false, narrowed := true }
def ScanNamesUptoSaid : Prop := scanNamesUptoRow.holds Try.pinned (OpenSpec.upto scanNamesSpec)

end Rows
end Go.Proofs.Ytpnhehcncljhpaa
