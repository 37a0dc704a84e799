/-
  No cell of these rows narrows 'for every input' (looked for: loops, veiled, ifaces, maps, wideKeys, modest, calm, conditions, laid).
  DERIVED. THE GIVEN ROWS OF THIS SEAT. 12 by the template 'for every input the law returns true; each argument reads behind the call as it read before'; 0 by the template 'total and deterministic' (their statements: YtffdhckilhhejaaTotals.lean).
  GIVEN WITH THE SEED: the statements are not yours to turn. If you find one false, say at which input.
  Laid BY PROGRAM, IN A SANDBOX (cutbox-rows.mjs): the forced cells as the released guide's own fill.sh prints them over the translation 0180a16c7ec9b54a… (all of the seat's roots in one cut). By AI agents, Wed Nov 11 2026. No macro, syntax, notation, axiom, sorry.
-/
import Derived.Test.YtffdhckilhhejaaChecked
import GoSem.Claim
import GoSem.ClaimJoined
import GoSem.ClaimMapViews
import Derived.JoinedTies
import Derived.KernelRfl
namespace Go.Proofs.Ytffdhckilhhejaa
/- THE CELL 'sum', in the pinned program and in every row, IS THE sha256 OF THE DUMP (.gsa) THAT YtffdhckilhhejaaProg.lean LOADS. Nothing in Lean hashes anything: it is a label: what it is worth is what the hold of that sum in a sandbox is worth. -/
noncomputable def Try.pinned : Pinned := { name := "ytffdhckilhhejaa", sum := "0180a16c7ec9b54a208642e1e962c2dd8dc7c6e17305f52b669e5b50528f10ad", checked := Try.checked }
namespace Rows
def none {H : Type} : Left H := { results := [], args := [] }

/-- 'solventlaw13.DesignMatchesSpec': WHATEVER THE INPUT: true; the input reads as it did. -/
def designMatchesSpecSpec : ChangeSpec := { name := "designMatchesSpec", fn := fun _ => fun
  | [d1, d2, d3, d4] => { results := [.lit (.bool true)], args := [d1, d2, d3, d4] }
  | _ => none }
def designMatchesSpecRow : OpenClaim := { program := "ytffdhckilhhejaa", sum := "0180a16c7ec9b54a208642e1e962c2dd8dc7c6e17305f52b669e5b50528f10ad", func := "solvent/solventlaw13.DesignMatchesSpec", spec := "designMatchesSpec", unfollowed := true, recurses := true, apart := false }
def DesignMatchesSpecSaid : Prop := designMatchesSpecRow.holds Try.pinned (OpenSpec.ofChange designMatchesSpecSpec)

/-- ITS FALSE NEIGHBOUR: 'it returns false'. Refute it at one input. -/
def designMatchesSpecWrong : ChangeSpec := { name := "designMatchesSpec", fn := fun _ => fun
  | [d1, d2, d3, d4] => { results := [.lit (.bool false)], args := [d1, d2, d3, d4] }
  | _ => none }
def DesignMatchesSpecWrongFalsely : Prop := designMatchesSpecRow.holds Try.pinned (OpenSpec.ofChange designMatchesSpecWrong)

/-- 'solventlaw13.DesignPermutes': WHATEVER THE INPUT: true; the input reads as it did. -/
def designPermutesSpec : ChangeSpec := { name := "designPermutes", fn := fun _ => fun
  | [d1, d2] => { results := [.lit (.bool true)], args := [d1, d2] }
  | _ => none }
def designPermutesRow : OpenClaim := { program := "ytffdhckilhhejaa", sum := "0180a16c7ec9b54a208642e1e962c2dd8dc7c6e17305f52b669e5b50528f10ad", func := "solvent/solventlaw13.DesignPermutes", spec := "designPermutes", unfollowed := true, recurses := true, apart := false }
def DesignPermutesSaid : Prop := designPermutesRow.holds Try.pinned (OpenSpec.ofChange designPermutesSpec)

/-- ITS FALSE NEIGHBOUR: 'it returns false'. Refute it at one input. -/
def designPermutesWrong : ChangeSpec := { name := "designPermutes", fn := fun _ => fun
  | [d1, d2] => { results := [.lit (.bool false)], args := [d1, d2] }
  | _ => none }
def DesignPermutesWrongFalsely : Prop := designPermutesRow.holds Try.pinned (OpenSpec.ofChange designPermutesWrong)

/-- 'solventlaw13.DesignRacks': WHATEVER THE INPUT: true; the input reads as it did. -/
def designRacksSpec : ChangeSpec := { name := "designRacks", fn := fun _ => fun
  | [d1, d2, d3] => { results := [.lit (.bool true)], args := [d1, d2, d3] }
  | _ => none }
def designRacksRow : OpenClaim := { program := "ytffdhckilhhejaa", sum := "0180a16c7ec9b54a208642e1e962c2dd8dc7c6e17305f52b669e5b50528f10ad", func := "solvent/solventlaw13.DesignRacks", spec := "designRacks", unfollowed := true, recurses := true, apart := false }
def DesignRacksSaid : Prop := designRacksRow.holds Try.pinned (OpenSpec.ofChange designRacksSpec)

/-- ITS FALSE NEIGHBOUR: 'it returns false'. Refute it at one input. -/
def designRacksWrong : ChangeSpec := { name := "designRacks", fn := fun _ => fun
  | [d1, d2, d3] => { results := [.lit (.bool false)], args := [d1, d2, d3] }
  | _ => none }
def DesignRacksWrongFalsely : Prop := designRacksRow.holds Try.pinned (OpenSpec.ofChange designRacksWrong)

/-- 'solventlaw13.DesignBalances': WHATEVER THE INPUT: true; the input reads as it did. -/
def designBalancesSpec : ChangeSpec := { name := "designBalances", fn := fun _ => fun
  | [d1, d2] => { results := [.lit (.bool true)], args := [d1, d2] }
  | _ => none }
def designBalancesRow : OpenClaim := { program := "ytffdhckilhhejaa", sum := "0180a16c7ec9b54a208642e1e962c2dd8dc7c6e17305f52b669e5b50528f10ad", func := "solvent/solventlaw13.DesignBalances", spec := "designBalances", unfollowed := true, recurses := true, apart := false }
def DesignBalancesSaid : Prop := designBalancesRow.holds Try.pinned (OpenSpec.ofChange designBalancesSpec)

/-- ITS FALSE NEIGHBOUR: 'it returns false'. Refute it at one input. -/
def designBalancesWrong : ChangeSpec := { name := "designBalances", fn := fun _ => fun
  | [d1, d2] => { results := [.lit (.bool false)], args := [d1, d2] }
  | _ => none }
def DesignBalancesWrongFalsely : Prop := designBalancesRow.holds Try.pinned (OpenSpec.ofChange designBalancesWrong)

/-- 'solventlaw13.DesignRepeats': WHATEVER THE INPUT: true; the input reads as it did. -/
def designRepeatsSpec : ChangeSpec := { name := "designRepeats", fn := fun _ => fun
  | [d1, d2, d3] => { results := [.lit (.bool true)], args := [d1, d2, d3] }
  | _ => none }
def designRepeatsRow : OpenClaim := { program := "ytffdhckilhhejaa", sum := "0180a16c7ec9b54a208642e1e962c2dd8dc7c6e17305f52b669e5b50528f10ad", func := "solvent/solventlaw13.DesignRepeats", spec := "designRepeats", unfollowed := true, recurses := true, apart := false }
def DesignRepeatsSaid : Prop := designRepeatsRow.holds Try.pinned (OpenSpec.ofChange designRepeatsSpec)

/-- ITS FALSE NEIGHBOUR: 'it returns false'. Refute it at one input. -/
def designRepeatsWrong : ChangeSpec := { name := "designRepeats", fn := fun _ => fun
  | [d1, d2, d3] => { results := [.lit (.bool false)], args := [d1, d2, d3] }
  | _ => none }
def DesignRepeatsWrongFalsely : Prop := designRepeatsRow.holds Try.pinned (OpenSpec.ofChange designRepeatsWrong)

/-- 'solventlaw13.DesignSpreads': WHATEVER THE INPUT: true; the input reads as it did. -/
def designSpreadsSpec : ChangeSpec := { name := "designSpreads", fn := fun _ => fun
  | [d1, d2, d3, d4, d5, d6] => { results := [.lit (.bool true)], args := [d1, d2, d3, d4, d5, d6] }
  | _ => none }
def designSpreadsRow : OpenClaim := { program := "ytffdhckilhhejaa", sum := "0180a16c7ec9b54a208642e1e962c2dd8dc7c6e17305f52b669e5b50528f10ad", func := "solvent/solventlaw13.DesignSpreads", spec := "designSpreads", unfollowed := true, recurses := true, apart := false }
def DesignSpreadsSaid : Prop := designSpreadsRow.holds Try.pinned (OpenSpec.ofChange designSpreadsSpec)

/-- ITS FALSE NEIGHBOUR: 'it returns false'. Refute it at one input. -/
def designSpreadsWrong : ChangeSpec := { name := "designSpreads", fn := fun _ => fun
  | [d1, d2, d3, d4, d5, d6] => { results := [.lit (.bool false)], args := [d1, d2, d3, d4, d5, d6] }
  | _ => none }
def DesignSpreadsWrongFalsely : Prop := designSpreadsRow.holds Try.pinned (OpenSpec.ofChange designSpreadsWrong)

/-- 'solventlaw14.LayoutMatchesSpec': WHATEVER THE INPUT: true; the input reads as it did. -/
def layoutMatchesSpecSpec : ChangeSpec := { name := "layoutMatchesSpec", fn := fun _ => fun
  | [d] => { results := [.lit (.bool true)], args := [d] }
  | _ => none }
def layoutMatchesSpecRow : OpenClaim := { program := "ytffdhckilhhejaa", sum := "0180a16c7ec9b54a208642e1e962c2dd8dc7c6e17305f52b669e5b50528f10ad", func := "solvent/solventlaw14.LayoutMatchesSpec", spec := "layoutMatchesSpec", unfollowed := true, recurses := true, apart := false }
def LayoutMatchesSpecSaid : Prop := layoutMatchesSpecRow.holds Try.pinned (OpenSpec.ofChange layoutMatchesSpecSpec)

/-- ITS FALSE NEIGHBOUR: 'it returns false'. Refute it at one input. -/
def layoutMatchesSpecWrong : ChangeSpec := { name := "layoutMatchesSpec", fn := fun _ => fun
  | [d] => { results := [.lit (.bool false)], args := [d] }
  | _ => none }
def LayoutMatchesSpecWrongFalsely : Prop := layoutMatchesSpecRow.holds Try.pinned (OpenSpec.ofChange layoutMatchesSpecWrong)

/-- 'solventlaw14.LayoutIsPartition': WHATEVER THE INPUT: true; the input reads as it did. -/
def layoutIsPartitionSpec : ChangeSpec := { name := "layoutIsPartition", fn := fun _ => fun
  | [d1, d2, d3] => { results := [.lit (.bool true)], args := [d1, d2, d3] }
  | _ => none }
def layoutIsPartitionRow : OpenClaim := { program := "ytffdhckilhhejaa", sum := "0180a16c7ec9b54a208642e1e962c2dd8dc7c6e17305f52b669e5b50528f10ad", func := "solvent/solventlaw14.LayoutIsPartition", spec := "layoutIsPartition", unfollowed := true, recurses := true, apart := false }
def LayoutIsPartitionSaid : Prop := layoutIsPartitionRow.holds Try.pinned (OpenSpec.ofChange layoutIsPartitionSpec)

/-- ITS FALSE NEIGHBOUR: 'it returns false'. Refute it at one input. -/
def layoutIsPartitionWrong : ChangeSpec := { name := "layoutIsPartition", fn := fun _ => fun
  | [d1, d2, d3] => { results := [.lit (.bool false)], args := [d1, d2, d3] }
  | _ => none }
def LayoutIsPartitionWrongFalsely : Prop := layoutIsPartitionRow.holds Try.pinned (OpenSpec.ofChange layoutIsPartitionWrong)

/-- 'solventlaw14.LayoutSpreadsOverRacks': WHATEVER THE INPUT: true; the input reads as it did. -/
def layoutSpreadsOverRacksSpec : ChangeSpec := { name := "layoutSpreadsOverRacks", fn := fun _ => fun
  | [d1, d2, d3] => { results := [.lit (.bool true)], args := [d1, d2, d3] }
  | _ => none }
def layoutSpreadsOverRacksRow : OpenClaim := { program := "ytffdhckilhhejaa", sum := "0180a16c7ec9b54a208642e1e962c2dd8dc7c6e17305f52b669e5b50528f10ad", func := "solvent/solventlaw14.LayoutSpreadsOverRacks", spec := "layoutSpreadsOverRacks", unfollowed := true, recurses := true, apart := false }
def LayoutSpreadsOverRacksSaid : Prop := layoutSpreadsOverRacksRow.holds Try.pinned (OpenSpec.ofChange layoutSpreadsOverRacksSpec)

/-- ITS FALSE NEIGHBOUR: 'it returns false'. Refute it at one input. -/
def layoutSpreadsOverRacksWrong : ChangeSpec := { name := "layoutSpreadsOverRacks", fn := fun _ => fun
  | [d1, d2, d3] => { results := [.lit (.bool false)], args := [d1, d2, d3] }
  | _ => none }
def LayoutSpreadsOverRacksWrongFalsely : Prop := layoutSpreadsOverRacksRow.holds Try.pinned (OpenSpec.ofChange layoutSpreadsOverRacksWrong)

/-- 'solventlaw14.LayoutIsBalanced': WHATEVER THE INPUT: true; the input reads as it did. -/
def layoutIsBalancedSpec : ChangeSpec := { name := "layoutIsBalanced", fn := fun _ => fun
  | [d1, d2] => { results := [.lit (.bool true)], args := [d1, d2] }
  | _ => none }
def layoutIsBalancedRow : OpenClaim := { program := "ytffdhckilhhejaa", sum := "0180a16c7ec9b54a208642e1e962c2dd8dc7c6e17305f52b669e5b50528f10ad", func := "solvent/solventlaw14.LayoutIsBalanced", spec := "layoutIsBalanced", unfollowed := true, recurses := true, apart := false }
def LayoutIsBalancedSaid : Prop := layoutIsBalancedRow.holds Try.pinned (OpenSpec.ofChange layoutIsBalancedSpec)

/-- ITS FALSE NEIGHBOUR: 'it returns false'. Refute it at one input. -/
def layoutIsBalancedWrong : ChangeSpec := { name := "layoutIsBalanced", fn := fun _ => fun
  | [d1, d2] => { results := [.lit (.bool false)], args := [d1, d2] }
  | _ => none }
def LayoutIsBalancedWrongFalsely : Prop := layoutIsBalancedRow.holds Try.pinned (OpenSpec.ofChange layoutIsBalancedWrong)

/-- 'solventlaw14.LayoutDeclusters': WHATEVER THE INPUT: true; the input reads as it did. -/
def layoutDeclustersSpec : ChangeSpec := { name := "layoutDeclusters", fn := fun _ => fun
  | [d] => { results := [.lit (.bool true)], args := [d] }
  | _ => none }
def layoutDeclustersRow : OpenClaim := { program := "ytffdhckilhhejaa", sum := "0180a16c7ec9b54a208642e1e962c2dd8dc7c6e17305f52b669e5b50528f10ad", func := "solvent/solventlaw14.LayoutDeclusters", spec := "layoutDeclusters", unfollowed := true, recurses := true, apart := false }
def LayoutDeclustersSaid : Prop := layoutDeclustersRow.holds Try.pinned (OpenSpec.ofChange layoutDeclustersSpec)

/-- ITS FALSE NEIGHBOUR: 'it returns false'. Refute it at one input. -/
def layoutDeclustersWrong : ChangeSpec := { name := "layoutDeclusters", fn := fun _ => fun
  | [d] => { results := [.lit (.bool false)], args := [d] }
  | _ => none }
def LayoutDeclustersWrongFalsely : Prop := layoutDeclustersRow.holds Try.pinned (OpenSpec.ofChange layoutDeclustersWrong)

/-- 'solventlaw14.LayoutSparesShrink': WHATEVER THE INPUT: true; the input reads as it did. -/
def layoutSparesShrinkSpec : ChangeSpec := { name := "layoutSparesShrink", fn := fun _ => fun
  | [d1, d2, d3] => { results := [.lit (.bool true)], args := [d1, d2, d3] }
  | _ => none }
def layoutSparesShrinkRow : OpenClaim := { program := "ytffdhckilhhejaa", sum := "0180a16c7ec9b54a208642e1e962c2dd8dc7c6e17305f52b669e5b50528f10ad", func := "solvent/solventlaw14.LayoutSparesShrink", spec := "layoutSparesShrink", unfollowed := true, recurses := true, apart := false }
def LayoutSparesShrinkSaid : Prop := layoutSparesShrinkRow.holds Try.pinned (OpenSpec.ofChange layoutSparesShrinkSpec)

/-- ITS FALSE NEIGHBOUR: 'it returns false'. Refute it at one input. -/
def layoutSparesShrinkWrong : ChangeSpec := { name := "layoutSparesShrink", fn := fun _ => fun
  | [d1, d2, d3] => { results := [.lit (.bool false)], args := [d1, d2, d3] }
  | _ => none }
def LayoutSparesShrinkWrongFalsely : Prop := layoutSparesShrinkRow.holds Try.pinned (OpenSpec.ofChange layoutSparesShrinkWrong)

/- THE SECOND FORM. 'bulk': how many values and letters a reading holds, each counted each time it is reached (what is shared counts as often as it is met; a slice's spare places count too). A statement '..UptoSaid' is the law's where the arguments, and the package variables that the reading takes, are together of bulk at most 1048576: NARROWER than '..Said'. Prove '..Said' where nothing that the law and all that it calls make is longer than what came in: it says more and counts as full. Else prove '..UptoSaid'. A law counts once. -/
mutual
def uptoBulk {H : Type} : DataW H → Nat
  | .lit (.string bytes) => bytes.length + 1
  | .lit _ => 1
  | .nil => 1
  | .ptr d => uptoBulk d + 1
  | .slice elems spare => uptoBulkAll elems + uptoBulkAll spare + 1
  | .agg parts => uptoBulkAll parts + 1
  | .iface _ d => uptoBulk d + 1
  | .map entries => uptoBulkEntries entries + 1
  | .held _ => 1
def uptoBulkAll {H : Type} : List (DataW H) → Nat
  | [] => 0
  | d :: r => uptoBulk d + uptoBulkAll r
def uptoBulkEntries {H : Type} : List (Lit × DataW H) → Nat
  | [] => 0
  | x :: r => uptoBulkEntry x + uptoBulkEntries r
def uptoBulkEntry {H : Type} : Lit × DataW H → Nat
  | (.string bytes, d) => bytes.length + uptoBulk d + 1
  | (_, d) => uptoBulk d + 1
 end
def uptoSmall : (H : Type) → List (DataW H) → Bool := fun _ ds => decide (uptoBulkAll ds ≤ 1048576)
def OpenSpec.upto (s : _root_.Go.ChangeSpec) : _root_.Go.OpenSpec := { _root_.Go.OpenSpec.ofChange s with cond := some uptoSmall }

/-- 'solventlaw13.DesignMatchesSpec', WHERE WHAT IT READS IS OF BULK AT MOST 1048576: true; the input reads as it did. -/
def designMatchesSpecUptoRow : OpenClaim := { program := "ytffdhckilhhejaa", sum := "0180a16c7ec9b54a208642e1e962c2dd8dc7c6e17305f52b669e5b50528f10ad", func := "solvent/solventlaw13.DesignMatchesSpec", spec := "designMatchesSpec", unfollowed := true, recurses := true, apart := false, narrowed := true }
def DesignMatchesSpecUptoSaid : Prop := designMatchesSpecUptoRow.holds Try.pinned (OpenSpec.upto designMatchesSpecSpec)

/-- 'solventlaw13.DesignPermutes', WHERE WHAT IT READS IS OF BULK AT MOST 1048576: true; the input reads as it did. -/
def designPermutesUptoRow : OpenClaim := { program := "ytffdhckilhhejaa", sum := "0180a16c7ec9b54a208642e1e962c2dd8dc7c6e17305f52b669e5b50528f10ad", func := "solvent/solventlaw13.DesignPermutes", spec := "designPermutes", unfollowed := true, recurses := true, apart := false, narrowed := true }
def DesignPermutesUptoSaid : Prop := designPermutesUptoRow.holds Try.pinned (OpenSpec.upto designPermutesSpec)

/-- 'solventlaw13.DesignRacks', WHERE WHAT IT READS IS OF BULK AT MOST 1048576: true; the input reads as it did. -/
def designRacksUptoRow : OpenClaim := { program := "ytffdhckilhhejaa", sum := "0180a16c7ec9b54a208642e1e962c2dd8dc7c6e17305f52b669e5b50528f10ad", func := "solvent/solventlaw13.DesignRacks", spec := "designRacks", unfollowed := true, recurses := true, apart := false, narrowed := true }
def DesignRacksUptoSaid : Prop := designRacksUptoRow.holds Try.pinned (OpenSpec.upto designRacksSpec)

/-- 'solventlaw13.DesignBalances', WHERE WHAT IT READS IS OF BULK AT MOST 1048576: true; the input reads as it did. -/
def designBalancesUptoRow : OpenClaim := { program := "ytffdhckilhhejaa", sum := "0180a16c7ec9b54a208642e1e962c2dd8dc7c6e17305f52b669e5b50528f10ad", func := "solvent/solventlaw13.DesignBalances", spec := "designBalances", unfollowed := true, recurses := true, apart := false, narrowed := true }
def DesignBalancesUptoSaid : Prop := designBalancesUptoRow.holds Try.pinned (OpenSpec.upto designBalancesSpec)

/-- 'solventlaw13.DesignRepeats', WHERE WHAT IT READS IS OF BULK AT MOST 1048576: true; the input reads as it did. -/
def designRepeatsUptoRow : OpenClaim := { program := "ytffdhckilhhejaa", sum := "0180a16c7ec9b54a208642e1e962c2dd8dc7c6e17305f52b669e5b50528f10ad", func := "solvent/solventlaw13.DesignRepeats", spec := "designRepeats", unfollowed := true, recurses := true, apart := false, narrowed := true }
def DesignRepeatsUptoSaid : Prop := designRepeatsUptoRow.holds Try.pinned (OpenSpec.upto designRepeatsSpec)

/-- 'solventlaw13.DesignSpreads', WHERE WHAT IT READS IS OF BULK AT MOST 1048576: true; the input reads as it did. -/
def designSpreadsUptoRow : OpenClaim := { program := "ytffdhckilhhejaa", sum := "0180a16c7ec9b54a208642e1e962c2dd8dc7c6e17305f52b669e5b50528f10ad", func := "solvent/solventlaw13.DesignSpreads", spec := "designSpreads", unfollowed := true, recurses := true, apart := false, narrowed := true }
def DesignSpreadsUptoSaid : Prop := designSpreadsUptoRow.holds Try.pinned (OpenSpec.upto designSpreadsSpec)

/-- 'solventlaw14.LayoutMatchesSpec', WHERE WHAT IT READS IS OF BULK AT MOST 1048576: true; the input reads as it did. -/
def layoutMatchesSpecUptoRow : OpenClaim := { program := "ytffdhckilhhejaa", sum := "0180a16c7ec9b54a208642e1e962c2dd8dc7c6e17305f52b669e5b50528f10ad", func := "solvent/solventlaw14.LayoutMatchesSpec", spec := "layoutMatchesSpec", unfollowed := true, recurses := true, apart := false, narrowed := true }
def LayoutMatchesSpecUptoSaid : Prop := layoutMatchesSpecUptoRow.holds Try.pinned (OpenSpec.upto layoutMatchesSpecSpec)

/-- 'solventlaw14.LayoutIsPartition', WHERE WHAT IT READS IS OF BULK AT MOST 1048576: true; the input reads as it did. -/
def layoutIsPartitionUptoRow : OpenClaim := { program := "ytffdhckilhhejaa", sum := "0180a16c7ec9b54a208642e1e962c2dd8dc7c6e17305f52b669e5b50528f10ad", func := "solvent/solventlaw14.LayoutIsPartition", spec := "layoutIsPartition", unfollowed := true, recurses := true, apart := false, narrowed := true }
def LayoutIsPartitionUptoSaid : Prop := layoutIsPartitionUptoRow.holds Try.pinned (OpenSpec.upto layoutIsPartitionSpec)

/-- 'solventlaw14.LayoutSpreadsOverRacks', WHERE WHAT IT READS IS OF BULK AT MOST 1048576: true; the input reads as it did. -/
def layoutSpreadsOverRacksUptoRow : OpenClaim := { program := "ytffdhckilhhejaa", sum := "0180a16c7ec9b54a208642e1e962c2dd8dc7c6e17305f52b669e5b50528f10ad", func := "solvent/solventlaw14.LayoutSpreadsOverRacks", spec := "layoutSpreadsOverRacks", unfollowed := true, recurses := true, apart := false, narrowed := true }
def LayoutSpreadsOverRacksUptoSaid : Prop := layoutSpreadsOverRacksUptoRow.holds Try.pinned (OpenSpec.upto layoutSpreadsOverRacksSpec)

/-- 'solventlaw14.LayoutIsBalanced', WHERE WHAT IT READS IS OF BULK AT MOST 1048576: true; the input reads as it did. -/
def layoutIsBalancedUptoRow : OpenClaim := { program := "ytffdhckilhhejaa", sum := "0180a16c7ec9b54a208642e1e962c2dd8dc7c6e17305f52b669e5b50528f10ad", func := "solvent/solventlaw14.LayoutIsBalanced", spec := "layoutIsBalanced", unfollowed := true, recurses := true, apart := false, narrowed := true }
def LayoutIsBalancedUptoSaid : Prop := layoutIsBalancedUptoRow.holds Try.pinned (OpenSpec.upto layoutIsBalancedSpec)

/-- 'solventlaw14.LayoutDeclusters', WHERE WHAT IT READS IS OF BULK AT MOST 1048576: true; the input reads as it did. -/
def layoutDeclustersUptoRow : OpenClaim := { program := "ytffdhckilhhejaa", sum := "0180a16c7ec9b54a208642e1e962c2dd8dc7c6e17305f52b669e5b50528f10ad", func := "solvent/solventlaw14.LayoutDeclusters", spec := "layoutDeclusters", unfollowed := true, recurses := true, apart := false, narrowed := true }
def LayoutDeclustersUptoSaid : Prop := layoutDeclustersUptoRow.holds Try.pinned (OpenSpec.upto layoutDeclustersSpec)

/-- 'solventlaw14.LayoutSparesShrink', WHERE WHAT IT READS IS OF BULK AT MOST 1048576: true; the input reads as it did. -/
def layoutSparesShrinkUptoRow : OpenClaim := { program := "ytffdhckilhhejaa", sum := "0180a16c7ec9b54a208642e1e962c2dd8dc7c6e17305f52b669e5b50528f10ad", func := "solvent/solventlaw14.LayoutSparesShrink", spec := "layoutSparesShrink", unfollowed := true, recurses := true, apart := false, narrowed := true }
def LayoutSparesShrinkUptoSaid : Prop := layoutSparesShrinkUptoRow.holds Try.pinned (OpenSpec.upto layoutSparesShrinkSpec)

end Rows
end Go.Proofs.Ytffdhckilhhejaa
