/-
  NARROWER THAN 'FOR EVERY INPUT', by the rows' own cells (each row's printed sentence says how): RepairApplyMatchesSpec: laid · RepairRebuilds: laid · RepairReadsPresent: laid · RepairIgnoresItself: laid.
  DERIVED. THE GIVEN ROWS OF THIS SEAT. 4 by the template 'for every input the law returns true; each argument reads behind the call as it read before'; 0 by the template 'total and deterministic' (their statements: YtilpljehfcpjeaaDoorTotals.lean).
  GIVEN WITH THE SEED: the statements are not yours to turn. If you find one false, say at which input.
  Laid BY PROGRAM, IN A SANDBOX (cutbox-rows.mjs): the forced cells as the released guide's own fill.sh prints them over the translation 8ec455452c116ab6… (all of the seat's roots in one cut). By AI agents, Wed Nov 11 2026. No macro, syntax, notation, axiom, sorry.
-/
import Derived.Test.YtilpljehfcpjeaaDoorChecked
import GoSem.Claim
import GoSem.ClaimJoined
import GoSem.ClaimMapViews
import Derived.JoinedTies
import Derived.KernelRfl
namespace Go.Proofs.YtilpljehfcpjeaaDoor
/- THE CELL 'sum', in the pinned program and in every row, IS THE sha256 OF THE DUMP (.gsa) THAT YtilpljehfcpjeaaDoorProg.lean LOADS. Nothing in Lean hashes anything: it is a label: what it is worth is what the hold of that sum in a sandbox is worth. -/
noncomputable def Tryd.pinned : Pinned := { name := "ytilpljehfcpjeaadoor", sum := "8ec455452c116ab68f0cf8382202ff082dd3085a0646f2f2c9491443fd85507e", checked := Tryd.checked }
namespace Rows
def none {H : Type} : Left H := { results := [], args := [] }

/- WHAT THE LISTED PACKAGE-LEVEL VARIABLES READ AS WHEN THE CALL BEGINS. Each datum BY PROGRAM (the guide's laid-datum.mjs) off the statement by which the dump's own 'gosem.cut.vars' lays the variable. In a bare row this is a premise. The card (YtilpljehfcpjeaaDoorCards.lean) ties it to the program's text. -/
def laid_solvent_field_fields {H : Type} : DataW H := .agg [.agg [.lit (.int .i64 8), .lit (.int .i64 285)], .agg [.lit (.int .i64 16), .lit (.int .i64 69643)]]

/-- 'solventlaw10.RepairApplyMatchesSpec': WHATEVER THE INPUT: true; the input reads as it did. -/
def repairApplyMatchesSpecSpec : ChangeSpec := { name := "repairApplyMatchesSpec", fn := fun _ => fun
  | [d1, d2, d3] => { results := [.lit (.bool true)], args := [d1, d2, d3] }
  | _ => none }
def repairApplyMatchesSpecRow : OpenClaim := { program := "ytilpljehfcpjeaadoor", sum := "8ec455452c116ab68f0cf8382202ff082dd3085a0646f2f2c9491443fd85507e", func := "solvent/solventlaw10.RepairApplyMatchesSpec", spec := "repairApplyMatchesSpec", unfollowed := true, recurses := true, named := ["solvent/field.fields"], apart := false, laid := [("solvent/field.fields", laid_solvent_field_fields)] }
def RepairApplyMatchesSpecSaid : Prop := repairApplyMatchesSpecRow.holds Tryd.pinned (OpenSpec.ofChange repairApplyMatchesSpecSpec)

/-- ITS FALSE NEIGHBOUR: 'it returns false'. Refute it at one input. -/
def repairApplyMatchesSpecWrong : ChangeSpec := { name := "repairApplyMatchesSpec", fn := fun _ => fun
  | [d1, d2, d3] => { results := [.lit (.bool false)], args := [d1, d2, d3] }
  | _ => none }
def RepairApplyMatchesSpecWrongFalsely : Prop := repairApplyMatchesSpecRow.holds Tryd.pinned (OpenSpec.ofChange repairApplyMatchesSpecWrong)

/-- 'solventlaw10.RepairRebuilds': WHATEVER THE INPUT: true; the input reads as it did. -/
def repairRebuildsSpec : ChangeSpec := { name := "repairRebuilds", fn := fun _ => fun
  | [d1, d2, d3, d4, d5] => { results := [.lit (.bool true)], args := [d1, d2, d3, d4, d5] }
  | _ => none }
def repairRebuildsRow : OpenClaim := { program := "ytilpljehfcpjeaadoor", sum := "8ec455452c116ab68f0cf8382202ff082dd3085a0646f2f2c9491443fd85507e", func := "solvent/solventlaw10.RepairRebuilds", spec := "repairRebuilds", unfollowed := true, recurses := true, named := ["solvent/field.fields"], apart := false, laid := [("solvent/field.fields", laid_solvent_field_fields)] }
def RepairRebuildsSaid : Prop := repairRebuildsRow.holds Tryd.pinned (OpenSpec.ofChange repairRebuildsSpec)

/-- ITS FALSE NEIGHBOUR: 'it returns false'. Refute it at one input. -/
def repairRebuildsWrong : ChangeSpec := { name := "repairRebuilds", fn := fun _ => fun
  | [d1, d2, d3, d4, d5] => { results := [.lit (.bool false)], args := [d1, d2, d3, d4, d5] }
  | _ => none }
def RepairRebuildsWrongFalsely : Prop := repairRebuildsRow.holds Tryd.pinned (OpenSpec.ofChange repairRebuildsWrong)

/-- 'solventlaw10.RepairReadsPresent': WHATEVER THE INPUT: true; the input reads as it did. -/
def repairReadsPresentSpec : ChangeSpec := { name := "repairReadsPresent", fn := fun _ => fun
  | [d1, d2, d3] => { results := [.lit (.bool true)], args := [d1, d2, d3] }
  | _ => none }
def repairReadsPresentRow : OpenClaim := { program := "ytilpljehfcpjeaadoor", sum := "8ec455452c116ab68f0cf8382202ff082dd3085a0646f2f2c9491443fd85507e", func := "solvent/solventlaw10.RepairReadsPresent", spec := "repairReadsPresent", unfollowed := true, recurses := true, named := ["solvent/field.fields"], apart := false, laid := [("solvent/field.fields", laid_solvent_field_fields)] }
def RepairReadsPresentSaid : Prop := repairReadsPresentRow.holds Tryd.pinned (OpenSpec.ofChange repairReadsPresentSpec)

/-- ITS FALSE NEIGHBOUR: 'it returns false'. Refute it at one input. -/
def repairReadsPresentWrong : ChangeSpec := { name := "repairReadsPresent", fn := fun _ => fun
  | [d1, d2, d3] => { results := [.lit (.bool false)], args := [d1, d2, d3] }
  | _ => none }
def RepairReadsPresentWrongFalsely : Prop := repairReadsPresentRow.holds Tryd.pinned (OpenSpec.ofChange repairReadsPresentWrong)

/-- 'solventlaw10.RepairIgnoresItself': WHATEVER THE INPUT: true; the input reads as it did. -/
def repairIgnoresItselfSpec : ChangeSpec := { name := "repairIgnoresItself", fn := fun _ => fun
  | [d1, d2, d3] => { results := [.lit (.bool true)], args := [d1, d2, d3] }
  | _ => none }
def repairIgnoresItselfRow : OpenClaim := { program := "ytilpljehfcpjeaadoor", sum := "8ec455452c116ab68f0cf8382202ff082dd3085a0646f2f2c9491443fd85507e", func := "solvent/solventlaw10.RepairIgnoresItself", spec := "repairIgnoresItself", unfollowed := true, recurses := true, named := ["solvent/field.fields"], apart := false, laid := [("solvent/field.fields", laid_solvent_field_fields)] }
def RepairIgnoresItselfSaid : Prop := repairIgnoresItselfRow.holds Tryd.pinned (OpenSpec.ofChange repairIgnoresItselfSpec)

/-- ITS FALSE NEIGHBOUR: 'it returns false'. Refute it at one input. -/
def repairIgnoresItselfWrong : ChangeSpec := { name := "repairIgnoresItself", fn := fun _ => fun
  | [d1, d2, d3] => { results := [.lit (.bool false)], args := [d1, d2, d3] }
  | _ => none }
def RepairIgnoresItselfWrongFalsely : Prop := repairIgnoresItselfRow.holds Tryd.pinned (OpenSpec.ofChange repairIgnoresItselfWrong)

/- THE SECOND FORM. 'bulk': how many values and letters a reading holds, each counted each time it is reached (what is shared counts as often as it is met; a slice's spare places count too). A statement '..UptoSaid' is the law's where the arguments, and the package variables that the reading takes, are together of bulk at most 1048576: NARROWER than '..Said'. Prove '..Said' where nothing that the law and all that it calls make is longer than what came in: it says more and counts as full. Else prove '..UptoSaid'. A law counts once. -/
mutual
def uptoBulk {H : Type} : DataW H → Nat
  | .lit (.string bytes) => bytes.length + 1
  | .lit _ => 1
  | .nil => 1
  | .ptr d => uptoBulk d + 1
  | .slice elems spare => uptoBulkAll elems + uptoBulkAll spare + 1
  | .agg parts => uptoBulkAll parts + 1
  | .iface _ d => uptoBulk d + 1
  | .map entries => uptoBulkEntries entries + 1
  | .held _ => 1
def uptoBulkAll {H : Type} : List (DataW H) → Nat
  | [] => 0
  | d :: r => uptoBulk d + uptoBulkAll r
def uptoBulkEntries {H : Type} : List (Lit × DataW H) → Nat
  | [] => 0
  | x :: r => uptoBulkEntry x + uptoBulkEntries r
def uptoBulkEntry {H : Type} : Lit × DataW H → Nat
  | (.string bytes, d) => bytes.length + uptoBulk d + 1
  | (_, d) => uptoBulk d + 1
 end
def uptoSmall : (H : Type) → List (DataW H) → Bool := fun _ ds => decide (uptoBulkAll ds ≤ 1048576)
def OpenSpec.upto (s : _root_.Go.ChangeSpec) : _root_.Go.OpenSpec := { _root_.Go.OpenSpec.ofChange s with cond := some uptoSmall }

/-- 'solventlaw10.RepairApplyMatchesSpec', WHERE WHAT IT READS IS OF BULK AT MOST 1048576: true; the input reads as it did. -/
def repairApplyMatchesSpecUptoRow : OpenClaim := { program := "ytilpljehfcpjeaadoor", sum := "8ec455452c116ab68f0cf8382202ff082dd3085a0646f2f2c9491443fd85507e", func := "solvent/solventlaw10.RepairApplyMatchesSpec", spec := "repairApplyMatchesSpec", unfollowed := true, recurses := true, named := ["solvent/field.fields"], apart := false, laid := [("solvent/field.fields", laid_solvent_field_fields)], narrowed := true }
def RepairApplyMatchesSpecUptoSaid : Prop := repairApplyMatchesSpecUptoRow.holds Tryd.pinned (OpenSpec.upto repairApplyMatchesSpecSpec)

/-- 'solventlaw10.RepairRebuilds', WHERE WHAT IT READS IS OF BULK AT MOST 1048576: true; the input reads as it did. -/
def repairRebuildsUptoRow : OpenClaim := { program := "ytilpljehfcpjeaadoor", sum := "8ec455452c116ab68f0cf8382202ff082dd3085a0646f2f2c9491443fd85507e", func := "solvent/solventlaw10.RepairRebuilds", spec := "repairRebuilds", unfollowed := true, recurses := true, named := ["solvent/field.fields"], apart := false, laid := [("solvent/field.fields", laid_solvent_field_fields)], narrowed := true }
def RepairRebuildsUptoSaid : Prop := repairRebuildsUptoRow.holds Tryd.pinned (OpenSpec.upto repairRebuildsSpec)

/-- 'solventlaw10.RepairReadsPresent', WHERE WHAT IT READS IS OF BULK AT MOST 1048576: true; the input reads as it did. -/
def repairReadsPresentUptoRow : OpenClaim := { program := "ytilpljehfcpjeaadoor", sum := "8ec455452c116ab68f0cf8382202ff082dd3085a0646f2f2c9491443fd85507e", func := "solvent/solventlaw10.RepairReadsPresent", spec := "repairReadsPresent", unfollowed := true, recurses := true, named := ["solvent/field.fields"], apart := false, laid := [("solvent/field.fields", laid_solvent_field_fields)], narrowed := true }
def RepairReadsPresentUptoSaid : Prop := repairReadsPresentUptoRow.holds Tryd.pinned (OpenSpec.upto repairReadsPresentSpec)

/-- 'solventlaw10.RepairIgnoresItself', WHERE WHAT IT READS IS OF BULK AT MOST 1048576: true; the input reads as it did. -/
def repairIgnoresItselfUptoRow : OpenClaim := { program := "ytilpljehfcpjeaadoor", sum := "8ec455452c116ab68f0cf8382202ff082dd3085a0646f2f2c9491443fd85507e", func := "solvent/solventlaw10.RepairIgnoresItself", spec := "repairIgnoresItself", unfollowed := true, recurses := true, named := ["solvent/field.fields"], apart := false, laid := [("solvent/field.fields", laid_solvent_field_fields)], narrowed := true }
def RepairIgnoresItselfUptoSaid : Prop := repairIgnoresItselfUptoRow.holds Tryd.pinned (OpenSpec.upto repairIgnoresItselfSpec)

end Rows
end Go.Proofs.YtilpljehfcpjeaaDoor
