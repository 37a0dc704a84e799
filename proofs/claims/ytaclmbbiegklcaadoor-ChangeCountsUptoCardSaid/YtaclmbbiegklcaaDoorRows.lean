/-
  NARROWER THAN 'FOR EVERY INPUT', by the rows' own cells (each row's printed sentence says how): ClassStaysValid: laid · ClassKeepsPromise: laid · ClassSeparate: laid · ClassFinds: laid · HealthPromise: laid · HealthUrgent: laid · HealthWorst: laid · ChangeCounts: laid · HealthSteps: laid.
  DERIVED. THE GIVEN ROWS OF THIS SEAT. 9 by the template 'for every input the law returns true; each argument reads behind the call as it read before'; 0 by the template 'total and deterministic' (their statements: YtaclmbbiegklcaaDoorTotals.lean).
  GIVEN WITH THE SEED: the statements are not yours to turn. If you find one false, say at which input.
  Laid BY PROGRAM, IN A SANDBOX (cutbox-rows.mjs): the forced cells as the released guide's own fill.sh prints them over the translation df599ac5189b4337… (all of the seat's roots in one cut). By AI agents, Wed Nov 11 2026. No macro, syntax, notation, axiom, sorry.
-/
import Derived.Test.YtaclmbbiegklcaaDoorChecked
import GoSem.Claim
import GoSem.ClaimJoined
import GoSem.ClaimMapViews
import Derived.JoinedTies
import Derived.KernelRfl
namespace Go.Proofs.YtaclmbbiegklcaaDoor
/- THE CELL 'sum', in the pinned program and in every row, IS THE sha256 OF THE DUMP (.gsa) THAT YtaclmbbiegklcaaDoorProg.lean LOADS. Nothing in Lean hashes anything: it is a label: what it is worth is what the hold of that sum in a sandbox is worth. -/
noncomputable def Tryd.pinned : Pinned := { name := "ytaclmbbiegklcaadoor", sum := "df599ac5189b4337f6054c1fc926020e911734ce97cfc8ce87588b4736865f00", checked := Tryd.checked }
namespace Rows
def none {H : Type} : Left H := { results := [], args := [] }

/- WHAT THE LISTED PACKAGE-LEVEL VARIABLES READ AS WHEN THE CALL BEGINS. Each datum BY PROGRAM (the guide's laid-datum.mjs) off the statement by which the dump's own 'gosem.cut.vars' lays the variable. In a bare row this is a premise. The card (YtaclmbbiegklcaaDoorCards.lean) ties it to the program's text. -/
def laid_solvent_field_fields {H : Type} : DataW H := .agg [.agg [.lit (.int .i64 8), .lit (.int .i64 285)], .agg [.lit (.int .i64 16), .lit (.int .i64 69643)]]

/-- 'solventlaw30.ClassStaysValid': WHATEVER THE INPUT: true; the input reads as it did. -/
def classStaysValidSpec : ChangeSpec := { name := "classStaysValid", fn := fun _ => fun
  | [d1, d2, d3, d4, d5, d6, d7] => { results := [.lit (.bool true)], args := [d1, d2, d3, d4, d5, d6, d7] }
  | _ => none }
def classStaysValidRow : OpenClaim := { program := "ytaclmbbiegklcaadoor", sum := "df599ac5189b4337f6054c1fc926020e911734ce97cfc8ce87588b4736865f00", func := "solvent/solventlaw30.ClassStaysValid", spec := "classStaysValid", unfollowed := true, recurses := true, named := ["solvent/field.fields"], apart := false, laid := [("solvent/field.fields", laid_solvent_field_fields)] }
def ClassStaysValidSaid : Prop := classStaysValidRow.holds Tryd.pinned (OpenSpec.ofChange classStaysValidSpec)

/-- ITS FALSE NEIGHBOUR: 'it returns false'. Refute it at one input. -/
def classStaysValidWrong : ChangeSpec := { name := "classStaysValid", fn := fun _ => fun
  | [d1, d2, d3, d4, d5, d6, d7] => { results := [.lit (.bool false)], args := [d1, d2, d3, d4, d5, d6, d7] }
  | _ => none }
def ClassStaysValidWrongFalsely : Prop := classStaysValidRow.holds Tryd.pinned (OpenSpec.ofChange classStaysValidWrong)

/-- 'solventlaw30.ClassKeepsPromise': WHATEVER THE INPUT: true; the input reads as it did. -/
def classKeepsPromiseSpec : ChangeSpec := { name := "classKeepsPromise", fn := fun _ => fun
  | [d1, d2, d3, d4] => { results := [.lit (.bool true)], args := [d1, d2, d3, d4] }
  | _ => none }
def classKeepsPromiseRow : OpenClaim := { program := "ytaclmbbiegklcaadoor", sum := "df599ac5189b4337f6054c1fc926020e911734ce97cfc8ce87588b4736865f00", func := "solvent/solventlaw30.ClassKeepsPromise", spec := "classKeepsPromise", unfollowed := true, recurses := true, named := ["solvent/field.fields"], apart := false, laid := [("solvent/field.fields", laid_solvent_field_fields)] }
def ClassKeepsPromiseSaid : Prop := classKeepsPromiseRow.holds Tryd.pinned (OpenSpec.ofChange classKeepsPromiseSpec)

/-- ITS FALSE NEIGHBOUR: 'it returns false'. Refute it at one input. -/
def classKeepsPromiseWrong : ChangeSpec := { name := "classKeepsPromise", fn := fun _ => fun
  | [d1, d2, d3, d4] => { results := [.lit (.bool false)], args := [d1, d2, d3, d4] }
  | _ => none }
def ClassKeepsPromiseWrongFalsely : Prop := classKeepsPromiseRow.holds Tryd.pinned (OpenSpec.ofChange classKeepsPromiseWrong)

/-- 'solventlaw30.ClassSeparate': WHATEVER THE INPUT: true; the input reads as it did. -/
def classSeparateSpec : ChangeSpec := { name := "classSeparate", fn := fun _ => fun
  | [d1, d2, d3] => { results := [.lit (.bool true)], args := [d1, d2, d3] }
  | _ => none }
def classSeparateRow : OpenClaim := { program := "ytaclmbbiegklcaadoor", sum := "df599ac5189b4337f6054c1fc926020e911734ce97cfc8ce87588b4736865f00", func := "solvent/solventlaw30.ClassSeparate", spec := "classSeparate", unfollowed := true, recurses := true, named := ["solvent/field.fields"], apart := false, laid := [("solvent/field.fields", laid_solvent_field_fields)] }
def ClassSeparateSaid : Prop := classSeparateRow.holds Tryd.pinned (OpenSpec.ofChange classSeparateSpec)

/-- ITS FALSE NEIGHBOUR: 'it returns false'. Refute it at one input. -/
def classSeparateWrong : ChangeSpec := { name := "classSeparate", fn := fun _ => fun
  | [d1, d2, d3] => { results := [.lit (.bool false)], args := [d1, d2, d3] }
  | _ => none }
def ClassSeparateWrongFalsely : Prop := classSeparateRow.holds Tryd.pinned (OpenSpec.ofChange classSeparateWrong)

/-- 'solventlaw30.ClassFinds': WHATEVER THE INPUT: true; the input reads as it did. -/
def classFindsSpec : ChangeSpec := { name := "classFinds", fn := fun _ => fun
  | [d1, d2, d3, d4, d5] => { results := [.lit (.bool true)], args := [d1, d2, d3, d4, d5] }
  | _ => none }
def classFindsRow : OpenClaim := { program := "ytaclmbbiegklcaadoor", sum := "df599ac5189b4337f6054c1fc926020e911734ce97cfc8ce87588b4736865f00", func := "solvent/solventlaw30.ClassFinds", spec := "classFinds", unfollowed := true, recurses := true, named := ["solvent/field.fields"], apart := false, laid := [("solvent/field.fields", laid_solvent_field_fields)] }
def ClassFindsSaid : Prop := classFindsRow.holds Tryd.pinned (OpenSpec.ofChange classFindsSpec)

/-- ITS FALSE NEIGHBOUR: 'it returns false'. Refute it at one input. -/
def classFindsWrong : ChangeSpec := { name := "classFinds", fn := fun _ => fun
  | [d1, d2, d3, d4, d5] => { results := [.lit (.bool false)], args := [d1, d2, d3, d4, d5] }
  | _ => none }
def ClassFindsWrongFalsely : Prop := classFindsRow.holds Tryd.pinned (OpenSpec.ofChange classFindsWrong)

/-- 'solventlaw36.HealthPromise': WHATEVER THE INPUT: true; the input reads as it did. -/
def healthPromiseSpec : ChangeSpec := { name := "healthPromise", fn := fun _ => fun
  | [d1, d2, d3] => { results := [.lit (.bool true)], args := [d1, d2, d3] }
  | _ => none }
def healthPromiseRow : OpenClaim := { program := "ytaclmbbiegklcaadoor", sum := "df599ac5189b4337f6054c1fc926020e911734ce97cfc8ce87588b4736865f00", func := "solvent/solventlaw36.HealthPromise", spec := "healthPromise", unfollowed := true, recurses := true, named := ["solvent/field.fields"], apart := false, laid := [("solvent/field.fields", laid_solvent_field_fields)] }
def HealthPromiseSaid : Prop := healthPromiseRow.holds Tryd.pinned (OpenSpec.ofChange healthPromiseSpec)

/-- ITS FALSE NEIGHBOUR: 'it returns false'. Refute it at one input. -/
def healthPromiseWrong : ChangeSpec := { name := "healthPromise", fn := fun _ => fun
  | [d1, d2, d3] => { results := [.lit (.bool false)], args := [d1, d2, d3] }
  | _ => none }
def HealthPromiseWrongFalsely : Prop := healthPromiseRow.holds Tryd.pinned (OpenSpec.ofChange healthPromiseWrong)

/-- 'solventlaw36.HealthUrgent': WHATEVER THE INPUT: true; the input reads as it did. -/
def healthUrgentSpec : ChangeSpec := { name := "healthUrgent", fn := fun _ => fun
  | [d] => { results := [.lit (.bool true)], args := [d] }
  | _ => none }
def healthUrgentRow : OpenClaim := { program := "ytaclmbbiegklcaadoor", sum := "df599ac5189b4337f6054c1fc926020e911734ce97cfc8ce87588b4736865f00", func := "solvent/solventlaw36.HealthUrgent", spec := "healthUrgent", unfollowed := true, recurses := true, named := ["solvent/field.fields"], apart := false, laid := [("solvent/field.fields", laid_solvent_field_fields)] }
def HealthUrgentSaid : Prop := healthUrgentRow.holds Tryd.pinned (OpenSpec.ofChange healthUrgentSpec)

/-- ITS FALSE NEIGHBOUR: 'it returns false'. Refute it at one input. -/
def healthUrgentWrong : ChangeSpec := { name := "healthUrgent", fn := fun _ => fun
  | [d] => { results := [.lit (.bool false)], args := [d] }
  | _ => none }
def HealthUrgentWrongFalsely : Prop := healthUrgentRow.holds Tryd.pinned (OpenSpec.ofChange healthUrgentWrong)

/-- 'solventlaw36.HealthWorst': WHATEVER THE INPUT: true; the input reads as it did. -/
def healthWorstSpec : ChangeSpec := { name := "healthWorst", fn := fun _ => fun
  | [d] => { results := [.lit (.bool true)], args := [d] }
  | _ => none }
def healthWorstRow : OpenClaim := { program := "ytaclmbbiegklcaadoor", sum := "df599ac5189b4337f6054c1fc926020e911734ce97cfc8ce87588b4736865f00", func := "solvent/solventlaw36.HealthWorst", spec := "healthWorst", unfollowed := true, recurses := true, named := ["solvent/field.fields"], apart := false, laid := [("solvent/field.fields", laid_solvent_field_fields)] }
def HealthWorstSaid : Prop := healthWorstRow.holds Tryd.pinned (OpenSpec.ofChange healthWorstSpec)

/-- ITS FALSE NEIGHBOUR: 'it returns false'. Refute it at one input. -/
def healthWorstWrong : ChangeSpec := { name := "healthWorst", fn := fun _ => fun
  | [d] => { results := [.lit (.bool false)], args := [d] }
  | _ => none }
def HealthWorstWrongFalsely : Prop := healthWorstRow.holds Tryd.pinned (OpenSpec.ofChange healthWorstWrong)

/-- 'solventlaw39.ChangeCounts': WHATEVER THE INPUT: true; the input reads as it did. -/
def changeCountsSpec : ChangeSpec := { name := "changeCounts", fn := fun _ => fun
  | [d1, d2] => { results := [.lit (.bool true)], args := [d1, d2] }
  | _ => none }
def changeCountsRow : OpenClaim := { program := "ytaclmbbiegklcaadoor", sum := "df599ac5189b4337f6054c1fc926020e911734ce97cfc8ce87588b4736865f00", func := "solvent/solventlaw39.ChangeCounts", spec := "changeCounts", inPlace := ["internal/abi.NoEscape", "internal/bytealg.MakeNoZero"], unfollowed := true, recurses := true, named := ["solvent/field.fields"], apart := false, laid := [("solvent/field.fields", laid_solvent_field_fields)] }
def ChangeCountsSaid : Prop := changeCountsRow.holds Tryd.pinned (OpenSpec.ofChange changeCountsSpec)

/-- ITS FALSE NEIGHBOUR: 'it returns false'. Refute it at one input. -/
def changeCountsWrong : ChangeSpec := { name := "changeCounts", fn := fun _ => fun
  | [d1, d2] => { results := [.lit (.bool false)], args := [d1, d2] }
  | _ => none }
def ChangeCountsWrongFalsely : Prop := changeCountsRow.holds Tryd.pinned (OpenSpec.ofChange changeCountsWrong)

/-- 'solventlaw36.HealthSteps': WHATEVER THE INPUT: true; the input reads as it did. -/
def healthStepsSpec : ChangeSpec := { name := "healthSteps", fn := fun _ => fun
  | [d1, d2, d3, d4] => { results := [.lit (.bool true)], args := [d1, d2, d3, d4] }
  | _ => none }
def healthStepsRow : OpenClaim := { program := "ytaclmbbiegklcaadoor", sum := "df599ac5189b4337f6054c1fc926020e911734ce97cfc8ce87588b4736865f00", func := "solvent/solventlaw36.HealthSteps", spec := "healthSteps", unfollowed := true, recurses := true, named := ["solvent/field.fields"], apart := false, laid := [("solvent/field.fields", laid_solvent_field_fields)] }
def HealthStepsSaid : Prop := healthStepsRow.holds Tryd.pinned (OpenSpec.ofChange healthStepsSpec)

/-- ITS FALSE NEIGHBOUR: 'it returns false'. Refute it at one input. -/
def healthStepsWrong : ChangeSpec := { name := "healthSteps", fn := fun _ => fun
  | [d1, d2, d3, d4] => { results := [.lit (.bool false)], args := [d1, d2, d3, d4] }
  | _ => none }
def HealthStepsWrongFalsely : Prop := healthStepsRow.holds Tryd.pinned (OpenSpec.ofChange healthStepsWrong)

/- THE SECOND FORM. 'bulk': how many values and letters a reading holds, each counted each time it is reached (what is shared counts as often as it is met; a slice's spare places count too). A statement '..UptoSaid' is the law's where the arguments, and the package variables that the reading takes, are together of bulk at most 1048576: NARROWER than '..Said'. Prove '..Said' where nothing that the law and all that it calls make is longer than what came in: it says more and counts as full. Else prove '..UptoSaid'. A law counts once. -/
mutual
def uptoBulk {H : Type} : DataW H → Nat
  | .lit (.string bytes) => bytes.length + 1
  | .lit _ => 1
  | .nil => 1
  | .ptr d => uptoBulk d + 1
  | .slice elems spare => uptoBulkAll elems + uptoBulkAll spare + 1
  | .agg parts => uptoBulkAll parts + 1
  | .iface _ d => uptoBulk d + 1
  | .map entries => uptoBulkEntries entries + 1
  | .held _ => 1
def uptoBulkAll {H : Type} : List (DataW H) → Nat
  | [] => 0
  | d :: r => uptoBulk d + uptoBulkAll r
def uptoBulkEntries {H : Type} : List (Lit × DataW H) → Nat
  | [] => 0
  | x :: r => uptoBulkEntry x + uptoBulkEntries r
def uptoBulkEntry {H : Type} : Lit × DataW H → Nat
  | (.string bytes, d) => bytes.length + uptoBulk d + 1
  | (_, d) => uptoBulk d + 1
 end
def uptoSmall : (H : Type) → List (DataW H) → Bool := fun _ ds => decide (uptoBulkAll ds ≤ 1048576)
def OpenSpec.upto (s : _root_.Go.ChangeSpec) : _root_.Go.OpenSpec := { _root_.Go.OpenSpec.ofChange s with cond := some uptoSmall }

/-- 'solventlaw30.ClassStaysValid', WHERE WHAT IT READS IS OF BULK AT MOST 1048576: true; the input reads as it did. -/
def classStaysValidUptoRow : OpenClaim := { program := "ytaclmbbiegklcaadoor", sum := "df599ac5189b4337f6054c1fc926020e911734ce97cfc8ce87588b4736865f00", func := "solvent/solventlaw30.ClassStaysValid", spec := "classStaysValid", unfollowed := true, recurses := true, named := ["solvent/field.fields"], apart := false, laid := [("solvent/field.fields", laid_solvent_field_fields)], narrowed := true }
def ClassStaysValidUptoSaid : Prop := classStaysValidUptoRow.holds Tryd.pinned (OpenSpec.upto classStaysValidSpec)

/-- 'solventlaw30.ClassKeepsPromise', WHERE WHAT IT READS IS OF BULK AT MOST 1048576: true; the input reads as it did. -/
def classKeepsPromiseUptoRow : OpenClaim := { program := "ytaclmbbiegklcaadoor", sum := "df599ac5189b4337f6054c1fc926020e911734ce97cfc8ce87588b4736865f00", func := "solvent/solventlaw30.ClassKeepsPromise", spec := "classKeepsPromise", unfollowed := true, recurses := true, named := ["solvent/field.fields"], apart := false, laid := [("solvent/field.fields", laid_solvent_field_fields)], narrowed := true }
def ClassKeepsPromiseUptoSaid : Prop := classKeepsPromiseUptoRow.holds Tryd.pinned (OpenSpec.upto classKeepsPromiseSpec)

/-- 'solventlaw30.ClassSeparate', WHERE WHAT IT READS IS OF BULK AT MOST 1048576: true; the input reads as it did. -/
def classSeparateUptoRow : OpenClaim := { program := "ytaclmbbiegklcaadoor", sum := "df599ac5189b4337f6054c1fc926020e911734ce97cfc8ce87588b4736865f00", func := "solvent/solventlaw30.ClassSeparate", spec := "classSeparate", unfollowed := true, recurses := true, named := ["solvent/field.fields"], apart := false, laid := [("solvent/field.fields", laid_solvent_field_fields)], narrowed := true }
def ClassSeparateUptoSaid : Prop := classSeparateUptoRow.holds Tryd.pinned (OpenSpec.upto classSeparateSpec)

/-- 'solventlaw30.ClassFinds', WHERE WHAT IT READS IS OF BULK AT MOST 1048576: true; the input reads as it did. -/
def classFindsUptoRow : OpenClaim := { program := "ytaclmbbiegklcaadoor", sum := "df599ac5189b4337f6054c1fc926020e911734ce97cfc8ce87588b4736865f00", func := "solvent/solventlaw30.ClassFinds", spec := "classFinds", unfollowed := true, recurses := true, named := ["solvent/field.fields"], apart := false, laid := [("solvent/field.fields", laid_solvent_field_fields)], narrowed := true }
def ClassFindsUptoSaid : Prop := classFindsUptoRow.holds Tryd.pinned (OpenSpec.upto classFindsSpec)

/-- 'solventlaw36.HealthPromise', WHERE WHAT IT READS IS OF BULK AT MOST 1048576: true; the input reads as it did. -/
def healthPromiseUptoRow : OpenClaim := { program := "ytaclmbbiegklcaadoor", sum := "df599ac5189b4337f6054c1fc926020e911734ce97cfc8ce87588b4736865f00", func := "solvent/solventlaw36.HealthPromise", spec := "healthPromise", unfollowed := true, recurses := true, named := ["solvent/field.fields"], apart := false, laid := [("solvent/field.fields", laid_solvent_field_fields)], narrowed := true }
def HealthPromiseUptoSaid : Prop := healthPromiseUptoRow.holds Tryd.pinned (OpenSpec.upto healthPromiseSpec)

/-- 'solventlaw36.HealthUrgent', WHERE WHAT IT READS IS OF BULK AT MOST 1048576: true; the input reads as it did. -/
def healthUrgentUptoRow : OpenClaim := { program := "ytaclmbbiegklcaadoor", sum := "df599ac5189b4337f6054c1fc926020e911734ce97cfc8ce87588b4736865f00", func := "solvent/solventlaw36.HealthUrgent", spec := "healthUrgent", unfollowed := true, recurses := true, named := ["solvent/field.fields"], apart := false, laid := [("solvent/field.fields", laid_solvent_field_fields)], narrowed := true }
def HealthUrgentUptoSaid : Prop := healthUrgentUptoRow.holds Tryd.pinned (OpenSpec.upto healthUrgentSpec)

/-- 'solventlaw36.HealthWorst', WHERE WHAT IT READS IS OF BULK AT MOST 1048576: true; the input reads as it did. -/
def healthWorstUptoRow : OpenClaim := { program := "ytaclmbbiegklcaadoor", sum := "df599ac5189b4337f6054c1fc926020e911734ce97cfc8ce87588b4736865f00", func := "solvent/solventlaw36.HealthWorst", spec := "healthWorst", unfollowed := true, recurses := true, named := ["solvent/field.fields"], apart := false, laid := [("solvent/field.fields", laid_solvent_field_fields)], narrowed := true }
def HealthWorstUptoSaid : Prop := healthWorstUptoRow.holds Tryd.pinned (OpenSpec.upto healthWorstSpec)

/-- 'solventlaw39.ChangeCounts', WHERE WHAT IT READS IS OF BULK AT MOST 1048576: true; the input reads as it did. -/
def changeCountsUptoRow : OpenClaim := { program := "ytaclmbbiegklcaadoor", sum := "df599ac5189b4337f6054c1fc926020e911734ce97cfc8ce87588b4736865f00", func := "solvent/solventlaw39.ChangeCounts", spec := "changeCounts", inPlace := ["internal/abi.NoEscape", "internal/bytealg.MakeNoZero"], unfollowed := true, recurses := true, named := ["solvent/field.fields"], apart := false, laid := [("solvent/field.fields", laid_solvent_field_fields)], narrowed := true }
def ChangeCountsUptoSaid : Prop := changeCountsUptoRow.holds Tryd.pinned (OpenSpec.upto changeCountsSpec)

/-- 'solventlaw36.HealthSteps', WHERE WHAT IT READS IS OF BULK AT MOST 1048576: true; the input reads as it did. -/
def healthStepsUptoRow : OpenClaim := { program := "ytaclmbbiegklcaadoor", sum := "df599ac5189b4337f6054c1fc926020e911734ce97cfc8ce87588b4736865f00", func := "solvent/solventlaw36.HealthSteps", spec := "healthSteps", unfollowed := true, recurses := true, named := ["solvent/field.fields"], apart := false, laid := [("solvent/field.fields", laid_solvent_field_fields)], narrowed := true }
def HealthStepsUptoSaid : Prop := healthStepsUptoRow.holds Tryd.pinned (OpenSpec.upto healthStepsSpec)

end Rows
end Go.Proofs.YtaclmbbiegklcaaDoor
