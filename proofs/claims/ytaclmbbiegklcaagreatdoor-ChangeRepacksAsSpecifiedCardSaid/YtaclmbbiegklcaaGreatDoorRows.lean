/-
  NARROWER THAN 'FOR EVERY INPUT', by the rows' own cells (each row's printed sentence says how): ClassMatchesSpec: laid · HealthMatchesSpec: laid · ChangeRepacksAsSpecified: laid.
  DERIVED. THE GIVEN ROWS OF THIS SEAT. 3 by the template 'for every input the law returns true; each argument reads behind the call as it read before'; 0 by the template 'total and deterministic' (their statements: YtaclmbbiegklcaaGreatDoorTotals.lean).
  GIVEN WITH THE SEED: the statements are not yours to turn. If you find one false, say at which input.
  Laid BY PROGRAM, IN A SANDBOX (cutbox-rows.mjs): the forced cells as the released guide's own fill.sh prints them over the translation 92c72b3719f01920… (all of the seat's roots in one cut). By AI agents, Wed Nov 11 2026. No macro, syntax, notation, axiom, sorry.
-/
import Derived.Test.YtaclmbbiegklcaaGreatDoorChecked
import GoSem.Claim
import GoSem.ClaimJoined
import GoSem.ClaimMapViews
import Derived.JoinedTies
import Derived.KernelRfl
namespace Go.Proofs.YtaclmbbiegklcaaGreatDoor
/- THE CELL 'sum', in the pinned program and in every row, IS THE sha256 OF THE DUMP (.gsa) THAT YtaclmbbiegklcaaGreatDoorProg.lean LOADS. Nothing in Lean hashes anything: it is a label: what it is worth is what the hold of that sum in a sandbox is worth. -/
noncomputable def Tryz.pinned : Pinned := { name := "ytaclmbbiegklcaagreatdoor", sum := "92c72b3719f019206ece20f7871d8c07d92b6e4865eebfd68e556387084e53e6", checked := Tryz.checked }
namespace Rows
def none {H : Type} : Left H := { results := [], args := [] }

/- WHAT THE LISTED PACKAGE-LEVEL VARIABLES READ AS WHEN THE CALL BEGINS. Each datum BY PROGRAM (the guide's laid-datum.mjs) off the statement by which the dump's own 'gosem.cut.vars' lays the variable. In a bare row this is a premise. The card (YtaclmbbiegklcaaGreatDoorCards.lean) ties it to the program's text. -/
def laid_solvent_field_fields {H : Type} : DataW H := .agg [.agg [.lit (.int .i64 8), .lit (.int .i64 285)], .agg [.lit (.int .i64 16), .lit (.int .i64 69643)]]

/-- 'solventlaw30.ClassMatchesSpec': WHATEVER THE INPUT: true; the input reads as it did. -/
def classMatchesSpecSpec : ChangeSpec := { name := "classMatchesSpec", fn := fun _ => fun
  | [d1, d2, d3, d4, d5, d6, d7] => { results := [.lit (.bool true)], args := [d1, d2, d3, d4, d5, d6, d7] }
  | _ => none }
def classMatchesSpecRow : OpenClaim := { program := "ytaclmbbiegklcaagreatdoor", sum := "92c72b3719f019206ece20f7871d8c07d92b6e4865eebfd68e556387084e53e6", func := "solvent/solventlaw30.ClassMatchesSpec", spec := "classMatchesSpec", unfollowed := true, recurses := true, named := ["solvent/field.fields"], apart := false, laid := [("solvent/field.fields", laid_solvent_field_fields)] }
def ClassMatchesSpecSaid : Prop := classMatchesSpecRow.holds Tryz.pinned (OpenSpec.ofChange classMatchesSpecSpec)

/-- ITS FALSE NEIGHBOUR: 'it returns false'. Refute it at one input. -/
def classMatchesSpecWrong : ChangeSpec := { name := "classMatchesSpec", fn := fun _ => fun
  | [d1, d2, d3, d4, d5, d6, d7] => { results := [.lit (.bool false)], args := [d1, d2, d3, d4, d5, d6, d7] }
  | _ => none }
def ClassMatchesSpecWrongFalsely : Prop := classMatchesSpecRow.holds Tryz.pinned (OpenSpec.ofChange classMatchesSpecWrong)

/-- 'solventlaw36.HealthMatchesSpec': WHATEVER THE INPUT: true; the input reads as it did. -/
def healthMatchesSpecSpec : ChangeSpec := { name := "healthMatchesSpec", fn := fun _ => fun
  | [d1, d2, d3] => { results := [.lit (.bool true)], args := [d1, d2, d3] }
  | _ => none }
def healthMatchesSpecRow : OpenClaim := { program := "ytaclmbbiegklcaagreatdoor", sum := "92c72b3719f019206ece20f7871d8c07d92b6e4865eebfd68e556387084e53e6", func := "solvent/solventlaw36.HealthMatchesSpec", spec := "healthMatchesSpec", unfollowed := true, recurses := true, named := ["solvent/field.fields"], apart := false, laid := [("solvent/field.fields", laid_solvent_field_fields)] }
def HealthMatchesSpecSaid : Prop := healthMatchesSpecRow.holds Tryz.pinned (OpenSpec.ofChange healthMatchesSpecSpec)

/-- ITS FALSE NEIGHBOUR: 'it returns false'. Refute it at one input. -/
def healthMatchesSpecWrong : ChangeSpec := { name := "healthMatchesSpec", fn := fun _ => fun
  | [d1, d2, d3] => { results := [.lit (.bool false)], args := [d1, d2, d3] }
  | _ => none }
def HealthMatchesSpecWrongFalsely : Prop := healthMatchesSpecRow.holds Tryz.pinned (OpenSpec.ofChange healthMatchesSpecWrong)

/-- 'solventlaw39.ChangeRepacksAsSpecified': WHATEVER THE INPUT: true; the input reads as it did. -/
def changeRepacksAsSpecifiedSpec : ChangeSpec := { name := "changeRepacksAsSpecified", fn := fun _ => fun
  | [d1, d2] => { results := [.lit (.bool true)], args := [d1, d2] }
  | _ => none }
def changeRepacksAsSpecifiedRow : OpenClaim := { program := "ytaclmbbiegklcaagreatdoor", sum := "92c72b3719f019206ece20f7871d8c07d92b6e4865eebfd68e556387084e53e6", func := "solvent/solventlaw39.ChangeRepacksAsSpecified", spec := "changeRepacksAsSpecified", inPlace := ["internal/abi.NoEscape", "internal/bytealg.MakeNoZero"], unfollowed := true, recurses := true, named := ["solvent/field.fields"], apart := false, laid := [("solvent/field.fields", laid_solvent_field_fields)] }
def ChangeRepacksAsSpecifiedSaid : Prop := changeRepacksAsSpecifiedRow.holds Tryz.pinned (OpenSpec.ofChange changeRepacksAsSpecifiedSpec)

/-- ITS FALSE NEIGHBOUR: 'it returns false'. Refute it at one input. -/
def changeRepacksAsSpecifiedWrong : ChangeSpec := { name := "changeRepacksAsSpecified", fn := fun _ => fun
  | [d1, d2] => { results := [.lit (.bool false)], args := [d1, d2] }
  | _ => none }
def ChangeRepacksAsSpecifiedWrongFalsely : Prop := changeRepacksAsSpecifiedRow.holds Tryz.pinned (OpenSpec.ofChange changeRepacksAsSpecifiedWrong)

/- THE SECOND FORM. 'bulk': how many values and letters a reading holds, each counted each time it is reached (what is shared counts as often as it is met; a slice's spare places count too). A statement '..UptoSaid' is the law's where the arguments, and the package variables that the reading takes, are together of bulk at most 1048576: NARROWER than '..Said'. Prove '..Said' where nothing that the law and all that it calls make is longer than what came in: it says more and counts as full. Else prove '..UptoSaid'. A law counts once. -/
mutual
def uptoBulk {H : Type} : DataW H → Nat
  | .lit (.string bytes) => bytes.length + 1
  | .lit _ => 1
  | .nil => 1
  | .ptr d => uptoBulk d + 1
  | .slice elems spare => uptoBulkAll elems + uptoBulkAll spare + 1
  | .agg parts => uptoBulkAll parts + 1
  | .iface _ d => uptoBulk d + 1
  | .map entries => uptoBulkEntries entries + 1
  | .held _ => 1
def uptoBulkAll {H : Type} : List (DataW H) → Nat
  | [] => 0
  | d :: r => uptoBulk d + uptoBulkAll r
def uptoBulkEntries {H : Type} : List (Lit × DataW H) → Nat
  | [] => 0
  | x :: r => uptoBulkEntry x + uptoBulkEntries r
def uptoBulkEntry {H : Type} : Lit × DataW H → Nat
  | (.string bytes, d) => bytes.length + uptoBulk d + 1
  | (_, d) => uptoBulk d + 1
 end
def uptoSmall : (H : Type) → List (DataW H) → Bool := fun _ ds => decide (uptoBulkAll ds ≤ 1048576)
def OpenSpec.upto (s : _root_.Go.ChangeSpec) : _root_.Go.OpenSpec := { _root_.Go.OpenSpec.ofChange s with cond := some uptoSmall }

/-- 'solventlaw30.ClassMatchesSpec', WHERE WHAT IT READS IS OF BULK AT MOST 1048576: true; the input reads as it did. -/
def classMatchesSpecUptoRow : OpenClaim := { program := "ytaclmbbiegklcaagreatdoor", sum := "92c72b3719f019206ece20f7871d8c07d92b6e4865eebfd68e556387084e53e6", func := "solvent/solventlaw30.ClassMatchesSpec", spec := "classMatchesSpec", unfollowed := true, recurses := true, named := ["solvent/field.fields"], apart := false, laid := [("solvent/field.fields", laid_solvent_field_fields)], narrowed := true }
def ClassMatchesSpecUptoSaid : Prop := classMatchesSpecUptoRow.holds Tryz.pinned (OpenSpec.upto classMatchesSpecSpec)

/-- 'solventlaw36.HealthMatchesSpec', WHERE WHAT IT READS IS OF BULK AT MOST 1048576: true; the input reads as it did. -/
def healthMatchesSpecUptoRow : OpenClaim := { program := "ytaclmbbiegklcaagreatdoor", sum := "92c72b3719f019206ece20f7871d8c07d92b6e4865eebfd68e556387084e53e6", func := "solvent/solventlaw36.HealthMatchesSpec", spec := "healthMatchesSpec", unfollowed := true, recurses := true, named := ["solvent/field.fields"], apart := false, laid := [("solvent/field.fields", laid_solvent_field_fields)], narrowed := true }
def HealthMatchesSpecUptoSaid : Prop := healthMatchesSpecUptoRow.holds Tryz.pinned (OpenSpec.upto healthMatchesSpecSpec)

/-- 'solventlaw39.ChangeRepacksAsSpecified', WHERE WHAT IT READS IS OF BULK AT MOST 1048576: true; the input reads as it did. -/
def changeRepacksAsSpecifiedUptoRow : OpenClaim := { program := "ytaclmbbiegklcaagreatdoor", sum := "92c72b3719f019206ece20f7871d8c07d92b6e4865eebfd68e556387084e53e6", func := "solvent/solventlaw39.ChangeRepacksAsSpecified", spec := "changeRepacksAsSpecified", inPlace := ["internal/abi.NoEscape", "internal/bytealg.MakeNoZero"], unfollowed := true, recurses := true, named := ["solvent/field.fields"], apart := false, laid := [("solvent/field.fields", laid_solvent_field_fields)], narrowed := true }
def ChangeRepacksAsSpecifiedUptoSaid : Prop := changeRepacksAsSpecifiedUptoRow.holds Tryz.pinned (OpenSpec.upto changeRepacksAsSpecifiedSpec)

end Rows
end Go.Proofs.YtaclmbbiegklcaaGreatDoor
