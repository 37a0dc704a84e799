/-
  NARROWER THAN 'FOR EVERY INPUT', by the rows' own cells (each row's printed sentence says how): ChangeMatchesSpec: laid · ChangeProgresses: laid · ChangeKeepsContent: laid · HealDoneMatchesSpec: laid · HealTargetsAreFree: laid · HealIsComplete: laid · HealBackBringsHome: laid · HealRebuilds: laid.
  DERIVED. THE GIVEN ROWS OF THIS SEAT. 8 by the template 'for every input the law returns true; each argument reads behind the call as it read before'; 0 by the template 'total and deterministic' (their statements: YtcljokdiblnhiaaGreatDoorTotals.lean).
  GIVEN WITH THE SEED: the statements are not yours to turn. If you find one false, say at which input.
  Laid BY PROGRAM, IN A SANDBOX (cutbox-rows.mjs): the forced cells as the released guide's own fill.sh prints them over the translation d78e2a94949c22c8… (all of the seat's roots in one cut). By AI agents, Wed Nov 11 2026. No macro, syntax, notation, axiom, sorry.
-/
import Derived.Test.YtcljokdiblnhiaaGreatDoorChecked
import GoSem.Claim
import GoSem.ClaimJoined
import GoSem.ClaimMapViews
import Derived.JoinedTies
import Derived.KernelRfl
namespace Go.Proofs.YtcljokdiblnhiaaGreatDoor
/- THE CELL 'sum', in the pinned program and in every row, IS THE sha256 OF THE DUMP (.gsa) THAT YtcljokdiblnhiaaGreatDoorProg.lean LOADS. Nothing in Lean hashes anything: it is a label: what it is worth is what the hold of that sum in a sandbox is worth. -/
noncomputable def Tryz.pinned : Pinned := { name := "ytcljokdiblnhiaagreatdoor", sum := "d78e2a94949c22c8b4762e54399d4d65318b87975029bbdca49efd3b6e134e3d", checked := Tryz.checked }
namespace Rows
def none {H : Type} : Left H := { results := [], args := [] }

/- WHAT THE LISTED PACKAGE-LEVEL VARIABLES READ AS WHEN THE CALL BEGINS. Each datum BY PROGRAM (the guide's laid-datum.mjs) off the statement by which the dump's own 'gosem.cut.vars' lays the variable. In a bare row this is a premise. The card (YtcljokdiblnhiaaGreatDoorCards.lean) ties it to the program's text. -/
def laid_solvent_field_fields {H : Type} : DataW H := .agg [.agg [.lit (.int .i64 8), .lit (.int .i64 285)], .agg [.lit (.int .i64 16), .lit (.int .i64 69643)]]

/-- 'solventlaw39.ChangeMatchesSpec': WHATEVER THE INPUT: true; the input reads as it did. -/
def changeMatchesSpecSpec : ChangeSpec := { name := "changeMatchesSpec", fn := fun _ => fun
  | [d1, d2, d3, d4] => { results := [.lit (.bool true)], args := [d1, d2, d3, d4] }
  | _ => none }
def changeMatchesSpecRow : OpenClaim := { program := "ytcljokdiblnhiaagreatdoor", sum := "d78e2a94949c22c8b4762e54399d4d65318b87975029bbdca49efd3b6e134e3d", func := "solvent/solventlaw39.ChangeMatchesSpec", spec := "changeMatchesSpec", inPlace := ["internal/abi.NoEscape", "internal/bytealg.MakeNoZero"], unfollowed := true, recurses := true, named := ["solvent/field.fields"], apart := false, laid := [("solvent/field.fields", laid_solvent_field_fields)] }
def ChangeMatchesSpecSaid : Prop := changeMatchesSpecRow.holds Tryz.pinned (OpenSpec.ofChange changeMatchesSpecSpec)

/-- ITS FALSE NEIGHBOUR: 'it returns false'. Refute it at one input. -/
def changeMatchesSpecWrong : ChangeSpec := { name := "changeMatchesSpec", fn := fun _ => fun
  | [d1, d2, d3, d4] => { results := [.lit (.bool false)], args := [d1, d2, d3, d4] }
  | _ => none }
def ChangeMatchesSpecWrongFalsely : Prop := changeMatchesSpecRow.holds Tryz.pinned (OpenSpec.ofChange changeMatchesSpecWrong)

/-- 'solventlaw39.ChangeProgresses': WHATEVER THE INPUT: true; the input reads as it did. -/
def changeProgressesSpec : ChangeSpec := { name := "changeProgresses", fn := fun _ => fun
  | [d1, d2, d3, d4] => { results := [.lit (.bool true)], args := [d1, d2, d3, d4] }
  | _ => none }
def changeProgressesRow : OpenClaim := { program := "ytcljokdiblnhiaagreatdoor", sum := "d78e2a94949c22c8b4762e54399d4d65318b87975029bbdca49efd3b6e134e3d", func := "solvent/solventlaw39.ChangeProgresses", spec := "changeProgresses", inPlace := ["internal/abi.NoEscape", "internal/bytealg.MakeNoZero"], unfollowed := true, recurses := true, named := ["solvent/field.fields"], apart := false, laid := [("solvent/field.fields", laid_solvent_field_fields)] }
def ChangeProgressesSaid : Prop := changeProgressesRow.holds Tryz.pinned (OpenSpec.ofChange changeProgressesSpec)

/-- ITS FALSE NEIGHBOUR: 'it returns false'. Refute it at one input. -/
def changeProgressesWrong : ChangeSpec := { name := "changeProgresses", fn := fun _ => fun
  | [d1, d2, d3, d4] => { results := [.lit (.bool false)], args := [d1, d2, d3, d4] }
  | _ => none }
def ChangeProgressesWrongFalsely : Prop := changeProgressesRow.holds Tryz.pinned (OpenSpec.ofChange changeProgressesWrong)

/-- 'solventlaw39.ChangeKeepsContent': WHATEVER THE INPUT: true; the input reads as it did. -/
def changeKeepsContentSpec : ChangeSpec := { name := "changeKeepsContent", fn := fun _ => fun
  | [d1, d2, d3, d4, d5] => { results := [.lit (.bool true)], args := [d1, d2, d3, d4, d5] }
  | _ => none }
def changeKeepsContentRow : OpenClaim := { program := "ytcljokdiblnhiaagreatdoor", sum := "d78e2a94949c22c8b4762e54399d4d65318b87975029bbdca49efd3b6e134e3d", func := "solvent/solventlaw39.ChangeKeepsContent", spec := "changeKeepsContent", inPlace := ["internal/abi.NoEscape", "internal/bytealg.MakeNoZero"], unfollowed := true, recurses := true, named := ["solvent/field.fields"], apart := false, laid := [("solvent/field.fields", laid_solvent_field_fields)] }
def ChangeKeepsContentSaid : Prop := changeKeepsContentRow.holds Tryz.pinned (OpenSpec.ofChange changeKeepsContentSpec)

/-- ITS FALSE NEIGHBOUR: 'it returns false'. Refute it at one input. -/
def changeKeepsContentWrong : ChangeSpec := { name := "changeKeepsContent", fn := fun _ => fun
  | [d1, d2, d3, d4, d5] => { results := [.lit (.bool false)], args := [d1, d2, d3, d4, d5] }
  | _ => none }
def ChangeKeepsContentWrongFalsely : Prop := changeKeepsContentRow.holds Tryz.pinned (OpenSpec.ofChange changeKeepsContentWrong)

/-- 'solventlaw38.HealDoneMatchesSpec': WHATEVER THE INPUT: true; the input reads as it did. -/
def healDoneMatchesSpecSpec : ChangeSpec := { name := "healDoneMatchesSpec", fn := fun _ => fun
  | [d1, d2, d3] => { results := [.lit (.bool true)], args := [d1, d2, d3] }
  | _ => none }
def healDoneMatchesSpecRow : OpenClaim := { program := "ytcljokdiblnhiaagreatdoor", sum := "d78e2a94949c22c8b4762e54399d4d65318b87975029bbdca49efd3b6e134e3d", func := "solvent/solventlaw38.HealDoneMatchesSpec", spec := "healDoneMatchesSpec", unfollowed := true, recurses := true, named := ["solvent/field.fields"], apart := false, laid := [("solvent/field.fields", laid_solvent_field_fields)] }
def HealDoneMatchesSpecSaid : Prop := healDoneMatchesSpecRow.holds Tryz.pinned (OpenSpec.ofChange healDoneMatchesSpecSpec)

/-- ITS FALSE NEIGHBOUR: 'it returns false'. Refute it at one input. -/
def healDoneMatchesSpecWrong : ChangeSpec := { name := "healDoneMatchesSpec", fn := fun _ => fun
  | [d1, d2, d3] => { results := [.lit (.bool false)], args := [d1, d2, d3] }
  | _ => none }
def HealDoneMatchesSpecWrongFalsely : Prop := healDoneMatchesSpecRow.holds Tryz.pinned (OpenSpec.ofChange healDoneMatchesSpecWrong)

/-- 'solventlaw38.HealTargetsAreFree': WHATEVER THE INPUT: true; the input reads as it did. -/
def healTargetsAreFreeSpec : ChangeSpec := { name := "healTargetsAreFree", fn := fun _ => fun
  | [d] => { results := [.lit (.bool true)], args := [d] }
  | _ => none }
def healTargetsAreFreeRow : OpenClaim := { program := "ytcljokdiblnhiaagreatdoor", sum := "d78e2a94949c22c8b4762e54399d4d65318b87975029bbdca49efd3b6e134e3d", func := "solvent/solventlaw38.HealTargetsAreFree", spec := "healTargetsAreFree", unfollowed := true, recurses := true, named := ["solvent/field.fields"], apart := false, laid := [("solvent/field.fields", laid_solvent_field_fields)] }
def HealTargetsAreFreeSaid : Prop := healTargetsAreFreeRow.holds Tryz.pinned (OpenSpec.ofChange healTargetsAreFreeSpec)

/-- ITS FALSE NEIGHBOUR: 'it returns false'. Refute it at one input. -/
def healTargetsAreFreeWrong : ChangeSpec := { name := "healTargetsAreFree", fn := fun _ => fun
  | [d] => { results := [.lit (.bool false)], args := [d] }
  | _ => none }
def HealTargetsAreFreeWrongFalsely : Prop := healTargetsAreFreeRow.holds Tryz.pinned (OpenSpec.ofChange healTargetsAreFreeWrong)

/-- 'solventlaw38.HealIsComplete': WHATEVER THE INPUT: true; the input reads as it did. -/
def healIsCompleteSpec : ChangeSpec := { name := "healIsComplete", fn := fun _ => fun
  | [d] => { results := [.lit (.bool true)], args := [d] }
  | _ => none }
def healIsCompleteRow : OpenClaim := { program := "ytcljokdiblnhiaagreatdoor", sum := "d78e2a94949c22c8b4762e54399d4d65318b87975029bbdca49efd3b6e134e3d", func := "solvent/solventlaw38.HealIsComplete", spec := "healIsComplete", unfollowed := true, recurses := true, named := ["solvent/field.fields"], apart := false, laid := [("solvent/field.fields", laid_solvent_field_fields)] }
def HealIsCompleteSaid : Prop := healIsCompleteRow.holds Tryz.pinned (OpenSpec.ofChange healIsCompleteSpec)

/-- ITS FALSE NEIGHBOUR: 'it returns false'. Refute it at one input. -/
def healIsCompleteWrong : ChangeSpec := { name := "healIsComplete", fn := fun _ => fun
  | [d] => { results := [.lit (.bool false)], args := [d] }
  | _ => none }
def HealIsCompleteWrongFalsely : Prop := healIsCompleteRow.holds Tryz.pinned (OpenSpec.ofChange healIsCompleteWrong)

/-- 'solventlaw38.HealBackBringsHome': WHATEVER THE INPUT: true; the input reads as it did. -/
def healBackBringsHomeSpec : ChangeSpec := { name := "healBackBringsHome", fn := fun _ => fun
  | [d] => { results := [.lit (.bool true)], args := [d] }
  | _ => none }
def healBackBringsHomeRow : OpenClaim := { program := "ytcljokdiblnhiaagreatdoor", sum := "d78e2a94949c22c8b4762e54399d4d65318b87975029bbdca49efd3b6e134e3d", func := "solvent/solventlaw38.HealBackBringsHome", spec := "healBackBringsHome", unfollowed := true, recurses := true, named := ["solvent/field.fields"], apart := false, laid := [("solvent/field.fields", laid_solvent_field_fields)] }
def HealBackBringsHomeSaid : Prop := healBackBringsHomeRow.holds Tryz.pinned (OpenSpec.ofChange healBackBringsHomeSpec)

/-- ITS FALSE NEIGHBOUR: 'it returns false'. Refute it at one input. -/
def healBackBringsHomeWrong : ChangeSpec := { name := "healBackBringsHome", fn := fun _ => fun
  | [d] => { results := [.lit (.bool false)], args := [d] }
  | _ => none }
def HealBackBringsHomeWrongFalsely : Prop := healBackBringsHomeRow.holds Tryz.pinned (OpenSpec.ofChange healBackBringsHomeWrong)

/-- 'solventlaw38.HealRebuilds': WHATEVER THE INPUT: true; the input reads as it did. -/
def healRebuildsSpec : ChangeSpec := { name := "healRebuilds", fn := fun _ => fun
  | [d1, d2] => { results := [.lit (.bool true)], args := [d1, d2] }
  | _ => none }
def healRebuildsRow : OpenClaim := { program := "ytcljokdiblnhiaagreatdoor", sum := "d78e2a94949c22c8b4762e54399d4d65318b87975029bbdca49efd3b6e134e3d", func := "solvent/solventlaw38.HealRebuilds", spec := "healRebuilds", unfollowed := true, recurses := true, named := ["solvent/field.fields"], apart := false, laid := [("solvent/field.fields", laid_solvent_field_fields)] }
def HealRebuildsSaid : Prop := healRebuildsRow.holds Tryz.pinned (OpenSpec.ofChange healRebuildsSpec)

/-- ITS FALSE NEIGHBOUR: 'it returns false'. Refute it at one input. -/
def healRebuildsWrong : ChangeSpec := { name := "healRebuilds", fn := fun _ => fun
  | [d1, d2] => { results := [.lit (.bool false)], args := [d1, d2] }
  | _ => none }
def HealRebuildsWrongFalsely : Prop := healRebuildsRow.holds Tryz.pinned (OpenSpec.ofChange healRebuildsWrong)

/- THE SECOND FORM. 'bulk': how many values and letters a reading holds, each counted each time it is reached (what is shared counts as often as it is met; a slice's spare places count too). A statement '..UptoSaid' is the law's where the arguments, and the package variables that the reading takes, are together of bulk at most 1048576: NARROWER than '..Said'. Prove '..Said' where nothing that the law and all that it calls make is longer than what came in: it says more and counts as full. Else prove '..UptoSaid'. A law counts once. -/
mutual
def uptoBulk {H : Type} : DataW H → Nat
  | .lit (.string bytes) => bytes.length + 1
  | .lit _ => 1
  | .nil => 1
  | .ptr d => uptoBulk d + 1
  | .slice elems spare => uptoBulkAll elems + uptoBulkAll spare + 1
  | .agg parts => uptoBulkAll parts + 1
  | .iface _ d => uptoBulk d + 1
  | .map entries => uptoBulkEntries entries + 1
  | .held _ => 1
def uptoBulkAll {H : Type} : List (DataW H) → Nat
  | [] => 0
  | d :: r => uptoBulk d + uptoBulkAll r
def uptoBulkEntries {H : Type} : List (Lit × DataW H) → Nat
  | [] => 0
  | x :: r => uptoBulkEntry x + uptoBulkEntries r
def uptoBulkEntry {H : Type} : Lit × DataW H → Nat
  | (.string bytes, d) => bytes.length + uptoBulk d + 1
  | (_, d) => uptoBulk d + 1
 end
def uptoSmall : (H : Type) → List (DataW H) → Bool := fun _ ds => decide (uptoBulkAll ds ≤ 1048576)
def OpenSpec.upto (s : _root_.Go.ChangeSpec) : _root_.Go.OpenSpec := { _root_.Go.OpenSpec.ofChange s with cond := some uptoSmall }

/-- 'solventlaw39.ChangeMatchesSpec', WHERE WHAT IT READS IS OF BULK AT MOST 1048576: true; the input reads as it did. -/
def changeMatchesSpecUptoRow : OpenClaim := { program := "ytcljokdiblnhiaagreatdoor", sum := "d78e2a94949c22c8b4762e54399d4d65318b87975029bbdca49efd3b6e134e3d", func := "solvent/solventlaw39.ChangeMatchesSpec", spec := "changeMatchesSpec", inPlace := ["internal/abi.NoEscape", "internal/bytealg.MakeNoZero"], unfollowed := true, recurses := true, named := ["solvent/field.fields"], apart := false, laid := [("solvent/field.fields", laid_solvent_field_fields)], narrowed := true }
def ChangeMatchesSpecUptoSaid : Prop := changeMatchesSpecUptoRow.holds Tryz.pinned (OpenSpec.upto changeMatchesSpecSpec)

/-- 'solventlaw39.ChangeProgresses', WHERE WHAT IT READS IS OF BULK AT MOST 1048576: true; the input reads as it did. -/
def changeProgressesUptoRow : OpenClaim := { program := "ytcljokdiblnhiaagreatdoor", sum := "d78e2a94949c22c8b4762e54399d4d65318b87975029bbdca49efd3b6e134e3d", func := "solvent/solventlaw39.ChangeProgresses", spec := "changeProgresses", inPlace := ["internal/abi.NoEscape", "internal/bytealg.MakeNoZero"], unfollowed := true, recurses := true, named := ["solvent/field.fields"], apart := false, laid := [("solvent/field.fields", laid_solvent_field_fields)], narrowed := true }
def ChangeProgressesUptoSaid : Prop := changeProgressesUptoRow.holds Tryz.pinned (OpenSpec.upto changeProgressesSpec)

/-- 'solventlaw39.ChangeKeepsContent', WHERE WHAT IT READS IS OF BULK AT MOST 1048576: true; the input reads as it did. -/
def changeKeepsContentUptoRow : OpenClaim := { program := "ytcljokdiblnhiaagreatdoor", sum := "d78e2a94949c22c8b4762e54399d4d65318b87975029bbdca49efd3b6e134e3d", func := "solvent/solventlaw39.ChangeKeepsContent", spec := "changeKeepsContent", inPlace := ["internal/abi.NoEscape", "internal/bytealg.MakeNoZero"], unfollowed := true, recurses := true, named := ["solvent/field.fields"], apart := false, laid := [("solvent/field.fields", laid_solvent_field_fields)], narrowed := true }
def ChangeKeepsContentUptoSaid : Prop := changeKeepsContentUptoRow.holds Tryz.pinned (OpenSpec.upto changeKeepsContentSpec)

/-- 'solventlaw38.HealDoneMatchesSpec', WHERE WHAT IT READS IS OF BULK AT MOST 1048576: true; the input reads as it did. -/
def healDoneMatchesSpecUptoRow : OpenClaim := { program := "ytcljokdiblnhiaagreatdoor", sum := "d78e2a94949c22c8b4762e54399d4d65318b87975029bbdca49efd3b6e134e3d", func := "solvent/solventlaw38.HealDoneMatchesSpec", spec := "healDoneMatchesSpec", unfollowed := true, recurses := true, named := ["solvent/field.fields"], apart := false, laid := [("solvent/field.fields", laid_solvent_field_fields)], narrowed := true }
def HealDoneMatchesSpecUptoSaid : Prop := healDoneMatchesSpecUptoRow.holds Tryz.pinned (OpenSpec.upto healDoneMatchesSpecSpec)

/-- 'solventlaw38.HealTargetsAreFree', WHERE WHAT IT READS IS OF BULK AT MOST 1048576: true; the input reads as it did. -/
def healTargetsAreFreeUptoRow : OpenClaim := { program := "ytcljokdiblnhiaagreatdoor", sum := "d78e2a94949c22c8b4762e54399d4d65318b87975029bbdca49efd3b6e134e3d", func := "solvent/solventlaw38.HealTargetsAreFree", spec := "healTargetsAreFree", unfollowed := true, recurses := true, named := ["solvent/field.fields"], apart := false, laid := [("solvent/field.fields", laid_solvent_field_fields)], narrowed := true }
def HealTargetsAreFreeUptoSaid : Prop := healTargetsAreFreeUptoRow.holds Tryz.pinned (OpenSpec.upto healTargetsAreFreeSpec)

/-- 'solventlaw38.HealIsComplete', WHERE WHAT IT READS IS OF BULK AT MOST 1048576: true; the input reads as it did. -/
def healIsCompleteUptoRow : OpenClaim := { program := "ytcljokdiblnhiaagreatdoor", sum := "d78e2a94949c22c8b4762e54399d4d65318b87975029bbdca49efd3b6e134e3d", func := "solvent/solventlaw38.HealIsComplete", spec := "healIsComplete", unfollowed := true, recurses := true, named := ["solvent/field.fields"], apart := false, laid := [("solvent/field.fields", laid_solvent_field_fields)], narrowed := true }
def HealIsCompleteUptoSaid : Prop := healIsCompleteUptoRow.holds Tryz.pinned (OpenSpec.upto healIsCompleteSpec)

/-- 'solventlaw38.HealBackBringsHome', WHERE WHAT IT READS IS OF BULK AT MOST 1048576: true; the input reads as it did. -/
def healBackBringsHomeUptoRow : OpenClaim := { program := "ytcljokdiblnhiaagreatdoor", sum := "d78e2a94949c22c8b4762e54399d4d65318b87975029bbdca49efd3b6e134e3d", func := "solvent/solventlaw38.HealBackBringsHome", spec := "healBackBringsHome", unfollowed := true, recurses := true, named := ["solvent/field.fields"], apart := false, laid := [("solvent/field.fields", laid_solvent_field_fields)], narrowed := true }
def HealBackBringsHomeUptoSaid : Prop := healBackBringsHomeUptoRow.holds Tryz.pinned (OpenSpec.upto healBackBringsHomeSpec)

/-- 'solventlaw38.HealRebuilds', WHERE WHAT IT READS IS OF BULK AT MOST 1048576: true; the input reads as it did. -/
def healRebuildsUptoRow : OpenClaim := { program := "ytcljokdiblnhiaagreatdoor", sum := "d78e2a94949c22c8b4762e54399d4d65318b87975029bbdca49efd3b6e134e3d", func := "solvent/solventlaw38.HealRebuilds", spec := "healRebuilds", unfollowed := true, recurses := true, named := ["solvent/field.fields"], apart := false, laid := [("solvent/field.fields", laid_solvent_field_fields)], narrowed := true }
def HealRebuildsUptoSaid : Prop := healRebuildsUptoRow.holds Tryz.pinned (OpenSpec.upto healRebuildsSpec)

end Rows
end Go.Proofs.YtcljokdiblnhiaaGreatDoor
