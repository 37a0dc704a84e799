/-
  NARROWER THAN 'FOR EVERY INPUT', by the rows' own cells (each row's printed sentence says how): AdmitRoomMatchesSpec: laid · AdmitRoomIsExact: laid · AdmitOrderIsIrrelevant: laid · AdmitIsMonotone: laid · AdmitSuffices: laid · ChangeProgresses: laid · ScrubStateMatchesSpec: laid · ScrubMatchesSpec: laid · ScrubClean: laid · ScrubRepairs: laid · ScrubLocates: laid · ScrubLoses: laid.
  DERIVED. THE GIVEN ROWS OF THIS SEAT. 12 by the template 'for every input the law returns true; each argument reads behind the call as it read before'; 0 by the template 'total and deterministic' (their statements: YtplpgijpmgbaiaaGreatDoorTotals.lean).
  GIVEN WITH THE SEED: the statements are not yours to turn. If you find one false, say at which input.
  Laid BY PROGRAM, IN A SANDBOX (cutbox-rows.mjs): the forced cells as the released guide's own fill.sh prints them over the translation 1bc9959b5611fc4e… (all of the seat's roots in one cut). By AI agents, Wed Nov 11 2026. No macro, syntax, notation, axiom, sorry.
-/
import Derived.Test.YtplpgijpmgbaiaaGreatDoorChecked
import GoSem.Claim
import GoSem.ClaimJoined
import GoSem.ClaimMapViews
import Derived.JoinedTies
import Derived.KernelRfl
namespace Go.Proofs.YtplpgijpmgbaiaaGreatDoor
/- THE CELL 'sum', in the pinned program and in every row, IS THE sha256 OF THE DUMP (.gsa) THAT YtplpgijpmgbaiaaGreatDoorProg.lean LOADS. Nothing in Lean hashes anything: it is a label: what it is worth is what the hold of that sum in a sandbox is worth. -/
noncomputable def Tryz.pinned : Pinned := { name := "ytplpgijpmgbaiaagreatdoor", sum := "1bc9959b5611fc4ee97b818fbc1c17d0a72ff078aea8f86b39744eae465b9fa5", checked := Tryz.checked }
namespace Rows
def none {H : Type} : Left H := { results := [], args := [] }

/- WHAT THE LISTED PACKAGE-LEVEL VARIABLES READ AS WHEN THE CALL BEGINS. Each datum BY PROGRAM (the guide's laid-datum.mjs) off the statement by which the dump's own 'gosem.cut.vars' lays the variable. In a bare row this is a premise. The card (YtplpgijpmgbaiaaGreatDoorCards.lean) ties it to the program's text. -/
def laid_solvent_field_fields {H : Type} : DataW H := .agg [.agg [.lit (.int .i64 8), .lit (.int .i64 285)], .agg [.lit (.int .i64 16), .lit (.int .i64 69643)]]

/-- 'solventlaw31.AdmitRoomMatchesSpec': WHATEVER THE INPUT: true; the input reads as it did. -/
def admitRoomMatchesSpecSpec : ChangeSpec := { name := "admitRoomMatchesSpec", fn := fun _ => fun
  | [d1, d2, d3, d4, d5, d6] => { results := [.lit (.bool true)], args := [d1, d2, d3, d4, d5, d6] }
  | _ => none }
def admitRoomMatchesSpecRow : OpenClaim := { program := "ytplpgijpmgbaiaagreatdoor", sum := "1bc9959b5611fc4ee97b818fbc1c17d0a72ff078aea8f86b39744eae465b9fa5", func := "solvent/solventlaw31.AdmitRoomMatchesSpec", spec := "admitRoomMatchesSpec", unfollowed := true, recurses := true, named := ["solvent/field.fields"], apart := false, laid := [("solvent/field.fields", laid_solvent_field_fields)] }
def AdmitRoomMatchesSpecSaid : Prop := admitRoomMatchesSpecRow.holds Tryz.pinned (OpenSpec.ofChange admitRoomMatchesSpecSpec)

/-- ITS FALSE NEIGHBOUR: 'it returns false'. Refute it at one input. -/
def admitRoomMatchesSpecWrong : ChangeSpec := { name := "admitRoomMatchesSpec", fn := fun _ => fun
  | [d1, d2, d3, d4, d5, d6] => { results := [.lit (.bool false)], args := [d1, d2, d3, d4, d5, d6] }
  | _ => none }
def AdmitRoomMatchesSpecWrongFalsely : Prop := admitRoomMatchesSpecRow.holds Tryz.pinned (OpenSpec.ofChange admitRoomMatchesSpecWrong)

/-- 'solventlaw31.AdmitRoomIsExact': WHATEVER THE INPUT: true; the input reads as it did. -/
def admitRoomIsExactSpec : ChangeSpec := { name := "admitRoomIsExact", fn := fun _ => fun
  | [d1, d2, d3, d4, d5, d6] => { results := [.lit (.bool true)], args := [d1, d2, d3, d4, d5, d6] }
  | _ => none }
def admitRoomIsExactRow : OpenClaim := { program := "ytplpgijpmgbaiaagreatdoor", sum := "1bc9959b5611fc4ee97b818fbc1c17d0a72ff078aea8f86b39744eae465b9fa5", func := "solvent/solventlaw31.AdmitRoomIsExact", spec := "admitRoomIsExact", unfollowed := true, recurses := true, named := ["solvent/field.fields"], apart := false, laid := [("solvent/field.fields", laid_solvent_field_fields)] }
def AdmitRoomIsExactSaid : Prop := admitRoomIsExactRow.holds Tryz.pinned (OpenSpec.ofChange admitRoomIsExactSpec)

/-- ITS FALSE NEIGHBOUR: 'it returns false'. Refute it at one input. -/
def admitRoomIsExactWrong : ChangeSpec := { name := "admitRoomIsExact", fn := fun _ => fun
  | [d1, d2, d3, d4, d5, d6] => { results := [.lit (.bool false)], args := [d1, d2, d3, d4, d5, d6] }
  | _ => none }
def AdmitRoomIsExactWrongFalsely : Prop := admitRoomIsExactRow.holds Tryz.pinned (OpenSpec.ofChange admitRoomIsExactWrong)

/-- 'solventlaw31.AdmitOrderIsIrrelevant': WHATEVER THE INPUT: true; the input reads as it did. -/
def admitOrderIsIrrelevantSpec : ChangeSpec := { name := "admitOrderIsIrrelevant", fn := fun _ => fun
  | [d1, d2, d3, d4, d5, d6] => { results := [.lit (.bool true)], args := [d1, d2, d3, d4, d5, d6] }
  | _ => none }
def admitOrderIsIrrelevantRow : OpenClaim := { program := "ytplpgijpmgbaiaagreatdoor", sum := "1bc9959b5611fc4ee97b818fbc1c17d0a72ff078aea8f86b39744eae465b9fa5", func := "solvent/solventlaw31.AdmitOrderIsIrrelevant", spec := "admitOrderIsIrrelevant", unfollowed := true, recurses := true, named := ["solvent/field.fields"], apart := false, laid := [("solvent/field.fields", laid_solvent_field_fields)] }
def AdmitOrderIsIrrelevantSaid : Prop := admitOrderIsIrrelevantRow.holds Tryz.pinned (OpenSpec.ofChange admitOrderIsIrrelevantSpec)

/-- ITS FALSE NEIGHBOUR: 'it returns false'. Refute it at one input. -/
def admitOrderIsIrrelevantWrong : ChangeSpec := { name := "admitOrderIsIrrelevant", fn := fun _ => fun
  | [d1, d2, d3, d4, d5, d6] => { results := [.lit (.bool false)], args := [d1, d2, d3, d4, d5, d6] }
  | _ => none }
def AdmitOrderIsIrrelevantWrongFalsely : Prop := admitOrderIsIrrelevantRow.holds Tryz.pinned (OpenSpec.ofChange admitOrderIsIrrelevantWrong)

/-- 'solventlaw31.AdmitIsMonotone': WHATEVER THE INPUT: true; the input reads as it did. -/
def admitIsMonotoneSpec : ChangeSpec := { name := "admitIsMonotone", fn := fun _ => fun
  | [d1, d2, d3, d4, d5, d6] => { results := [.lit (.bool true)], args := [d1, d2, d3, d4, d5, d6] }
  | _ => none }
def admitIsMonotoneRow : OpenClaim := { program := "ytplpgijpmgbaiaagreatdoor", sum := "1bc9959b5611fc4ee97b818fbc1c17d0a72ff078aea8f86b39744eae465b9fa5", func := "solvent/solventlaw31.AdmitIsMonotone", spec := "admitIsMonotone", unfollowed := true, recurses := true, named := ["solvent/field.fields"], apart := false, laid := [("solvent/field.fields", laid_solvent_field_fields)] }
def AdmitIsMonotoneSaid : Prop := admitIsMonotoneRow.holds Tryz.pinned (OpenSpec.ofChange admitIsMonotoneSpec)

/-- ITS FALSE NEIGHBOUR: 'it returns false'. Refute it at one input. -/
def admitIsMonotoneWrong : ChangeSpec := { name := "admitIsMonotone", fn := fun _ => fun
  | [d1, d2, d3, d4, d5, d6] => { results := [.lit (.bool false)], args := [d1, d2, d3, d4, d5, d6] }
  | _ => none }
def AdmitIsMonotoneWrongFalsely : Prop := admitIsMonotoneRow.holds Tryz.pinned (OpenSpec.ofChange admitIsMonotoneWrong)

/-- 'solventlaw31.AdmitSuffices': WHATEVER THE INPUT: true; the input reads as it did. -/
def admitSufficesSpec : ChangeSpec := { name := "admitSuffices", fn := fun _ => fun
  | [d1, d2, d3, d4, d5] => { results := [.lit (.bool true)], args := [d1, d2, d3, d4, d5] }
  | _ => none }
def admitSufficesRow : OpenClaim := { program := "ytplpgijpmgbaiaagreatdoor", sum := "1bc9959b5611fc4ee97b818fbc1c17d0a72ff078aea8f86b39744eae465b9fa5", func := "solvent/solventlaw31.AdmitSuffices", spec := "admitSuffices", unfollowed := true, recurses := true, named := ["solvent/field.fields"], apart := false, laid := [("solvent/field.fields", laid_solvent_field_fields)] }
def AdmitSufficesSaid : Prop := admitSufficesRow.holds Tryz.pinned (OpenSpec.ofChange admitSufficesSpec)

/-- ITS FALSE NEIGHBOUR: 'it returns false'. Refute it at one input. -/
def admitSufficesWrong : ChangeSpec := { name := "admitSuffices", fn := fun _ => fun
  | [d1, d2, d3, d4, d5] => { results := [.lit (.bool false)], args := [d1, d2, d3, d4, d5] }
  | _ => none }
def AdmitSufficesWrongFalsely : Prop := admitSufficesRow.holds Tryz.pinned (OpenSpec.ofChange admitSufficesWrong)

/-- 'solventlaw39.ChangeProgresses': WHATEVER THE INPUT: true; the input reads as it did. -/
def changeProgressesSpec : ChangeSpec := { name := "changeProgresses", fn := fun _ => fun
  | [d1, d2, d3, d4] => { results := [.lit (.bool true)], args := [d1, d2, d3, d4] }
  | _ => none }
def changeProgressesRow : OpenClaim := { program := "ytplpgijpmgbaiaagreatdoor", sum := "1bc9959b5611fc4ee97b818fbc1c17d0a72ff078aea8f86b39744eae465b9fa5", func := "solvent/solventlaw39.ChangeProgresses", spec := "changeProgresses", inPlace := ["internal/abi.NoEscape", "internal/bytealg.MakeNoZero"], unfollowed := true, recurses := true, named := ["solvent/field.fields"], apart := false, laid := [("solvent/field.fields", laid_solvent_field_fields)] }
def ChangeProgressesSaid : Prop := changeProgressesRow.holds Tryz.pinned (OpenSpec.ofChange changeProgressesSpec)

/-- ITS FALSE NEIGHBOUR: 'it returns false'. Refute it at one input. -/
def changeProgressesWrong : ChangeSpec := { name := "changeProgresses", fn := fun _ => fun
  | [d1, d2, d3, d4] => { results := [.lit (.bool false)], args := [d1, d2, d3, d4] }
  | _ => none }
def ChangeProgressesWrongFalsely : Prop := changeProgressesRow.holds Tryz.pinned (OpenSpec.ofChange changeProgressesWrong)

/-- 'solventlaw40.ScrubStateMatchesSpec': WHATEVER THE INPUT: true; the input reads as it did. -/
def scrubStateMatchesSpecSpec : ChangeSpec := { name := "scrubStateMatchesSpec", fn := fun _ => fun
  | [d1, d2, d3, d4] => { results := [.lit (.bool true)], args := [d1, d2, d3, d4] }
  | _ => none }
def scrubStateMatchesSpecRow : OpenClaim := { program := "ytplpgijpmgbaiaagreatdoor", sum := "1bc9959b5611fc4ee97b818fbc1c17d0a72ff078aea8f86b39744eae465b9fa5", func := "solvent/solventlaw40.ScrubStateMatchesSpec", spec := "scrubStateMatchesSpec", inPlace := ["internal/abi.NoEscape", "internal/bytealg.MakeNoZero"], unfollowed := true, recurses := true, named := ["solvent/field.fields"], apart := false, laid := [("solvent/field.fields", laid_solvent_field_fields)] }
def ScrubStateMatchesSpecSaid : Prop := scrubStateMatchesSpecRow.holds Tryz.pinned (OpenSpec.ofChange scrubStateMatchesSpecSpec)

/-- ITS FALSE NEIGHBOUR: 'it returns false'. Refute it at one input. -/
def scrubStateMatchesSpecWrong : ChangeSpec := { name := "scrubStateMatchesSpec", fn := fun _ => fun
  | [d1, d2, d3, d4] => { results := [.lit (.bool false)], args := [d1, d2, d3, d4] }
  | _ => none }
def ScrubStateMatchesSpecWrongFalsely : Prop := scrubStateMatchesSpecRow.holds Tryz.pinned (OpenSpec.ofChange scrubStateMatchesSpecWrong)

/-- 'solventlaw40.ScrubMatchesSpec': WHATEVER THE INPUT: true; the input reads as it did. -/
def scrubMatchesSpecSpec : ChangeSpec := { name := "scrubMatchesSpec", fn := fun _ => fun
  | [d1, d2, d3, d4, d5] => { results := [.lit (.bool true)], args := [d1, d2, d3, d4, d5] }
  | _ => none }
def scrubMatchesSpecRow : OpenClaim := { program := "ytplpgijpmgbaiaagreatdoor", sum := "1bc9959b5611fc4ee97b818fbc1c17d0a72ff078aea8f86b39744eae465b9fa5", func := "solvent/solventlaw40.ScrubMatchesSpec", spec := "scrubMatchesSpec", inPlace := ["internal/abi.NoEscape", "internal/bytealg.MakeNoZero"], unfollowed := true, recurses := true, named := ["solvent/field.fields"], apart := false, laid := [("solvent/field.fields", laid_solvent_field_fields)] }
def ScrubMatchesSpecSaid : Prop := scrubMatchesSpecRow.holds Tryz.pinned (OpenSpec.ofChange scrubMatchesSpecSpec)

/-- ITS FALSE NEIGHBOUR: 'it returns false'. Refute it at one input. -/
def scrubMatchesSpecWrong : ChangeSpec := { name := "scrubMatchesSpec", fn := fun _ => fun
  | [d1, d2, d3, d4, d5] => { results := [.lit (.bool false)], args := [d1, d2, d3, d4, d5] }
  | _ => none }
def ScrubMatchesSpecWrongFalsely : Prop := scrubMatchesSpecRow.holds Tryz.pinned (OpenSpec.ofChange scrubMatchesSpecWrong)

/-- 'solventlaw40.ScrubClean': WHATEVER THE INPUT: true; the input reads as it did. -/
def scrubCleanSpec : ChangeSpec := { name := "scrubClean", fn := fun _ => fun
  | [d1, d2, d3, d4] => { results := [.lit (.bool true)], args := [d1, d2, d3, d4] }
  | _ => none }
def scrubCleanRow : OpenClaim := { program := "ytplpgijpmgbaiaagreatdoor", sum := "1bc9959b5611fc4ee97b818fbc1c17d0a72ff078aea8f86b39744eae465b9fa5", func := "solvent/solventlaw40.ScrubClean", spec := "scrubClean", inPlace := ["internal/abi.NoEscape", "internal/bytealg.MakeNoZero"], unfollowed := true, recurses := true, named := ["solvent/field.fields"], apart := false, laid := [("solvent/field.fields", laid_solvent_field_fields)] }
def ScrubCleanSaid : Prop := scrubCleanRow.holds Tryz.pinned (OpenSpec.ofChange scrubCleanSpec)

/-- ITS FALSE NEIGHBOUR: 'it returns false'. Refute it at one input. -/
def scrubCleanWrong : ChangeSpec := { name := "scrubClean", fn := fun _ => fun
  | [d1, d2, d3, d4] => { results := [.lit (.bool false)], args := [d1, d2, d3, d4] }
  | _ => none }
def ScrubCleanWrongFalsely : Prop := scrubCleanRow.holds Tryz.pinned (OpenSpec.ofChange scrubCleanWrong)

/-- 'solventlaw40.ScrubRepairs': WHATEVER THE INPUT: true; the input reads as it did. -/
def scrubRepairsSpec : ChangeSpec := { name := "scrubRepairs", fn := fun _ => fun
  | [d1, d2, d3, d4, d5] => { results := [.lit (.bool true)], args := [d1, d2, d3, d4, d5] }
  | _ => none }
def scrubRepairsRow : OpenClaim := { program := "ytplpgijpmgbaiaagreatdoor", sum := "1bc9959b5611fc4ee97b818fbc1c17d0a72ff078aea8f86b39744eae465b9fa5", func := "solvent/solventlaw40.ScrubRepairs", spec := "scrubRepairs", inPlace := ["internal/abi.NoEscape", "internal/bytealg.MakeNoZero"], unfollowed := true, recurses := true, named := ["solvent/field.fields"], apart := false, laid := [("solvent/field.fields", laid_solvent_field_fields)] }
def ScrubRepairsSaid : Prop := scrubRepairsRow.holds Tryz.pinned (OpenSpec.ofChange scrubRepairsSpec)

/-- ITS FALSE NEIGHBOUR: 'it returns false'. Refute it at one input. -/
def scrubRepairsWrong : ChangeSpec := { name := "scrubRepairs", fn := fun _ => fun
  | [d1, d2, d3, d4, d5] => { results := [.lit (.bool false)], args := [d1, d2, d3, d4, d5] }
  | _ => none }
def ScrubRepairsWrongFalsely : Prop := scrubRepairsRow.holds Tryz.pinned (OpenSpec.ofChange scrubRepairsWrong)

/-- 'solventlaw40.ScrubLocates': WHATEVER THE INPUT: true; the input reads as it did. -/
def scrubLocatesSpec : ChangeSpec := { name := "scrubLocates", fn := fun _ => fun
  | [d1, d2, d3, d4, d5, d6, d7] => { results := [.lit (.bool true)], args := [d1, d2, d3, d4, d5, d6, d7] }
  | _ => none }
def scrubLocatesRow : OpenClaim := { program := "ytplpgijpmgbaiaagreatdoor", sum := "1bc9959b5611fc4ee97b818fbc1c17d0a72ff078aea8f86b39744eae465b9fa5", func := "solvent/solventlaw40.ScrubLocates", spec := "scrubLocates", inPlace := ["internal/abi.NoEscape", "internal/bytealg.MakeNoZero"], unfollowed := true, recurses := true, named := ["solvent/field.fields"], apart := false, laid := [("solvent/field.fields", laid_solvent_field_fields)] }
def ScrubLocatesSaid : Prop := scrubLocatesRow.holds Tryz.pinned (OpenSpec.ofChange scrubLocatesSpec)

/-- ITS FALSE NEIGHBOUR: 'it returns false'. Refute it at one input. -/
def scrubLocatesWrong : ChangeSpec := { name := "scrubLocates", fn := fun _ => fun
  | [d1, d2, d3, d4, d5, d6, d7] => { results := [.lit (.bool false)], args := [d1, d2, d3, d4, d5, d6, d7] }
  | _ => none }
def ScrubLocatesWrongFalsely : Prop := scrubLocatesRow.holds Tryz.pinned (OpenSpec.ofChange scrubLocatesWrong)

/-- 'solventlaw40.ScrubLoses': WHATEVER THE INPUT: true; the input reads as it did. -/
def scrubLosesSpec : ChangeSpec := { name := "scrubLoses", fn := fun _ => fun
  | [d1, d2, d3, d4, d5] => { results := [.lit (.bool true)], args := [d1, d2, d3, d4, d5] }
  | _ => none }
def scrubLosesRow : OpenClaim := { program := "ytplpgijpmgbaiaagreatdoor", sum := "1bc9959b5611fc4ee97b818fbc1c17d0a72ff078aea8f86b39744eae465b9fa5", func := "solvent/solventlaw40.ScrubLoses", spec := "scrubLoses", inPlace := ["internal/abi.NoEscape", "internal/bytealg.MakeNoZero"], unfollowed := true, recurses := true, named := ["solvent/field.fields"], apart := false, laid := [("solvent/field.fields", laid_solvent_field_fields)] }
def ScrubLosesSaid : Prop := scrubLosesRow.holds Tryz.pinned (OpenSpec.ofChange scrubLosesSpec)

/-- ITS FALSE NEIGHBOUR: 'it returns false'. Refute it at one input. -/
def scrubLosesWrong : ChangeSpec := { name := "scrubLoses", fn := fun _ => fun
  | [d1, d2, d3, d4, d5] => { results := [.lit (.bool false)], args := [d1, d2, d3, d4, d5] }
  | _ => none }
def ScrubLosesWrongFalsely : Prop := scrubLosesRow.holds Tryz.pinned (OpenSpec.ofChange scrubLosesWrong)

/- THE SECOND FORM. 'bulk': how many values and letters a reading holds, each counted each time it is reached (what is shared counts as often as it is met; a slice's spare places count too). A statement '..UptoSaid' is the law's where the arguments, and the package variables that the reading takes, are together of bulk at most 1048576: NARROWER than '..Said'. Prove '..Said' where nothing that the law and all that it calls make is longer than what came in: it says more and counts as full. Else prove '..UptoSaid'. A law counts once. -/
mutual
def uptoBulk {H : Type} : DataW H → Nat
  | .lit (.string bytes) => bytes.length + 1
  | .lit _ => 1
  | .nil => 1
  | .ptr d => uptoBulk d + 1
  | .slice elems spare => uptoBulkAll elems + uptoBulkAll spare + 1
  | .agg parts => uptoBulkAll parts + 1
  | .iface _ d => uptoBulk d + 1
  | .map entries => uptoBulkEntries entries + 1
  | .held _ => 1
def uptoBulkAll {H : Type} : List (DataW H) → Nat
  | [] => 0
  | d :: r => uptoBulk d + uptoBulkAll r
def uptoBulkEntries {H : Type} : List (Lit × DataW H) → Nat
  | [] => 0
  | x :: r => uptoBulkEntry x + uptoBulkEntries r
def uptoBulkEntry {H : Type} : Lit × DataW H → Nat
  | (.string bytes, d) => bytes.length + uptoBulk d + 1
  | (_, d) => uptoBulk d + 1
 end
def uptoSmall : (H : Type) → List (DataW H) → Bool := fun _ ds => decide (uptoBulkAll ds ≤ 1048576)
def OpenSpec.upto (s : _root_.Go.ChangeSpec) : _root_.Go.OpenSpec := { _root_.Go.OpenSpec.ofChange s with cond := some uptoSmall }

/-- 'solventlaw31.AdmitRoomMatchesSpec', WHERE WHAT IT READS IS OF BULK AT MOST 1048576: true; the input reads as it did. -/
def admitRoomMatchesSpecUptoRow : OpenClaim := { program := "ytplpgijpmgbaiaagreatdoor", sum := "1bc9959b5611fc4ee97b818fbc1c17d0a72ff078aea8f86b39744eae465b9fa5", func := "solvent/solventlaw31.AdmitRoomMatchesSpec", spec := "admitRoomMatchesSpec", unfollowed := true, recurses := true, named := ["solvent/field.fields"], apart := false, laid := [("solvent/field.fields", laid_solvent_field_fields)], narrowed := true }
def AdmitRoomMatchesSpecUptoSaid : Prop := admitRoomMatchesSpecUptoRow.holds Tryz.pinned (OpenSpec.upto admitRoomMatchesSpecSpec)

/-- 'solventlaw31.AdmitRoomIsExact', WHERE WHAT IT READS IS OF BULK AT MOST 1048576: true; the input reads as it did. -/
def admitRoomIsExactUptoRow : OpenClaim := { program := "ytplpgijpmgbaiaagreatdoor", sum := "1bc9959b5611fc4ee97b818fbc1c17d0a72ff078aea8f86b39744eae465b9fa5", func := "solvent/solventlaw31.AdmitRoomIsExact", spec := "admitRoomIsExact", unfollowed := true, recurses := true, named := ["solvent/field.fields"], apart := false, laid := [("solvent/field.fields", laid_solvent_field_fields)], narrowed := true }
def AdmitRoomIsExactUptoSaid : Prop := admitRoomIsExactUptoRow.holds Tryz.pinned (OpenSpec.upto admitRoomIsExactSpec)

/-- 'solventlaw31.AdmitOrderIsIrrelevant', WHERE WHAT IT READS IS OF BULK AT MOST 1048576: true; the input reads as it did. -/
def admitOrderIsIrrelevantUptoRow : OpenClaim := { program := "ytplpgijpmgbaiaagreatdoor", sum := "1bc9959b5611fc4ee97b818fbc1c17d0a72ff078aea8f86b39744eae465b9fa5", func := "solvent/solventlaw31.AdmitOrderIsIrrelevant", spec := "admitOrderIsIrrelevant", unfollowed := true, recurses := true, named := ["solvent/field.fields"], apart := false, laid := [("solvent/field.fields", laid_solvent_field_fields)], narrowed := true }
def AdmitOrderIsIrrelevantUptoSaid : Prop := admitOrderIsIrrelevantUptoRow.holds Tryz.pinned (OpenSpec.upto admitOrderIsIrrelevantSpec)

/-- 'solventlaw31.AdmitIsMonotone', WHERE WHAT IT READS IS OF BULK AT MOST 1048576: true; the input reads as it did. -/
def admitIsMonotoneUptoRow : OpenClaim := { program := "ytplpgijpmgbaiaagreatdoor", sum := "1bc9959b5611fc4ee97b818fbc1c17d0a72ff078aea8f86b39744eae465b9fa5", func := "solvent/solventlaw31.AdmitIsMonotone", spec := "admitIsMonotone", unfollowed := true, recurses := true, named := ["solvent/field.fields"], apart := false, laid := [("solvent/field.fields", laid_solvent_field_fields)], narrowed := true }
def AdmitIsMonotoneUptoSaid : Prop := admitIsMonotoneUptoRow.holds Tryz.pinned (OpenSpec.upto admitIsMonotoneSpec)

/-- 'solventlaw31.AdmitSuffices', WHERE WHAT IT READS IS OF BULK AT MOST 1048576: true; the input reads as it did. -/
def admitSufficesUptoRow : OpenClaim := { program := "ytplpgijpmgbaiaagreatdoor", sum := "1bc9959b5611fc4ee97b818fbc1c17d0a72ff078aea8f86b39744eae465b9fa5", func := "solvent/solventlaw31.AdmitSuffices", spec := "admitSuffices", unfollowed := true, recurses := true, named := ["solvent/field.fields"], apart := false, laid := [("solvent/field.fields", laid_solvent_field_fields)], narrowed := true }
def AdmitSufficesUptoSaid : Prop := admitSufficesUptoRow.holds Tryz.pinned (OpenSpec.upto admitSufficesSpec)

/-- 'solventlaw39.ChangeProgresses', WHERE WHAT IT READS IS OF BULK AT MOST 1048576: true; the input reads as it did. -/
def changeProgressesUptoRow : OpenClaim := { program := "ytplpgijpmgbaiaagreatdoor", sum := "1bc9959b5611fc4ee97b818fbc1c17d0a72ff078aea8f86b39744eae465b9fa5", func := "solvent/solventlaw39.ChangeProgresses", spec := "changeProgresses", inPlace := ["internal/abi.NoEscape", "internal/bytealg.MakeNoZero"], unfollowed := true, recurses := true, named := ["solvent/field.fields"], apart := false, laid := [("solvent/field.fields", laid_solvent_field_fields)], narrowed := true }
def ChangeProgressesUptoSaid : Prop := changeProgressesUptoRow.holds Tryz.pinned (OpenSpec.upto changeProgressesSpec)

/-- 'solventlaw40.ScrubStateMatchesSpec', WHERE WHAT IT READS IS OF BULK AT MOST 1048576: true; the input reads as it did. -/
def scrubStateMatchesSpecUptoRow : OpenClaim := { program := "ytplpgijpmgbaiaagreatdoor", sum := "1bc9959b5611fc4ee97b818fbc1c17d0a72ff078aea8f86b39744eae465b9fa5", func := "solvent/solventlaw40.ScrubStateMatchesSpec", spec := "scrubStateMatchesSpec", inPlace := ["internal/abi.NoEscape", "internal/bytealg.MakeNoZero"], unfollowed := true, recurses := true, named := ["solvent/field.fields"], apart := false, laid := [("solvent/field.fields", laid_solvent_field_fields)], narrowed := true }
def ScrubStateMatchesSpecUptoSaid : Prop := scrubStateMatchesSpecUptoRow.holds Tryz.pinned (OpenSpec.upto scrubStateMatchesSpecSpec)

/-- 'solventlaw40.ScrubMatchesSpec', WHERE WHAT IT READS IS OF BULK AT MOST 1048576: true; the input reads as it did. -/
def scrubMatchesSpecUptoRow : OpenClaim := { program := "ytplpgijpmgbaiaagreatdoor", sum := "1bc9959b5611fc4ee97b818fbc1c17d0a72ff078aea8f86b39744eae465b9fa5", func := "solvent/solventlaw40.ScrubMatchesSpec", spec := "scrubMatchesSpec", inPlace := ["internal/abi.NoEscape", "internal/bytealg.MakeNoZero"], unfollowed := true, recurses := true, named := ["solvent/field.fields"], apart := false, laid := [("solvent/field.fields", laid_solvent_field_fields)], narrowed := true }
def ScrubMatchesSpecUptoSaid : Prop := scrubMatchesSpecUptoRow.holds Tryz.pinned (OpenSpec.upto scrubMatchesSpecSpec)

/-- 'solventlaw40.ScrubClean', WHERE WHAT IT READS IS OF BULK AT MOST 1048576: true; the input reads as it did. -/
def scrubCleanUptoRow : OpenClaim := { program := "ytplpgijpmgbaiaagreatdoor", sum := "1bc9959b5611fc4ee97b818fbc1c17d0a72ff078aea8f86b39744eae465b9fa5", func := "solvent/solventlaw40.ScrubClean", spec := "scrubClean", inPlace := ["internal/abi.NoEscape", "internal/bytealg.MakeNoZero"], unfollowed := true, recurses := true, named := ["solvent/field.fields"], apart := false, laid := [("solvent/field.fields", laid_solvent_field_fields)], narrowed := true }
def ScrubCleanUptoSaid : Prop := scrubCleanUptoRow.holds Tryz.pinned (OpenSpec.upto scrubCleanSpec)

/-- 'solventlaw40.ScrubRepairs', WHERE WHAT IT READS IS OF BULK AT MOST 1048576: true; the input reads as it did. -/
def scrubRepairsUptoRow : OpenClaim := { program := "ytplpgijpmgbaiaagreatdoor", sum := "1bc9959b5611fc4ee97b818fbc1c17d0a72ff078aea8f86b39744eae465b9fa5", func := "solvent/solventlaw40.ScrubRepairs", spec := "scrubRepairs", inPlace := ["internal/abi.NoEscape", "internal/bytealg.MakeNoZero"], unfollowed := true, recurses := true, named := ["solvent/field.fields"], apart := false, laid := [("solvent/field.fields", laid_solvent_field_fields)], narrowed := true }
def ScrubRepairsUptoSaid : Prop := scrubRepairsUptoRow.holds Tryz.pinned (OpenSpec.upto scrubRepairsSpec)

/-- 'solventlaw40.ScrubLocates', WHERE WHAT IT READS IS OF BULK AT MOST 1048576: true; the input reads as it did. -/
def scrubLocatesUptoRow : OpenClaim := { program := "ytplpgijpmgbaiaagreatdoor", sum := "1bc9959b5611fc4ee97b818fbc1c17d0a72ff078aea8f86b39744eae465b9fa5", func := "solvent/solventlaw40.ScrubLocates", spec := "scrubLocates", inPlace := ["internal/abi.NoEscape", "internal/bytealg.MakeNoZero"], unfollowed := true, recurses := true, named := ["solvent/field.fields"], apart := false, laid := [("solvent/field.fields", laid_solvent_field_fields)], narrowed := true }
def ScrubLocatesUptoSaid : Prop := scrubLocatesUptoRow.holds Tryz.pinned (OpenSpec.upto scrubLocatesSpec)

/-- 'solventlaw40.ScrubLoses', WHERE WHAT IT READS IS OF BULK AT MOST 1048576: true; the input reads as it did. -/
def scrubLosesUptoRow : OpenClaim := { program := "ytplpgijpmgbaiaagreatdoor", sum := "1bc9959b5611fc4ee97b818fbc1c17d0a72ff078aea8f86b39744eae465b9fa5", func := "solvent/solventlaw40.ScrubLoses", spec := "scrubLoses", inPlace := ["internal/abi.NoEscape", "internal/bytealg.MakeNoZero"], unfollowed := true, recurses := true, named := ["solvent/field.fields"], apart := false, laid := [("solvent/field.fields", laid_solvent_field_fields)], narrowed := true }
def ScrubLosesUptoSaid : Prop := scrubLosesUptoRow.holds Tryz.pinned (OpenSpec.upto scrubLosesSpec)

end Rows
end Go.Proofs.YtplpgijpmgbaiaaGreatDoor
