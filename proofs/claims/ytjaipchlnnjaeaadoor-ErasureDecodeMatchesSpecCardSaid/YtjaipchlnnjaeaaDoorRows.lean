/-
  NARROWER THAN 'FOR EVERY INPUT', by the rows' own cells (each row's printed sentence says how): ErasureEncodeMatchesSpec: laid · ErasureEncodeIsLinear: laid · ErasureCoefficientsAddUp: laid · ErasureMoreUnitsHelp: laid · ErasureDecodableCounts: laid · ErasureBasisMatchesSpec: laid · ErasureDecodeMatchesSpec: laid · ErasureRoundTrip: laid.
  DERIVED. THE GIVEN ROWS OF THIS SEAT. 8 by the template 'for every input the law returns true; each argument reads behind the call as it read before'; 0 by the template 'total and deterministic' (their statements: YtjaipchlnnjaeaaDoorTotals.lean).
  GIVEN WITH THE SEED: the statements are not yours to turn. If you find one false, say at which input.
  Laid BY PROGRAM, IN A SANDBOX (cutbox-rows.mjs): the forced cells as the released guide's own fill.sh prints them over the translation 147d4283e6035249… (all of the seat's roots in one cut). By AI agents, Wed Nov 11 2026. No macro, syntax, notation, axiom, sorry.
-/
import Derived.Test.YtjaipchlnnjaeaaDoorChecked
import GoSem.Claim
import GoSem.ClaimJoined
import GoSem.ClaimMapViews
import Derived.JoinedTies
import Derived.KernelRfl
namespace Go.Proofs.YtjaipchlnnjaeaaDoor
/- THE CELL 'sum', in the pinned program and in every row, IS THE sha256 OF THE DUMP (.gsa) THAT YtjaipchlnnjaeaaDoorProg.lean LOADS. Nothing in Lean hashes anything: it is a label: what it is worth is what the hold of that sum in a sandbox is worth. -/
noncomputable def Tryd.pinned : Pinned := { name := "ytjaipchlnnjaeaadoor", sum := "147d4283e6035249c71ede155d6abecfb64963176df7d28d87770e9886e71221", checked := Tryd.checked }
namespace Rows
def none {H : Type} : Left H := { results := [], args := [] }

/- WHAT THE LISTED PACKAGE-LEVEL VARIABLES READ AS WHEN THE CALL BEGINS. Each datum BY PROGRAM (the guide's laid-datum.mjs) off the statement by which the dump's own 'gosem.cut.vars' lays the variable. In a bare row this is a premise. The card (YtjaipchlnnjaeaaDoorCards.lean) ties it to the program's text. -/
def laid_solvent_field_fields {H : Type} : DataW H := .agg [.agg [.lit (.int .i64 8), .lit (.int .i64 285)], .agg [.lit (.int .i64 16), .lit (.int .i64 69643)]]

/-- 'solventlaw08.ErasureEncodeMatchesSpec': WHATEVER THE INPUT: true; the input reads as it did. -/
def erasureEncodeMatchesSpecSpec : ChangeSpec := { name := "erasureEncodeMatchesSpec", fn := fun _ => fun
  | [d1, d2] => { results := [.lit (.bool true)], args := [d1, d2] }
  | _ => none }
def erasureEncodeMatchesSpecRow : OpenClaim := { program := "ytjaipchlnnjaeaadoor", sum := "147d4283e6035249c71ede155d6abecfb64963176df7d28d87770e9886e71221", func := "solvent/solventlaw08.ErasureEncodeMatchesSpec", spec := "erasureEncodeMatchesSpec", unfollowed := true, recurses := true, named := ["solvent/field.fields"], apart := false, laid := [("solvent/field.fields", laid_solvent_field_fields)] }
def ErasureEncodeMatchesSpecSaid : Prop := erasureEncodeMatchesSpecRow.holds Tryd.pinned (OpenSpec.ofChange erasureEncodeMatchesSpecSpec)

/-- ITS FALSE NEIGHBOUR: 'it returns false'. Refute it at one input. -/
def erasureEncodeMatchesSpecWrong : ChangeSpec := { name := "erasureEncodeMatchesSpec", fn := fun _ => fun
  | [d1, d2] => { results := [.lit (.bool false)], args := [d1, d2] }
  | _ => none }
def ErasureEncodeMatchesSpecWrongFalsely : Prop := erasureEncodeMatchesSpecRow.holds Tryd.pinned (OpenSpec.ofChange erasureEncodeMatchesSpecWrong)

/-- 'solventlaw08.ErasureEncodeIsLinear': WHATEVER THE INPUT: true; the input reads as it did. -/
def erasureEncodeIsLinearSpec : ChangeSpec := { name := "erasureEncodeIsLinear", fn := fun _ => fun
  | [d1, d2, d3] => { results := [.lit (.bool true)], args := [d1, d2, d3] }
  | _ => none }
def erasureEncodeIsLinearRow : OpenClaim := { program := "ytjaipchlnnjaeaadoor", sum := "147d4283e6035249c71ede155d6abecfb64963176df7d28d87770e9886e71221", func := "solvent/solventlaw08.ErasureEncodeIsLinear", spec := "erasureEncodeIsLinear", unfollowed := true, recurses := true, named := ["solvent/field.fields"], apart := false, laid := [("solvent/field.fields", laid_solvent_field_fields)] }
def ErasureEncodeIsLinearSaid : Prop := erasureEncodeIsLinearRow.holds Tryd.pinned (OpenSpec.ofChange erasureEncodeIsLinearSpec)

/-- ITS FALSE NEIGHBOUR: 'it returns false'. Refute it at one input. -/
def erasureEncodeIsLinearWrong : ChangeSpec := { name := "erasureEncodeIsLinear", fn := fun _ => fun
  | [d1, d2, d3] => { results := [.lit (.bool false)], args := [d1, d2, d3] }
  | _ => none }
def ErasureEncodeIsLinearWrongFalsely : Prop := erasureEncodeIsLinearRow.holds Tryd.pinned (OpenSpec.ofChange erasureEncodeIsLinearWrong)

/-- 'solventlaw08.ErasureCoefficientsAddUp': WHATEVER THE INPUT: true; the input reads as it did. -/
def erasureCoefficientsAddUpSpec : ChangeSpec := { name := "erasureCoefficientsAddUp", fn := fun _ => fun
  | [d1, d2, d3] => { results := [.lit (.bool true)], args := [d1, d2, d3] }
  | _ => none }
def erasureCoefficientsAddUpRow : OpenClaim := { program := "ytjaipchlnnjaeaadoor", sum := "147d4283e6035249c71ede155d6abecfb64963176df7d28d87770e9886e71221", func := "solvent/solventlaw08.ErasureCoefficientsAddUp", spec := "erasureCoefficientsAddUp", unfollowed := true, recurses := true, named := ["solvent/field.fields"], apart := false, laid := [("solvent/field.fields", laid_solvent_field_fields)] }
def ErasureCoefficientsAddUpSaid : Prop := erasureCoefficientsAddUpRow.holds Tryd.pinned (OpenSpec.ofChange erasureCoefficientsAddUpSpec)

/-- ITS FALSE NEIGHBOUR: 'it returns false'. Refute it at one input. -/
def erasureCoefficientsAddUpWrong : ChangeSpec := { name := "erasureCoefficientsAddUp", fn := fun _ => fun
  | [d1, d2, d3] => { results := [.lit (.bool false)], args := [d1, d2, d3] }
  | _ => none }
def ErasureCoefficientsAddUpWrongFalsely : Prop := erasureCoefficientsAddUpRow.holds Tryd.pinned (OpenSpec.ofChange erasureCoefficientsAddUpWrong)

/-- 'solventlaw08.ErasureMoreUnitsHelp': WHATEVER THE INPUT: true; the input reads as it did. -/
def erasureMoreUnitsHelpSpec : ChangeSpec := { name := "erasureMoreUnitsHelp", fn := fun _ => fun
  | [d1, d2, d3] => { results := [.lit (.bool true)], args := [d1, d2, d3] }
  | _ => none }
def erasureMoreUnitsHelpRow : OpenClaim := { program := "ytjaipchlnnjaeaadoor", sum := "147d4283e6035249c71ede155d6abecfb64963176df7d28d87770e9886e71221", func := "solvent/solventlaw08.ErasureMoreUnitsHelp", spec := "erasureMoreUnitsHelp", unfollowed := true, recurses := true, named := ["solvent/field.fields"], apart := false, laid := [("solvent/field.fields", laid_solvent_field_fields)] }
def ErasureMoreUnitsHelpSaid : Prop := erasureMoreUnitsHelpRow.holds Tryd.pinned (OpenSpec.ofChange erasureMoreUnitsHelpSpec)

/-- ITS FALSE NEIGHBOUR: 'it returns false'. Refute it at one input. -/
def erasureMoreUnitsHelpWrong : ChangeSpec := { name := "erasureMoreUnitsHelp", fn := fun _ => fun
  | [d1, d2, d3] => { results := [.lit (.bool false)], args := [d1, d2, d3] }
  | _ => none }
def ErasureMoreUnitsHelpWrongFalsely : Prop := erasureMoreUnitsHelpRow.holds Tryd.pinned (OpenSpec.ofChange erasureMoreUnitsHelpWrong)

/-- 'solventlaw08.ErasureDecodableCounts': WHATEVER THE INPUT: true; the input reads as it did. -/
def erasureDecodableCountsSpec : ChangeSpec := { name := "erasureDecodableCounts", fn := fun _ => fun
  | [d1, d2] => { results := [.lit (.bool true)], args := [d1, d2] }
  | _ => none }
def erasureDecodableCountsRow : OpenClaim := { program := "ytjaipchlnnjaeaadoor", sum := "147d4283e6035249c71ede155d6abecfb64963176df7d28d87770e9886e71221", func := "solvent/solventlaw08.ErasureDecodableCounts", spec := "erasureDecodableCounts", unfollowed := true, recurses := true, named := ["solvent/field.fields"], apart := false, laid := [("solvent/field.fields", laid_solvent_field_fields)] }
def ErasureDecodableCountsSaid : Prop := erasureDecodableCountsRow.holds Tryd.pinned (OpenSpec.ofChange erasureDecodableCountsSpec)

/-- ITS FALSE NEIGHBOUR: 'it returns false'. Refute it at one input. -/
def erasureDecodableCountsWrong : ChangeSpec := { name := "erasureDecodableCounts", fn := fun _ => fun
  | [d1, d2] => { results := [.lit (.bool false)], args := [d1, d2] }
  | _ => none }
def ErasureDecodableCountsWrongFalsely : Prop := erasureDecodableCountsRow.holds Tryd.pinned (OpenSpec.ofChange erasureDecodableCountsWrong)

/-- 'solventlaw08.ErasureBasisMatchesSpec': WHATEVER THE INPUT: true; the input reads as it did. -/
def erasureBasisMatchesSpecSpec : ChangeSpec := { name := "erasureBasisMatchesSpec", fn := fun _ => fun
  | [d1, d2, d3] => { results := [.lit (.bool true)], args := [d1, d2, d3] }
  | _ => none }
def erasureBasisMatchesSpecRow : OpenClaim := { program := "ytjaipchlnnjaeaadoor", sum := "147d4283e6035249c71ede155d6abecfb64963176df7d28d87770e9886e71221", func := "solvent/solventlaw08.ErasureBasisMatchesSpec", spec := "erasureBasisMatchesSpec", unfollowed := true, recurses := true, named := ["solvent/field.fields"], apart := false, laid := [("solvent/field.fields", laid_solvent_field_fields)] }
def ErasureBasisMatchesSpecSaid : Prop := erasureBasisMatchesSpecRow.holds Tryd.pinned (OpenSpec.ofChange erasureBasisMatchesSpecSpec)

/-- ITS FALSE NEIGHBOUR: 'it returns false'. Refute it at one input. -/
def erasureBasisMatchesSpecWrong : ChangeSpec := { name := "erasureBasisMatchesSpec", fn := fun _ => fun
  | [d1, d2, d3] => { results := [.lit (.bool false)], args := [d1, d2, d3] }
  | _ => none }
def ErasureBasisMatchesSpecWrongFalsely : Prop := erasureBasisMatchesSpecRow.holds Tryd.pinned (OpenSpec.ofChange erasureBasisMatchesSpecWrong)

/-- 'solventlaw08.ErasureDecodeMatchesSpec': WHATEVER THE INPUT: true; the input reads as it did. -/
def erasureDecodeMatchesSpecSpec : ChangeSpec := { name := "erasureDecodeMatchesSpec", fn := fun _ => fun
  | [d] => { results := [.lit (.bool true)], args := [d] }
  | _ => none }
def erasureDecodeMatchesSpecRow : OpenClaim := { program := "ytjaipchlnnjaeaadoor", sum := "147d4283e6035249c71ede155d6abecfb64963176df7d28d87770e9886e71221", func := "solvent/solventlaw08.ErasureDecodeMatchesSpec", spec := "erasureDecodeMatchesSpec", unfollowed := true, recurses := true, named := ["solvent/field.fields"], apart := false, laid := [("solvent/field.fields", laid_solvent_field_fields)] }
def ErasureDecodeMatchesSpecSaid : Prop := erasureDecodeMatchesSpecRow.holds Tryd.pinned (OpenSpec.ofChange erasureDecodeMatchesSpecSpec)

/-- ITS FALSE NEIGHBOUR: 'it returns false'. Refute it at one input. -/
def erasureDecodeMatchesSpecWrong : ChangeSpec := { name := "erasureDecodeMatchesSpec", fn := fun _ => fun
  | [d] => { results := [.lit (.bool false)], args := [d] }
  | _ => none }
def ErasureDecodeMatchesSpecWrongFalsely : Prop := erasureDecodeMatchesSpecRow.holds Tryd.pinned (OpenSpec.ofChange erasureDecodeMatchesSpecWrong)

/-- 'solventlaw08.ErasureRoundTrip': WHATEVER THE INPUT: true; the input reads as it did. -/
def erasureRoundTripSpec : ChangeSpec := { name := "erasureRoundTrip", fn := fun _ => fun
  | [d] => { results := [.lit (.bool true)], args := [d] }
  | _ => none }
def erasureRoundTripRow : OpenClaim := { program := "ytjaipchlnnjaeaadoor", sum := "147d4283e6035249c71ede155d6abecfb64963176df7d28d87770e9886e71221", func := "solvent/solventlaw08.ErasureRoundTrip", spec := "erasureRoundTrip", unfollowed := true, recurses := true, named := ["solvent/field.fields"], apart := false, laid := [("solvent/field.fields", laid_solvent_field_fields)] }
def ErasureRoundTripSaid : Prop := erasureRoundTripRow.holds Tryd.pinned (OpenSpec.ofChange erasureRoundTripSpec)

/-- ITS FALSE NEIGHBOUR: 'it returns false'. Refute it at one input. -/
def erasureRoundTripWrong : ChangeSpec := { name := "erasureRoundTrip", fn := fun _ => fun
  | [d] => { results := [.lit (.bool false)], args := [d] }
  | _ => none }
def ErasureRoundTripWrongFalsely : Prop := erasureRoundTripRow.holds Tryd.pinned (OpenSpec.ofChange erasureRoundTripWrong)

/- THE SECOND FORM. 'bulk': how many values and letters a reading holds, each counted each time it is reached (what is shared counts as often as it is met; a slice's spare places count too). A statement '..UptoSaid' is the law's where the arguments, and the package variables that the reading takes, are together of bulk at most 1048576: NARROWER than '..Said'. Prove '..Said' where nothing that the law and all that it calls make is longer than what came in: it says more and counts as full. Else prove '..UptoSaid'. A law counts once. -/
mutual
def uptoBulk {H : Type} : DataW H → Nat
  | .lit (.string bytes) => bytes.length + 1
  | .lit _ => 1
  | .nil => 1
  | .ptr d => uptoBulk d + 1
  | .slice elems spare => uptoBulkAll elems + uptoBulkAll spare + 1
  | .agg parts => uptoBulkAll parts + 1
  | .iface _ d => uptoBulk d + 1
  | .map entries => uptoBulkEntries entries + 1
  | .held _ => 1
def uptoBulkAll {H : Type} : List (DataW H) → Nat
  | [] => 0
  | d :: r => uptoBulk d + uptoBulkAll r
def uptoBulkEntries {H : Type} : List (Lit × DataW H) → Nat
  | [] => 0
  | x :: r => uptoBulkEntry x + uptoBulkEntries r
def uptoBulkEntry {H : Type} : Lit × DataW H → Nat
  | (.string bytes, d) => bytes.length + uptoBulk d + 1
  | (_, d) => uptoBulk d + 1
 end
def uptoSmall : (H : Type) → List (DataW H) → Bool := fun _ ds => decide (uptoBulkAll ds ≤ 1048576)
def OpenSpec.upto (s : _root_.Go.ChangeSpec) : _root_.Go.OpenSpec := { _root_.Go.OpenSpec.ofChange s with cond := some uptoSmall }

/-- 'solventlaw08.ErasureEncodeMatchesSpec', WHERE WHAT IT READS IS OF BULK AT MOST 1048576: true; the input reads as it did. -/
def erasureEncodeMatchesSpecUptoRow : OpenClaim := { program := "ytjaipchlnnjaeaadoor", sum := "147d4283e6035249c71ede155d6abecfb64963176df7d28d87770e9886e71221", func := "solvent/solventlaw08.ErasureEncodeMatchesSpec", spec := "erasureEncodeMatchesSpec", unfollowed := true, recurses := true, named := ["solvent/field.fields"], apart := false, laid := [("solvent/field.fields", laid_solvent_field_fields)], narrowed := true }
def ErasureEncodeMatchesSpecUptoSaid : Prop := erasureEncodeMatchesSpecUptoRow.holds Tryd.pinned (OpenSpec.upto erasureEncodeMatchesSpecSpec)

/-- 'solventlaw08.ErasureEncodeIsLinear', WHERE WHAT IT READS IS OF BULK AT MOST 1048576: true; the input reads as it did. -/
def erasureEncodeIsLinearUptoRow : OpenClaim := { program := "ytjaipchlnnjaeaadoor", sum := "147d4283e6035249c71ede155d6abecfb64963176df7d28d87770e9886e71221", func := "solvent/solventlaw08.ErasureEncodeIsLinear", spec := "erasureEncodeIsLinear", unfollowed := true, recurses := true, named := ["solvent/field.fields"], apart := false, laid := [("solvent/field.fields", laid_solvent_field_fields)], narrowed := true }
def ErasureEncodeIsLinearUptoSaid : Prop := erasureEncodeIsLinearUptoRow.holds Tryd.pinned (OpenSpec.upto erasureEncodeIsLinearSpec)

/-- 'solventlaw08.ErasureCoefficientsAddUp', WHERE WHAT IT READS IS OF BULK AT MOST 1048576: true; the input reads as it did. -/
def erasureCoefficientsAddUpUptoRow : OpenClaim := { program := "ytjaipchlnnjaeaadoor", sum := "147d4283e6035249c71ede155d6abecfb64963176df7d28d87770e9886e71221", func := "solvent/solventlaw08.ErasureCoefficientsAddUp", spec := "erasureCoefficientsAddUp", unfollowed := true, recurses := true, named := ["solvent/field.fields"], apart := false, laid := [("solvent/field.fields", laid_solvent_field_fields)], narrowed := true }
def ErasureCoefficientsAddUpUptoSaid : Prop := erasureCoefficientsAddUpUptoRow.holds Tryd.pinned (OpenSpec.upto erasureCoefficientsAddUpSpec)

/-- 'solventlaw08.ErasureMoreUnitsHelp', WHERE WHAT IT READS IS OF BULK AT MOST 1048576: true; the input reads as it did. -/
def erasureMoreUnitsHelpUptoRow : OpenClaim := { program := "ytjaipchlnnjaeaadoor", sum := "147d4283e6035249c71ede155d6abecfb64963176df7d28d87770e9886e71221", func := "solvent/solventlaw08.ErasureMoreUnitsHelp", spec := "erasureMoreUnitsHelp", unfollowed := true, recurses := true, named := ["solvent/field.fields"], apart := false, laid := [("solvent/field.fields", laid_solvent_field_fields)], narrowed := true }
def ErasureMoreUnitsHelpUptoSaid : Prop := erasureMoreUnitsHelpUptoRow.holds Tryd.pinned (OpenSpec.upto erasureMoreUnitsHelpSpec)

/-- 'solventlaw08.ErasureDecodableCounts', WHERE WHAT IT READS IS OF BULK AT MOST 1048576: true; the input reads as it did. -/
def erasureDecodableCountsUptoRow : OpenClaim := { program := "ytjaipchlnnjaeaadoor", sum := "147d4283e6035249c71ede155d6abecfb64963176df7d28d87770e9886e71221", func := "solvent/solventlaw08.ErasureDecodableCounts", spec := "erasureDecodableCounts", unfollowed := true, recurses := true, named := ["solvent/field.fields"], apart := false, laid := [("solvent/field.fields", laid_solvent_field_fields)], narrowed := true }
def ErasureDecodableCountsUptoSaid : Prop := erasureDecodableCountsUptoRow.holds Tryd.pinned (OpenSpec.upto erasureDecodableCountsSpec)

/-- 'solventlaw08.ErasureBasisMatchesSpec', WHERE WHAT IT READS IS OF BULK AT MOST 1048576: true; the input reads as it did. -/
def erasureBasisMatchesSpecUptoRow : OpenClaim := { program := "ytjaipchlnnjaeaadoor", sum := "147d4283e6035249c71ede155d6abecfb64963176df7d28d87770e9886e71221", func := "solvent/solventlaw08.ErasureBasisMatchesSpec", spec := "erasureBasisMatchesSpec", unfollowed := true, recurses := true, named := ["solvent/field.fields"], apart := false, laid := [("solvent/field.fields", laid_solvent_field_fields)], narrowed := true }
def ErasureBasisMatchesSpecUptoSaid : Prop := erasureBasisMatchesSpecUptoRow.holds Tryd.pinned (OpenSpec.upto erasureBasisMatchesSpecSpec)

/-- 'solventlaw08.ErasureDecodeMatchesSpec', WHERE WHAT IT READS IS OF BULK AT MOST 1048576: true; the input reads as it did. -/
def erasureDecodeMatchesSpecUptoRow : OpenClaim := { program := "ytjaipchlnnjaeaadoor", sum := "147d4283e6035249c71ede155d6abecfb64963176df7d28d87770e9886e71221", func := "solvent/solventlaw08.ErasureDecodeMatchesSpec", spec := "erasureDecodeMatchesSpec", unfollowed := true, recurses := true, named := ["solvent/field.fields"], apart := false, laid := [("solvent/field.fields", laid_solvent_field_fields)], narrowed := true }
def ErasureDecodeMatchesSpecUptoSaid : Prop := erasureDecodeMatchesSpecUptoRow.holds Tryd.pinned (OpenSpec.upto erasureDecodeMatchesSpecSpec)

/-- 'solventlaw08.ErasureRoundTrip', WHERE WHAT IT READS IS OF BULK AT MOST 1048576: true; the input reads as it did. -/
def erasureRoundTripUptoRow : OpenClaim := { program := "ytjaipchlnnjaeaadoor", sum := "147d4283e6035249c71ede155d6abecfb64963176df7d28d87770e9886e71221", func := "solvent/solventlaw08.ErasureRoundTrip", spec := "erasureRoundTrip", unfollowed := true, recurses := true, named := ["solvent/field.fields"], apart := false, laid := [("solvent/field.fields", laid_solvent_field_fields)], narrowed := true }
def ErasureRoundTripUptoSaid : Prop := erasureRoundTripUptoRow.holds Tryd.pinned (OpenSpec.upto erasureRoundTripSpec)

end Rows
end Go.Proofs.YtjaipchlnnjaeaaDoor
