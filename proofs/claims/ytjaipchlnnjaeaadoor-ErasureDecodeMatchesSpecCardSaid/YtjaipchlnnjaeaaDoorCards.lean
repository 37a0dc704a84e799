/-
  DERIVED. GIVEN WITH THE SEED: THE CARDS: each row of YtjaipchlnnjaeaaDoorRows.lean that lists a variable, with what it lists TIED to the program's text (the seventh form; the later family's looks); each row that meets fmt, with fmt's text TOLD by the authors' own Lean function (tested against real Go, not proved from fmt's source: count such statements apart). THE CARD IS WHAT COUNTS. Prove the row's statement (the work); the ties are given (YtjaipchlnnjaeaaDoorTie.lean); close each card by the builder's one call (the guide's Derived/Test/ToyasCard.lean, 'card_holds'). Laid BY PROGRAM, IN A SANDBOX (cutbox-door.mjs). By AI agents, Wed Nov 11 2026. No macro, syntax, notation, axiom, sorry.
-/
import Derived.Test.YtjaipchlnnjaeaaDoorRows
import GoSem.ClaimSeven
namespace Go.Proofs.YtjaipchlnnjaeaaDoor
namespace Rows

/-- THE TIED CARD OF 'solventlaw08.ErasureEncodeMatchesSpec'. -/
def erasureEncodeMatchesSpecCard : Claim7 := { stood := { row := erasureEncodeMatchesSpecRow, standIns := [], harness := (true, "74956116b57c3d3a0545af0228e740cf01bd0fe55d817e74047d018a8b992508"), looks := false }, kinds := [], alts := [], laidByText := true, laidKinds := [.data], laidTests := true, laidLooks := .later }
def ErasureEncodeMatchesSpecCardSaid : Prop := Claim7.holds Tryd.pinned (.plain (OpenSpec.ofChange erasureEncodeMatchesSpecSpec)) erasureEncodeMatchesSpecCard

/-- THE TIED CARD OF 'solventlaw08.ErasureEncodeIsLinear'. -/
def erasureEncodeIsLinearCard : Claim7 := { stood := { row := erasureEncodeIsLinearRow, standIns := [], harness := (true, "74956116b57c3d3a0545af0228e740cf01bd0fe55d817e74047d018a8b992508"), looks := false }, kinds := [], alts := [], laidByText := true, laidKinds := [.data], laidTests := true, laidLooks := .later }
def ErasureEncodeIsLinearCardSaid : Prop := Claim7.holds Tryd.pinned (.plain (OpenSpec.ofChange erasureEncodeIsLinearSpec)) erasureEncodeIsLinearCard

/-- THE TIED CARD OF 'solventlaw08.ErasureCoefficientsAddUp'. -/
def erasureCoefficientsAddUpCard : Claim7 := { stood := { row := erasureCoefficientsAddUpRow, standIns := [], harness := (true, "74956116b57c3d3a0545af0228e740cf01bd0fe55d817e74047d018a8b992508"), looks := false }, kinds := [], alts := [], laidByText := true, laidKinds := [.data], laidTests := true, laidLooks := .later }
def ErasureCoefficientsAddUpCardSaid : Prop := Claim7.holds Tryd.pinned (.plain (OpenSpec.ofChange erasureCoefficientsAddUpSpec)) erasureCoefficientsAddUpCard

/-- THE TIED CARD OF 'solventlaw08.ErasureMoreUnitsHelp'. -/
def erasureMoreUnitsHelpCard : Claim7 := { stood := { row := erasureMoreUnitsHelpRow, standIns := [], harness := (true, "74956116b57c3d3a0545af0228e740cf01bd0fe55d817e74047d018a8b992508"), looks := false }, kinds := [], alts := [], laidByText := true, laidKinds := [.data], laidTests := true, laidLooks := .later }
def ErasureMoreUnitsHelpCardSaid : Prop := Claim7.holds Tryd.pinned (.plain (OpenSpec.ofChange erasureMoreUnitsHelpSpec)) erasureMoreUnitsHelpCard

/-- THE TIED CARD OF 'solventlaw08.ErasureDecodableCounts'. -/
def erasureDecodableCountsCard : Claim7 := { stood := { row := erasureDecodableCountsRow, standIns := [], harness := (true, "74956116b57c3d3a0545af0228e740cf01bd0fe55d817e74047d018a8b992508"), looks := false }, kinds := [], alts := [], laidByText := true, laidKinds := [.data], laidTests := true, laidLooks := .later }
def ErasureDecodableCountsCardSaid : Prop := Claim7.holds Tryd.pinned (.plain (OpenSpec.ofChange erasureDecodableCountsSpec)) erasureDecodableCountsCard

/-- THE TIED CARD OF 'solventlaw08.ErasureBasisMatchesSpec'. -/
def erasureBasisMatchesSpecCard : Claim7 := { stood := { row := erasureBasisMatchesSpecRow, standIns := [], harness := (true, "74956116b57c3d3a0545af0228e740cf01bd0fe55d817e74047d018a8b992508"), looks := false }, kinds := [], alts := [], laidByText := true, laidKinds := [.data], laidTests := true, laidLooks := .later }
def ErasureBasisMatchesSpecCardSaid : Prop := Claim7.holds Tryd.pinned (.plain (OpenSpec.ofChange erasureBasisMatchesSpecSpec)) erasureBasisMatchesSpecCard

/-- THE TIED CARD OF 'solventlaw08.ErasureDecodeMatchesSpec'. -/
def erasureDecodeMatchesSpecCard : Claim7 := { stood := { row := erasureDecodeMatchesSpecRow, standIns := [], harness := (true, "74956116b57c3d3a0545af0228e740cf01bd0fe55d817e74047d018a8b992508"), looks := false }, kinds := [], alts := [], laidByText := true, laidKinds := [.data], laidTests := true, laidLooks := .later }
def ErasureDecodeMatchesSpecCardSaid : Prop := Claim7.holds Tryd.pinned (.plain (OpenSpec.ofChange erasureDecodeMatchesSpecSpec)) erasureDecodeMatchesSpecCard

/-- THE TIED CARD OF 'solventlaw08.ErasureRoundTrip'. -/
def erasureRoundTripCard : Claim7 := { stood := { row := erasureRoundTripRow, standIns := [], harness := (true, "74956116b57c3d3a0545af0228e740cf01bd0fe55d817e74047d018a8b992508"), looks := false }, kinds := [], alts := [], laidByText := true, laidKinds := [.data], laidTests := true, laidLooks := .later }
def ErasureRoundTripCardSaid : Prop := Claim7.holds Tryd.pinned (.plain (OpenSpec.ofChange erasureRoundTripSpec)) erasureRoundTripCard

/-- THE SECOND FORM's CARD OF 'solventlaw08.ErasureEncodeMatchesSpec'. -/
def erasureEncodeMatchesSpecUptoCard : Claim7 := { stood := { row := erasureEncodeMatchesSpecUptoRow, standIns := [], harness := (true, "74956116b57c3d3a0545af0228e740cf01bd0fe55d817e74047d018a8b992508"), looks := false }, kinds := [], alts := [], laidByText := true, laidKinds := [.data], laidTests := true, laidLooks := .later }
def ErasureEncodeMatchesSpecUptoCardSaid : Prop := Claim7.holds Tryd.pinned (.plain (OpenSpec.upto erasureEncodeMatchesSpecSpec)) erasureEncodeMatchesSpecUptoCard

/-- THE SECOND FORM's CARD OF 'solventlaw08.ErasureEncodeIsLinear'. -/
def erasureEncodeIsLinearUptoCard : Claim7 := { stood := { row := erasureEncodeIsLinearUptoRow, standIns := [], harness := (true, "74956116b57c3d3a0545af0228e740cf01bd0fe55d817e74047d018a8b992508"), looks := false }, kinds := [], alts := [], laidByText := true, laidKinds := [.data], laidTests := true, laidLooks := .later }
def ErasureEncodeIsLinearUptoCardSaid : Prop := Claim7.holds Tryd.pinned (.plain (OpenSpec.upto erasureEncodeIsLinearSpec)) erasureEncodeIsLinearUptoCard

/-- THE SECOND FORM's CARD OF 'solventlaw08.ErasureCoefficientsAddUp'. -/
def erasureCoefficientsAddUpUptoCard : Claim7 := { stood := { row := erasureCoefficientsAddUpUptoRow, standIns := [], harness := (true, "74956116b57c3d3a0545af0228e740cf01bd0fe55d817e74047d018a8b992508"), looks := false }, kinds := [], alts := [], laidByText := true, laidKinds := [.data], laidTests := true, laidLooks := .later }
def ErasureCoefficientsAddUpUptoCardSaid : Prop := Claim7.holds Tryd.pinned (.plain (OpenSpec.upto erasureCoefficientsAddUpSpec)) erasureCoefficientsAddUpUptoCard

/-- THE SECOND FORM's CARD OF 'solventlaw08.ErasureMoreUnitsHelp'. -/
def erasureMoreUnitsHelpUptoCard : Claim7 := { stood := { row := erasureMoreUnitsHelpUptoRow, standIns := [], harness := (true, "74956116b57c3d3a0545af0228e740cf01bd0fe55d817e74047d018a8b992508"), looks := false }, kinds := [], alts := [], laidByText := true, laidKinds := [.data], laidTests := true, laidLooks := .later }
def ErasureMoreUnitsHelpUptoCardSaid : Prop := Claim7.holds Tryd.pinned (.plain (OpenSpec.upto erasureMoreUnitsHelpSpec)) erasureMoreUnitsHelpUptoCard

/-- THE SECOND FORM's CARD OF 'solventlaw08.ErasureDecodableCounts'. -/
def erasureDecodableCountsUptoCard : Claim7 := { stood := { row := erasureDecodableCountsUptoRow, standIns := [], harness := (true, "74956116b57c3d3a0545af0228e740cf01bd0fe55d817e74047d018a8b992508"), looks := false }, kinds := [], alts := [], laidByText := true, laidKinds := [.data], laidTests := true, laidLooks := .later }
def ErasureDecodableCountsUptoCardSaid : Prop := Claim7.holds Tryd.pinned (.plain (OpenSpec.upto erasureDecodableCountsSpec)) erasureDecodableCountsUptoCard

/-- THE SECOND FORM's CARD OF 'solventlaw08.ErasureBasisMatchesSpec'. -/
def erasureBasisMatchesSpecUptoCard : Claim7 := { stood := { row := erasureBasisMatchesSpecUptoRow, standIns := [], harness := (true, "74956116b57c3d3a0545af0228e740cf01bd0fe55d817e74047d018a8b992508"), looks := false }, kinds := [], alts := [], laidByText := true, laidKinds := [.data], laidTests := true, laidLooks := .later }
def ErasureBasisMatchesSpecUptoCardSaid : Prop := Claim7.holds Tryd.pinned (.plain (OpenSpec.upto erasureBasisMatchesSpecSpec)) erasureBasisMatchesSpecUptoCard

/-- THE SECOND FORM's CARD OF 'solventlaw08.ErasureDecodeMatchesSpec'. -/
def erasureDecodeMatchesSpecUptoCard : Claim7 := { stood := { row := erasureDecodeMatchesSpecUptoRow, standIns := [], harness := (true, "74956116b57c3d3a0545af0228e740cf01bd0fe55d817e74047d018a8b992508"), looks := false }, kinds := [], alts := [], laidByText := true, laidKinds := [.data], laidTests := true, laidLooks := .later }
def ErasureDecodeMatchesSpecUptoCardSaid : Prop := Claim7.holds Tryd.pinned (.plain (OpenSpec.upto erasureDecodeMatchesSpecSpec)) erasureDecodeMatchesSpecUptoCard

/-- THE SECOND FORM's CARD OF 'solventlaw08.ErasureRoundTrip'. -/
def erasureRoundTripUptoCard : Claim7 := { stood := { row := erasureRoundTripUptoRow, standIns := [], harness := (true, "74956116b57c3d3a0545af0228e740cf01bd0fe55d817e74047d018a8b992508"), looks := false }, kinds := [], alts := [], laidByText := true, laidKinds := [.data], laidTests := true, laidLooks := .later }
def ErasureRoundTripUptoCardSaid : Prop := Claim7.holds Tryd.pinned (.plain (OpenSpec.upto erasureRoundTripSpec)) erasureRoundTripUptoCard
end Rows
end Go.Proofs.YtjaipchlnnjaeaaDoor
