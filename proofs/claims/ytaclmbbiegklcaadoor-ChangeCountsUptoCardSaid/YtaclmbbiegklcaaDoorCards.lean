/-
  DERIVED. GIVEN WITH THE SEED: THE CARDS: each row of YtaclmbbiegklcaaDoorRows.lean that lists a variable, with what it lists TIED to the program's text (the seventh form; the later family's looks); each row that meets fmt, with fmt's text TOLD by the authors' own Lean function (tested against real Go, not proved from fmt's source: count such statements apart). THE CARD IS WHAT COUNTS. Prove the row's statement (the work); the ties are given (YtaclmbbiegklcaaDoorTie.lean); close each card by the builder's one call (the guide's Derived/Test/ToyasCard.lean, 'card_holds'). Laid BY PROGRAM, IN A SANDBOX (cutbox-door.mjs). By AI agents, Wed Nov 11 2026. No macro, syntax, notation, axiom, sorry.
-/
import Derived.Test.YtaclmbbiegklcaaDoorRows
import GoSem.ClaimSeven
namespace Go.Proofs.YtaclmbbiegklcaaDoor
namespace Rows

/-- THE TIED CARD OF 'solventlaw30.ClassStaysValid'. -/
def classStaysValidCard : Claim7 := { stood := { row := classStaysValidRow, standIns := [], harness := (true, "76dbc0ec81597affbc61c1292b99ad009ca4d3bb65b9ba26df89f0960bf0e47e"), looks := false }, kinds := [], alts := [], laidByText := true, laidKinds := [.data], laidTests := true, laidLooks := .later }
def ClassStaysValidCardSaid : Prop := Claim7.holds Tryd.pinned (.plain (OpenSpec.ofChange classStaysValidSpec)) classStaysValidCard

/-- THE TIED CARD OF 'solventlaw30.ClassKeepsPromise'. -/
def classKeepsPromiseCard : Claim7 := { stood := { row := classKeepsPromiseRow, standIns := [], harness := (true, "76dbc0ec81597affbc61c1292b99ad009ca4d3bb65b9ba26df89f0960bf0e47e"), looks := false }, kinds := [], alts := [], laidByText := true, laidKinds := [.data], laidTests := true, laidLooks := .later }
def ClassKeepsPromiseCardSaid : Prop := Claim7.holds Tryd.pinned (.plain (OpenSpec.ofChange classKeepsPromiseSpec)) classKeepsPromiseCard

/-- THE TIED CARD OF 'solventlaw30.ClassSeparate'. -/
def classSeparateCard : Claim7 := { stood := { row := classSeparateRow, standIns := [], harness := (true, "76dbc0ec81597affbc61c1292b99ad009ca4d3bb65b9ba26df89f0960bf0e47e"), looks := false }, kinds := [], alts := [], laidByText := true, laidKinds := [.data], laidTests := true, laidLooks := .later }
def ClassSeparateCardSaid : Prop := Claim7.holds Tryd.pinned (.plain (OpenSpec.ofChange classSeparateSpec)) classSeparateCard

/-- THE TIED CARD OF 'solventlaw30.ClassFinds'. -/
def classFindsCard : Claim7 := { stood := { row := classFindsRow, standIns := [], harness := (true, "76dbc0ec81597affbc61c1292b99ad009ca4d3bb65b9ba26df89f0960bf0e47e"), looks := false }, kinds := [], alts := [], laidByText := true, laidKinds := [.data], laidTests := true, laidLooks := .later }
def ClassFindsCardSaid : Prop := Claim7.holds Tryd.pinned (.plain (OpenSpec.ofChange classFindsSpec)) classFindsCard

/-- THE TIED CARD OF 'solventlaw36.HealthPromise'. -/
def healthPromiseCard : Claim7 := { stood := { row := healthPromiseRow, standIns := [], harness := (true, "76dbc0ec81597affbc61c1292b99ad009ca4d3bb65b9ba26df89f0960bf0e47e"), looks := false }, kinds := [], alts := [], laidByText := true, laidKinds := [.data], laidTests := true, laidLooks := .later }
def HealthPromiseCardSaid : Prop := Claim7.holds Tryd.pinned (.plain (OpenSpec.ofChange healthPromiseSpec)) healthPromiseCard

/-- THE TIED CARD OF 'solventlaw36.HealthUrgent'. -/
def healthUrgentCard : Claim7 := { stood := { row := healthUrgentRow, standIns := [], harness := (true, "76dbc0ec81597affbc61c1292b99ad009ca4d3bb65b9ba26df89f0960bf0e47e"), looks := false }, kinds := [], alts := [], laidByText := true, laidKinds := [.data], laidTests := true, laidLooks := .later }
def HealthUrgentCardSaid : Prop := Claim7.holds Tryd.pinned (.plain (OpenSpec.ofChange healthUrgentSpec)) healthUrgentCard

/-- THE TIED CARD OF 'solventlaw36.HealthWorst'. -/
def healthWorstCard : Claim7 := { stood := { row := healthWorstRow, standIns := [], harness := (true, "76dbc0ec81597affbc61c1292b99ad009ca4d3bb65b9ba26df89f0960bf0e47e"), looks := false }, kinds := [], alts := [], laidByText := true, laidKinds := [.data], laidTests := true, laidLooks := .later }
def HealthWorstCardSaid : Prop := Claim7.holds Tryd.pinned (.plain (OpenSpec.ofChange healthWorstSpec)) healthWorstCard

/-- THE TIED CARD OF 'solventlaw39.ChangeCounts'. -/
def changeCountsCard : Claim7 := { stood := { row := changeCountsRow, standIns := [], harness := (true, "76dbc0ec81597affbc61c1292b99ad009ca4d3bb65b9ba26df89f0960bf0e47e"), looks := false }, kinds := [], alts := [], laidByText := true, laidKinds := [.data], laidTests := true, laidLooks := .later }
def ChangeCountsCardSaid : Prop := Claim7.holds Tryd.pinned (.plain (OpenSpec.ofChange changeCountsSpec)) changeCountsCard

/-- THE TIED CARD OF 'solventlaw36.HealthSteps'. -/
def healthStepsCard : Claim7 := { stood := { row := healthStepsRow, standIns := [], harness := (true, "76dbc0ec81597affbc61c1292b99ad009ca4d3bb65b9ba26df89f0960bf0e47e"), looks := false }, kinds := [], alts := [], laidByText := true, laidKinds := [.data], laidTests := true, laidLooks := .later }
def HealthStepsCardSaid : Prop := Claim7.holds Tryd.pinned (.plain (OpenSpec.ofChange healthStepsSpec)) healthStepsCard

/-- THE SECOND FORM's CARD OF 'solventlaw30.ClassStaysValid'. -/
def classStaysValidUptoCard : Claim7 := { stood := { row := classStaysValidUptoRow, standIns := [], harness := (true, "76dbc0ec81597affbc61c1292b99ad009ca4d3bb65b9ba26df89f0960bf0e47e"), looks := false }, kinds := [], alts := [], laidByText := true, laidKinds := [.data], laidTests := true, laidLooks := .later }
def ClassStaysValidUptoCardSaid : Prop := Claim7.holds Tryd.pinned (.plain (OpenSpec.upto classStaysValidSpec)) classStaysValidUptoCard

/-- THE SECOND FORM's CARD OF 'solventlaw30.ClassKeepsPromise'. -/
def classKeepsPromiseUptoCard : Claim7 := { stood := { row := classKeepsPromiseUptoRow, standIns := [], harness := (true, "76dbc0ec81597affbc61c1292b99ad009ca4d3bb65b9ba26df89f0960bf0e47e"), looks := false }, kinds := [], alts := [], laidByText := true, laidKinds := [.data], laidTests := true, laidLooks := .later }
def ClassKeepsPromiseUptoCardSaid : Prop := Claim7.holds Tryd.pinned (.plain (OpenSpec.upto classKeepsPromiseSpec)) classKeepsPromiseUptoCard

/-- THE SECOND FORM's CARD OF 'solventlaw30.ClassSeparate'. -/
def classSeparateUptoCard : Claim7 := { stood := { row := classSeparateUptoRow, standIns := [], harness := (true, "76dbc0ec81597affbc61c1292b99ad009ca4d3bb65b9ba26df89f0960bf0e47e"), looks := false }, kinds := [], alts := [], laidByText := true, laidKinds := [.data], laidTests := true, laidLooks := .later }
def ClassSeparateUptoCardSaid : Prop := Claim7.holds Tryd.pinned (.plain (OpenSpec.upto classSeparateSpec)) classSeparateUptoCard

/-- THE SECOND FORM's CARD OF 'solventlaw30.ClassFinds'. -/
def classFindsUptoCard : Claim7 := { stood := { row := classFindsUptoRow, standIns := [], harness := (true, "76dbc0ec81597affbc61c1292b99ad009ca4d3bb65b9ba26df89f0960bf0e47e"), looks := false }, kinds := [], alts := [], laidByText := true, laidKinds := [.data], laidTests := true, laidLooks := .later }
def ClassFindsUptoCardSaid : Prop := Claim7.holds Tryd.pinned (.plain (OpenSpec.upto classFindsSpec)) classFindsUptoCard

/-- THE SECOND FORM's CARD OF 'solventlaw36.HealthPromise'. -/
def healthPromiseUptoCard : Claim7 := { stood := { row := healthPromiseUptoRow, standIns := [], harness := (true, "76dbc0ec81597affbc61c1292b99ad009ca4d3bb65b9ba26df89f0960bf0e47e"), looks := false }, kinds := [], alts := [], laidByText := true, laidKinds := [.data], laidTests := true, laidLooks := .later }
def HealthPromiseUptoCardSaid : Prop := Claim7.holds Tryd.pinned (.plain (OpenSpec.upto healthPromiseSpec)) healthPromiseUptoCard

/-- THE SECOND FORM's CARD OF 'solventlaw36.HealthUrgent'. -/
def healthUrgentUptoCard : Claim7 := { stood := { row := healthUrgentUptoRow, standIns := [], harness := (true, "76dbc0ec81597affbc61c1292b99ad009ca4d3bb65b9ba26df89f0960bf0e47e"), looks := false }, kinds := [], alts := [], laidByText := true, laidKinds := [.data], laidTests := true, laidLooks := .later }
def HealthUrgentUptoCardSaid : Prop := Claim7.holds Tryd.pinned (.plain (OpenSpec.upto healthUrgentSpec)) healthUrgentUptoCard

/-- THE SECOND FORM's CARD OF 'solventlaw36.HealthWorst'. -/
def healthWorstUptoCard : Claim7 := { stood := { row := healthWorstUptoRow, standIns := [], harness := (true, "76dbc0ec81597affbc61c1292b99ad009ca4d3bb65b9ba26df89f0960bf0e47e"), looks := false }, kinds := [], alts := [], laidByText := true, laidKinds := [.data], laidTests := true, laidLooks := .later }
def HealthWorstUptoCardSaid : Prop := Claim7.holds Tryd.pinned (.plain (OpenSpec.upto healthWorstSpec)) healthWorstUptoCard

/-- THE SECOND FORM's CARD OF 'solventlaw39.ChangeCounts'. -/
def changeCountsUptoCard : Claim7 := { stood := { row := changeCountsUptoRow, standIns := [], harness := (true, "76dbc0ec81597affbc61c1292b99ad009ca4d3bb65b9ba26df89f0960bf0e47e"), looks := false }, kinds := [], alts := [], laidByText := true, laidKinds := [.data], laidTests := true, laidLooks := .later }
def ChangeCountsUptoCardSaid : Prop := Claim7.holds Tryd.pinned (.plain (OpenSpec.upto changeCountsSpec)) changeCountsUptoCard

/-- THE SECOND FORM's CARD OF 'solventlaw36.HealthSteps'. -/
def healthStepsUptoCard : Claim7 := { stood := { row := healthStepsUptoRow, standIns := [], harness := (true, "76dbc0ec81597affbc61c1292b99ad009ca4d3bb65b9ba26df89f0960bf0e47e"), looks := false }, kinds := [], alts := [], laidByText := true, laidKinds := [.data], laidTests := true, laidLooks := .later }
def HealthStepsUptoCardSaid : Prop := Claim7.holds Tryd.pinned (.plain (OpenSpec.upto healthStepsSpec)) healthStepsUptoCard
end Rows
end Go.Proofs.YtaclmbbiegklcaaDoor
