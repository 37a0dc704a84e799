/-
  DERIVED. GIVEN WITH THE SEED: THE CARDS: each row of YtcljokdiblnhiaaGreatDoorRows.lean that lists a variable, with what it lists TIED to the program's text (the seventh form; the later family's looks); each row that meets fmt, with fmt's text TOLD by the authors' own Lean function (tested against real Go, not proved from fmt's source: count such statements apart). THE CARD IS WHAT COUNTS. Prove the row's statement (the work); the ties are given (YtcljokdiblnhiaaGreatDoorTie.lean); close each card by the builder's one call (the guide's Derived/Test/ToyasCard.lean, 'card_holds'). Laid BY PROGRAM, IN A SANDBOX (cutbox-door.mjs). By AI agents, Wed Nov 11 2026. No macro, syntax, notation, axiom, sorry.
-/
import Derived.Test.YtcljokdiblnhiaaGreatDoorRows
import GoSem.ClaimSeven
namespace Go.Proofs.YtcljokdiblnhiaaGreatDoor
namespace Rows

/-- THE TIED CARD OF 'solventlaw39.ChangeMatchesSpec'. -/
def changeMatchesSpecCard : Claim7 := { stood := { row := changeMatchesSpecRow, standIns := [], harness := (true, "fc5ebc17e77dc45342a6ae620276028dd9a000ebfb16146cf18bd125137a4ec7"), looks := false }, kinds := [], alts := [], laidByText := true, laidKinds := [.data], laidTests := true, laidLooks := .later }
def ChangeMatchesSpecCardSaid : Prop := Claim7.holds Tryz.pinned (.plain (OpenSpec.ofChange changeMatchesSpecSpec)) changeMatchesSpecCard

/-- THE TIED CARD OF 'solventlaw39.ChangeProgresses'. -/
def changeProgressesCard : Claim7 := { stood := { row := changeProgressesRow, standIns := [], harness := (true, "fc5ebc17e77dc45342a6ae620276028dd9a000ebfb16146cf18bd125137a4ec7"), looks := false }, kinds := [], alts := [], laidByText := true, laidKinds := [.data], laidTests := true, laidLooks := .later }
def ChangeProgressesCardSaid : Prop := Claim7.holds Tryz.pinned (.plain (OpenSpec.ofChange changeProgressesSpec)) changeProgressesCard

/-- THE TIED CARD OF 'solventlaw39.ChangeKeepsContent'. -/
def changeKeepsContentCard : Claim7 := { stood := { row := changeKeepsContentRow, standIns := [], harness := (true, "fc5ebc17e77dc45342a6ae620276028dd9a000ebfb16146cf18bd125137a4ec7"), looks := false }, kinds := [], alts := [], laidByText := true, laidKinds := [.data], laidTests := true, laidLooks := .later }
def ChangeKeepsContentCardSaid : Prop := Claim7.holds Tryz.pinned (.plain (OpenSpec.ofChange changeKeepsContentSpec)) changeKeepsContentCard

/-- THE TIED CARD OF 'solventlaw38.HealDoneMatchesSpec'. -/
def healDoneMatchesSpecCard : Claim7 := { stood := { row := healDoneMatchesSpecRow, standIns := [], harness := (true, "fc5ebc17e77dc45342a6ae620276028dd9a000ebfb16146cf18bd125137a4ec7"), looks := false }, kinds := [], alts := [], laidByText := true, laidKinds := [.data], laidTests := true, laidLooks := .later }
def HealDoneMatchesSpecCardSaid : Prop := Claim7.holds Tryz.pinned (.plain (OpenSpec.ofChange healDoneMatchesSpecSpec)) healDoneMatchesSpecCard

/-- THE TIED CARD OF 'solventlaw38.HealTargetsAreFree'. -/
def healTargetsAreFreeCard : Claim7 := { stood := { row := healTargetsAreFreeRow, standIns := [], harness := (true, "fc5ebc17e77dc45342a6ae620276028dd9a000ebfb16146cf18bd125137a4ec7"), looks := false }, kinds := [], alts := [], laidByText := true, laidKinds := [.data], laidTests := true, laidLooks := .later }
def HealTargetsAreFreeCardSaid : Prop := Claim7.holds Tryz.pinned (.plain (OpenSpec.ofChange healTargetsAreFreeSpec)) healTargetsAreFreeCard

/-- THE TIED CARD OF 'solventlaw38.HealIsComplete'. -/
def healIsCompleteCard : Claim7 := { stood := { row := healIsCompleteRow, standIns := [], harness := (true, "fc5ebc17e77dc45342a6ae620276028dd9a000ebfb16146cf18bd125137a4ec7"), looks := false }, kinds := [], alts := [], laidByText := true, laidKinds := [.data], laidTests := true, laidLooks := .later }
def HealIsCompleteCardSaid : Prop := Claim7.holds Tryz.pinned (.plain (OpenSpec.ofChange healIsCompleteSpec)) healIsCompleteCard

/-- THE TIED CARD OF 'solventlaw38.HealBackBringsHome'. -/
def healBackBringsHomeCard : Claim7 := { stood := { row := healBackBringsHomeRow, standIns := [], harness := (true, "fc5ebc17e77dc45342a6ae620276028dd9a000ebfb16146cf18bd125137a4ec7"), looks := false }, kinds := [], alts := [], laidByText := true, laidKinds := [.data], laidTests := true, laidLooks := .later }
def HealBackBringsHomeCardSaid : Prop := Claim7.holds Tryz.pinned (.plain (OpenSpec.ofChange healBackBringsHomeSpec)) healBackBringsHomeCard

/-- THE TIED CARD OF 'solventlaw38.HealRebuilds'. -/
def healRebuildsCard : Claim7 := { stood := { row := healRebuildsRow, standIns := [], harness := (true, "fc5ebc17e77dc45342a6ae620276028dd9a000ebfb16146cf18bd125137a4ec7"), looks := false }, kinds := [], alts := [], laidByText := true, laidKinds := [.data], laidTests := true, laidLooks := .later }
def HealRebuildsCardSaid : Prop := Claim7.holds Tryz.pinned (.plain (OpenSpec.ofChange healRebuildsSpec)) healRebuildsCard

/-- THE SECOND FORM's CARD OF 'solventlaw39.ChangeMatchesSpec'. -/
def changeMatchesSpecUptoCard : Claim7 := { stood := { row := changeMatchesSpecUptoRow, standIns := [], harness := (true, "fc5ebc17e77dc45342a6ae620276028dd9a000ebfb16146cf18bd125137a4ec7"), looks := false }, kinds := [], alts := [], laidByText := true, laidKinds := [.data], laidTests := true, laidLooks := .later }
def ChangeMatchesSpecUptoCardSaid : Prop := Claim7.holds Tryz.pinned (.plain (OpenSpec.upto changeMatchesSpecSpec)) changeMatchesSpecUptoCard

/-- THE SECOND FORM's CARD OF 'solventlaw39.ChangeProgresses'. -/
def changeProgressesUptoCard : Claim7 := { stood := { row := changeProgressesUptoRow, standIns := [], harness := (true, "fc5ebc17e77dc45342a6ae620276028dd9a000ebfb16146cf18bd125137a4ec7"), looks := false }, kinds := [], alts := [], laidByText := true, laidKinds := [.data], laidTests := true, laidLooks := .later }
def ChangeProgressesUptoCardSaid : Prop := Claim7.holds Tryz.pinned (.plain (OpenSpec.upto changeProgressesSpec)) changeProgressesUptoCard

/-- THE SECOND FORM's CARD OF 'solventlaw39.ChangeKeepsContent'. -/
def changeKeepsContentUptoCard : Claim7 := { stood := { row := changeKeepsContentUptoRow, standIns := [], harness := (true, "fc5ebc17e77dc45342a6ae620276028dd9a000ebfb16146cf18bd125137a4ec7"), looks := false }, kinds := [], alts := [], laidByText := true, laidKinds := [.data], laidTests := true, laidLooks := .later }
def ChangeKeepsContentUptoCardSaid : Prop := Claim7.holds Tryz.pinned (.plain (OpenSpec.upto changeKeepsContentSpec)) changeKeepsContentUptoCard

/-- THE SECOND FORM's CARD OF 'solventlaw38.HealDoneMatchesSpec'. -/
def healDoneMatchesSpecUptoCard : Claim7 := { stood := { row := healDoneMatchesSpecUptoRow, standIns := [], harness := (true, "fc5ebc17e77dc45342a6ae620276028dd9a000ebfb16146cf18bd125137a4ec7"), looks := false }, kinds := [], alts := [], laidByText := true, laidKinds := [.data], laidTests := true, laidLooks := .later }
def HealDoneMatchesSpecUptoCardSaid : Prop := Claim7.holds Tryz.pinned (.plain (OpenSpec.upto healDoneMatchesSpecSpec)) healDoneMatchesSpecUptoCard

/-- THE SECOND FORM's CARD OF 'solventlaw38.HealTargetsAreFree'. -/
def healTargetsAreFreeUptoCard : Claim7 := { stood := { row := healTargetsAreFreeUptoRow, standIns := [], harness := (true, "fc5ebc17e77dc45342a6ae620276028dd9a000ebfb16146cf18bd125137a4ec7"), looks := false }, kinds := [], alts := [], laidByText := true, laidKinds := [.data], laidTests := true, laidLooks := .later }
def HealTargetsAreFreeUptoCardSaid : Prop := Claim7.holds Tryz.pinned (.plain (OpenSpec.upto healTargetsAreFreeSpec)) healTargetsAreFreeUptoCard

/-- THE SECOND FORM's CARD OF 'solventlaw38.HealIsComplete'. -/
def healIsCompleteUptoCard : Claim7 := { stood := { row := healIsCompleteUptoRow, standIns := [], harness := (true, "fc5ebc17e77dc45342a6ae620276028dd9a000ebfb16146cf18bd125137a4ec7"), looks := false }, kinds := [], alts := [], laidByText := true, laidKinds := [.data], laidTests := true, laidLooks := .later }
def HealIsCompleteUptoCardSaid : Prop := Claim7.holds Tryz.pinned (.plain (OpenSpec.upto healIsCompleteSpec)) healIsCompleteUptoCard

/-- THE SECOND FORM's CARD OF 'solventlaw38.HealBackBringsHome'. -/
def healBackBringsHomeUptoCard : Claim7 := { stood := { row := healBackBringsHomeUptoRow, standIns := [], harness := (true, "fc5ebc17e77dc45342a6ae620276028dd9a000ebfb16146cf18bd125137a4ec7"), looks := false }, kinds := [], alts := [], laidByText := true, laidKinds := [.data], laidTests := true, laidLooks := .later }
def HealBackBringsHomeUptoCardSaid : Prop := Claim7.holds Tryz.pinned (.plain (OpenSpec.upto healBackBringsHomeSpec)) healBackBringsHomeUptoCard

/-- THE SECOND FORM's CARD OF 'solventlaw38.HealRebuilds'. -/
def healRebuildsUptoCard : Claim7 := { stood := { row := healRebuildsUptoRow, standIns := [], harness := (true, "fc5ebc17e77dc45342a6ae620276028dd9a000ebfb16146cf18bd125137a4ec7"), looks := false }, kinds := [], alts := [], laidByText := true, laidKinds := [.data], laidTests := true, laidLooks := .later }
def HealRebuildsUptoCardSaid : Prop := Claim7.holds Tryz.pinned (.plain (OpenSpec.upto healRebuildsSpec)) healRebuildsUptoCard
end Rows
end Go.Proofs.YtcljokdiblnhiaaGreatDoor
