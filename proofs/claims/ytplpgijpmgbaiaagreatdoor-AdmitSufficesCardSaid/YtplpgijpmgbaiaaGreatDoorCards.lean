/-
  DERIVED. GIVEN WITH THE SEED: THE CARDS: each row of YtplpgijpmgbaiaaGreatDoorRows.lean that lists a variable, with what it lists TIED to the program's text (the seventh form; the later family's looks); each row that meets fmt, with fmt's text TOLD by the authors' own Lean function (tested against real Go, not proved from fmt's source: count such statements apart). THE CARD IS WHAT COUNTS. Prove the row's statement (the work); the ties are given (YtplpgijpmgbaiaaGreatDoorTie.lean); close each card by the builder's one call (the guide's Derived/Test/ToyasCard.lean, 'card_holds'). Laid BY PROGRAM, IN A SANDBOX (cutbox-door.mjs). By AI agents, Wed Nov 11 2026. No macro, syntax, notation, axiom, sorry.
-/
import Derived.Test.YtplpgijpmgbaiaaGreatDoorRows
import GoSem.ClaimSeven
namespace Go.Proofs.YtplpgijpmgbaiaaGreatDoor
namespace Rows

/-- THE TIED CARD OF 'solventlaw31.AdmitRoomMatchesSpec'. -/
def admitRoomMatchesSpecCard : Claim7 := { stood := { row := admitRoomMatchesSpecRow, standIns := [], harness := (true, "ecb6502c53172065591cf9cac13e13238e190f45ed7a966f702ae0cd906dbeb5"), looks := false }, kinds := [], alts := [], laidByText := true, laidKinds := [.data], laidTests := true, laidLooks := .later }
def AdmitRoomMatchesSpecCardSaid : Prop := Claim7.holds Tryz.pinned (.plain (OpenSpec.ofChange admitRoomMatchesSpecSpec)) admitRoomMatchesSpecCard

/-- THE TIED CARD OF 'solventlaw31.AdmitRoomIsExact'. -/
def admitRoomIsExactCard : Claim7 := { stood := { row := admitRoomIsExactRow, standIns := [], harness := (true, "ecb6502c53172065591cf9cac13e13238e190f45ed7a966f702ae0cd906dbeb5"), looks := false }, kinds := [], alts := [], laidByText := true, laidKinds := [.data], laidTests := true, laidLooks := .later }
def AdmitRoomIsExactCardSaid : Prop := Claim7.holds Tryz.pinned (.plain (OpenSpec.ofChange admitRoomIsExactSpec)) admitRoomIsExactCard

/-- THE TIED CARD OF 'solventlaw31.AdmitOrderIsIrrelevant'. -/
def admitOrderIsIrrelevantCard : Claim7 := { stood := { row := admitOrderIsIrrelevantRow, standIns := [], harness := (true, "ecb6502c53172065591cf9cac13e13238e190f45ed7a966f702ae0cd906dbeb5"), looks := false }, kinds := [], alts := [], laidByText := true, laidKinds := [.data], laidTests := true, laidLooks := .later }
def AdmitOrderIsIrrelevantCardSaid : Prop := Claim7.holds Tryz.pinned (.plain (OpenSpec.ofChange admitOrderIsIrrelevantSpec)) admitOrderIsIrrelevantCard

/-- THE TIED CARD OF 'solventlaw31.AdmitIsMonotone'. -/
def admitIsMonotoneCard : Claim7 := { stood := { row := admitIsMonotoneRow, standIns := [], harness := (true, "ecb6502c53172065591cf9cac13e13238e190f45ed7a966f702ae0cd906dbeb5"), looks := false }, kinds := [], alts := [], laidByText := true, laidKinds := [.data], laidTests := true, laidLooks := .later }
def AdmitIsMonotoneCardSaid : Prop := Claim7.holds Tryz.pinned (.plain (OpenSpec.ofChange admitIsMonotoneSpec)) admitIsMonotoneCard

/-- THE TIED CARD OF 'solventlaw31.AdmitSuffices'. -/
def admitSufficesCard : Claim7 := { stood := { row := admitSufficesRow, standIns := [], harness := (true, "ecb6502c53172065591cf9cac13e13238e190f45ed7a966f702ae0cd906dbeb5"), looks := false }, kinds := [], alts := [], laidByText := true, laidKinds := [.data], laidTests := true, laidLooks := .later }
def AdmitSufficesCardSaid : Prop := Claim7.holds Tryz.pinned (.plain (OpenSpec.ofChange admitSufficesSpec)) admitSufficesCard

/-- THE TIED CARD OF 'solventlaw39.ChangeProgresses'. -/
def changeProgressesCard : Claim7 := { stood := { row := changeProgressesRow, standIns := [], harness := (true, "ecb6502c53172065591cf9cac13e13238e190f45ed7a966f702ae0cd906dbeb5"), looks := false }, kinds := [], alts := [], laidByText := true, laidKinds := [.data], laidTests := true, laidLooks := .later }
def ChangeProgressesCardSaid : Prop := Claim7.holds Tryz.pinned (.plain (OpenSpec.ofChange changeProgressesSpec)) changeProgressesCard

/-- THE TIED CARD OF 'solventlaw40.ScrubStateMatchesSpec'. -/
def scrubStateMatchesSpecCard : Claim7 := { stood := { row := scrubStateMatchesSpecRow, standIns := [], harness := (true, "ecb6502c53172065591cf9cac13e13238e190f45ed7a966f702ae0cd906dbeb5"), looks := false }, kinds := [], alts := [], laidByText := true, laidKinds := [.data], laidTests := true, laidLooks := .later }
def ScrubStateMatchesSpecCardSaid : Prop := Claim7.holds Tryz.pinned (.plain (OpenSpec.ofChange scrubStateMatchesSpecSpec)) scrubStateMatchesSpecCard

/-- THE TIED CARD OF 'solventlaw40.ScrubMatchesSpec'. -/
def scrubMatchesSpecCard : Claim7 := { stood := { row := scrubMatchesSpecRow, standIns := [], harness := (true, "ecb6502c53172065591cf9cac13e13238e190f45ed7a966f702ae0cd906dbeb5"), looks := false }, kinds := [], alts := [], laidByText := true, laidKinds := [.data], laidTests := true, laidLooks := .later }
def ScrubMatchesSpecCardSaid : Prop := Claim7.holds Tryz.pinned (.plain (OpenSpec.ofChange scrubMatchesSpecSpec)) scrubMatchesSpecCard

/-- THE TIED CARD OF 'solventlaw40.ScrubClean'. -/
def scrubCleanCard : Claim7 := { stood := { row := scrubCleanRow, standIns := [], harness := (true, "ecb6502c53172065591cf9cac13e13238e190f45ed7a966f702ae0cd906dbeb5"), looks := false }, kinds := [], alts := [], laidByText := true, laidKinds := [.data], laidTests := true, laidLooks := .later }
def ScrubCleanCardSaid : Prop := Claim7.holds Tryz.pinned (.plain (OpenSpec.ofChange scrubCleanSpec)) scrubCleanCard

/-- THE TIED CARD OF 'solventlaw40.ScrubRepairs'. -/
def scrubRepairsCard : Claim7 := { stood := { row := scrubRepairsRow, standIns := [], harness := (true, "ecb6502c53172065591cf9cac13e13238e190f45ed7a966f702ae0cd906dbeb5"), looks := false }, kinds := [], alts := [], laidByText := true, laidKinds := [.data], laidTests := true, laidLooks := .later }
def ScrubRepairsCardSaid : Prop := Claim7.holds Tryz.pinned (.plain (OpenSpec.ofChange scrubRepairsSpec)) scrubRepairsCard

/-- THE TIED CARD OF 'solventlaw40.ScrubLocates'. -/
def scrubLocatesCard : Claim7 := { stood := { row := scrubLocatesRow, standIns := [], harness := (true, "ecb6502c53172065591cf9cac13e13238e190f45ed7a966f702ae0cd906dbeb5"), looks := false }, kinds := [], alts := [], laidByText := true, laidKinds := [.data], laidTests := true, laidLooks := .later }
def ScrubLocatesCardSaid : Prop := Claim7.holds Tryz.pinned (.plain (OpenSpec.ofChange scrubLocatesSpec)) scrubLocatesCard

/-- THE TIED CARD OF 'solventlaw40.ScrubLoses'. -/
def scrubLosesCard : Claim7 := { stood := { row := scrubLosesRow, standIns := [], harness := (true, "ecb6502c53172065591cf9cac13e13238e190f45ed7a966f702ae0cd906dbeb5"), looks := false }, kinds := [], alts := [], laidByText := true, laidKinds := [.data], laidTests := true, laidLooks := .later }
def ScrubLosesCardSaid : Prop := Claim7.holds Tryz.pinned (.plain (OpenSpec.ofChange scrubLosesSpec)) scrubLosesCard

/-- THE SECOND FORM's CARD OF 'solventlaw31.AdmitRoomMatchesSpec'. -/
def admitRoomMatchesSpecUptoCard : Claim7 := { stood := { row := admitRoomMatchesSpecUptoRow, standIns := [], harness := (true, "ecb6502c53172065591cf9cac13e13238e190f45ed7a966f702ae0cd906dbeb5"), looks := false }, kinds := [], alts := [], laidByText := true, laidKinds := [.data], laidTests := true, laidLooks := .later }
def AdmitRoomMatchesSpecUptoCardSaid : Prop := Claim7.holds Tryz.pinned (.plain (OpenSpec.upto admitRoomMatchesSpecSpec)) admitRoomMatchesSpecUptoCard

/-- THE SECOND FORM's CARD OF 'solventlaw31.AdmitRoomIsExact'. -/
def admitRoomIsExactUptoCard : Claim7 := { stood := { row := admitRoomIsExactUptoRow, standIns := [], harness := (true, "ecb6502c53172065591cf9cac13e13238e190f45ed7a966f702ae0cd906dbeb5"), looks := false }, kinds := [], alts := [], laidByText := true, laidKinds := [.data], laidTests := true, laidLooks := .later }
def AdmitRoomIsExactUptoCardSaid : Prop := Claim7.holds Tryz.pinned (.plain (OpenSpec.upto admitRoomIsExactSpec)) admitRoomIsExactUptoCard

/-- THE SECOND FORM's CARD OF 'solventlaw31.AdmitOrderIsIrrelevant'. -/
def admitOrderIsIrrelevantUptoCard : Claim7 := { stood := { row := admitOrderIsIrrelevantUptoRow, standIns := [], harness := (true, "ecb6502c53172065591cf9cac13e13238e190f45ed7a966f702ae0cd906dbeb5"), looks := false }, kinds := [], alts := [], laidByText := true, laidKinds := [.data], laidTests := true, laidLooks := .later }
def AdmitOrderIsIrrelevantUptoCardSaid : Prop := Claim7.holds Tryz.pinned (.plain (OpenSpec.upto admitOrderIsIrrelevantSpec)) admitOrderIsIrrelevantUptoCard

/-- THE SECOND FORM's CARD OF 'solventlaw31.AdmitIsMonotone'. -/
def admitIsMonotoneUptoCard : Claim7 := { stood := { row := admitIsMonotoneUptoRow, standIns := [], harness := (true, "ecb6502c53172065591cf9cac13e13238e190f45ed7a966f702ae0cd906dbeb5"), looks := false }, kinds := [], alts := [], laidByText := true, laidKinds := [.data], laidTests := true, laidLooks := .later }
def AdmitIsMonotoneUptoCardSaid : Prop := Claim7.holds Tryz.pinned (.plain (OpenSpec.upto admitIsMonotoneSpec)) admitIsMonotoneUptoCard

/-- THE SECOND FORM's CARD OF 'solventlaw31.AdmitSuffices'. -/
def admitSufficesUptoCard : Claim7 := { stood := { row := admitSufficesUptoRow, standIns := [], harness := (true, "ecb6502c53172065591cf9cac13e13238e190f45ed7a966f702ae0cd906dbeb5"), looks := false }, kinds := [], alts := [], laidByText := true, laidKinds := [.data], laidTests := true, laidLooks := .later }
def AdmitSufficesUptoCardSaid : Prop := Claim7.holds Tryz.pinned (.plain (OpenSpec.upto admitSufficesSpec)) admitSufficesUptoCard

/-- THE SECOND FORM's CARD OF 'solventlaw39.ChangeProgresses'. -/
def changeProgressesUptoCard : Claim7 := { stood := { row := changeProgressesUptoRow, standIns := [], harness := (true, "ecb6502c53172065591cf9cac13e13238e190f45ed7a966f702ae0cd906dbeb5"), looks := false }, kinds := [], alts := [], laidByText := true, laidKinds := [.data], laidTests := true, laidLooks := .later }
def ChangeProgressesUptoCardSaid : Prop := Claim7.holds Tryz.pinned (.plain (OpenSpec.upto changeProgressesSpec)) changeProgressesUptoCard

/-- THE SECOND FORM's CARD OF 'solventlaw40.ScrubStateMatchesSpec'. -/
def scrubStateMatchesSpecUptoCard : Claim7 := { stood := { row := scrubStateMatchesSpecUptoRow, standIns := [], harness := (true, "ecb6502c53172065591cf9cac13e13238e190f45ed7a966f702ae0cd906dbeb5"), looks := false }, kinds := [], alts := [], laidByText := true, laidKinds := [.data], laidTests := true, laidLooks := .later }
def ScrubStateMatchesSpecUptoCardSaid : Prop := Claim7.holds Tryz.pinned (.plain (OpenSpec.upto scrubStateMatchesSpecSpec)) scrubStateMatchesSpecUptoCard

/-- THE SECOND FORM's CARD OF 'solventlaw40.ScrubMatchesSpec'. -/
def scrubMatchesSpecUptoCard : Claim7 := { stood := { row := scrubMatchesSpecUptoRow, standIns := [], harness := (true, "ecb6502c53172065591cf9cac13e13238e190f45ed7a966f702ae0cd906dbeb5"), looks := false }, kinds := [], alts := [], laidByText := true, laidKinds := [.data], laidTests := true, laidLooks := .later }
def ScrubMatchesSpecUptoCardSaid : Prop := Claim7.holds Tryz.pinned (.plain (OpenSpec.upto scrubMatchesSpecSpec)) scrubMatchesSpecUptoCard

/-- THE SECOND FORM's CARD OF 'solventlaw40.ScrubClean'. -/
def scrubCleanUptoCard : Claim7 := { stood := { row := scrubCleanUptoRow, standIns := [], harness := (true, "ecb6502c53172065591cf9cac13e13238e190f45ed7a966f702ae0cd906dbeb5"), looks := false }, kinds := [], alts := [], laidByText := true, laidKinds := [.data], laidTests := true, laidLooks := .later }
def ScrubCleanUptoCardSaid : Prop := Claim7.holds Tryz.pinned (.plain (OpenSpec.upto scrubCleanSpec)) scrubCleanUptoCard

/-- THE SECOND FORM's CARD OF 'solventlaw40.ScrubRepairs'. -/
def scrubRepairsUptoCard : Claim7 := { stood := { row := scrubRepairsUptoRow, standIns := [], harness := (true, "ecb6502c53172065591cf9cac13e13238e190f45ed7a966f702ae0cd906dbeb5"), looks := false }, kinds := [], alts := [], laidByText := true, laidKinds := [.data], laidTests := true, laidLooks := .later }
def ScrubRepairsUptoCardSaid : Prop := Claim7.holds Tryz.pinned (.plain (OpenSpec.upto scrubRepairsSpec)) scrubRepairsUptoCard

/-- THE SECOND FORM's CARD OF 'solventlaw40.ScrubLocates'. -/
def scrubLocatesUptoCard : Claim7 := { stood := { row := scrubLocatesUptoRow, standIns := [], harness := (true, "ecb6502c53172065591cf9cac13e13238e190f45ed7a966f702ae0cd906dbeb5"), looks := false }, kinds := [], alts := [], laidByText := true, laidKinds := [.data], laidTests := true, laidLooks := .later }
def ScrubLocatesUptoCardSaid : Prop := Claim7.holds Tryz.pinned (.plain (OpenSpec.upto scrubLocatesSpec)) scrubLocatesUptoCard

/-- THE SECOND FORM's CARD OF 'solventlaw40.ScrubLoses'. -/
def scrubLosesUptoCard : Claim7 := { stood := { row := scrubLosesUptoRow, standIns := [], harness := (true, "ecb6502c53172065591cf9cac13e13238e190f45ed7a966f702ae0cd906dbeb5"), looks := false }, kinds := [], alts := [], laidByText := true, laidKinds := [.data], laidTests := true, laidLooks := .later }
def ScrubLosesUptoCardSaid : Prop := Claim7.holds Tryz.pinned (.plain (OpenSpec.upto scrubLosesSpec)) scrubLosesUptoCard
end Rows
end Go.Proofs.YtplpgijpmgbaiaaGreatDoor
