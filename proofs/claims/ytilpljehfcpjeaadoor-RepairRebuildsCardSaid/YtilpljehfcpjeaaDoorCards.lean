/-
  DERIVED. GIVEN WITH THE SEED: THE CARDS: each row of YtilpljehfcpjeaaDoorRows.lean that lists a variable, with what it lists TIED to the program's text (the seventh form; the later family's looks); each row that meets fmt, with fmt's text TOLD by the authors' own Lean function (tested against real Go, not proved from fmt's source: count such statements apart). THE CARD IS WHAT COUNTS. Prove the row's statement (the work); the ties are given (YtilpljehfcpjeaaDoorTie.lean); close each card by the builder's one call (the guide's Derived/Test/ToyasCard.lean, 'card_holds'). Laid BY PROGRAM, IN A SANDBOX (cutbox-door.mjs). By AI agents, Wed Nov 11 2026. No macro, syntax, notation, axiom, sorry.
-/
import Derived.Test.YtilpljehfcpjeaaDoorRows
import GoSem.ClaimSeven
namespace Go.Proofs.YtilpljehfcpjeaaDoor
namespace Rows

/-- THE TIED CARD OF 'solventlaw10.RepairApplyMatchesSpec'. -/
def repairApplyMatchesSpecCard : Claim7 := { stood := { row := repairApplyMatchesSpecRow, standIns := [], harness := (true, "c5ea390a769522de5d163917b4ada7acebbb720198561743195964f6c1370f2e"), looks := false }, kinds := [], alts := [], laidByText := true, laidKinds := [.data], laidTests := true, laidLooks := .later }
def RepairApplyMatchesSpecCardSaid : Prop := Claim7.holds Tryd.pinned (.plain (OpenSpec.ofChange repairApplyMatchesSpecSpec)) repairApplyMatchesSpecCard

/-- THE TIED CARD OF 'solventlaw10.RepairRebuilds'. -/
def repairRebuildsCard : Claim7 := { stood := { row := repairRebuildsRow, standIns := [], harness := (true, "c5ea390a769522de5d163917b4ada7acebbb720198561743195964f6c1370f2e"), looks := false }, kinds := [], alts := [], laidByText := true, laidKinds := [.data], laidTests := true, laidLooks := .later }
def RepairRebuildsCardSaid : Prop := Claim7.holds Tryd.pinned (.plain (OpenSpec.ofChange repairRebuildsSpec)) repairRebuildsCard

/-- THE TIED CARD OF 'solventlaw10.RepairReadsPresent'. -/
def repairReadsPresentCard : Claim7 := { stood := { row := repairReadsPresentRow, standIns := [], harness := (true, "c5ea390a769522de5d163917b4ada7acebbb720198561743195964f6c1370f2e"), looks := false }, kinds := [], alts := [], laidByText := true, laidKinds := [.data], laidTests := true, laidLooks := .later }
def RepairReadsPresentCardSaid : Prop := Claim7.holds Tryd.pinned (.plain (OpenSpec.ofChange repairReadsPresentSpec)) repairReadsPresentCard

/-- THE TIED CARD OF 'solventlaw10.RepairIgnoresItself'. -/
def repairIgnoresItselfCard : Claim7 := { stood := { row := repairIgnoresItselfRow, standIns := [], harness := (true, "c5ea390a769522de5d163917b4ada7acebbb720198561743195964f6c1370f2e"), looks := false }, kinds := [], alts := [], laidByText := true, laidKinds := [.data], laidTests := true, laidLooks := .later }
def RepairIgnoresItselfCardSaid : Prop := Claim7.holds Tryd.pinned (.plain (OpenSpec.ofChange repairIgnoresItselfSpec)) repairIgnoresItselfCard

/-- THE SECOND FORM's CARD OF 'solventlaw10.RepairApplyMatchesSpec'. -/
def repairApplyMatchesSpecUptoCard : Claim7 := { stood := { row := repairApplyMatchesSpecUptoRow, standIns := [], harness := (true, "c5ea390a769522de5d163917b4ada7acebbb720198561743195964f6c1370f2e"), looks := false }, kinds := [], alts := [], laidByText := true, laidKinds := [.data], laidTests := true, laidLooks := .later }
def RepairApplyMatchesSpecUptoCardSaid : Prop := Claim7.holds Tryd.pinned (.plain (OpenSpec.upto repairApplyMatchesSpecSpec)) repairApplyMatchesSpecUptoCard

/-- THE SECOND FORM's CARD OF 'solventlaw10.RepairRebuilds'. -/
def repairRebuildsUptoCard : Claim7 := { stood := { row := repairRebuildsUptoRow, standIns := [], harness := (true, "c5ea390a769522de5d163917b4ada7acebbb720198561743195964f6c1370f2e"), looks := false }, kinds := [], alts := [], laidByText := true, laidKinds := [.data], laidTests := true, laidLooks := .later }
def RepairRebuildsUptoCardSaid : Prop := Claim7.holds Tryd.pinned (.plain (OpenSpec.upto repairRebuildsSpec)) repairRebuildsUptoCard

/-- THE SECOND FORM's CARD OF 'solventlaw10.RepairReadsPresent'. -/
def repairReadsPresentUptoCard : Claim7 := { stood := { row := repairReadsPresentUptoRow, standIns := [], harness := (true, "c5ea390a769522de5d163917b4ada7acebbb720198561743195964f6c1370f2e"), looks := false }, kinds := [], alts := [], laidByText := true, laidKinds := [.data], laidTests := true, laidLooks := .later }
def RepairReadsPresentUptoCardSaid : Prop := Claim7.holds Tryd.pinned (.plain (OpenSpec.upto repairReadsPresentSpec)) repairReadsPresentUptoCard

/-- THE SECOND FORM's CARD OF 'solventlaw10.RepairIgnoresItself'. -/
def repairIgnoresItselfUptoCard : Claim7 := { stood := { row := repairIgnoresItselfUptoRow, standIns := [], harness := (true, "c5ea390a769522de5d163917b4ada7acebbb720198561743195964f6c1370f2e"), looks := false }, kinds := [], alts := [], laidByText := true, laidKinds := [.data], laidTests := true, laidLooks := .later }
def RepairIgnoresItselfUptoCardSaid : Prop := Claim7.holds Tryd.pinned (.plain (OpenSpec.upto repairIgnoresItselfSpec)) repairIgnoresItselfUptoCard
end Rows
end Go.Proofs.YtilpljehfcpjeaaDoor
