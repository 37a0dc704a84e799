/-
  DERIVED. GIVEN WITH THE SEED: THE CARDS: each row of YtilpljehfcpjeaaGreatDoorRows.lean that lists a variable, with what it lists TIED to the program's text (the seventh form; the later family's looks); each row that meets fmt, with fmt's text TOLD by the authors' own Lean function (tested against real Go, not proved from fmt's source: count such statements apart). THE CARD IS WHAT COUNTS. Prove the row's statement (the work); the ties are given (YtilpljehfcpjeaaGreatDoorTie.lean); close each card by the builder's one call (the guide's Derived/Test/ToyasCard.lean, 'card_holds'). Laid BY PROGRAM, IN A SANDBOX (cutbox-door.mjs). By AI agents, Wed Nov 11 2026. No macro, syntax, notation, axiom, sorry.
-/
import Derived.Test.YtilpljehfcpjeaaGreatDoorRows
import GoSem.ClaimSeven
namespace Go.Proofs.YtilpljehfcpjeaaGreatDoor
namespace Rows

/-- THE TIED CARD OF 'solventlaw10.RepairPlanMatchesSpec'. -/
def repairPlanMatchesSpecCard : Claim7 := { stood := { row := repairPlanMatchesSpecRow, standIns := [], harness := (true, "ef53a7d8c9b39e5859471e938186896e1e35f46af05455082f7b4441372aa9f1"), looks := false }, kinds := [], alts := [], laidByText := true, laidKinds := [.data], laidTests := true, laidLooks := .later }
def RepairPlanMatchesSpecCardSaid : Prop := Claim7.holds Tryz.pinned (.plain (OpenSpec.ofChange repairPlanMatchesSpecSpec)) repairPlanMatchesSpecCard

/-- THE TIED CARD OF 'solventlaw10.RepairAllMatchesSpec'. -/
def repairAllMatchesSpecCard : Claim7 := { stood := { row := repairAllMatchesSpecRow, standIns := [], harness := (true, "ef53a7d8c9b39e5859471e938186896e1e35f46af05455082f7b4441372aa9f1"), looks := false }, kinds := [], alts := [], laidByText := true, laidKinds := [.data], laidTests := true, laidLooks := .later }
def RepairAllMatchesSpecCardSaid : Prop := Claim7.holds Tryz.pinned (.plain (OpenSpec.ofChange repairAllMatchesSpecSpec)) repairAllMatchesSpecCard

/-- THE TIED CARD OF 'solventlaw10.RepairFewest'. -/
def repairFewestCard : Claim7 := { stood := { row := repairFewestRow, standIns := [], harness := (true, "ef53a7d8c9b39e5859471e938186896e1e35f46af05455082f7b4441372aa9f1"), looks := false }, kinds := [], alts := [], laidByText := true, laidKinds := [.data], laidTests := true, laidLooks := .later }
def RepairFewestCardSaid : Prop := Claim7.holds Tryz.pinned (.plain (OpenSpec.ofChange repairFewestSpec)) repairFewestCard

/-- THE SECOND FORM's CARD OF 'solventlaw10.RepairPlanMatchesSpec'. -/
def repairPlanMatchesSpecUptoCard : Claim7 := { stood := { row := repairPlanMatchesSpecUptoRow, standIns := [], harness := (true, "ef53a7d8c9b39e5859471e938186896e1e35f46af05455082f7b4441372aa9f1"), looks := false }, kinds := [], alts := [], laidByText := true, laidKinds := [.data], laidTests := true, laidLooks := .later }
def RepairPlanMatchesSpecUptoCardSaid : Prop := Claim7.holds Tryz.pinned (.plain (OpenSpec.upto repairPlanMatchesSpecSpec)) repairPlanMatchesSpecUptoCard

/-- THE SECOND FORM's CARD OF 'solventlaw10.RepairAllMatchesSpec'. -/
def repairAllMatchesSpecUptoCard : Claim7 := { stood := { row := repairAllMatchesSpecUptoRow, standIns := [], harness := (true, "ef53a7d8c9b39e5859471e938186896e1e35f46af05455082f7b4441372aa9f1"), looks := false }, kinds := [], alts := [], laidByText := true, laidKinds := [.data], laidTests := true, laidLooks := .later }
def RepairAllMatchesSpecUptoCardSaid : Prop := Claim7.holds Tryz.pinned (.plain (OpenSpec.upto repairAllMatchesSpecSpec)) repairAllMatchesSpecUptoCard

/-- THE SECOND FORM's CARD OF 'solventlaw10.RepairFewest'. -/
def repairFewestUptoCard : Claim7 := { stood := { row := repairFewestUptoRow, standIns := [], harness := (true, "ef53a7d8c9b39e5859471e938186896e1e35f46af05455082f7b4441372aa9f1"), looks := false }, kinds := [], alts := [], laidByText := true, laidKinds := [.data], laidTests := true, laidLooks := .later }
def RepairFewestUptoCardSaid : Prop := Claim7.holds Tryz.pinned (.plain (OpenSpec.upto repairFewestSpec)) repairFewestUptoCard
end Rows
end Go.Proofs.YtilpljehfcpjeaaGreatDoor
