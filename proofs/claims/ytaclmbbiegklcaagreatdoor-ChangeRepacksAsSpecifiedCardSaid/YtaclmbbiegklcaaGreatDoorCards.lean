/-
  DERIVED. GIVEN WITH THE SEED: THE CARDS: each row of YtaclmbbiegklcaaGreatDoorRows.lean that lists a variable, with what it lists TIED to the program's text (the seventh form; the later family's looks); each row that meets fmt, with fmt's text TOLD by the authors' own Lean function (tested against real Go, not proved from fmt's source: count such statements apart). THE CARD IS WHAT COUNTS. Prove the row's statement (the work); the ties are given (YtaclmbbiegklcaaGreatDoorTie.lean); close each card by the builder's one call (the guide's Derived/Test/ToyasCard.lean, 'card_holds'). Laid BY PROGRAM, IN A SANDBOX (cutbox-door.mjs). By AI agents, Wed Nov 11 2026. No macro, syntax, notation, axiom, sorry.
-/
import Derived.Test.YtaclmbbiegklcaaGreatDoorRows
import GoSem.ClaimSeven
namespace Go.Proofs.YtaclmbbiegklcaaGreatDoor
namespace Rows

/-- THE TIED CARD OF 'solventlaw30.ClassMatchesSpec'. -/
def classMatchesSpecCard : Claim7 := { stood := { row := classMatchesSpecRow, standIns := [], harness := (true, "b96975b240f2f9fb4fa3e1ab8797f1280883fe671db2daf407f71eb7c088ed56"), looks := false }, kinds := [], alts := [], laidByText := true, laidKinds := [.data], laidTests := true, laidLooks := .later }
def ClassMatchesSpecCardSaid : Prop := Claim7.holds Tryz.pinned (.plain (OpenSpec.ofChange classMatchesSpecSpec)) classMatchesSpecCard

/-- THE TIED CARD OF 'solventlaw36.HealthMatchesSpec'. -/
def healthMatchesSpecCard : Claim7 := { stood := { row := healthMatchesSpecRow, standIns := [], harness := (true, "b96975b240f2f9fb4fa3e1ab8797f1280883fe671db2daf407f71eb7c088ed56"), looks := false }, kinds := [], alts := [], laidByText := true, laidKinds := [.data], laidTests := true, laidLooks := .later }
def HealthMatchesSpecCardSaid : Prop := Claim7.holds Tryz.pinned (.plain (OpenSpec.ofChange healthMatchesSpecSpec)) healthMatchesSpecCard

/-- THE TIED CARD OF 'solventlaw39.ChangeRepacksAsSpecified'. -/
def changeRepacksAsSpecifiedCard : Claim7 := { stood := { row := changeRepacksAsSpecifiedRow, standIns := [], harness := (true, "b96975b240f2f9fb4fa3e1ab8797f1280883fe671db2daf407f71eb7c088ed56"), looks := false }, kinds := [], alts := [], laidByText := true, laidKinds := [.data], laidTests := true, laidLooks := .later }
def ChangeRepacksAsSpecifiedCardSaid : Prop := Claim7.holds Tryz.pinned (.plain (OpenSpec.ofChange changeRepacksAsSpecifiedSpec)) changeRepacksAsSpecifiedCard

/-- THE SECOND FORM's CARD OF 'solventlaw30.ClassMatchesSpec'. -/
def classMatchesSpecUptoCard : Claim7 := { stood := { row := classMatchesSpecUptoRow, standIns := [], harness := (true, "b96975b240f2f9fb4fa3e1ab8797f1280883fe671db2daf407f71eb7c088ed56"), looks := false }, kinds := [], alts := [], laidByText := true, laidKinds := [.data], laidTests := true, laidLooks := .later }
def ClassMatchesSpecUptoCardSaid : Prop := Claim7.holds Tryz.pinned (.plain (OpenSpec.upto classMatchesSpecSpec)) classMatchesSpecUptoCard

/-- THE SECOND FORM's CARD OF 'solventlaw36.HealthMatchesSpec'. -/
def healthMatchesSpecUptoCard : Claim7 := { stood := { row := healthMatchesSpecUptoRow, standIns := [], harness := (true, "b96975b240f2f9fb4fa3e1ab8797f1280883fe671db2daf407f71eb7c088ed56"), looks := false }, kinds := [], alts := [], laidByText := true, laidKinds := [.data], laidTests := true, laidLooks := .later }
def HealthMatchesSpecUptoCardSaid : Prop := Claim7.holds Tryz.pinned (.plain (OpenSpec.upto healthMatchesSpecSpec)) healthMatchesSpecUptoCard

/-- THE SECOND FORM's CARD OF 'solventlaw39.ChangeRepacksAsSpecified'. -/
def changeRepacksAsSpecifiedUptoCard : Claim7 := { stood := { row := changeRepacksAsSpecifiedUptoRow, standIns := [], harness := (true, "b96975b240f2f9fb4fa3e1ab8797f1280883fe671db2daf407f71eb7c088ed56"), looks := false }, kinds := [], alts := [], laidByText := true, laidKinds := [.data], laidTests := true, laidLooks := .later }
def ChangeRepacksAsSpecifiedUptoCardSaid : Prop := Claim7.holds Tryz.pinned (.plain (OpenSpec.upto changeRepacksAsSpecifiedSpec)) changeRepacksAsSpecifiedUptoCard
end Rows
end Go.Proofs.YtaclmbbiegklcaaGreatDoor
