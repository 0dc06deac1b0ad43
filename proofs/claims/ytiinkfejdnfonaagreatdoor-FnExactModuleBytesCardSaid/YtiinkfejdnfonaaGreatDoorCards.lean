/-
  DERIVED. GIVEN WITH THE SEED: THE CARDS: each row of YtiinkfejdnfonaaGreatDoorRows.lean that lists a variable, with what it lists TIED to the program's text (the seventh form; the later family's looks); each row that meets fmt, with fmt's text TOLD by the authors' own Lean function (tested against real Go, not proved from fmt's source: count such statements apart). THE CARD IS WHAT COUNTS. Prove the row's statement (the work); the ties are given (YtiinkfejdnfonaaGreatDoorTie.lean); close each card by the builder's one call (the guide's Derived/Test/ToyasCard.lean, 'card_holds'). Laid BY PROGRAM, IN A SANDBOX (cutbox-door.mjs). By AI agents, Wed Nov 11 2026. No macro, syntax, notation, axiom, sorry.
-/
import Derived.Test.YtiinkfejdnfonaaGreatDoorRows
import GoSem.ClaimSeven
namespace Go.Proofs.YtiinkfejdnfonaaGreatDoor
namespace Rows

/-- THE TIED CARD OF 'laws.FnExactModuleBytes'. -/
def fnExactModuleBytesCard : Claim7 := { stood := { row := fnExactModuleBytesRow, standIns := [], harness := (true, "ded7ed9de928c1510186c153c8899c413de934a86f6ce17a7e0bf185d1d2057e"), looks := false }, kinds := [], alts := [], laidByText := true, laidKinds := [.data, .pinned], laidTests := true, laidLooks := .later }
def FnExactModuleBytesCardSaid : Prop := Claim7.holds Tryz.pinned (.plain (OpenSpec.ofChange fnExactModuleBytesSpec)) fnExactModuleBytesCard

/-- THE TIED CARD OF 'laws.FnExactSameModule'. -/
def fnExactSameModuleCard : Claim7 := { stood := { row := fnExactSameModuleRow, standIns := [], harness := (true, "ded7ed9de928c1510186c153c8899c413de934a86f6ce17a7e0bf185d1d2057e"), looks := false }, kinds := [], alts := [], laidByText := true, laidKinds := [.data, .pinned], laidTests := true, laidLooks := .later }
def FnExactSameModuleCardSaid : Prop := Claim7.holds Tryz.pinned (.plain (OpenSpec.ofChange fnExactSameModuleSpec)) fnExactSameModuleCard

/-- THE SECOND FORM's CARD OF 'laws.FnExactModuleBytes'. -/
def fnExactModuleBytesUptoCard : Claim7 := { stood := { row := fnExactModuleBytesUptoRow, standIns := [], harness := (true, "ded7ed9de928c1510186c153c8899c413de934a86f6ce17a7e0bf185d1d2057e"), looks := false }, kinds := [], alts := [], laidByText := true, laidKinds := [.data, .pinned], laidTests := true, laidLooks := .later }
def FnExactModuleBytesUptoCardSaid : Prop := Claim7.holds Tryz.pinned (.plain (OpenSpec.upto fnExactModuleBytesSpec)) fnExactModuleBytesUptoCard

/-- THE SECOND FORM's CARD OF 'laws.FnExactSameModule'. -/
def fnExactSameModuleUptoCard : Claim7 := { stood := { row := fnExactSameModuleUptoRow, standIns := [], harness := (true, "ded7ed9de928c1510186c153c8899c413de934a86f6ce17a7e0bf185d1d2057e"), looks := false }, kinds := [], alts := [], laidByText := true, laidKinds := [.data, .pinned], laidTests := true, laidLooks := .later }
def FnExactSameModuleUptoCardSaid : Prop := Claim7.holds Tryz.pinned (.plain (OpenSpec.upto fnExactSameModuleSpec)) fnExactSameModuleUptoCard
end Rows
end Go.Proofs.YtiinkfejdnfonaaGreatDoor
