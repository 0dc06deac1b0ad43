/-
  DERIVED. GIVEN WITH THE SEED: THE CARDS: each row of YtlppacfidfjmcaaDoorRows.lean that lists a variable, with what it lists TIED to the program's text (the seventh form; the later family's looks); each row that meets fmt, with fmt's text TOLD by the authors' own Lean function (tested against real Go, not proved from fmt's source: count such statements apart). THE CARD IS WHAT COUNTS. Prove the row's statement (the work); the ties are given (YtlppacfidfjmcaaDoorTie.lean); close each card by the builder's one call (the guide's Derived/Test/ToyasCard.lean, 'card_holds'). Laid BY PROGRAM, IN A SANDBOX (cutbox-door.mjs). By AI agents, Wed Nov 11 2026. No macro, syntax, notation, axiom, sorry.
-/
import Derived.Test.YtlppacfidfjmcaaDoorRows
import GoSem.ClaimSeven
namespace Go.Proofs.YtlppacfidfjmcaaDoor
namespace Rows

/-- THE TIED CARD OF 'laws.FnExactCtz'. -/
def fnExactCtzCard : Claim7 := { stood := { row := fnExactCtzRow, standIns := [], harness := (true, "62c862a707b53e536a96ffdb15ff8174b22a25e18626759fbd572a843d9a3679"), looks := false }, kinds := [], alts := [], laidByText := true, laidKinds := [.data], laidTests := true, laidLooks := .later }
def FnExactCtzCardSaid : Prop := Claim7.holds Tryd.pinned (.plain (OpenSpec.ofChange fnExactCtzSpec)) fnExactCtzCard

/-- THE SECOND FORM's CARD OF 'laws.FnExactCtz'. -/
def fnExactCtzUptoCard : Claim7 := { stood := { row := fnExactCtzUptoRow, standIns := [], harness := (true, "62c862a707b53e536a96ffdb15ff8174b22a25e18626759fbd572a843d9a3679"), looks := false }, kinds := [], alts := [], laidByText := true, laidKinds := [.data], laidTests := true, laidLooks := .later }
def FnExactCtzUptoCardSaid : Prop := Claim7.holds Tryd.pinned (.plain (OpenSpec.upto fnExactCtzSpec)) fnExactCtzUptoCard
end Rows
end Go.Proofs.YtlppacfidfjmcaaDoor
