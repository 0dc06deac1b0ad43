/-
  DERIVED. GIVEN WITH THE SEED: THE CARDS: each row of YtiinkfejdnfonaaDoorRows.lean that lists a variable, with what it lists TIED to the program's text (the seventh form; the later family's looks); each row that meets fmt, with fmt's text TOLD by the authors' own Lean function (tested against real Go, not proved from fmt's source: count such statements apart). THE CARD IS WHAT COUNTS. Prove the row's statement (the work); the ties are given (YtiinkfejdnfonaaDoorTie.lean); close each card by the builder's one call (the guide's Derived/Test/ToyasCard.lean, 'card_holds'). Laid BY PROGRAM, IN A SANDBOX (cutbox-door.mjs). By AI agents, Wed Nov 11 2026. No macro, syntax, notation, axiom, sorry.
-/
import Derived.Test.YtiinkfejdnfonaaDoorRows
import GoSem.ClaimSeven
namespace Go.Proofs.YtiinkfejdnfonaaDoor
namespace Rows

/-- THE TIED CARD OF 'laws.FnExactBodyText'. -/
def fnExactBodyTextCard : Claim7 := { stood := { row := fnExactBodyTextRow, standIns := [], harness := (true, "c11382d85bf3dba83aefed9798d0df165a1fd65a0d32f26d93b56298d90ed134"), looks := true }, kinds := [], alts := [], laidByText := true, laidKinds := [.data, .data, .data, .listed, .data], laidTests := true, laidLooks := .later }
def FnExactBodyTextCardSaid : Prop := Claim7.holds Tryd.pinned (.plain (OpenSpec.ofChange fnExactBodyTextSpec)) fnExactBodyTextCard

/-- THE TIED CARD OF 'laws.FnExactTextBody'. -/
def fnExactTextBodyCard : Claim7 := { stood := { row := fnExactTextBodyRow, standIns := [], harness := (true, "c11382d85bf3dba83aefed9798d0df165a1fd65a0d32f26d93b56298d90ed134"), looks := true }, kinds := [], alts := [], laidByText := true, laidKinds := [.data, .data, .data, .data, .sentinel, .sentinel, .listed, .data, .pinned], laidTests := true, laidLooks := .later }
def FnExactTextBodyCardSaid : Prop := Claim7.holds Tryd.pinned (.plain (OpenSpec.ofChange fnExactTextBodySpec)) fnExactTextBodyCard

/-- THE TIED CARD OF 'laws.FnExactFormOk'. -/
def fnExactFormOkCard : Claim7 := { stood := { row := fnExactFormOkRow, standIns := [], harness := (true, "c11382d85bf3dba83aefed9798d0df165a1fd65a0d32f26d93b56298d90ed134"), looks := true }, kinds := [], alts := [], laidByText := true, laidKinds := [.data, .pinned], laidTests := true, laidLooks := .later }
def FnExactFormOkCardSaid : Prop := Claim7.holds Tryd.pinned (.plain (OpenSpec.ofChange fnExactFormOkSpec)) fnExactFormOkCard

/-- THE TIED CARD OF 'laws.FnExactSigOf'. -/
def fnExactSigOfCard : Claim7 := { stood := { row := fnExactSigOfRow, standIns := [], harness := (true, "c11382d85bf3dba83aefed9798d0df165a1fd65a0d32f26d93b56298d90ed134"), looks := true }, kinds := [], alts := [], laidByText := true, laidKinds := [.data, .pinned], laidTests := true, laidLooks := .later }
def FnExactSigOfCardSaid : Prop := Claim7.holds Tryd.pinned (.plain (OpenSpec.ofChange fnExactSigOfSpec)) fnExactSigOfCard

/-- THE SECOND FORM's CARD OF 'laws.FnExactBodyText'. -/
def fnExactBodyTextUptoCard : Claim7 := { stood := { row := fnExactBodyTextUptoRow, standIns := [], harness := (true, "c11382d85bf3dba83aefed9798d0df165a1fd65a0d32f26d93b56298d90ed134"), looks := true }, kinds := [], alts := [], laidByText := true, laidKinds := [.data, .data, .data, .listed, .data], laidTests := true, laidLooks := .later }
def FnExactBodyTextUptoCardSaid : Prop := Claim7.holds Tryd.pinned (.plain (OpenSpec.upto fnExactBodyTextSpec)) fnExactBodyTextUptoCard

/-- THE SECOND FORM's CARD OF 'laws.FnExactTextBody'. -/
def fnExactTextBodyUptoCard : Claim7 := { stood := { row := fnExactTextBodyUptoRow, standIns := [], harness := (true, "c11382d85bf3dba83aefed9798d0df165a1fd65a0d32f26d93b56298d90ed134"), looks := true }, kinds := [], alts := [], laidByText := true, laidKinds := [.data, .data, .data, .data, .sentinel, .sentinel, .listed, .data, .pinned], laidTests := true, laidLooks := .later }
def FnExactTextBodyUptoCardSaid : Prop := Claim7.holds Tryd.pinned (.plain (OpenSpec.upto fnExactTextBodySpec)) fnExactTextBodyUptoCard

/-- THE SECOND FORM's CARD OF 'laws.FnExactFormOk'. -/
def fnExactFormOkUptoCard : Claim7 := { stood := { row := fnExactFormOkUptoRow, standIns := [], harness := (true, "c11382d85bf3dba83aefed9798d0df165a1fd65a0d32f26d93b56298d90ed134"), looks := true }, kinds := [], alts := [], laidByText := true, laidKinds := [.data, .pinned], laidTests := true, laidLooks := .later }
def FnExactFormOkUptoCardSaid : Prop := Claim7.holds Tryd.pinned (.plain (OpenSpec.upto fnExactFormOkSpec)) fnExactFormOkUptoCard

/-- THE SECOND FORM's CARD OF 'laws.FnExactSigOf'. -/
def fnExactSigOfUptoCard : Claim7 := { stood := { row := fnExactSigOfUptoRow, standIns := [], harness := (true, "c11382d85bf3dba83aefed9798d0df165a1fd65a0d32f26d93b56298d90ed134"), looks := true }, kinds := [], alts := [], laidByText := true, laidKinds := [.data, .pinned], laidTests := true, laidLooks := .later }
def FnExactSigOfUptoCardSaid : Prop := Claim7.holds Tryd.pinned (.plain (OpenSpec.upto fnExactSigOfSpec)) fnExactSigOfUptoCard
end Rows
end Go.Proofs.YtiinkfejdnfonaaDoor
