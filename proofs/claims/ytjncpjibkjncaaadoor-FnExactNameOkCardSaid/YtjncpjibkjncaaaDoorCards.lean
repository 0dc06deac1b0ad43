/-
  DERIVED. GIVEN WITH THE SEED: THE CARDS: each row of YtjncpjibkjncaaaDoorRows.lean that lists a variable, with what it lists TIED to the program's text (the seventh form; the later family's looks); each row that meets fmt, with fmt's text TOLD by the authors' own Lean function (tested against real Go, not proved from fmt's source: count such statements apart). THE CARD IS WHAT COUNTS. Prove the row's statement (the work); the ties are given (YtjncpjibkjncaaaDoorTie.lean); close each card by the builder's one call (the guide's Derived/Test/ToyasCard.lean, 'card_holds'). Laid BY PROGRAM, IN A SANDBOX (cutbox-door.mjs). By AI agents, Wed Nov 11 2026. No macro, syntax, notation, axiom, sorry.
-/
import Derived.Test.YtjncpjibkjncaaaDoorRows
import GoSem.ClaimSeven
namespace Go.Proofs.YtjncpjibkjncaaaDoor
namespace Rows

/-- THE TIED CARD OF 'laws.FnExactTextNum'. -/
def fnExactTextNumCard : Claim7 := { stood := { row := fnExactTextNumRow, standIns := [], harness := (true, "79e10fc8d1d1e4af912f6def2ba7e23f615c6b6e04f45e96e5edc6290cc9466a"), looks := true }, kinds := [], alts := [], laidByText := true, laidKinds := [.data, .data, .data, .sentinel, .sentinel], laidTests := true, laidLooks := .later }
def FnExactTextNumCardSaid : Prop := Claim7.holds Tryd.pinned (.plain (OpenSpec.ofChange fnExactTextNumSpec)) fnExactTextNumCard

/-- THE TIED CARD OF 'laws.FnNumText'. -/
def fnNumTextCard : Claim7 := { stood := { row := fnNumTextRow, standIns := [], harness := (true, "79e10fc8d1d1e4af912f6def2ba7e23f615c6b6e04f45e96e5edc6290cc9466a"), looks := true }, kinds := [], alts := [], laidByText := true, laidKinds := [.data, .data, .data, .sentinel, .sentinel], laidTests := true, laidLooks := .later }
def FnNumTextCardSaid : Prop := Claim7.holds Tryd.pinned (.plain (OpenSpec.ofChange fnNumTextSpec)) fnNumTextCard

/-- THE TIED CARD OF 'laws.FnExactUtfOk'. -/
def fnExactUtfOkCard : Claim7 := { stood := { row := fnExactUtfOkRow, standIns := [], harness := (true, "79e10fc8d1d1e4af912f6def2ba7e23f615c6b6e04f45e96e5edc6290cc9466a"), looks := true }, kinds := [], alts := [], laidByText := true, laidKinds := [.data, .pinned], laidTests := true, laidLooks := .later }
def FnExactUtfOkCardSaid : Prop := Claim7.holds Tryd.pinned (.plain (OpenSpec.ofChange fnExactUtfOkSpec)) fnExactUtfOkCard

/-- THE TIED CARD OF 'laws.FnExactOpName'. -/
def fnExactOpNameCard : Claim7 := { stood := { row := fnExactOpNameRow, standIns := [], harness := (true, "79e10fc8d1d1e4af912f6def2ba7e23f615c6b6e04f45e96e5edc6290cc9466a"), looks := true }, kinds := [], alts := [], laidByText := true, laidKinds := [.listed, .data], laidTests := true, laidLooks := .later }
def FnExactOpNameCardSaid : Prop := Claim7.holds Tryd.pinned (.plain (OpenSpec.ofChange fnExactOpNameSpec)) fnExactOpNameCard

/-- THE TIED CARD OF 'laws.FnExactNameOp'. -/
def fnExactNameOpCard : Claim7 := { stood := { row := fnExactNameOpRow, standIns := [], harness := (true, "79e10fc8d1d1e4af912f6def2ba7e23f615c6b6e04f45e96e5edc6290cc9466a"), looks := true }, kinds := [], alts := [], laidByText := true, laidKinds := [.listed, .data], laidTests := true, laidLooks := .later }
def FnExactNameOpCardSaid : Prop := Claim7.holds Tryd.pinned (.plain (OpenSpec.ofChange fnExactNameOpSpec)) fnExactNameOpCard

/-- THE TIED CARD OF 'laws.FnOps'. -/
def fnOpsCard : Claim7 := { stood := { row := fnOpsRow, standIns := [], harness := (true, "79e10fc8d1d1e4af912f6def2ba7e23f615c6b6e04f45e96e5edc6290cc9466a"), looks := true }, kinds := [], alts := [], laidByText := true, laidKinds := [.listed, .data], laidTests := true, laidLooks := .later }
def FnOpsCardSaid : Prop := Claim7.holds Tryd.pinned (.plain (OpenSpec.ofChange fnOpsSpec)) fnOpsCard

/-- THE TIED CARD OF 'laws.FnExactNameOk'. -/
def fnExactNameOkCard : Claim7 := { stood := { row := fnExactNameOkRow, standIns := [], harness := (true, "79e10fc8d1d1e4af912f6def2ba7e23f615c6b6e04f45e96e5edc6290cc9466a"), looks := true }, kinds := [], alts := [], laidByText := true, laidKinds := [.listed, .data], laidTests := true, laidLooks := .later }
def FnExactNameOkCardSaid : Prop := Claim7.holds Tryd.pinned (.plain (OpenSpec.ofChange fnExactNameOkSpec)) fnExactNameOkCard

/-- THE SECOND FORM's CARD OF 'laws.FnExactTextNum'. -/
def fnExactTextNumUptoCard : Claim7 := { stood := { row := fnExactTextNumUptoRow, standIns := [], harness := (true, "79e10fc8d1d1e4af912f6def2ba7e23f615c6b6e04f45e96e5edc6290cc9466a"), looks := true }, kinds := [], alts := [], laidByText := true, laidKinds := [.data, .data, .data, .sentinel, .sentinel], laidTests := true, laidLooks := .later }
def FnExactTextNumUptoCardSaid : Prop := Claim7.holds Tryd.pinned (.plain (OpenSpec.upto fnExactTextNumSpec)) fnExactTextNumUptoCard

/-- THE SECOND FORM's CARD OF 'laws.FnNumText'. -/
def fnNumTextUptoCard : Claim7 := { stood := { row := fnNumTextUptoRow, standIns := [], harness := (true, "79e10fc8d1d1e4af912f6def2ba7e23f615c6b6e04f45e96e5edc6290cc9466a"), looks := true }, kinds := [], alts := [], laidByText := true, laidKinds := [.data, .data, .data, .sentinel, .sentinel], laidTests := true, laidLooks := .later }
def FnNumTextUptoCardSaid : Prop := Claim7.holds Tryd.pinned (.plain (OpenSpec.upto fnNumTextSpec)) fnNumTextUptoCard

/-- THE SECOND FORM's CARD OF 'laws.FnExactUtfOk'. -/
def fnExactUtfOkUptoCard : Claim7 := { stood := { row := fnExactUtfOkUptoRow, standIns := [], harness := (true, "79e10fc8d1d1e4af912f6def2ba7e23f615c6b6e04f45e96e5edc6290cc9466a"), looks := true }, kinds := [], alts := [], laidByText := true, laidKinds := [.data, .pinned], laidTests := true, laidLooks := .later }
def FnExactUtfOkUptoCardSaid : Prop := Claim7.holds Tryd.pinned (.plain (OpenSpec.upto fnExactUtfOkSpec)) fnExactUtfOkUptoCard

/-- THE SECOND FORM's CARD OF 'laws.FnExactOpName'. -/
def fnExactOpNameUptoCard : Claim7 := { stood := { row := fnExactOpNameUptoRow, standIns := [], harness := (true, "79e10fc8d1d1e4af912f6def2ba7e23f615c6b6e04f45e96e5edc6290cc9466a"), looks := true }, kinds := [], alts := [], laidByText := true, laidKinds := [.listed, .data], laidTests := true, laidLooks := .later }
def FnExactOpNameUptoCardSaid : Prop := Claim7.holds Tryd.pinned (.plain (OpenSpec.upto fnExactOpNameSpec)) fnExactOpNameUptoCard

/-- THE SECOND FORM's CARD OF 'laws.FnExactNameOp'. -/
def fnExactNameOpUptoCard : Claim7 := { stood := { row := fnExactNameOpUptoRow, standIns := [], harness := (true, "79e10fc8d1d1e4af912f6def2ba7e23f615c6b6e04f45e96e5edc6290cc9466a"), looks := true }, kinds := [], alts := [], laidByText := true, laidKinds := [.listed, .data], laidTests := true, laidLooks := .later }
def FnExactNameOpUptoCardSaid : Prop := Claim7.holds Tryd.pinned (.plain (OpenSpec.upto fnExactNameOpSpec)) fnExactNameOpUptoCard

/-- THE SECOND FORM's CARD OF 'laws.FnOps'. -/
def fnOpsUptoCard : Claim7 := { stood := { row := fnOpsUptoRow, standIns := [], harness := (true, "79e10fc8d1d1e4af912f6def2ba7e23f615c6b6e04f45e96e5edc6290cc9466a"), looks := true }, kinds := [], alts := [], laidByText := true, laidKinds := [.listed, .data], laidTests := true, laidLooks := .later }
def FnOpsUptoCardSaid : Prop := Claim7.holds Tryd.pinned (.plain (OpenSpec.upto fnOpsSpec)) fnOpsUptoCard

/-- THE SECOND FORM's CARD OF 'laws.FnExactNameOk'. -/
def fnExactNameOkUptoCard : Claim7 := { stood := { row := fnExactNameOkUptoRow, standIns := [], harness := (true, "79e10fc8d1d1e4af912f6def2ba7e23f615c6b6e04f45e96e5edc6290cc9466a"), looks := true }, kinds := [], alts := [], laidByText := true, laidKinds := [.listed, .data], laidTests := true, laidLooks := .later }
def FnExactNameOkUptoCardSaid : Prop := Claim7.holds Tryd.pinned (.plain (OpenSpec.upto fnExactNameOkSpec)) fnExactNameOkUptoCard
end Rows
end Go.Proofs.YtjncpjibkjncaaaDoor
