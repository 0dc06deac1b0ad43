/-
  No cell of these rows narrows 'for every input' (looked for: loops, veiled, ifaces, maps, wideKeys, modest, calm, conditions, laid).
  DERIVED. THE GIVEN ROWS OF THIS SEAT. 6 by the template 'for every input the law returns true; each argument reads behind the call as it read before'; 0 by the template 'total and deterministic' (their statements: YtflecejioaokmaaTotals.lean).
  GIVEN WITH THE SEED: the statements are not yours to turn. If you find one false, say at which input.
  Laid BY PROGRAM, IN A SANDBOX (cutbox-rows.mjs): the forced cells as the released guide's own fill.sh prints them over the translation 5442f47df5ebe295… (all of the seat's roots in one cut). By AI agents, Wed Nov 11 2026. No macro, syntax, notation, axiom, sorry.
-/
import Derived.Test.YtflecejioaokmaaChecked
import GoSem.Claim
import GoSem.ClaimJoined
import GoSem.ClaimMapViews
import Derived.JoinedTies
import Derived.KernelRfl
namespace Go.Proofs.Ytflecejioaokmaa
/- THE CELL 'sum', in the pinned program and in every row, IS THE sha256 OF THE DUMP (.gsa) THAT YtflecejioaokmaaProg.lean LOADS. Nothing in Lean hashes anything: it is a label: what it is worth is what the hold of that sum in a sandbox is worth. -/
noncomputable def Try.pinned : Pinned := { name := "ytflecejioaokmaa", sum := "5442f47df5ebe29570aadc93f47215e7e371ad7ca62bd63e9ef22cd544842eb2", checked := Try.checked }
namespace Rows
def none {H : Type} : Left H := { results := [], args := [] }

/-- 'laws.FnPieces': WHATEVER THE INPUT: true; the input reads as it did. -/
def fnPiecesSpec : ChangeSpec := { name := "fnPieces", fn := fun _ => fun
  | [d] => { results := [.lit (.bool true)], args := [d] }
  | _ => none }
def fnPiecesRow : OpenClaim := { program := "ytflecejioaokmaa", sum := "5442f47df5ebe29570aadc93f47215e7e371ad7ca62bd63e9ef22cd544842eb2", func := "loop.example/g00472/laws.FnPieces", spec := "fnPieces", apart := false }
def FnPiecesSaid : Prop := fnPiecesRow.holds Try.pinned (OpenSpec.ofChange fnPiecesSpec)

/-- ITS FALSE NEIGHBOUR: 'it returns false'. Refute it at one input. -/
def fnPiecesWrong : ChangeSpec := { name := "fnPieces", fn := fun _ => fun
  | [d] => { results := [.lit (.bool false)], args := [d] }
  | _ => none }
def FnPiecesWrongFalsely : Prop := fnPiecesRow.holds Try.pinned (OpenSpec.ofChange fnPiecesWrong)

/-- 'laws.FnExactSections': WHATEVER THE INPUT: true; the input reads as it did. -/
def fnExactSectionsSpec : ChangeSpec := { name := "fnExactSections", fn := fun _ => fun
  | [d] => { results := [.lit (.bool true)], args := [d] }
  | _ => none }
def fnExactSectionsRow : OpenClaim := { program := "ytflecejioaokmaa", sum := "5442f47df5ebe29570aadc93f47215e7e371ad7ca62bd63e9ef22cd544842eb2", func := "loop.example/g00472/laws.FnExactSections", spec := "fnExactSections", apart := false }
def FnExactSectionsSaid : Prop := fnExactSectionsRow.holds Try.pinned (OpenSpec.ofChange fnExactSectionsSpec)

/-- ITS FALSE NEIGHBOUR: 'it returns false'. Refute it at one input. -/
def fnExactSectionsWrong : ChangeSpec := { name := "fnExactSections", fn := fun _ => fun
  | [d] => { results := [.lit (.bool false)], args := [d] }
  | _ => none }
def FnExactSectionsWrongFalsely : Prop := fnExactSectionsRow.holds Try.pinned (OpenSpec.ofChange fnExactSectionsWrong)

/-- 'laws.FnShape': WHATEVER THE INPUT: true; the input reads as it did. -/
def fnShapeSpec : ChangeSpec := { name := "fnShape", fn := fun _ => fun
  | [d] => { results := [.lit (.bool true)], args := [d] }
  | _ => none }
def fnShapeRow : OpenClaim := { program := "ytflecejioaokmaa", sum := "5442f47df5ebe29570aadc93f47215e7e371ad7ca62bd63e9ef22cd544842eb2", func := "loop.example/g00472/laws.FnShape", spec := "fnShape", recurses := true, apart := false }
def FnShapeSaid : Prop := fnShapeRow.holds Try.pinned (OpenSpec.ofChange fnShapeSpec)

/-- ITS FALSE NEIGHBOUR: 'it returns false'. Refute it at one input. -/
def fnShapeWrong : ChangeSpec := { name := "fnShape", fn := fun _ => fun
  | [d] => { results := [.lit (.bool false)], args := [d] }
  | _ => none }
def FnShapeWrongFalsely : Prop := fnShapeRow.holds Try.pinned (OpenSpec.ofChange fnShapeWrong)

/-- 'laws.FnExactInsOk': WHATEVER THE INPUT: true; the input reads as it did. -/
def fnExactInsOkSpec : ChangeSpec := { name := "fnExactInsOk", fn := fun _ => fun
  | [d] => { results := [.lit (.bool true)], args := [d] }
  | _ => none }
def fnExactInsOkRow : OpenClaim := { program := "ytflecejioaokmaa", sum := "5442f47df5ebe29570aadc93f47215e7e371ad7ca62bd63e9ef22cd544842eb2", func := "loop.example/g00472/laws.FnExactInsOk", spec := "fnExactInsOk", apart := false }
def FnExactInsOkSaid : Prop := fnExactInsOkRow.holds Try.pinned (OpenSpec.ofChange fnExactInsOkSpec)

/-- ITS FALSE NEIGHBOUR: 'it returns false'. Refute it at one input. -/
def fnExactInsOkWrong : ChangeSpec := { name := "fnExactInsOk", fn := fun _ => fun
  | [d] => { results := [.lit (.bool false)], args := [d] }
  | _ => none }
def FnExactInsOkWrongFalsely : Prop := fnExactInsOkRow.holds Try.pinned (OpenSpec.ofChange fnExactInsOkWrong)

/-- 'laws.FnExactBodyBytes': WHATEVER THE INPUT: true; the input reads as it did. -/
def fnExactBodyBytesSpec : ChangeSpec := { name := "fnExactBodyBytes", fn := fun _ => fun
  | [d] => { results := [.lit (.bool true)], args := [d] }
  | _ => none }
def fnExactBodyBytesRow : OpenClaim := { program := "ytflecejioaokmaa", sum := "5442f47df5ebe29570aadc93f47215e7e371ad7ca62bd63e9ef22cd544842eb2", func := "loop.example/g00472/laws.FnExactBodyBytes", spec := "fnExactBodyBytes", unfollowed := true, recurses := true, apart := false }
def FnExactBodyBytesSaid : Prop := fnExactBodyBytesRow.holds Try.pinned (OpenSpec.ofChange fnExactBodyBytesSpec)

/-- ITS FALSE NEIGHBOUR: 'it returns false'. Refute it at one input. -/
def fnExactBodyBytesWrong : ChangeSpec := { name := "fnExactBodyBytes", fn := fun _ => fun
  | [d] => { results := [.lit (.bool false)], args := [d] }
  | _ => none }
def FnExactBodyBytesWrongFalsely : Prop := fnExactBodyBytesRow.holds Try.pinned (OpenSpec.ofChange fnExactBodyBytesWrong)

/-- 'laws.FnExactSame': WHATEVER THE INPUT: true; the input reads as it did. -/
def fnExactSameSpec : ChangeSpec := { name := "fnExactSame", fn := fun _ => fun
  | [d1, d2] => { results := [.lit (.bool true)], args := [d1, d2] }
  | _ => none }
def fnExactSameRow : OpenClaim := { program := "ytflecejioaokmaa", sum := "5442f47df5ebe29570aadc93f47215e7e371ad7ca62bd63e9ef22cd544842eb2", func := "loop.example/g00472/laws.FnExactSame", spec := "fnExactSame", apart := false }
def FnExactSameSaid : Prop := fnExactSameRow.holds Try.pinned (OpenSpec.ofChange fnExactSameSpec)

/-- ITS FALSE NEIGHBOUR: 'it returns false'. Refute it at one input. -/
def fnExactSameWrong : ChangeSpec := { name := "fnExactSame", fn := fun _ => fun
  | [d1, d2] => { results := [.lit (.bool false)], args := [d1, d2] }
  | _ => none }
def FnExactSameWrongFalsely : Prop := fnExactSameRow.holds Try.pinned (OpenSpec.ofChange fnExactSameWrong)

/- THE SECOND FORM. 'bulk': how many values and letters a reading holds, each counted each time it is reached (what is shared counts as often as it is met; a slice's spare places count too). A statement '..UptoSaid' is the law's where the arguments, and the package variables that the reading takes, are together of bulk at most 1048576: NARROWER than '..Said'. Prove '..Said' where nothing that the law and all that it calls make is longer than what came in: it says more and counts as full. Else prove '..UptoSaid'. A law counts once. -/
mutual
def uptoBulk {H : Type} : DataW H → Nat
  | .lit (.string bytes) => bytes.length + 1
  | .lit _ => 1
  | .nil => 1
  | .ptr d => uptoBulk d + 1
  | .slice elems spare => uptoBulkAll elems + uptoBulkAll spare + 1
  | .agg parts => uptoBulkAll parts + 1
  | .iface _ d => uptoBulk d + 1
  | .map entries => uptoBulkEntries entries + 1
  | .held _ => 1
def uptoBulkAll {H : Type} : List (DataW H) → Nat
  | [] => 0
  | d :: r => uptoBulk d + uptoBulkAll r
def uptoBulkEntries {H : Type} : List (Lit × DataW H) → Nat
  | [] => 0
  | x :: r => uptoBulkEntry x + uptoBulkEntries r
def uptoBulkEntry {H : Type} : Lit × DataW H → Nat
  | (.string bytes, d) => bytes.length + uptoBulk d + 1
  | (_, d) => uptoBulk d + 1
 end
def uptoSmall : (H : Type) → List (DataW H) → Bool := fun _ ds => decide (uptoBulkAll ds ≤ 1048576)
def OpenSpec.upto (s : _root_.Go.ChangeSpec) : _root_.Go.OpenSpec := { _root_.Go.OpenSpec.ofChange s with cond := some uptoSmall }

/-- 'laws.FnPieces', WHERE WHAT IT READS IS OF BULK AT MOST 1048576: true; the input reads as it did. -/
def fnPiecesUptoRow : OpenClaim := { program := "ytflecejioaokmaa", sum := "5442f47df5ebe29570aadc93f47215e7e371ad7ca62bd63e9ef22cd544842eb2", func := "loop.example/g00472/laws.FnPieces", spec := "fnPieces", apart := false, narrowed := true }
def FnPiecesUptoSaid : Prop := fnPiecesUptoRow.holds Try.pinned (OpenSpec.upto fnPiecesSpec)

/-- 'laws.FnExactSections', WHERE WHAT IT READS IS OF BULK AT MOST 1048576: true; the input reads as it did. -/
def fnExactSectionsUptoRow : OpenClaim := { program := "ytflecejioaokmaa", sum := "5442f47df5ebe29570aadc93f47215e7e371ad7ca62bd63e9ef22cd544842eb2", func := "loop.example/g00472/laws.FnExactSections", spec := "fnExactSections", apart := false, narrowed := true }
def FnExactSectionsUptoSaid : Prop := fnExactSectionsUptoRow.holds Try.pinned (OpenSpec.upto fnExactSectionsSpec)

/-- 'laws.FnShape', WHERE WHAT IT READS IS OF BULK AT MOST 1048576: true; the input reads as it did. -/
def fnShapeUptoRow : OpenClaim := { program := "ytflecejioaokmaa", sum := "5442f47df5ebe29570aadc93f47215e7e371ad7ca62bd63e9ef22cd544842eb2", func := "loop.example/g00472/laws.FnShape", spec := "fnShape", recurses := true, apart := false, narrowed := true }
def FnShapeUptoSaid : Prop := fnShapeUptoRow.holds Try.pinned (OpenSpec.upto fnShapeSpec)

/-- 'laws.FnExactInsOk', WHERE WHAT IT READS IS OF BULK AT MOST 1048576: true; the input reads as it did. -/
def fnExactInsOkUptoRow : OpenClaim := { program := "ytflecejioaokmaa", sum := "5442f47df5ebe29570aadc93f47215e7e371ad7ca62bd63e9ef22cd544842eb2", func := "loop.example/g00472/laws.FnExactInsOk", spec := "fnExactInsOk", apart := false, narrowed := true }
def FnExactInsOkUptoSaid : Prop := fnExactInsOkUptoRow.holds Try.pinned (OpenSpec.upto fnExactInsOkSpec)

/-- 'laws.FnExactBodyBytes', WHERE WHAT IT READS IS OF BULK AT MOST 1048576: true; the input reads as it did. -/
def fnExactBodyBytesUptoRow : OpenClaim := { program := "ytflecejioaokmaa", sum := "5442f47df5ebe29570aadc93f47215e7e371ad7ca62bd63e9ef22cd544842eb2", func := "loop.example/g00472/laws.FnExactBodyBytes", spec := "fnExactBodyBytes", unfollowed := true, recurses := true, apart := false, narrowed := true }
def FnExactBodyBytesUptoSaid : Prop := fnExactBodyBytesUptoRow.holds Try.pinned (OpenSpec.upto fnExactBodyBytesSpec)

/-- 'laws.FnExactSame', WHERE WHAT IT READS IS OF BULK AT MOST 1048576: true; the input reads as it did. -/
def fnExactSameUptoRow : OpenClaim := { program := "ytflecejioaokmaa", sum := "5442f47df5ebe29570aadc93f47215e7e371ad7ca62bd63e9ef22cd544842eb2", func := "loop.example/g00472/laws.FnExactSame", spec := "fnExactSame", apart := false, narrowed := true }
def FnExactSameUptoSaid : Prop := fnExactSameUptoRow.holds Try.pinned (OpenSpec.upto fnExactSameSpec)

end Rows
end Go.Proofs.Ytflecejioaokmaa
