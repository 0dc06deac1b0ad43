/-
  No cell of these rows narrows 'for every input' (looked for: loops, veiled, ifaces, maps, wideKeys, modest, calm, conditions, laid).
  DERIVED. THE GIVEN ROWS OF THIS SEAT. 12 by the template 'for every input the law returns true; each argument reads behind the call as it read before'; 0 by the template 'total and deterministic' (their statements: YtpnicmhgenbnmaaTotals.lean).
  GIVEN WITH THE SEED: the statements are not yours to turn. If you find one false, say at which input.
  Laid BY PROGRAM, IN A SANDBOX (cutbox-rows.mjs): the forced cells as the released guide's own fill.sh prints them over the translation 1948b729adef3186… (all of the seat's roots in one cut). By AI agents, Wed Nov 11 2026. No macro, syntax, notation, axiom, sorry.
-/
import Derived.Test.YtpnicmhgenbnmaaChecked
import GoSem.Claim
import GoSem.ClaimJoined
import GoSem.ClaimMapViews
import Derived.JoinedTies
import Derived.KernelRfl
namespace Go.Proofs.Ytpnicmhgenbnmaa
/- THE CELL 'sum', in the pinned program and in every row, IS THE sha256 OF THE DUMP (.gsa) THAT YtpnicmhgenbnmaaProg.lean LOADS. Nothing in Lean hashes anything: it is a label: what it is worth is what the hold of that sum in a sandbox is worth. -/
noncomputable def Try.pinned : Pinned := { name := "ytpnicmhgenbnmaa", sum := "1948b729adef3186f29ae23dabc87f1e6d051247aa4d587a356736ebd5fc11e8", checked := Try.checked }
namespace Rows
def none {H : Type} : Left H := { results := [], args := [] }

/-- 'laws.FnExactDivS': WHATEVER THE INPUT: true; the input reads as it did. -/
def fnExactDivSSpec : ChangeSpec := { name := "fnExactDivS", fn := fun _ => fun
  | [d1, d2] => { results := [.lit (.bool true)], args := [d1, d2] }
  | _ => none }
def fnExactDivSRow : OpenClaim := { program := "ytpnicmhgenbnmaa", sum := "1948b729adef3186f29ae23dabc87f1e6d051247aa4d587a356736ebd5fc11e8", func := "loop.example/g00472/laws.FnExactDivS", spec := "fnExactDivS", apart := false }
def FnExactDivSSaid : Prop := fnExactDivSRow.holds Try.pinned (OpenSpec.ofChange fnExactDivSSpec)

/-- ITS FALSE NEIGHBOUR: 'it returns false'. Refute it at one input. -/
def fnExactDivSWrong : ChangeSpec := { name := "fnExactDivS", fn := fun _ => fun
  | [d1, d2] => { results := [.lit (.bool false)], args := [d1, d2] }
  | _ => none }
def FnExactDivSWrongFalsely : Prop := fnExactDivSRow.holds Try.pinned (OpenSpec.ofChange fnExactDivSWrong)

/-- 'laws.FnExactSignOf': WHATEVER THE INPUT: true; the input reads as it did. -/
def fnExactSignOfSpec : ChangeSpec := { name := "fnExactSignOf", fn := fun _ => fun
  | [d] => { results := [.lit (.bool true)], args := [d] }
  | _ => none }
def fnExactSignOfRow : OpenClaim := { program := "ytpnicmhgenbnmaa", sum := "1948b729adef3186f29ae23dabc87f1e6d051247aa4d587a356736ebd5fc11e8", func := "loop.example/g00472/laws.FnExactSignOf", spec := "fnExactSignOf", apart := false }
def FnExactSignOfSaid : Prop := fnExactSignOfRow.holds Try.pinned (OpenSpec.ofChange fnExactSignOfSpec)

/-- ITS FALSE NEIGHBOUR: 'it returns false'. Refute it at one input. -/
def fnExactSignOfWrong : ChangeSpec := { name := "fnExactSignOf", fn := fun _ => fun
  | [d] => { results := [.lit (.bool false)], args := [d] }
  | _ => none }
def FnExactSignOfWrongFalsely : Prop := fnExactSignOfRow.holds Try.pinned (OpenSpec.ofChange fnExactSignOfWrong)

/-- 'laws.FnExactBits': WHATEVER THE INPUT: true; the input reads as it did. -/
def fnExactBitsSpec : ChangeSpec := { name := "fnExactBits", fn := fun _ => fun
  | [d1, d2, d3] => { results := [.lit (.bool true)], args := [d1, d2, d3] }
  | _ => none }
def fnExactBitsRow : OpenClaim := { program := "ytpnicmhgenbnmaa", sum := "1948b729adef3186f29ae23dabc87f1e6d051247aa4d587a356736ebd5fc11e8", func := "loop.example/g00472/laws.FnExactBits", spec := "fnExactBits", apart := false }
def FnExactBitsSaid : Prop := fnExactBitsRow.holds Try.pinned (OpenSpec.ofChange fnExactBitsSpec)

/-- ITS FALSE NEIGHBOUR: 'it returns false'. Refute it at one input. -/
def fnExactBitsWrong : ChangeSpec := { name := "fnExactBits", fn := fun _ => fun
  | [d1, d2, d3] => { results := [.lit (.bool false)], args := [d1, d2, d3] }
  | _ => none }
def FnExactBitsWrongFalsely : Prop := fnExactBitsRow.holds Try.pinned (OpenSpec.ofChange fnExactBitsWrong)

/-- 'laws.FnExactCompare': WHATEVER THE INPUT: true; the input reads as it did. -/
def fnExactCompareSpec : ChangeSpec := { name := "fnExactCompare", fn := fun _ => fun
  | [d1, d2, d3] => { results := [.lit (.bool true)], args := [d1, d2, d3] }
  | _ => none }
def fnExactCompareRow : OpenClaim := { program := "ytpnicmhgenbnmaa", sum := "1948b729adef3186f29ae23dabc87f1e6d051247aa4d587a356736ebd5fc11e8", func := "loop.example/g00472/laws.FnExactCompare", spec := "fnExactCompare", apart := false }
def FnExactCompareSaid : Prop := fnExactCompareRow.holds Try.pinned (OpenSpec.ofChange fnExactCompareSpec)

/-- ITS FALSE NEIGHBOUR: 'it returns false'. Refute it at one input. -/
def fnExactCompareWrong : ChangeSpec := { name := "fnExactCompare", fn := fun _ => fun
  | [d1, d2, d3] => { results := [.lit (.bool false)], args := [d1, d2, d3] }
  | _ => none }
def FnExactCompareWrongFalsely : Prop := fnExactCompareRow.holds Try.pinned (OpenSpec.ofChange fnExactCompareWrong)

/-- 'laws.FnRing': WHATEVER THE INPUT: true; the input reads as it did. -/
def fnRingSpec : ChangeSpec := { name := "fnRing", fn := fun _ => fun
  | [d] => { results := [.lit (.bool true)], args := [d] }
  | _ => none }
def fnRingRow : OpenClaim := { program := "ytpnicmhgenbnmaa", sum := "1948b729adef3186f29ae23dabc87f1e6d051247aa4d587a356736ebd5fc11e8", func := "loop.example/g00472/laws.FnRing", spec := "fnRing", apart := false }
def FnRingSaid : Prop := fnRingRow.holds Try.pinned (OpenSpec.ofChange fnRingSpec)

/-- ITS FALSE NEIGHBOUR: 'it returns false'. Refute it at one input. -/
def fnRingWrong : ChangeSpec := { name := "fnRing", fn := fun _ => fun
  | [d] => { results := [.lit (.bool false)], args := [d] }
  | _ => none }
def FnRingWrongFalsely : Prop := fnRingRow.holds Try.pinned (OpenSpec.ofChange fnRingWrong)

/-- 'laws.FnDivide': WHATEVER THE INPUT: true; the input reads as it did. -/
def fnDivideSpec : ChangeSpec := { name := "fnDivide", fn := fun _ => fun
  | [d] => { results := [.lit (.bool true)], args := [d] }
  | _ => none }
def fnDivideRow : OpenClaim := { program := "ytpnicmhgenbnmaa", sum := "1948b729adef3186f29ae23dabc87f1e6d051247aa4d587a356736ebd5fc11e8", func := "loop.example/g00472/laws.FnDivide", spec := "fnDivide", apart := false }
def FnDivideSaid : Prop := fnDivideRow.holds Try.pinned (OpenSpec.ofChange fnDivideSpec)

/-- ITS FALSE NEIGHBOUR: 'it returns false'. Refute it at one input. -/
def fnDivideWrong : ChangeSpec := { name := "fnDivide", fn := fun _ => fun
  | [d] => { results := [.lit (.bool false)], args := [d] }
  | _ => none }
def FnDivideWrongFalsely : Prop := fnDivideRow.holds Try.pinned (OpenSpec.ofChange fnDivideWrong)

/-- 'laws.FnBits': WHATEVER THE INPUT: true; the input reads as it did. -/
def fnBitsSpec : ChangeSpec := { name := "fnBits", fn := fun _ => fun
  | [d] => { results := [.lit (.bool true)], args := [d] }
  | _ => none }
def fnBitsRow : OpenClaim := { program := "ytpnicmhgenbnmaa", sum := "1948b729adef3186f29ae23dabc87f1e6d051247aa4d587a356736ebd5fc11e8", func := "loop.example/g00472/laws.FnBits", spec := "fnBits", apart := false }
def FnBitsSaid : Prop := fnBitsRow.holds Try.pinned (OpenSpec.ofChange fnBitsSpec)

/-- ITS FALSE NEIGHBOUR: 'it returns false'. Refute it at one input. -/
def fnBitsWrong : ChangeSpec := { name := "fnBits", fn := fun _ => fun
  | [d] => { results := [.lit (.bool false)], args := [d] }
  | _ => none }
def FnBitsWrongFalsely : Prop := fnBitsRow.holds Try.pinned (OpenSpec.ofChange fnBitsWrong)

/-- 'laws.FnCompare': WHATEVER THE INPUT: true; the input reads as it did. -/
def fnCompareSpec : ChangeSpec := { name := "fnCompare", fn := fun _ => fun
  | [d] => { results := [.lit (.bool true)], args := [d] }
  | _ => none }
def fnCompareRow : OpenClaim := { program := "ytpnicmhgenbnmaa", sum := "1948b729adef3186f29ae23dabc87f1e6d051247aa4d587a356736ebd5fc11e8", func := "loop.example/g00472/laws.FnCompare", spec := "fnCompare", apart := false }
def FnCompareSaid : Prop := fnCompareRow.holds Try.pinned (OpenSpec.ofChange fnCompareSpec)

/-- ITS FALSE NEIGHBOUR: 'it returns false'. Refute it at one input. -/
def fnCompareWrong : ChangeSpec := { name := "fnCompare", fn := fun _ => fun
  | [d] => { results := [.lit (.bool false)], args := [d] }
  | _ => none }
def FnCompareWrongFalsely : Prop := fnCompareRow.holds Try.pinned (OpenSpec.ofChange fnCompareWrong)

/-- 'laws.FnExactPutU': WHATEVER THE INPUT: true; the input reads as it did. -/
def fnExactPutUSpec : ChangeSpec := { name := "fnExactPutU", fn := fun _ => fun
  | [d1, d2] => { results := [.lit (.bool true)], args := [d1, d2] }
  | _ => none }
def fnExactPutURow : OpenClaim := { program := "ytpnicmhgenbnmaa", sum := "1948b729adef3186f29ae23dabc87f1e6d051247aa4d587a356736ebd5fc11e8", func := "loop.example/g00472/laws.FnExactPutU", spec := "fnExactPutU", apart := false }
def FnExactPutUSaid : Prop := fnExactPutURow.holds Try.pinned (OpenSpec.ofChange fnExactPutUSpec)

/-- ITS FALSE NEIGHBOUR: 'it returns false'. Refute it at one input. -/
def fnExactPutUWrong : ChangeSpec := { name := "fnExactPutU", fn := fun _ => fun
  | [d1, d2] => { results := [.lit (.bool false)], args := [d1, d2] }
  | _ => none }
def FnExactPutUWrongFalsely : Prop := fnExactPutURow.holds Try.pinned (OpenSpec.ofChange fnExactPutUWrong)

/-- 'laws.FnExactPutS': WHATEVER THE INPUT: true; the input reads as it did. -/
def fnExactPutSSpec : ChangeSpec := { name := "fnExactPutS", fn := fun _ => fun
  | [d1, d2] => { results := [.lit (.bool true)], args := [d1, d2] }
  | _ => none }
def fnExactPutSRow : OpenClaim := { program := "ytpnicmhgenbnmaa", sum := "1948b729adef3186f29ae23dabc87f1e6d051247aa4d587a356736ebd5fc11e8", func := "loop.example/g00472/laws.FnExactPutS", spec := "fnExactPutS", apart := false }
def FnExactPutSSaid : Prop := fnExactPutSRow.holds Try.pinned (OpenSpec.ofChange fnExactPutSSpec)

/-- ITS FALSE NEIGHBOUR: 'it returns false'. Refute it at one input. -/
def fnExactPutSWrong : ChangeSpec := { name := "fnExactPutS", fn := fun _ => fun
  | [d1, d2] => { results := [.lit (.bool false)], args := [d1, d2] }
  | _ => none }
def FnExactPutSWrongFalsely : Prop := fnExactPutSRow.holds Try.pinned (OpenSpec.ofChange fnExactPutSWrong)

/-- 'laws.FnExactGetU': WHATEVER THE INPUT: true; the input reads as it did. -/
def fnExactGetUSpec : ChangeSpec := { name := "fnExactGetU", fn := fun _ => fun
  | [d1, d2] => { results := [.lit (.bool true)], args := [d1, d2] }
  | _ => none }
def fnExactGetURow : OpenClaim := { program := "ytpnicmhgenbnmaa", sum := "1948b729adef3186f29ae23dabc87f1e6d051247aa4d587a356736ebd5fc11e8", func := "loop.example/g00472/laws.FnExactGetU", spec := "fnExactGetU", apart := false }
def FnExactGetUSaid : Prop := fnExactGetURow.holds Try.pinned (OpenSpec.ofChange fnExactGetUSpec)

/-- ITS FALSE NEIGHBOUR: 'it returns false'. Refute it at one input. -/
def fnExactGetUWrong : ChangeSpec := { name := "fnExactGetU", fn := fun _ => fun
  | [d1, d2] => { results := [.lit (.bool false)], args := [d1, d2] }
  | _ => none }
def FnExactGetUWrongFalsely : Prop := fnExactGetURow.holds Try.pinned (OpenSpec.ofChange fnExactGetUWrong)

/-- 'laws.FnExactGetS': WHATEVER THE INPUT: true; the input reads as it did. -/
def fnExactGetSSpec : ChangeSpec := { name := "fnExactGetS", fn := fun _ => fun
  | [d1, d2] => { results := [.lit (.bool true)], args := [d1, d2] }
  | _ => none }
def fnExactGetSRow : OpenClaim := { program := "ytpnicmhgenbnmaa", sum := "1948b729adef3186f29ae23dabc87f1e6d051247aa4d587a356736ebd5fc11e8", func := "loop.example/g00472/laws.FnExactGetS", spec := "fnExactGetS", apart := false }
def FnExactGetSSaid : Prop := fnExactGetSRow.holds Try.pinned (OpenSpec.ofChange fnExactGetSSpec)

/-- ITS FALSE NEIGHBOUR: 'it returns false'. Refute it at one input. -/
def fnExactGetSWrong : ChangeSpec := { name := "fnExactGetS", fn := fun _ => fun
  | [d1, d2] => { results := [.lit (.bool false)], args := [d1, d2] }
  | _ => none }
def FnExactGetSWrongFalsely : Prop := fnExactGetSRow.holds Try.pinned (OpenSpec.ofChange fnExactGetSWrong)

/- THE SECOND FORM. 'bulk': how many values and letters a reading holds, each counted each time it is reached (what is shared counts as often as it is met; a slice's spare places count too). A statement '..UptoSaid' is the law's where the arguments, and the package variables that the reading takes, are together of bulk at most 1048576: NARROWER than '..Said'. Prove '..Said' where nothing that the law and all that it calls make is longer than what came in: it says more and counts as full. Else prove '..UptoSaid'. A law counts once. -/
mutual
def uptoBulk {H : Type} : DataW H → Nat
  | .lit (.string bytes) => bytes.length + 1
  | .lit _ => 1
  | .nil => 1
  | .ptr d => uptoBulk d + 1
  | .slice elems spare => uptoBulkAll elems + uptoBulkAll spare + 1
  | .agg parts => uptoBulkAll parts + 1
  | .iface _ d => uptoBulk d + 1
  | .map entries => uptoBulkEntries entries + 1
  | .held _ => 1
def uptoBulkAll {H : Type} : List (DataW H) → Nat
  | [] => 0
  | d :: r => uptoBulk d + uptoBulkAll r
def uptoBulkEntries {H : Type} : List (Lit × DataW H) → Nat
  | [] => 0
  | x :: r => uptoBulkEntry x + uptoBulkEntries r
def uptoBulkEntry {H : Type} : Lit × DataW H → Nat
  | (.string bytes, d) => bytes.length + uptoBulk d + 1
  | (_, d) => uptoBulk d + 1
 end
def uptoSmall : (H : Type) → List (DataW H) → Bool := fun _ ds => decide (uptoBulkAll ds ≤ 1048576)
def OpenSpec.upto (s : _root_.Go.ChangeSpec) : _root_.Go.OpenSpec := { _root_.Go.OpenSpec.ofChange s with cond := some uptoSmall }

/-- 'laws.FnExactDivS', WHERE WHAT IT READS IS OF BULK AT MOST 1048576: true; the input reads as it did. -/
def fnExactDivSUptoRow : OpenClaim := { program := "ytpnicmhgenbnmaa", sum := "1948b729adef3186f29ae23dabc87f1e6d051247aa4d587a356736ebd5fc11e8", func := "loop.example/g00472/laws.FnExactDivS", spec := "fnExactDivS", apart := false, narrowed := true }
def FnExactDivSUptoSaid : Prop := fnExactDivSUptoRow.holds Try.pinned (OpenSpec.upto fnExactDivSSpec)

/-- 'laws.FnExactSignOf', WHERE WHAT IT READS IS OF BULK AT MOST 1048576: true; the input reads as it did. -/
def fnExactSignOfUptoRow : OpenClaim := { program := "ytpnicmhgenbnmaa", sum := "1948b729adef3186f29ae23dabc87f1e6d051247aa4d587a356736ebd5fc11e8", func := "loop.example/g00472/laws.FnExactSignOf", spec := "fnExactSignOf", apart := false, narrowed := true }
def FnExactSignOfUptoSaid : Prop := fnExactSignOfUptoRow.holds Try.pinned (OpenSpec.upto fnExactSignOfSpec)

/-- 'laws.FnExactBits', WHERE WHAT IT READS IS OF BULK AT MOST 1048576: true; the input reads as it did. -/
def fnExactBitsUptoRow : OpenClaim := { program := "ytpnicmhgenbnmaa", sum := "1948b729adef3186f29ae23dabc87f1e6d051247aa4d587a356736ebd5fc11e8", func := "loop.example/g00472/laws.FnExactBits", spec := "fnExactBits", apart := false, narrowed := true }
def FnExactBitsUptoSaid : Prop := fnExactBitsUptoRow.holds Try.pinned (OpenSpec.upto fnExactBitsSpec)

/-- 'laws.FnExactCompare', WHERE WHAT IT READS IS OF BULK AT MOST 1048576: true; the input reads as it did. -/
def fnExactCompareUptoRow : OpenClaim := { program := "ytpnicmhgenbnmaa", sum := "1948b729adef3186f29ae23dabc87f1e6d051247aa4d587a356736ebd5fc11e8", func := "loop.example/g00472/laws.FnExactCompare", spec := "fnExactCompare", apart := false, narrowed := true }
def FnExactCompareUptoSaid : Prop := fnExactCompareUptoRow.holds Try.pinned (OpenSpec.upto fnExactCompareSpec)

/-- 'laws.FnRing', WHERE WHAT IT READS IS OF BULK AT MOST 1048576: true; the input reads as it did. -/
def fnRingUptoRow : OpenClaim := { program := "ytpnicmhgenbnmaa", sum := "1948b729adef3186f29ae23dabc87f1e6d051247aa4d587a356736ebd5fc11e8", func := "loop.example/g00472/laws.FnRing", spec := "fnRing", apart := false, narrowed := true }
def FnRingUptoSaid : Prop := fnRingUptoRow.holds Try.pinned (OpenSpec.upto fnRingSpec)

/-- 'laws.FnDivide', WHERE WHAT IT READS IS OF BULK AT MOST 1048576: true; the input reads as it did. -/
def fnDivideUptoRow : OpenClaim := { program := "ytpnicmhgenbnmaa", sum := "1948b729adef3186f29ae23dabc87f1e6d051247aa4d587a356736ebd5fc11e8", func := "loop.example/g00472/laws.FnDivide", spec := "fnDivide", apart := false, narrowed := true }
def FnDivideUptoSaid : Prop := fnDivideUptoRow.holds Try.pinned (OpenSpec.upto fnDivideSpec)

/-- 'laws.FnBits', WHERE WHAT IT READS IS OF BULK AT MOST 1048576: true; the input reads as it did. -/
def fnBitsUptoRow : OpenClaim := { program := "ytpnicmhgenbnmaa", sum := "1948b729adef3186f29ae23dabc87f1e6d051247aa4d587a356736ebd5fc11e8", func := "loop.example/g00472/laws.FnBits", spec := "fnBits", apart := false, narrowed := true }
def FnBitsUptoSaid : Prop := fnBitsUptoRow.holds Try.pinned (OpenSpec.upto fnBitsSpec)

/-- 'laws.FnCompare', WHERE WHAT IT READS IS OF BULK AT MOST 1048576: true; the input reads as it did. -/
def fnCompareUptoRow : OpenClaim := { program := "ytpnicmhgenbnmaa", sum := "1948b729adef3186f29ae23dabc87f1e6d051247aa4d587a356736ebd5fc11e8", func := "loop.example/g00472/laws.FnCompare", spec := "fnCompare", apart := false, narrowed := true }
def FnCompareUptoSaid : Prop := fnCompareUptoRow.holds Try.pinned (OpenSpec.upto fnCompareSpec)

/-- 'laws.FnExactPutU', WHERE WHAT IT READS IS OF BULK AT MOST 1048576: true; the input reads as it did. -/
def fnExactPutUUptoRow : OpenClaim := { program := "ytpnicmhgenbnmaa", sum := "1948b729adef3186f29ae23dabc87f1e6d051247aa4d587a356736ebd5fc11e8", func := "loop.example/g00472/laws.FnExactPutU", spec := "fnExactPutU", apart := false, narrowed := true }
def FnExactPutUUptoSaid : Prop := fnExactPutUUptoRow.holds Try.pinned (OpenSpec.upto fnExactPutUSpec)

/-- 'laws.FnExactPutS', WHERE WHAT IT READS IS OF BULK AT MOST 1048576: true; the input reads as it did. -/
def fnExactPutSUptoRow : OpenClaim := { program := "ytpnicmhgenbnmaa", sum := "1948b729adef3186f29ae23dabc87f1e6d051247aa4d587a356736ebd5fc11e8", func := "loop.example/g00472/laws.FnExactPutS", spec := "fnExactPutS", apart := false, narrowed := true }
def FnExactPutSUptoSaid : Prop := fnExactPutSUptoRow.holds Try.pinned (OpenSpec.upto fnExactPutSSpec)

/-- 'laws.FnExactGetU', WHERE WHAT IT READS IS OF BULK AT MOST 1048576: true; the input reads as it did. -/
def fnExactGetUUptoRow : OpenClaim := { program := "ytpnicmhgenbnmaa", sum := "1948b729adef3186f29ae23dabc87f1e6d051247aa4d587a356736ebd5fc11e8", func := "loop.example/g00472/laws.FnExactGetU", spec := "fnExactGetU", apart := false, narrowed := true }
def FnExactGetUUptoSaid : Prop := fnExactGetUUptoRow.holds Try.pinned (OpenSpec.upto fnExactGetUSpec)

/-- 'laws.FnExactGetS', WHERE WHAT IT READS IS OF BULK AT MOST 1048576: true; the input reads as it did. -/
def fnExactGetSUptoRow : OpenClaim := { program := "ytpnicmhgenbnmaa", sum := "1948b729adef3186f29ae23dabc87f1e6d051247aa4d587a356736ebd5fc11e8", func := "loop.example/g00472/laws.FnExactGetS", spec := "fnExactGetS", apart := false, narrowed := true }
def FnExactGetSUptoSaid : Prop := fnExactGetSUptoRow.holds Try.pinned (OpenSpec.upto fnExactGetSSpec)

end Rows
end Go.Proofs.Ytpnicmhgenbnmaa
