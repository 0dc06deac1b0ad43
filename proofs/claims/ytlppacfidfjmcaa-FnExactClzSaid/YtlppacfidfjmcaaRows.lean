/-
  No cell of these rows narrows 'for every input' (looked for: loops, veiled, ifaces, maps, wideKeys, modest, calm, conditions, laid).
  DERIVED. THE GIVEN ROWS OF THIS SEAT. 11 by the template 'for every input the law returns true; each argument reads behind the call as it read before'; 0 by the template 'total and deterministic' (their statements: YtlppacfidfjmcaaTotals.lean).
  GIVEN WITH THE SEED: the statements are not yours to turn. If you find one false, say at which input.
  Laid BY PROGRAM, IN A SANDBOX (cutbox-rows.mjs): the forced cells as the released guide's own fill.sh prints them over the translation 1790cb0e96f8112b… (all of the seat's roots in one cut). By AI agents, Wed Nov 11 2026. No macro, syntax, notation, axiom, sorry.
-/
import Derived.Test.YtlppacfidfjmcaaChecked
import GoSem.Claim
import GoSem.ClaimJoined
import GoSem.ClaimMapViews
import Derived.JoinedTies
import Derived.KernelRfl
namespace Go.Proofs.Ytlppacfidfjmcaa
/- THE CELL 'sum', in the pinned program and in every row, IS THE sha256 OF THE DUMP (.gsa) THAT YtlppacfidfjmcaaProg.lean LOADS. Nothing in Lean hashes anything: it is a label: what it is worth is what the hold of that sum in a sandbox is worth. -/
noncomputable def Try.pinned : Pinned := { name := "ytlppacfidfjmcaa", sum := "1790cb0e96f8112b786abda419ead6b121d1edd09a1bbeb1b5ed168fe86bfd41", checked := Try.checked }
namespace Rows
def none {H : Type} : Left H := { results := [], args := [] }

/-- 'laws.FnExactConstants': WHATEVER THE INPUT: true; the input reads as it did. -/
def fnExactConstantsSpec : ChangeSpec := { name := "fnExactConstants", fn := fun _ => fun
  | [] => { results := [.lit (.bool true)], args := [] }
  | _ => none }
def fnExactConstantsRow : OpenClaim := { program := "ytlppacfidfjmcaa", sum := "1790cb0e96f8112b786abda419ead6b121d1edd09a1bbeb1b5ed168fe86bfd41", func := "loop.example/g00472/laws.FnExactConstants", spec := "fnExactConstants", apart := false }
def FnExactConstantsSaid : Prop := fnExactConstantsRow.holds Try.pinned (OpenSpec.ofChange fnExactConstantsSpec)

/-- ITS FALSE NEIGHBOUR: 'it returns false'. Refute it at one input. -/
def fnExactConstantsWrong : ChangeSpec := { name := "fnExactConstants", fn := fun _ => fun
  | [] => { results := [.lit (.bool false)], args := [] }
  | _ => none }
def FnExactConstantsWrongFalsely : Prop := fnExactConstantsRow.holds Try.pinned (OpenSpec.ofChange fnExactConstantsWrong)

/-- 'laws.FnExactPlain': WHATEVER THE INPUT: true; the input reads as it did. -/
def fnExactPlainSpec : ChangeSpec := { name := "fnExactPlain", fn := fun _ => fun
  | [d] => { results := [.lit (.bool true)], args := [d] }
  | _ => none }
def fnExactPlainRow : OpenClaim := { program := "ytlppacfidfjmcaa", sum := "1790cb0e96f8112b786abda419ead6b121d1edd09a1bbeb1b5ed168fe86bfd41", func := "loop.example/g00472/laws.FnExactPlain", spec := "fnExactPlain", apart := false }
def FnExactPlainSaid : Prop := fnExactPlainRow.holds Try.pinned (OpenSpec.ofChange fnExactPlainSpec)

/-- ITS FALSE NEIGHBOUR: 'it returns false'. Refute it at one input. -/
def fnExactPlainWrong : ChangeSpec := { name := "fnExactPlain", fn := fun _ => fun
  | [d] => { results := [.lit (.bool false)], args := [d] }
  | _ => none }
def FnExactPlainWrongFalsely : Prop := fnExactPlainRow.holds Try.pinned (OpenSpec.ofChange fnExactPlainWrong)

/-- 'laws.FnExactWrap': WHATEVER THE INPUT: true; the input reads as it did. -/
def fnExactWrapSpec : ChangeSpec := { name := "fnExactWrap", fn := fun _ => fun
  | [d] => { results := [.lit (.bool true)], args := [d] }
  | _ => none }
def fnExactWrapRow : OpenClaim := { program := "ytlppacfidfjmcaa", sum := "1790cb0e96f8112b786abda419ead6b121d1edd09a1bbeb1b5ed168fe86bfd41", func := "loop.example/g00472/laws.FnExactWrap", spec := "fnExactWrap", apart := false }
def FnExactWrapSaid : Prop := fnExactWrapRow.holds Try.pinned (OpenSpec.ofChange fnExactWrapSpec)

/-- ITS FALSE NEIGHBOUR: 'it returns false'. Refute it at one input. -/
def fnExactWrapWrong : ChangeSpec := { name := "fnExactWrap", fn := fun _ => fun
  | [d] => { results := [.lit (.bool false)], args := [d] }
  | _ => none }
def FnExactWrapWrongFalsely : Prop := fnExactWrapRow.holds Try.pinned (OpenSpec.ofChange fnExactWrapWrong)

/-- 'laws.FnExactAdd': WHATEVER THE INPUT: true; the input reads as it did. -/
def fnExactAddSpec : ChangeSpec := { name := "fnExactAdd", fn := fun _ => fun
  | [d1, d2] => { results := [.lit (.bool true)], args := [d1, d2] }
  | _ => none }
def fnExactAddRow : OpenClaim := { program := "ytlppacfidfjmcaa", sum := "1790cb0e96f8112b786abda419ead6b121d1edd09a1bbeb1b5ed168fe86bfd41", func := "loop.example/g00472/laws.FnExactAdd", spec := "fnExactAdd", apart := false }
def FnExactAddSaid : Prop := fnExactAddRow.holds Try.pinned (OpenSpec.ofChange fnExactAddSpec)

/-- ITS FALSE NEIGHBOUR: 'it returns false'. Refute it at one input. -/
def fnExactAddWrong : ChangeSpec := { name := "fnExactAdd", fn := fun _ => fun
  | [d1, d2] => { results := [.lit (.bool false)], args := [d1, d2] }
  | _ => none }
def FnExactAddWrongFalsely : Prop := fnExactAddRow.holds Try.pinned (OpenSpec.ofChange fnExactAddWrong)

/-- 'laws.FnExactMul': WHATEVER THE INPUT: true; the input reads as it did. -/
def fnExactMulSpec : ChangeSpec := { name := "fnExactMul", fn := fun _ => fun
  | [d1, d2] => { results := [.lit (.bool true)], args := [d1, d2] }
  | _ => none }
def fnExactMulRow : OpenClaim := { program := "ytlppacfidfjmcaa", sum := "1790cb0e96f8112b786abda419ead6b121d1edd09a1bbeb1b5ed168fe86bfd41", func := "loop.example/g00472/laws.FnExactMul", spec := "fnExactMul", apart := false }
def FnExactMulSaid : Prop := fnExactMulRow.holds Try.pinned (OpenSpec.ofChange fnExactMulSpec)

/-- ITS FALSE NEIGHBOUR: 'it returns false'. Refute it at one input. -/
def fnExactMulWrong : ChangeSpec := { name := "fnExactMul", fn := fun _ => fun
  | [d1, d2] => { results := [.lit (.bool false)], args := [d1, d2] }
  | _ => none }
def FnExactMulWrongFalsely : Prop := fnExactMulRow.holds Try.pinned (OpenSpec.ofChange fnExactMulWrong)

/-- 'laws.FnExactSub': WHATEVER THE INPUT: true; the input reads as it did. -/
def fnExactSubSpec : ChangeSpec := { name := "fnExactSub", fn := fun _ => fun
  | [d1, d2] => { results := [.lit (.bool true)], args := [d1, d2] }
  | _ => none }
def fnExactSubRow : OpenClaim := { program := "ytlppacfidfjmcaa", sum := "1790cb0e96f8112b786abda419ead6b121d1edd09a1bbeb1b5ed168fe86bfd41", func := "loop.example/g00472/laws.FnExactSub", spec := "fnExactSub", apart := false }
def FnExactSubSaid : Prop := fnExactSubRow.holds Try.pinned (OpenSpec.ofChange fnExactSubSpec)

/-- ITS FALSE NEIGHBOUR: 'it returns false'. Refute it at one input. -/
def fnExactSubWrong : ChangeSpec := { name := "fnExactSub", fn := fun _ => fun
  | [d1, d2] => { results := [.lit (.bool false)], args := [d1, d2] }
  | _ => none }
def FnExactSubWrongFalsely : Prop := fnExactSubRow.holds Try.pinned (OpenSpec.ofChange fnExactSubWrong)

/-- 'laws.FnExactPop': WHATEVER THE INPUT: true; the input reads as it did. -/
def fnExactPopSpec : ChangeSpec := { name := "fnExactPop", fn := fun _ => fun
  | [d] => { results := [.lit (.bool true)], args := [d] }
  | _ => none }
def fnExactPopRow : OpenClaim := { program := "ytlppacfidfjmcaa", sum := "1790cb0e96f8112b786abda419ead6b121d1edd09a1bbeb1b5ed168fe86bfd41", func := "loop.example/g00472/laws.FnExactPop", spec := "fnExactPop", apart := false }
def FnExactPopSaid : Prop := fnExactPopRow.holds Try.pinned (OpenSpec.ofChange fnExactPopSpec)

/-- ITS FALSE NEIGHBOUR: 'it returns false'. Refute it at one input. -/
def fnExactPopWrong : ChangeSpec := { name := "fnExactPop", fn := fun _ => fun
  | [d] => { results := [.lit (.bool false)], args := [d] }
  | _ => none }
def FnExactPopWrongFalsely : Prop := fnExactPopRow.holds Try.pinned (OpenSpec.ofChange fnExactPopWrong)

/-- 'laws.FnExactClz': WHATEVER THE INPUT: true; the input reads as it did. -/
def fnExactClzSpec : ChangeSpec := { name := "fnExactClz", fn := fun _ => fun
  | [d] => { results := [.lit (.bool true)], args := [d] }
  | _ => none }
def fnExactClzRow : OpenClaim := { program := "ytlppacfidfjmcaa", sum := "1790cb0e96f8112b786abda419ead6b121d1edd09a1bbeb1b5ed168fe86bfd41", func := "loop.example/g00472/laws.FnExactClz", spec := "fnExactClz", apart := false }
def FnExactClzSaid : Prop := fnExactClzRow.holds Try.pinned (OpenSpec.ofChange fnExactClzSpec)

/-- ITS FALSE NEIGHBOUR: 'it returns false'. Refute it at one input. -/
def fnExactClzWrong : ChangeSpec := { name := "fnExactClz", fn := fun _ => fun
  | [d] => { results := [.lit (.bool false)], args := [d] }
  | _ => none }
def FnExactClzWrongFalsely : Prop := fnExactClzRow.holds Try.pinned (OpenSpec.ofChange fnExactClzWrong)

/-- 'laws.FnExactDivU': WHATEVER THE INPUT: true; the input reads as it did. -/
def fnExactDivUSpec : ChangeSpec := { name := "fnExactDivU", fn := fun _ => fun
  | [d1, d2] => { results := [.lit (.bool true)], args := [d1, d2] }
  | _ => none }
def fnExactDivURow : OpenClaim := { program := "ytlppacfidfjmcaa", sum := "1790cb0e96f8112b786abda419ead6b121d1edd09a1bbeb1b5ed168fe86bfd41", func := "loop.example/g00472/laws.FnExactDivU", spec := "fnExactDivU", apart := false }
def FnExactDivUSaid : Prop := fnExactDivURow.holds Try.pinned (OpenSpec.ofChange fnExactDivUSpec)

/-- ITS FALSE NEIGHBOUR: 'it returns false'. Refute it at one input. -/
def fnExactDivUWrong : ChangeSpec := { name := "fnExactDivU", fn := fun _ => fun
  | [d1, d2] => { results := [.lit (.bool false)], args := [d1, d2] }
  | _ => none }
def FnExactDivUWrongFalsely : Prop := fnExactDivURow.holds Try.pinned (OpenSpec.ofChange fnExactDivUWrong)

/-- 'laws.FnExactRemU': WHATEVER THE INPUT: true; the input reads as it did. -/
def fnExactRemUSpec : ChangeSpec := { name := "fnExactRemU", fn := fun _ => fun
  | [d1, d2] => { results := [.lit (.bool true)], args := [d1, d2] }
  | _ => none }
def fnExactRemURow : OpenClaim := { program := "ytlppacfidfjmcaa", sum := "1790cb0e96f8112b786abda419ead6b121d1edd09a1bbeb1b5ed168fe86bfd41", func := "loop.example/g00472/laws.FnExactRemU", spec := "fnExactRemU", apart := false }
def FnExactRemUSaid : Prop := fnExactRemURow.holds Try.pinned (OpenSpec.ofChange fnExactRemUSpec)

/-- ITS FALSE NEIGHBOUR: 'it returns false'. Refute it at one input. -/
def fnExactRemUWrong : ChangeSpec := { name := "fnExactRemU", fn := fun _ => fun
  | [d1, d2] => { results := [.lit (.bool false)], args := [d1, d2] }
  | _ => none }
def FnExactRemUWrongFalsely : Prop := fnExactRemURow.holds Try.pinned (OpenSpec.ofChange fnExactRemUWrong)

/-- 'laws.FnExactRemS': WHATEVER THE INPUT: true; the input reads as it did. -/
def fnExactRemSSpec : ChangeSpec := { name := "fnExactRemS", fn := fun _ => fun
  | [d1, d2] => { results := [.lit (.bool true)], args := [d1, d2] }
  | _ => none }
def fnExactRemSRow : OpenClaim := { program := "ytlppacfidfjmcaa", sum := "1790cb0e96f8112b786abda419ead6b121d1edd09a1bbeb1b5ed168fe86bfd41", func := "loop.example/g00472/laws.FnExactRemS", spec := "fnExactRemS", apart := false }
def FnExactRemSSaid : Prop := fnExactRemSRow.holds Try.pinned (OpenSpec.ofChange fnExactRemSSpec)

/-- ITS FALSE NEIGHBOUR: 'it returns false'. Refute it at one input. -/
def fnExactRemSWrong : ChangeSpec := { name := "fnExactRemS", fn := fun _ => fun
  | [d1, d2] => { results := [.lit (.bool false)], args := [d1, d2] }
  | _ => none }
def FnExactRemSWrongFalsely : Prop := fnExactRemSRow.holds Try.pinned (OpenSpec.ofChange fnExactRemSWrong)

/- THE SECOND FORM. 'bulk': how many values and letters a reading holds, each counted each time it is reached (what is shared counts as often as it is met; a slice's spare places count too). A statement '..UptoSaid' is the law's where the arguments, and the package variables that the reading takes, are together of bulk at most 1048576: NARROWER than '..Said'. Prove '..Said' where nothing that the law and all that it calls make is longer than what came in: it says more and counts as full. Else prove '..UptoSaid'. A law counts once. -/
mutual
def uptoBulk {H : Type} : DataW H → Nat
  | .lit (.string bytes) => bytes.length + 1
  | .lit _ => 1
  | .nil => 1
  | .ptr d => uptoBulk d + 1
  | .slice elems spare => uptoBulkAll elems + uptoBulkAll spare + 1
  | .agg parts => uptoBulkAll parts + 1
  | .iface _ d => uptoBulk d + 1
  | .map entries => uptoBulkEntries entries + 1
  | .held _ => 1
def uptoBulkAll {H : Type} : List (DataW H) → Nat
  | [] => 0
  | d :: r => uptoBulk d + uptoBulkAll r
def uptoBulkEntries {H : Type} : List (Lit × DataW H) → Nat
  | [] => 0
  | x :: r => uptoBulkEntry x + uptoBulkEntries r
def uptoBulkEntry {H : Type} : Lit × DataW H → Nat
  | (.string bytes, d) => bytes.length + uptoBulk d + 1
  | (_, d) => uptoBulk d + 1
 end
def uptoSmall : (H : Type) → List (DataW H) → Bool := fun _ ds => decide (uptoBulkAll ds ≤ 1048576)
def OpenSpec.upto (s : _root_.Go.ChangeSpec) : _root_.Go.OpenSpec := { _root_.Go.OpenSpec.ofChange s with cond := some uptoSmall }

/-- 'laws.FnExactConstants', WHERE WHAT IT READS IS OF BULK AT MOST 1048576: true; the input reads as it did. -/
def fnExactConstantsUptoRow : OpenClaim := { program := "ytlppacfidfjmcaa", sum := "1790cb0e96f8112b786abda419ead6b121d1edd09a1bbeb1b5ed168fe86bfd41", func := "loop.example/g00472/laws.FnExactConstants", spec := "fnExactConstants", apart := false, narrowed := true }
def FnExactConstantsUptoSaid : Prop := fnExactConstantsUptoRow.holds Try.pinned (OpenSpec.upto fnExactConstantsSpec)

/-- 'laws.FnExactPlain', WHERE WHAT IT READS IS OF BULK AT MOST 1048576: true; the input reads as it did. -/
def fnExactPlainUptoRow : OpenClaim := { program := "ytlppacfidfjmcaa", sum := "1790cb0e96f8112b786abda419ead6b121d1edd09a1bbeb1b5ed168fe86bfd41", func := "loop.example/g00472/laws.FnExactPlain", spec := "fnExactPlain", apart := false, narrowed := true }
def FnExactPlainUptoSaid : Prop := fnExactPlainUptoRow.holds Try.pinned (OpenSpec.upto fnExactPlainSpec)

/-- 'laws.FnExactWrap', WHERE WHAT IT READS IS OF BULK AT MOST 1048576: true; the input reads as it did. -/
def fnExactWrapUptoRow : OpenClaim := { program := "ytlppacfidfjmcaa", sum := "1790cb0e96f8112b786abda419ead6b121d1edd09a1bbeb1b5ed168fe86bfd41", func := "loop.example/g00472/laws.FnExactWrap", spec := "fnExactWrap", apart := false, narrowed := true }
def FnExactWrapUptoSaid : Prop := fnExactWrapUptoRow.holds Try.pinned (OpenSpec.upto fnExactWrapSpec)

/-- 'laws.FnExactAdd', WHERE WHAT IT READS IS OF BULK AT MOST 1048576: true; the input reads as it did. -/
def fnExactAddUptoRow : OpenClaim := { program := "ytlppacfidfjmcaa", sum := "1790cb0e96f8112b786abda419ead6b121d1edd09a1bbeb1b5ed168fe86bfd41", func := "loop.example/g00472/laws.FnExactAdd", spec := "fnExactAdd", apart := false, narrowed := true }
def FnExactAddUptoSaid : Prop := fnExactAddUptoRow.holds Try.pinned (OpenSpec.upto fnExactAddSpec)

/-- 'laws.FnExactMul', WHERE WHAT IT READS IS OF BULK AT MOST 1048576: true; the input reads as it did. -/
def fnExactMulUptoRow : OpenClaim := { program := "ytlppacfidfjmcaa", sum := "1790cb0e96f8112b786abda419ead6b121d1edd09a1bbeb1b5ed168fe86bfd41", func := "loop.example/g00472/laws.FnExactMul", spec := "fnExactMul", apart := false, narrowed := true }
def FnExactMulUptoSaid : Prop := fnExactMulUptoRow.holds Try.pinned (OpenSpec.upto fnExactMulSpec)

/-- 'laws.FnExactSub', WHERE WHAT IT READS IS OF BULK AT MOST 1048576: true; the input reads as it did. -/
def fnExactSubUptoRow : OpenClaim := { program := "ytlppacfidfjmcaa", sum := "1790cb0e96f8112b786abda419ead6b121d1edd09a1bbeb1b5ed168fe86bfd41", func := "loop.example/g00472/laws.FnExactSub", spec := "fnExactSub", apart := false, narrowed := true }
def FnExactSubUptoSaid : Prop := fnExactSubUptoRow.holds Try.pinned (OpenSpec.upto fnExactSubSpec)

/-- 'laws.FnExactPop', WHERE WHAT IT READS IS OF BULK AT MOST 1048576: true; the input reads as it did. -/
def fnExactPopUptoRow : OpenClaim := { program := "ytlppacfidfjmcaa", sum := "1790cb0e96f8112b786abda419ead6b121d1edd09a1bbeb1b5ed168fe86bfd41", func := "loop.example/g00472/laws.FnExactPop", spec := "fnExactPop", apart := false, narrowed := true }
def FnExactPopUptoSaid : Prop := fnExactPopUptoRow.holds Try.pinned (OpenSpec.upto fnExactPopSpec)

/-- 'laws.FnExactClz', WHERE WHAT IT READS IS OF BULK AT MOST 1048576: true; the input reads as it did. -/
def fnExactClzUptoRow : OpenClaim := { program := "ytlppacfidfjmcaa", sum := "1790cb0e96f8112b786abda419ead6b121d1edd09a1bbeb1b5ed168fe86bfd41", func := "loop.example/g00472/laws.FnExactClz", spec := "fnExactClz", apart := false, narrowed := true }
def FnExactClzUptoSaid : Prop := fnExactClzUptoRow.holds Try.pinned (OpenSpec.upto fnExactClzSpec)

/-- 'laws.FnExactDivU', WHERE WHAT IT READS IS OF BULK AT MOST 1048576: true; the input reads as it did. -/
def fnExactDivUUptoRow : OpenClaim := { program := "ytlppacfidfjmcaa", sum := "1790cb0e96f8112b786abda419ead6b121d1edd09a1bbeb1b5ed168fe86bfd41", func := "loop.example/g00472/laws.FnExactDivU", spec := "fnExactDivU", apart := false, narrowed := true }
def FnExactDivUUptoSaid : Prop := fnExactDivUUptoRow.holds Try.pinned (OpenSpec.upto fnExactDivUSpec)

/-- 'laws.FnExactRemU', WHERE WHAT IT READS IS OF BULK AT MOST 1048576: true; the input reads as it did. -/
def fnExactRemUUptoRow : OpenClaim := { program := "ytlppacfidfjmcaa", sum := "1790cb0e96f8112b786abda419ead6b121d1edd09a1bbeb1b5ed168fe86bfd41", func := "loop.example/g00472/laws.FnExactRemU", spec := "fnExactRemU", apart := false, narrowed := true }
def FnExactRemUUptoSaid : Prop := fnExactRemUUptoRow.holds Try.pinned (OpenSpec.upto fnExactRemUSpec)

/-- 'laws.FnExactRemS', WHERE WHAT IT READS IS OF BULK AT MOST 1048576: true; the input reads as it did. -/
def fnExactRemSUptoRow : OpenClaim := { program := "ytlppacfidfjmcaa", sum := "1790cb0e96f8112b786abda419ead6b121d1edd09a1bbeb1b5ed168fe86bfd41", func := "loop.example/g00472/laws.FnExactRemS", spec := "fnExactRemS", apart := false, narrowed := true }
def FnExactRemSUptoSaid : Prop := fnExactRemSUptoRow.holds Try.pinned (OpenSpec.upto fnExactRemSSpec)

end Rows
end Go.Proofs.Ytlppacfidfjmcaa
