/-
  No cell of these rows narrows 'for every input' (looked for: loops, veiled, ifaces, maps, wideKeys, modest, calm, conditions, laid).
  DERIVED. THE GIVEN ROWS OF THIS SEAT. 16 by the template 'for every input the law returns true; each argument reads behind the call as it read before'; 0 by the template 'total and deterministic' (their statements: YtbbngihmjdndoaaTotals.lean).
  GIVEN WITH THE SEED: the statements are not yours to turn. If you find one false, say at which input.
  Laid BY PROGRAM, IN A SANDBOX (cutbox-rows.mjs): the forced cells as the released guide's own fill.sh prints them over the translation 7fb815a88edb9698… (all of the seat's roots in one cut). By AI agents, Wed Nov 11 2026. No macro, syntax, notation, axiom, sorry.
-/
import Derived.Test.YtbbngihmjdndoaaChecked
import GoSem.Claim
import GoSem.ClaimJoined
import GoSem.ClaimMapViews
import Derived.JoinedTies
import Derived.KernelRfl
namespace Go.Proofs.Ytbbngihmjdndoaa
/- THE CELL 'sum', in the pinned program and in every row, IS THE sha256 OF THE DUMP (.gsa) THAT YtbbngihmjdndoaaProg.lean LOADS. Nothing in Lean hashes anything: it is a label: what it is worth is what the hold of that sum in a sandbox is worth. -/
noncomputable def Try.pinned : Pinned := { name := "ytbbngihmjdndoaa", sum := "7fb815a88edb96983f9b6daebfc9dea84bb714536a48c064c3f3464c50f33ef5", checked := Try.checked }
namespace Rows
def none {H : Type} : Left H := { results := [], args := [] }

/-- 'laws.FnExactMergeRecords': WHATEVER THE INPUT: true; the input reads as it did. -/
def fnExactMergeRecordsSpec : ChangeSpec := { name := "fnExactMergeRecords", fn := fun _ => fun
  | [d1, d2, d3] => { results := [.lit (.bool true)], args := [d1, d2, d3] }
  | _ => none }
def fnExactMergeRecordsRow : OpenClaim := { program := "ytbbngihmjdndoaa", sum := "7fb815a88edb96983f9b6daebfc9dea84bb714536a48c064c3f3464c50f33ef5", func := "loop.example/g00583/laws.FnExactMergeRecords", spec := "fnExactMergeRecords", unfollowed := true, recurses := true, apart := false }
def FnExactMergeRecordsSaid : Prop := fnExactMergeRecordsRow.holds Try.pinned (OpenSpec.ofChange fnExactMergeRecordsSpec)

/-- ITS FALSE NEIGHBOUR: 'it returns false'. Refute it at one input. -/
def fnExactMergeRecordsWrong : ChangeSpec := { name := "fnExactMergeRecords", fn := fun _ => fun
  | [d1, d2, d3] => { results := [.lit (.bool false)], args := [d1, d2, d3] }
  | _ => none }
def FnExactMergeRecordsWrongFalsely : Prop := fnExactMergeRecordsRow.holds Try.pinned (OpenSpec.ofChange fnExactMergeRecordsWrong)

/-- 'laws.FnExactEqualRecords': WHATEVER THE INPUT: true; the input reads as it did. -/
def fnExactEqualRecordsSpec : ChangeSpec := { name := "fnExactEqualRecords", fn := fun _ => fun
  | [d1, d2] => { results := [.lit (.bool true)], args := [d1, d2] }
  | _ => none }
def fnExactEqualRecordsRow : OpenClaim := { program := "ytbbngihmjdndoaa", sum := "7fb815a88edb96983f9b6daebfc9dea84bb714536a48c064c3f3464c50f33ef5", func := "loop.example/g00583/laws.FnExactEqualRecords", spec := "fnExactEqualRecords", apart := false }
def FnExactEqualRecordsSaid : Prop := fnExactEqualRecordsRow.holds Try.pinned (OpenSpec.ofChange fnExactEqualRecordsSpec)

/-- ITS FALSE NEIGHBOUR: 'it returns false'. Refute it at one input. -/
def fnExactEqualRecordsWrong : ChangeSpec := { name := "fnExactEqualRecords", fn := fun _ => fun
  | [d1, d2] => { results := [.lit (.bool false)], args := [d1, d2] }
  | _ => none }
def FnExactEqualRecordsWrongFalsely : Prop := fnExactEqualRecordsRow.holds Try.pinned (OpenSpec.ofChange fnExactEqualRecordsWrong)

/-- 'laws.FnExactGetField': WHATEVER THE INPUT: true; the input reads as it did. -/
def fnExactGetFieldSpec : ChangeSpec := { name := "fnExactGetField", fn := fun _ => fun
  | [d1, d2] => { results := [.lit (.bool true)], args := [d1, d2] }
  | _ => none }
def fnExactGetFieldRow : OpenClaim := { program := "ytbbngihmjdndoaa", sum := "7fb815a88edb96983f9b6daebfc9dea84bb714536a48c064c3f3464c50f33ef5", func := "loop.example/g00583/laws.FnExactGetField", spec := "fnExactGetField", unfollowed := true, recurses := true, apart := false }
def FnExactGetFieldSaid : Prop := fnExactGetFieldRow.holds Try.pinned (OpenSpec.ofChange fnExactGetFieldSpec)

/-- ITS FALSE NEIGHBOUR: 'it returns false'. Refute it at one input. -/
def fnExactGetFieldWrong : ChangeSpec := { name := "fnExactGetField", fn := fun _ => fun
  | [d1, d2] => { results := [.lit (.bool false)], args := [d1, d2] }
  | _ => none }
def FnExactGetFieldWrongFalsely : Prop := fnExactGetFieldRow.holds Try.pinned (OpenSpec.ofChange fnExactGetFieldWrong)

/-- 'laws.FnExactIsRecord': WHATEVER THE INPUT: true; the input reads as it did. -/
def fnExactIsRecordSpec : ChangeSpec := { name := "fnExactIsRecord", fn := fun _ => fun
  | [d] => { results := [.lit (.bool true)], args := [d] }
  | _ => none }
def fnExactIsRecordRow : OpenClaim := { program := "ytbbngihmjdndoaa", sum := "7fb815a88edb96983f9b6daebfc9dea84bb714536a48c064c3f3464c50f33ef5", func := "loop.example/g00583/laws.FnExactIsRecord", spec := "fnExactIsRecord", apart := false }
def FnExactIsRecordSaid : Prop := fnExactIsRecordRow.holds Try.pinned (OpenSpec.ofChange fnExactIsRecordSpec)

/-- ITS FALSE NEIGHBOUR: 'it returns false'. Refute it at one input. -/
def fnExactIsRecordWrong : ChangeSpec := { name := "fnExactIsRecord", fn := fun _ => fun
  | [d] => { results := [.lit (.bool false)], args := [d] }
  | _ => none }
def FnExactIsRecordWrongFalsely : Prop := fnExactIsRecordRow.holds Try.pinned (OpenSpec.ofChange fnExactIsRecordWrong)

/-- 'laws.FnExactRemoveField': WHATEVER THE INPUT: true; the input reads as it did. -/
def fnExactRemoveFieldSpec : ChangeSpec := { name := "fnExactRemoveField", fn := fun _ => fun
  | [d1, d2] => { results := [.lit (.bool true)], args := [d1, d2] }
  | _ => none }
def fnExactRemoveFieldRow : OpenClaim := { program := "ytbbngihmjdndoaa", sum := "7fb815a88edb96983f9b6daebfc9dea84bb714536a48c064c3f3464c50f33ef5", func := "loop.example/g00583/laws.FnExactRemoveField", spec := "fnExactRemoveField", unfollowed := true, recurses := true, apart := false }
def FnExactRemoveFieldSaid : Prop := fnExactRemoveFieldRow.holds Try.pinned (OpenSpec.ofChange fnExactRemoveFieldSpec)

/-- ITS FALSE NEIGHBOUR: 'it returns false'. Refute it at one input. -/
def fnExactRemoveFieldWrong : ChangeSpec := { name := "fnExactRemoveField", fn := fun _ => fun
  | [d1, d2] => { results := [.lit (.bool false)], args := [d1, d2] }
  | _ => none }
def FnExactRemoveFieldWrongFalsely : Prop := fnExactRemoveFieldRow.holds Try.pinned (OpenSpec.ofChange fnExactRemoveFieldWrong)

/-- 'laws.FnExactFindItem': WHATEVER THE INPUT: true; the input reads as it did. -/
def fnExactFindItemSpec : ChangeSpec := { name := "fnExactFindItem", fn := fun _ => fun
  | [d1, d2] => { results := [.lit (.bool true)], args := [d1, d2] }
  | _ => none }
def fnExactFindItemRow : OpenClaim := { program := "ytbbngihmjdndoaa", sum := "7fb815a88edb96983f9b6daebfc9dea84bb714536a48c064c3f3464c50f33ef5", func := "loop.example/g00583/laws.FnExactFindItem", spec := "fnExactFindItem", unfollowed := true, recurses := true, apart := false }
def FnExactFindItemSaid : Prop := fnExactFindItemRow.holds Try.pinned (OpenSpec.ofChange fnExactFindItemSpec)

/-- ITS FALSE NEIGHBOUR: 'it returns false'. Refute it at one input. -/
def fnExactFindItemWrong : ChangeSpec := { name := "fnExactFindItem", fn := fun _ => fun
  | [d1, d2] => { results := [.lit (.bool false)], args := [d1, d2] }
  | _ => none }
def FnExactFindItemWrongFalsely : Prop := fnExactFindItemRow.holds Try.pinned (OpenSpec.ofChange fnExactFindItemWrong)

/-- 'laws.FnExactEncodeRecord': WHATEVER THE INPUT: true; the input reads as it did. -/
def fnExactEncodeRecordSpec : ChangeSpec := { name := "fnExactEncodeRecord", fn := fun _ => fun
  | [d] => { results := [.lit (.bool true)], args := [d] }
  | _ => none }
def fnExactEncodeRecordRow : OpenClaim := { program := "ytbbngihmjdndoaa", sum := "7fb815a88edb96983f9b6daebfc9dea84bb714536a48c064c3f3464c50f33ef5", func := "loop.example/g00583/laws.FnExactEncodeRecord", spec := "fnExactEncodeRecord", apart := false }
def FnExactEncodeRecordSaid : Prop := fnExactEncodeRecordRow.holds Try.pinned (OpenSpec.ofChange fnExactEncodeRecordSpec)

/-- ITS FALSE NEIGHBOUR: 'it returns false'. Refute it at one input. -/
def fnExactEncodeRecordWrong : ChangeSpec := { name := "fnExactEncodeRecord", fn := fun _ => fun
  | [d] => { results := [.lit (.bool false)], args := [d] }
  | _ => none }
def FnExactEncodeRecordWrongFalsely : Prop := fnExactEncodeRecordRow.holds Try.pinned (OpenSpec.ofChange fnExactEncodeRecordWrong)

/-- 'laws.FnExactEqualStores': WHATEVER THE INPUT: true; the input reads as it did. -/
def fnExactEqualStoresSpec : ChangeSpec := { name := "fnExactEqualStores", fn := fun _ => fun
  | [d1, d2] => { results := [.lit (.bool true)], args := [d1, d2] }
  | _ => none }
def fnExactEqualStoresRow : OpenClaim := { program := "ytbbngihmjdndoaa", sum := "7fb815a88edb96983f9b6daebfc9dea84bb714536a48c064c3f3464c50f33ef5", func := "loop.example/g00583/laws.FnExactEqualStores", spec := "fnExactEqualStores", unfollowed := true, recurses := true, apart := false }
def FnExactEqualStoresSaid : Prop := fnExactEqualStoresRow.holds Try.pinned (OpenSpec.ofChange fnExactEqualStoresSpec)

/-- ITS FALSE NEIGHBOUR: 'it returns false'. Refute it at one input. -/
def fnExactEqualStoresWrong : ChangeSpec := { name := "fnExactEqualStores", fn := fun _ => fun
  | [d1, d2] => { results := [.lit (.bool false)], args := [d1, d2] }
  | _ => none }
def FnExactEqualStoresWrongFalsely : Prop := fnExactEqualStoresRow.holds Try.pinned (OpenSpec.ofChange fnExactEqualStoresWrong)

/-- 'laws.FnExactDecodeRecord': WHATEVER THE INPUT: true; the input reads as it did. -/
def fnExactDecodeRecordSpec : ChangeSpec := { name := "fnExactDecodeRecord", fn := fun _ => fun
  | [d] => { results := [.lit (.bool true)], args := [d] }
  | _ => none }
def fnExactDecodeRecordRow : OpenClaim := { program := "ytbbngihmjdndoaa", sum := "7fb815a88edb96983f9b6daebfc9dea84bb714536a48c064c3f3464c50f33ef5", func := "loop.example/g00583/laws.FnExactDecodeRecord", spec := "fnExactDecodeRecord", apart := false }
def FnExactDecodeRecordSaid : Prop := fnExactDecodeRecordRow.holds Try.pinned (OpenSpec.ofChange fnExactDecodeRecordSpec)

/-- ITS FALSE NEIGHBOUR: 'it returns false'. Refute it at one input. -/
def fnExactDecodeRecordWrong : ChangeSpec := { name := "fnExactDecodeRecord", fn := fun _ => fun
  | [d] => { results := [.lit (.bool false)], args := [d] }
  | _ => none }
def FnExactDecodeRecordWrongFalsely : Prop := fnExactDecodeRecordRow.holds Try.pinned (OpenSpec.ofChange fnExactDecodeRecordWrong)

/-- 'laws.FnExactSetField': WHATEVER THE INPUT: true; the input reads as it did. -/
def fnExactSetFieldSpec : ChangeSpec := { name := "fnExactSetField", fn := fun _ => fun
  | [d1, d2, d3] => { results := [.lit (.bool true)], args := [d1, d2, d3] }
  | _ => none }
def fnExactSetFieldRow : OpenClaim := { program := "ytbbngihmjdndoaa", sum := "7fb815a88edb96983f9b6daebfc9dea84bb714536a48c064c3f3464c50f33ef5", func := "loop.example/g00583/laws.FnExactSetField", spec := "fnExactSetField", inPlace := ["slices.overlaps[loop.example/g00583/impl.Field]"], unfollowed := true, recurses := true, apart := false }
def FnExactSetFieldSaid : Prop := fnExactSetFieldRow.holds Try.pinned (OpenSpec.ofChange fnExactSetFieldSpec)

/-- ITS FALSE NEIGHBOUR: 'it returns false'. Refute it at one input. -/
def fnExactSetFieldWrong : ChangeSpec := { name := "fnExactSetField", fn := fun _ => fun
  | [d1, d2, d3] => { results := [.lit (.bool false)], args := [d1, d2, d3] }
  | _ => none }
def FnExactSetFieldWrongFalsely : Prop := fnExactSetFieldRow.holds Try.pinned (OpenSpec.ofChange fnExactSetFieldWrong)

/-- 'laws.FnExactIsStore': WHATEVER THE INPUT: true; the input reads as it did. -/
def fnExactIsStoreSpec : ChangeSpec := { name := "fnExactIsStore", fn := fun _ => fun
  | [d] => { results := [.lit (.bool true)], args := [d] }
  | _ => none }
def fnExactIsStoreRow : OpenClaim := { program := "ytbbngihmjdndoaa", sum := "7fb815a88edb96983f9b6daebfc9dea84bb714536a48c064c3f3464c50f33ef5", func := "loop.example/g00583/laws.FnExactIsStore", spec := "fnExactIsStore", inPlace := ["internal/bytealg.abigen_runtime_cmpstring"], apart := false }
def FnExactIsStoreSaid : Prop := fnExactIsStoreRow.holds Try.pinned (OpenSpec.ofChange fnExactIsStoreSpec)

/-- ITS FALSE NEIGHBOUR: 'it returns false'. Refute it at one input. -/
def fnExactIsStoreWrong : ChangeSpec := { name := "fnExactIsStore", fn := fun _ => fun
  | [d] => { results := [.lit (.bool false)], args := [d] }
  | _ => none }
def FnExactIsStoreWrongFalsely : Prop := fnExactIsStoreRow.holds Try.pinned (OpenSpec.ofChange fnExactIsStoreWrong)

/-- 'laws.FnExactSizeStore': WHATEVER THE INPUT: true; the input reads as it did. -/
def fnExactSizeStoreSpec : ChangeSpec := { name := "fnExactSizeStore", fn := fun _ => fun
  | [d] => { results := [.lit (.bool true)], args := [d] }
  | _ => none }
def fnExactSizeStoreRow : OpenClaim := { program := "ytbbngihmjdndoaa", sum := "7fb815a88edb96983f9b6daebfc9dea84bb714536a48c064c3f3464c50f33ef5", func := "loop.example/g00583/laws.FnExactSizeStore", spec := "fnExactSizeStore", apart := false }
def FnExactSizeStoreSaid : Prop := fnExactSizeStoreRow.holds Try.pinned (OpenSpec.ofChange fnExactSizeStoreSpec)

/-- ITS FALSE NEIGHBOUR: 'it returns false'. Refute it at one input. -/
def fnExactSizeStoreWrong : ChangeSpec := { name := "fnExactSizeStore", fn := fun _ => fun
  | [d] => { results := [.lit (.bool false)], args := [d] }
  | _ => none }
def FnExactSizeStoreWrongFalsely : Prop := fnExactSizeStoreRow.holds Try.pinned (OpenSpec.ofChange fnExactSizeStoreWrong)

/-- 'laws.FnExactItemsIn': WHATEVER THE INPUT: true; the input reads as it did. -/
def fnExactItemsInSpec : ChangeSpec := { name := "fnExactItemsIn", fn := fun _ => fun
  | [d1, d2] => { results := [.lit (.bool true)], args := [d1, d2] }
  | _ => none }
def fnExactItemsInRow : OpenClaim := { program := "ytbbngihmjdndoaa", sum := "7fb815a88edb96983f9b6daebfc9dea84bb714536a48c064c3f3464c50f33ef5", func := "loop.example/g00583/laws.FnExactItemsIn", spec := "fnExactItemsIn", inPlace := ["internal/bytealg.abigen_runtime_cmpstring"], apart := false }
def FnExactItemsInSaid : Prop := fnExactItemsInRow.holds Try.pinned (OpenSpec.ofChange fnExactItemsInSpec)

/-- ITS FALSE NEIGHBOUR: 'it returns false'. Refute it at one input. -/
def fnExactItemsInWrong : ChangeSpec := { name := "fnExactItemsIn", fn := fun _ => fun
  | [d1, d2] => { results := [.lit (.bool false)], args := [d1, d2] }
  | _ => none }
def FnExactItemsInWrongFalsely : Prop := fnExactItemsInRow.holds Try.pinned (OpenSpec.ofChange fnExactItemsInWrong)

/-- 'laws.FnRecords': WHATEVER THE INPUT: true; the input reads as it did. -/
def fnRecordsSpec : ChangeSpec := { name := "fnRecords", fn := fun _ => fun
  | [d] => { results := [.lit (.bool true)], args := [d] }
  | _ => none }
def fnRecordsRow : OpenClaim := { program := "ytbbngihmjdndoaa", sum := "7fb815a88edb96983f9b6daebfc9dea84bb714536a48c064c3f3464c50f33ef5", func := "loop.example/g00583/laws.FnRecords", spec := "fnRecords", inPlace := ["slices.overlaps[loop.example/g00583/impl.Field]"], unfollowed := true, recurses := true, apart := false }
def FnRecordsSaid : Prop := fnRecordsRow.holds Try.pinned (OpenSpec.ofChange fnRecordsSpec)

/-- ITS FALSE NEIGHBOUR: 'it returns false'. Refute it at one input. -/
def fnRecordsWrong : ChangeSpec := { name := "fnRecords", fn := fun _ => fun
  | [d] => { results := [.lit (.bool false)], args := [d] }
  | _ => none }
def FnRecordsWrongFalsely : Prop := fnRecordsRow.holds Try.pinned (OpenSpec.ofChange fnRecordsWrong)

/-- 'laws.FnExactDeleteItems': WHATEVER THE INPUT: true; the input reads as it did. -/
def fnExactDeleteItemsSpec : ChangeSpec := { name := "fnExactDeleteItems", fn := fun _ => fun
  | [d1, d2] => { results := [.lit (.bool true)], args := [d1, d2] }
  | _ => none }
def fnExactDeleteItemsRow : OpenClaim := { program := "ytbbngihmjdndoaa", sum := "7fb815a88edb96983f9b6daebfc9dea84bb714536a48c064c3f3464c50f33ef5", func := "loop.example/g00583/laws.FnExactDeleteItems", spec := "fnExactDeleteItems", inPlace := ["internal/bytealg.abigen_runtime_cmpstring"], unfollowed := true, recurses := true, apart := false }
def FnExactDeleteItemsSaid : Prop := fnExactDeleteItemsRow.holds Try.pinned (OpenSpec.ofChange fnExactDeleteItemsSpec)

/-- ITS FALSE NEIGHBOUR: 'it returns false'. Refute it at one input. -/
def fnExactDeleteItemsWrong : ChangeSpec := { name := "fnExactDeleteItems", fn := fun _ => fun
  | [d1, d2] => { results := [.lit (.bool false)], args := [d1, d2] }
  | _ => none }
def FnExactDeleteItemsWrongFalsely : Prop := fnExactDeleteItemsRow.holds Try.pinned (OpenSpec.ofChange fnExactDeleteItemsWrong)

/-- 'laws.FnMerges': WHATEVER THE INPUT: true; the input reads as it did. -/
def fnMergesSpec : ChangeSpec := { name := "fnMerges", fn := fun _ => fun
  | [d] => { results := [.lit (.bool true)], args := [d] }
  | _ => none }
def fnMergesRow : OpenClaim := { program := "ytbbngihmjdndoaa", sum := "7fb815a88edb96983f9b6daebfc9dea84bb714536a48c064c3f3464c50f33ef5", func := "loop.example/g00583/laws.FnMerges", spec := "fnMerges", unfollowed := true, recurses := true, apart := false }
def FnMergesSaid : Prop := fnMergesRow.holds Try.pinned (OpenSpec.ofChange fnMergesSpec)

/-- ITS FALSE NEIGHBOUR: 'it returns false'. Refute it at one input. -/
def fnMergesWrong : ChangeSpec := { name := "fnMerges", fn := fun _ => fun
  | [d] => { results := [.lit (.bool false)], args := [d] }
  | _ => none }
def FnMergesWrongFalsely : Prop := fnMergesRow.holds Try.pinned (OpenSpec.ofChange fnMergesWrong)

/- THE SECOND FORM. 'bulk': how many values and letters a reading holds, each counted each time it is reached (what is shared counts as often as it is met; a slice's spare places count too). A statement '..UptoSaid' is the law's where the arguments, and the package variables that the reading takes, are together of bulk at most 1048576: NARROWER than '..Said'. Prove '..Said' where nothing that the law and all that it calls make is longer than what came in: it says more and counts as full. Else prove '..UptoSaid'. A law counts once. -/
mutual
def uptoBulk {H : Type} : DataW H → Nat
  | .lit (.string bytes) => bytes.length + 1
  | .lit _ => 1
  | .nil => 1
  | .ptr d => uptoBulk d + 1
  | .slice elems spare => uptoBulkAll elems + uptoBulkAll spare + 1
  | .agg parts => uptoBulkAll parts + 1
  | .iface _ d => uptoBulk d + 1
  | .map entries => uptoBulkEntries entries + 1
  | .held _ => 1
def uptoBulkAll {H : Type} : List (DataW H) → Nat
  | [] => 0
  | d :: r => uptoBulk d + uptoBulkAll r
def uptoBulkEntries {H : Type} : List (Lit × DataW H) → Nat
  | [] => 0
  | x :: r => uptoBulkEntry x + uptoBulkEntries r
def uptoBulkEntry {H : Type} : Lit × DataW H → Nat
  | (.string bytes, d) => bytes.length + uptoBulk d + 1
  | (_, d) => uptoBulk d + 1
 end
def uptoSmall : (H : Type) → List (DataW H) → Bool := fun _ ds => decide (uptoBulkAll ds ≤ 1048576)
def OpenSpec.upto (s : _root_.Go.ChangeSpec) : _root_.Go.OpenSpec := { _root_.Go.OpenSpec.ofChange s with cond := some uptoSmall }

/-- 'laws.FnExactMergeRecords', WHERE WHAT IT READS IS OF BULK AT MOST 1048576: true; the input reads as it did. -/
def fnExactMergeRecordsUptoRow : OpenClaim := { program := "ytbbngihmjdndoaa", sum := "7fb815a88edb96983f9b6daebfc9dea84bb714536a48c064c3f3464c50f33ef5", func := "loop.example/g00583/laws.FnExactMergeRecords", spec := "fnExactMergeRecords", unfollowed := true, recurses := true, apart := false, narrowed := true }
def FnExactMergeRecordsUptoSaid : Prop := fnExactMergeRecordsUptoRow.holds Try.pinned (OpenSpec.upto fnExactMergeRecordsSpec)

/-- 'laws.FnExactEqualRecords', WHERE WHAT IT READS IS OF BULK AT MOST 1048576: true; the input reads as it did. -/
def fnExactEqualRecordsUptoRow : OpenClaim := { program := "ytbbngihmjdndoaa", sum := "7fb815a88edb96983f9b6daebfc9dea84bb714536a48c064c3f3464c50f33ef5", func := "loop.example/g00583/laws.FnExactEqualRecords", spec := "fnExactEqualRecords", apart := false, narrowed := true }
def FnExactEqualRecordsUptoSaid : Prop := fnExactEqualRecordsUptoRow.holds Try.pinned (OpenSpec.upto fnExactEqualRecordsSpec)

/-- 'laws.FnExactGetField', WHERE WHAT IT READS IS OF BULK AT MOST 1048576: true; the input reads as it did. -/
def fnExactGetFieldUptoRow : OpenClaim := { program := "ytbbngihmjdndoaa", sum := "7fb815a88edb96983f9b6daebfc9dea84bb714536a48c064c3f3464c50f33ef5", func := "loop.example/g00583/laws.FnExactGetField", spec := "fnExactGetField", unfollowed := true, recurses := true, apart := false, narrowed := true }
def FnExactGetFieldUptoSaid : Prop := fnExactGetFieldUptoRow.holds Try.pinned (OpenSpec.upto fnExactGetFieldSpec)

/-- 'laws.FnExactIsRecord', WHERE WHAT IT READS IS OF BULK AT MOST 1048576: true; the input reads as it did. -/
def fnExactIsRecordUptoRow : OpenClaim := { program := "ytbbngihmjdndoaa", sum := "7fb815a88edb96983f9b6daebfc9dea84bb714536a48c064c3f3464c50f33ef5", func := "loop.example/g00583/laws.FnExactIsRecord", spec := "fnExactIsRecord", apart := false, narrowed := true }
def FnExactIsRecordUptoSaid : Prop := fnExactIsRecordUptoRow.holds Try.pinned (OpenSpec.upto fnExactIsRecordSpec)

/-- 'laws.FnExactRemoveField', WHERE WHAT IT READS IS OF BULK AT MOST 1048576: true; the input reads as it did. -/
def fnExactRemoveFieldUptoRow : OpenClaim := { program := "ytbbngihmjdndoaa", sum := "7fb815a88edb96983f9b6daebfc9dea84bb714536a48c064c3f3464c50f33ef5", func := "loop.example/g00583/laws.FnExactRemoveField", spec := "fnExactRemoveField", unfollowed := true, recurses := true, apart := false, narrowed := true }
def FnExactRemoveFieldUptoSaid : Prop := fnExactRemoveFieldUptoRow.holds Try.pinned (OpenSpec.upto fnExactRemoveFieldSpec)

/-- 'laws.FnExactFindItem', WHERE WHAT IT READS IS OF BULK AT MOST 1048576: true; the input reads as it did. -/
def fnExactFindItemUptoRow : OpenClaim := { program := "ytbbngihmjdndoaa", sum := "7fb815a88edb96983f9b6daebfc9dea84bb714536a48c064c3f3464c50f33ef5", func := "loop.example/g00583/laws.FnExactFindItem", spec := "fnExactFindItem", unfollowed := true, recurses := true, apart := false, narrowed := true }
def FnExactFindItemUptoSaid : Prop := fnExactFindItemUptoRow.holds Try.pinned (OpenSpec.upto fnExactFindItemSpec)

/-- 'laws.FnExactEncodeRecord', WHERE WHAT IT READS IS OF BULK AT MOST 1048576: true; the input reads as it did. -/
def fnExactEncodeRecordUptoRow : OpenClaim := { program := "ytbbngihmjdndoaa", sum := "7fb815a88edb96983f9b6daebfc9dea84bb714536a48c064c3f3464c50f33ef5", func := "loop.example/g00583/laws.FnExactEncodeRecord", spec := "fnExactEncodeRecord", apart := false, narrowed := true }
def FnExactEncodeRecordUptoSaid : Prop := fnExactEncodeRecordUptoRow.holds Try.pinned (OpenSpec.upto fnExactEncodeRecordSpec)

/-- 'laws.FnExactEqualStores', WHERE WHAT IT READS IS OF BULK AT MOST 1048576: true; the input reads as it did. -/
def fnExactEqualStoresUptoRow : OpenClaim := { program := "ytbbngihmjdndoaa", sum := "7fb815a88edb96983f9b6daebfc9dea84bb714536a48c064c3f3464c50f33ef5", func := "loop.example/g00583/laws.FnExactEqualStores", spec := "fnExactEqualStores", unfollowed := true, recurses := true, apart := false, narrowed := true }
def FnExactEqualStoresUptoSaid : Prop := fnExactEqualStoresUptoRow.holds Try.pinned (OpenSpec.upto fnExactEqualStoresSpec)

/-- 'laws.FnExactDecodeRecord', WHERE WHAT IT READS IS OF BULK AT MOST 1048576: true; the input reads as it did. -/
def fnExactDecodeRecordUptoRow : OpenClaim := { program := "ytbbngihmjdndoaa", sum := "7fb815a88edb96983f9b6daebfc9dea84bb714536a48c064c3f3464c50f33ef5", func := "loop.example/g00583/laws.FnExactDecodeRecord", spec := "fnExactDecodeRecord", apart := false, narrowed := true }
def FnExactDecodeRecordUptoSaid : Prop := fnExactDecodeRecordUptoRow.holds Try.pinned (OpenSpec.upto fnExactDecodeRecordSpec)

/-- 'laws.FnExactSetField', WHERE WHAT IT READS IS OF BULK AT MOST 1048576: true; the input reads as it did. -/
def fnExactSetFieldUptoRow : OpenClaim := { program := "ytbbngihmjdndoaa", sum := "7fb815a88edb96983f9b6daebfc9dea84bb714536a48c064c3f3464c50f33ef5", func := "loop.example/g00583/laws.FnExactSetField", spec := "fnExactSetField", inPlace := ["slices.overlaps[loop.example/g00583/impl.Field]"], unfollowed := true, recurses := true, apart := false, narrowed := true }
def FnExactSetFieldUptoSaid : Prop := fnExactSetFieldUptoRow.holds Try.pinned (OpenSpec.upto fnExactSetFieldSpec)

/-- 'laws.FnExactIsStore', WHERE WHAT IT READS IS OF BULK AT MOST 1048576: true; the input reads as it did. -/
def fnExactIsStoreUptoRow : OpenClaim := { program := "ytbbngihmjdndoaa", sum := "7fb815a88edb96983f9b6daebfc9dea84bb714536a48c064c3f3464c50f33ef5", func := "loop.example/g00583/laws.FnExactIsStore", spec := "fnExactIsStore", inPlace := ["internal/bytealg.abigen_runtime_cmpstring"], apart := false, narrowed := true }
def FnExactIsStoreUptoSaid : Prop := fnExactIsStoreUptoRow.holds Try.pinned (OpenSpec.upto fnExactIsStoreSpec)

/-- 'laws.FnExactSizeStore', WHERE WHAT IT READS IS OF BULK AT MOST 1048576: true; the input reads as it did. -/
def fnExactSizeStoreUptoRow : OpenClaim := { program := "ytbbngihmjdndoaa", sum := "7fb815a88edb96983f9b6daebfc9dea84bb714536a48c064c3f3464c50f33ef5", func := "loop.example/g00583/laws.FnExactSizeStore", spec := "fnExactSizeStore", apart := false, narrowed := true }
def FnExactSizeStoreUptoSaid : Prop := fnExactSizeStoreUptoRow.holds Try.pinned (OpenSpec.upto fnExactSizeStoreSpec)

/-- 'laws.FnExactItemsIn', WHERE WHAT IT READS IS OF BULK AT MOST 1048576: true; the input reads as it did. -/
def fnExactItemsInUptoRow : OpenClaim := { program := "ytbbngihmjdndoaa", sum := "7fb815a88edb96983f9b6daebfc9dea84bb714536a48c064c3f3464c50f33ef5", func := "loop.example/g00583/laws.FnExactItemsIn", spec := "fnExactItemsIn", inPlace := ["internal/bytealg.abigen_runtime_cmpstring"], apart := false, narrowed := true }
def FnExactItemsInUptoSaid : Prop := fnExactItemsInUptoRow.holds Try.pinned (OpenSpec.upto fnExactItemsInSpec)

/-- 'laws.FnRecords', WHERE WHAT IT READS IS OF BULK AT MOST 1048576: true; the input reads as it did. -/
def fnRecordsUptoRow : OpenClaim := { program := "ytbbngihmjdndoaa", sum := "7fb815a88edb96983f9b6daebfc9dea84bb714536a48c064c3f3464c50f33ef5", func := "loop.example/g00583/laws.FnRecords", spec := "fnRecords", inPlace := ["slices.overlaps[loop.example/g00583/impl.Field]"], unfollowed := true, recurses := true, apart := false, narrowed := true }
def FnRecordsUptoSaid : Prop := fnRecordsUptoRow.holds Try.pinned (OpenSpec.upto fnRecordsSpec)

/-- 'laws.FnExactDeleteItems', WHERE WHAT IT READS IS OF BULK AT MOST 1048576: true; the input reads as it did. -/
def fnExactDeleteItemsUptoRow : OpenClaim := { program := "ytbbngihmjdndoaa", sum := "7fb815a88edb96983f9b6daebfc9dea84bb714536a48c064c3f3464c50f33ef5", func := "loop.example/g00583/laws.FnExactDeleteItems", spec := "fnExactDeleteItems", inPlace := ["internal/bytealg.abigen_runtime_cmpstring"], unfollowed := true, recurses := true, apart := false, narrowed := true }
def FnExactDeleteItemsUptoSaid : Prop := fnExactDeleteItemsUptoRow.holds Try.pinned (OpenSpec.upto fnExactDeleteItemsSpec)

/-- 'laws.FnMerges', WHERE WHAT IT READS IS OF BULK AT MOST 1048576: true; the input reads as it did. -/
def fnMergesUptoRow : OpenClaim := { program := "ytbbngihmjdndoaa", sum := "7fb815a88edb96983f9b6daebfc9dea84bb714536a48c064c3f3464c50f33ef5", func := "loop.example/g00583/laws.FnMerges", spec := "fnMerges", unfollowed := true, recurses := true, apart := false, narrowed := true }
def FnMergesUptoSaid : Prop := fnMergesUptoRow.holds Try.pinned (OpenSpec.upto fnMergesSpec)

end Rows
end Go.Proofs.Ytbbngihmjdndoaa
