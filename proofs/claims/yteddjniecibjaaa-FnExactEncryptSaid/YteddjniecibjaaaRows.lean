/-
  No cell of these rows narrows 'for every input' (looked for: loops, veiled, ifaces, maps, wideKeys, modest, calm, conditions, laid).
  DERIVED. THE GIVEN ROWS OF THIS SEAT. 21 by the template 'for every input the law returns true; each argument reads behind the call as it read before'; 0 by the template 'total and deterministic' (their statements: YteddjniecibjaaaTotals.lean).
  GIVEN WITH THE SEED: the statements are not yours to turn. If you find one false, say at which input.
  Laid BY PROGRAM, IN A SANDBOX (cutbox-rows.mjs): the forced cells as the released guide's own fill.sh prints them over the translation e09dc3e54a940d11… (all of the seat's roots in one cut). By AI agents, Wed Nov 11 2026. No macro, syntax, notation, axiom, sorry.
-/
import Derived.Test.YteddjniecibjaaaChecked
import GoSem.Claim
import GoSem.ClaimJoined
import GoSem.ClaimMapViews
import Derived.JoinedTies
import Derived.KernelRfl
namespace Go.Proofs.Yteddjniecibjaaa
/- THE CELL 'sum', in the pinned program and in every row, IS THE sha256 OF THE DUMP (.gsa) THAT YteddjniecibjaaaProg.lean LOADS. Nothing in Lean hashes anything: it is a label: what it is worth is what the hold of that sum in a sandbox is worth. -/
noncomputable def Try.pinned : Pinned := { name := "yteddjniecibjaaa", sum := "e09dc3e54a940d114b852aa9c927a29988b45fb72267b4f0d239793d7257b2d6", checked := Try.checked }
namespace Rows
def none {H : Type} : Left H := { results := [], args := [] }

/-- 'laws.FnExactMod': WHATEVER THE INPUT: true; the input reads as it did. -/
def fnExactModSpec : ChangeSpec := { name := "fnExactMod", fn := fun _ => fun
  | [d1, d2] => { results := [.lit (.bool true)], args := [d1, d2] }
  | _ => none }
def fnExactModRow : OpenClaim := { program := "yteddjniecibjaaa", sum := "e09dc3e54a940d114b852aa9c927a29988b45fb72267b4f0d239793d7257b2d6", func := "loop.example/g00583/laws.FnExactMod", spec := "fnExactMod", apart := false }
def FnExactModSaid : Prop := fnExactModRow.holds Try.pinned (OpenSpec.ofChange fnExactModSpec)

/-- ITS FALSE NEIGHBOUR: 'it returns false'. Refute it at one input. -/
def fnExactModWrong : ChangeSpec := { name := "fnExactMod", fn := fun _ => fun
  | [d1, d2] => { results := [.lit (.bool false)], args := [d1, d2] }
  | _ => none }
def FnExactModWrongFalsely : Prop := fnExactModRow.holds Try.pinned (OpenSpec.ofChange fnExactModWrong)

/-- 'laws.FnExactIsName': WHATEVER THE INPUT: true; the input reads as it did. -/
def fnExactIsNameSpec : ChangeSpec := { name := "fnExactIsName", fn := fun _ => fun
  | [d] => { results := [.lit (.bool true)], args := [d] }
  | _ => none }
def fnExactIsNameRow : OpenClaim := { program := "yteddjniecibjaaa", sum := "e09dc3e54a940d114b852aa9c927a29988b45fb72267b4f0d239793d7257b2d6", func := "loop.example/g00583/laws.FnExactIsName", spec := "fnExactIsName", apart := false }
def FnExactIsNameSaid : Prop := fnExactIsNameRow.holds Try.pinned (OpenSpec.ofChange fnExactIsNameSpec)

/-- ITS FALSE NEIGHBOUR: 'it returns false'. Refute it at one input. -/
def fnExactIsNameWrong : ChangeSpec := { name := "fnExactIsName", fn := fun _ => fun
  | [d] => { results := [.lit (.bool false)], args := [d] }
  | _ => none }
def FnExactIsNameWrongFalsely : Prop := fnExactIsNameRow.holds Try.pinned (OpenSpec.ofChange fnExactIsNameWrong)

/-- 'laws.FnExactEqualBytes': WHATEVER THE INPUT: true; the input reads as it did. -/
def fnExactEqualBytesSpec : ChangeSpec := { name := "fnExactEqualBytes", fn := fun _ => fun
  | [d1, d2] => { results := [.lit (.bool true)], args := [d1, d2] }
  | _ => none }
def fnExactEqualBytesRow : OpenClaim := { program := "yteddjniecibjaaa", sum := "e09dc3e54a940d114b852aa9c927a29988b45fb72267b4f0d239793d7257b2d6", func := "loop.example/g00583/laws.FnExactEqualBytes", spec := "fnExactEqualBytes", apart := false }
def FnExactEqualBytesSaid : Prop := fnExactEqualBytesRow.holds Try.pinned (OpenSpec.ofChange fnExactEqualBytesSpec)

/-- ITS FALSE NEIGHBOUR: 'it returns false'. Refute it at one input. -/
def fnExactEqualBytesWrong : ChangeSpec := { name := "fnExactEqualBytes", fn := fun _ => fun
  | [d1, d2] => { results := [.lit (.bool false)], args := [d1, d2] }
  | _ => none }
def FnExactEqualBytesWrongFalsely : Prop := fnExactEqualBytesRow.holds Try.pinned (OpenSpec.ofChange fnExactEqualBytesWrong)

/-- 'laws.FnExactCompareBytes': WHATEVER THE INPUT: true; the input reads as it did. -/
def fnExactCompareBytesSpec : ChangeSpec := { name := "fnExactCompareBytes", fn := fun _ => fun
  | [d1, d2] => { results := [.lit (.bool true)], args := [d1, d2] }
  | _ => none }
def fnExactCompareBytesRow : OpenClaim := { program := "yteddjniecibjaaa", sum := "e09dc3e54a940d114b852aa9c927a29988b45fb72267b4f0d239793d7257b2d6", func := "loop.example/g00583/laws.FnExactCompareBytes", spec := "fnExactCompareBytes", inPlace := ["internal/bytealg.Compare"], apart := false }
def FnExactCompareBytesSaid : Prop := fnExactCompareBytesRow.holds Try.pinned (OpenSpec.ofChange fnExactCompareBytesSpec)

/-- ITS FALSE NEIGHBOUR: 'it returns false'. Refute it at one input. -/
def fnExactCompareBytesWrong : ChangeSpec := { name := "fnExactCompareBytes", fn := fun _ => fun
  | [d1, d2] => { results := [.lit (.bool false)], args := [d1, d2] }
  | _ => none }
def FnExactCompareBytesWrongFalsely : Prop := fnExactCompareBytesRow.holds Try.pinned (OpenSpec.ofChange fnExactCompareBytesWrong)

/-- 'laws.FnExactEqualInts': WHATEVER THE INPUT: true; the input reads as it did. -/
def fnExactEqualIntsSpec : ChangeSpec := { name := "fnExactEqualInts", fn := fun _ => fun
  | [d1, d2] => { results := [.lit (.bool true)], args := [d1, d2] }
  | _ => none }
def fnExactEqualIntsRow : OpenClaim := { program := "yteddjniecibjaaa", sum := "e09dc3e54a940d114b852aa9c927a29988b45fb72267b4f0d239793d7257b2d6", func := "loop.example/g00583/laws.FnExactEqualInts", spec := "fnExactEqualInts", apart := false }
def FnExactEqualIntsSaid : Prop := fnExactEqualIntsRow.holds Try.pinned (OpenSpec.ofChange fnExactEqualIntsSpec)

/-- ITS FALSE NEIGHBOUR: 'it returns false'. Refute it at one input. -/
def fnExactEqualIntsWrong : ChangeSpec := { name := "fnExactEqualInts", fn := fun _ => fun
  | [d1, d2] => { results := [.lit (.bool false)], args := [d1, d2] }
  | _ => none }
def FnExactEqualIntsWrongFalsely : Prop := fnExactEqualIntsRow.holds Try.pinned (OpenSpec.ofChange fnExactEqualIntsWrong)

/-- 'laws.FnExactHash': WHATEVER THE INPUT: true; the input reads as it did. -/
def fnExactHashSpec : ChangeSpec := { name := "fnExactHash", fn := fun _ => fun
  | [d] => { results := [.lit (.bool true)], args := [d] }
  | _ => none }
def fnExactHashRow : OpenClaim := { program := "yteddjniecibjaaa", sum := "e09dc3e54a940d114b852aa9c927a29988b45fb72267b4f0d239793d7257b2d6", func := "loop.example/g00583/laws.FnExactHash", spec := "fnExactHash", apart := false }
def FnExactHashSaid : Prop := fnExactHashRow.holds Try.pinned (OpenSpec.ofChange fnExactHashSpec)

/-- ITS FALSE NEIGHBOUR: 'it returns false'. Refute it at one input. -/
def fnExactHashWrong : ChangeSpec := { name := "fnExactHash", fn := fun _ => fun
  | [d] => { results := [.lit (.bool false)], args := [d] }
  | _ => none }
def FnExactHashWrongFalsely : Prop := fnExactHashRow.holds Try.pinned (OpenSpec.ofChange fnExactHashWrong)

/-- 'laws.FnExactReadUvarint': WHATEVER THE INPUT: true; the input reads as it did. -/
def fnExactReadUvarintSpec : ChangeSpec := { name := "fnExactReadUvarint", fn := fun _ => fun
  | [d1, d2] => { results := [.lit (.bool true)], args := [d1, d2] }
  | _ => none }
def fnExactReadUvarintRow : OpenClaim := { program := "yteddjniecibjaaa", sum := "e09dc3e54a940d114b852aa9c927a29988b45fb72267b4f0d239793d7257b2d6", func := "loop.example/g00583/laws.FnExactReadUvarint", spec := "fnExactReadUvarint", apart := false }
def FnExactReadUvarintSaid : Prop := fnExactReadUvarintRow.holds Try.pinned (OpenSpec.ofChange fnExactReadUvarintSpec)

/-- ITS FALSE NEIGHBOUR: 'it returns false'. Refute it at one input. -/
def fnExactReadUvarintWrong : ChangeSpec := { name := "fnExactReadUvarint", fn := fun _ => fun
  | [d1, d2] => { results := [.lit (.bool false)], args := [d1, d2] }
  | _ => none }
def FnExactReadUvarintWrongFalsely : Prop := fnExactReadUvarintRow.holds Try.pinned (OpenSpec.ofChange fnExactReadUvarintWrong)

/-- 'laws.FnExactKeyedHash': WHATEVER THE INPUT: true; the input reads as it did. -/
def fnExactKeyedHashSpec : ChangeSpec := { name := "fnExactKeyedHash", fn := fun _ => fun
  | [d1, d2] => { results := [.lit (.bool true)], args := [d1, d2] }
  | _ => none }
def fnExactKeyedHashRow : OpenClaim := { program := "yteddjniecibjaaa", sum := "e09dc3e54a940d114b852aa9c927a29988b45fb72267b4f0d239793d7257b2d6", func := "loop.example/g00583/laws.FnExactKeyedHash", spec := "fnExactKeyedHash", apart := false }
def FnExactKeyedHashSaid : Prop := fnExactKeyedHashRow.holds Try.pinned (OpenSpec.ofChange fnExactKeyedHashSpec)

/-- ITS FALSE NEIGHBOUR: 'it returns false'. Refute it at one input. -/
def fnExactKeyedHashWrong : ChangeSpec := { name := "fnExactKeyedHash", fn := fun _ => fun
  | [d1, d2] => { results := [.lit (.bool false)], args := [d1, d2] }
  | _ => none }
def FnExactKeyedHashWrongFalsely : Prop := fnExactKeyedHashRow.holds Try.pinned (OpenSpec.ofChange fnExactKeyedHashWrong)

/-- 'laws.FnExactAppendUvarint': WHATEVER THE INPUT: true; the input reads as it did. -/
def fnExactAppendUvarintSpec : ChangeSpec := { name := "fnExactAppendUvarint", fn := fun _ => fun
  | [d1, d2] => { results := [.lit (.bool true)], args := [d1, d2] }
  | _ => none }
def fnExactAppendUvarintRow : OpenClaim := { program := "yteddjniecibjaaa", sum := "e09dc3e54a940d114b852aa9c927a29988b45fb72267b4f0d239793d7257b2d6", func := "loop.example/g00583/laws.FnExactAppendUvarint", spec := "fnExactAppendUvarint", apart := false }
def FnExactAppendUvarintSaid : Prop := fnExactAppendUvarintRow.holds Try.pinned (OpenSpec.ofChange fnExactAppendUvarintSpec)

/-- ITS FALSE NEIGHBOUR: 'it returns false'. Refute it at one input. -/
def fnExactAppendUvarintWrong : ChangeSpec := { name := "fnExactAppendUvarint", fn := fun _ => fun
  | [d1, d2] => { results := [.lit (.bool false)], args := [d1, d2] }
  | _ => none }
def FnExactAppendUvarintWrongFalsely : Prop := fnExactAppendUvarintRow.holds Try.pinned (OpenSpec.ofChange fnExactAppendUvarintWrong)

/-- 'laws.FnExactAppendBytes': WHATEVER THE INPUT: true; the input reads as it did. -/
def fnExactAppendBytesSpec : ChangeSpec := { name := "fnExactAppendBytes", fn := fun _ => fun
  | [d1, d2] => { results := [.lit (.bool true)], args := [d1, d2] }
  | _ => none }
def fnExactAppendBytesRow : OpenClaim := { program := "yteddjniecibjaaa", sum := "e09dc3e54a940d114b852aa9c927a29988b45fb72267b4f0d239793d7257b2d6", func := "loop.example/g00583/laws.FnExactAppendBytes", spec := "fnExactAppendBytes", apart := false }
def FnExactAppendBytesSaid : Prop := fnExactAppendBytesRow.holds Try.pinned (OpenSpec.ofChange fnExactAppendBytesSpec)

/-- ITS FALSE NEIGHBOUR: 'it returns false'. Refute it at one input. -/
def fnExactAppendBytesWrong : ChangeSpec := { name := "fnExactAppendBytes", fn := fun _ => fun
  | [d1, d2] => { results := [.lit (.bool false)], args := [d1, d2] }
  | _ => none }
def FnExactAppendBytesWrongFalsely : Prop := fnExactAppendBytesRow.holds Try.pinned (OpenSpec.ofChange fnExactAppendBytesWrong)

/-- 'laws.FnExactBytesToInts': WHATEVER THE INPUT: true; the input reads as it did. -/
def fnExactBytesToIntsSpec : ChangeSpec := { name := "fnExactBytesToInts", fn := fun _ => fun
  | [d] => { results := [.lit (.bool true)], args := [d] }
  | _ => none }
def fnExactBytesToIntsRow : OpenClaim := { program := "yteddjniecibjaaa", sum := "e09dc3e54a940d114b852aa9c927a29988b45fb72267b4f0d239793d7257b2d6", func := "loop.example/g00583/laws.FnExactBytesToInts", spec := "fnExactBytesToInts", apart := false }
def FnExactBytesToIntsSaid : Prop := fnExactBytesToIntsRow.holds Try.pinned (OpenSpec.ofChange fnExactBytesToIntsSpec)

/-- ITS FALSE NEIGHBOUR: 'it returns false'. Refute it at one input. -/
def fnExactBytesToIntsWrong : ChangeSpec := { name := "fnExactBytesToInts", fn := fun _ => fun
  | [d] => { results := [.lit (.bool false)], args := [d] }
  | _ => none }
def FnExactBytesToIntsWrongFalsely : Prop := fnExactBytesToIntsRow.holds Try.pinned (OpenSpec.ofChange fnExactBytesToIntsWrong)

/-- 'laws.FnExactDeriveFromString': WHATEVER THE INPUT: true; the input reads as it did. -/
def fnExactDeriveFromStringSpec : ChangeSpec := { name := "fnExactDeriveFromString", fn := fun _ => fun
  | [d1, d2] => { results := [.lit (.bool true)], args := [d1, d2] }
  | _ => none }
def fnExactDeriveFromStringRow : OpenClaim := { program := "yteddjniecibjaaa", sum := "e09dc3e54a940d114b852aa9c927a29988b45fb72267b4f0d239793d7257b2d6", func := "loop.example/g00583/laws.FnExactDeriveFromString", spec := "fnExactDeriveFromString", apart := false }
def FnExactDeriveFromStringSaid : Prop := fnExactDeriveFromStringRow.holds Try.pinned (OpenSpec.ofChange fnExactDeriveFromStringSpec)

/-- ITS FALSE NEIGHBOUR: 'it returns false'. Refute it at one input. -/
def fnExactDeriveFromStringWrong : ChangeSpec := { name := "fnExactDeriveFromString", fn := fun _ => fun
  | [d1, d2] => { results := [.lit (.bool false)], args := [d1, d2] }
  | _ => none }
def FnExactDeriveFromStringWrongFalsely : Prop := fnExactDeriveFromStringRow.holds Try.pinned (OpenSpec.ofChange fnExactDeriveFromStringWrong)

/-- 'laws.FnExactReadBytes': WHATEVER THE INPUT: true; the input reads as it did. -/
def fnExactReadBytesSpec : ChangeSpec := { name := "fnExactReadBytes", fn := fun _ => fun
  | [d1, d2, d3] => { results := [.lit (.bool true)], args := [d1, d2, d3] }
  | _ => none }
def fnExactReadBytesRow : OpenClaim := { program := "yteddjniecibjaaa", sum := "e09dc3e54a940d114b852aa9c927a29988b45fb72267b4f0d239793d7257b2d6", func := "loop.example/g00583/laws.FnExactReadBytes", spec := "fnExactReadBytes", apart := false }
def FnExactReadBytesSaid : Prop := fnExactReadBytesRow.holds Try.pinned (OpenSpec.ofChange fnExactReadBytesSpec)

/-- ITS FALSE NEIGHBOUR: 'it returns false'. Refute it at one input. -/
def fnExactReadBytesWrong : ChangeSpec := { name := "fnExactReadBytes", fn := fun _ => fun
  | [d1, d2, d3] => { results := [.lit (.bool false)], args := [d1, d2, d3] }
  | _ => none }
def FnExactReadBytesWrongFalsely : Prop := fnExactReadBytesRow.holds Try.pinned (OpenSpec.ofChange fnExactReadBytesWrong)

/-- 'laws.FnExactDecrypt': WHATEVER THE INPUT: true; the input reads as it did. -/
def fnExactDecryptSpec : ChangeSpec := { name := "fnExactDecrypt", fn := fun _ => fun
  | [d1, d2] => { results := [.lit (.bool true)], args := [d1, d2] }
  | _ => none }
def fnExactDecryptRow : OpenClaim := { program := "yteddjniecibjaaa", sum := "e09dc3e54a940d114b852aa9c927a29988b45fb72267b4f0d239793d7257b2d6", func := "loop.example/g00583/laws.FnExactDecrypt", spec := "fnExactDecrypt", apart := false }
def FnExactDecryptSaid : Prop := fnExactDecryptRow.holds Try.pinned (OpenSpec.ofChange fnExactDecryptSpec)

/-- ITS FALSE NEIGHBOUR: 'it returns false'. Refute it at one input. -/
def fnExactDecryptWrong : ChangeSpec := { name := "fnExactDecrypt", fn := fun _ => fun
  | [d1, d2] => { results := [.lit (.bool false)], args := [d1, d2] }
  | _ => none }
def FnExactDecryptWrongFalsely : Prop := fnExactDecryptRow.holds Try.pinned (OpenSpec.ofChange fnExactDecryptWrong)

/-- 'laws.FnExactEncrypt': WHATEVER THE INPUT: true; the input reads as it did. -/
def fnExactEncryptSpec : ChangeSpec := { name := "fnExactEncrypt", fn := fun _ => fun
  | [d1, d2] => { results := [.lit (.bool true)], args := [d1, d2] }
  | _ => none }
def fnExactEncryptRow : OpenClaim := { program := "yteddjniecibjaaa", sum := "e09dc3e54a940d114b852aa9c927a29988b45fb72267b4f0d239793d7257b2d6", func := "loop.example/g00583/laws.FnExactEncrypt", spec := "fnExactEncrypt", apart := false }
def FnExactEncryptSaid : Prop := fnExactEncryptRow.holds Try.pinned (OpenSpec.ofChange fnExactEncryptSpec)

/-- ITS FALSE NEIGHBOUR: 'it returns false'. Refute it at one input. -/
def fnExactEncryptWrong : ChangeSpec := { name := "fnExactEncrypt", fn := fun _ => fun
  | [d1, d2] => { results := [.lit (.bool false)], args := [d1, d2] }
  | _ => none }
def FnExactEncryptWrongFalsely : Prop := fnExactEncryptRow.holds Try.pinned (OpenSpec.ofChange fnExactEncryptWrong)

/-- 'laws.FnExactEncodeInts': WHATEVER THE INPUT: true; the input reads as it did. -/
def fnExactEncodeIntsSpec : ChangeSpec := { name := "fnExactEncodeInts", fn := fun _ => fun
  | [d] => { results := [.lit (.bool true)], args := [d] }
  | _ => none }
def fnExactEncodeIntsRow : OpenClaim := { program := "yteddjniecibjaaa", sum := "e09dc3e54a940d114b852aa9c927a29988b45fb72267b4f0d239793d7257b2d6", func := "loop.example/g00583/laws.FnExactEncodeInts", spec := "fnExactEncodeInts", apart := false }
def FnExactEncodeIntsSaid : Prop := fnExactEncodeIntsRow.holds Try.pinned (OpenSpec.ofChange fnExactEncodeIntsSpec)

/-- ITS FALSE NEIGHBOUR: 'it returns false'. Refute it at one input. -/
def fnExactEncodeIntsWrong : ChangeSpec := { name := "fnExactEncodeInts", fn := fun _ => fun
  | [d] => { results := [.lit (.bool false)], args := [d] }
  | _ => none }
def FnExactEncodeIntsWrongFalsely : Prop := fnExactEncodeIntsRow.holds Try.pinned (OpenSpec.ofChange fnExactEncodeIntsWrong)

/-- 'laws.FnExactDecodeInts': WHATEVER THE INPUT: true; the input reads as it did. -/
def fnExactDecodeIntsSpec : ChangeSpec := { name := "fnExactDecodeInts", fn := fun _ => fun
  | [d1, d2, d3] => { results := [.lit (.bool true)], args := [d1, d2, d3] }
  | _ => none }
def fnExactDecodeIntsRow : OpenClaim := { program := "yteddjniecibjaaa", sum := "e09dc3e54a940d114b852aa9c927a29988b45fb72267b4f0d239793d7257b2d6", func := "loop.example/g00583/laws.FnExactDecodeInts", spec := "fnExactDecodeInts", apart := false }
def FnExactDecodeIntsSaid : Prop := fnExactDecodeIntsRow.holds Try.pinned (OpenSpec.ofChange fnExactDecodeIntsSpec)

/-- ITS FALSE NEIGHBOUR: 'it returns false'. Refute it at one input. -/
def fnExactDecodeIntsWrong : ChangeSpec := { name := "fnExactDecodeInts", fn := fun _ => fun
  | [d1, d2, d3] => { results := [.lit (.bool false)], args := [d1, d2, d3] }
  | _ => none }
def FnExactDecodeIntsWrongFalsely : Prop := fnExactDecodeIntsRow.holds Try.pinned (OpenSpec.ofChange fnExactDecodeIntsWrong)

/-- 'laws.FnCipher': WHATEVER THE INPUT: true; the input reads as it did. -/
def fnCipherSpec : ChangeSpec := { name := "fnCipher", fn := fun _ => fun
  | [d] => { results := [.lit (.bool true)], args := [d] }
  | _ => none }
def fnCipherRow : OpenClaim := { program := "yteddjniecibjaaa", sum := "e09dc3e54a940d114b852aa9c927a29988b45fb72267b4f0d239793d7257b2d6", func := "loop.example/g00583/laws.FnCipher", spec := "fnCipher", apart := false }
def FnCipherSaid : Prop := fnCipherRow.holds Try.pinned (OpenSpec.ofChange fnCipherSpec)

/-- ITS FALSE NEIGHBOUR: 'it returns false'. Refute it at one input. -/
def fnCipherWrong : ChangeSpec := { name := "fnCipher", fn := fun _ => fun
  | [d] => { results := [.lit (.bool false)], args := [d] }
  | _ => none }
def FnCipherWrongFalsely : Prop := fnCipherRow.holds Try.pinned (OpenSpec.ofChange fnCipherWrong)

/-- 'laws.FnKeyedHash': WHATEVER THE INPUT: true; the input reads as it did. -/
def fnKeyedHashSpec : ChangeSpec := { name := "fnKeyedHash", fn := fun _ => fun
  | [d] => { results := [.lit (.bool true)], args := [d] }
  | _ => none }
def fnKeyedHashRow : OpenClaim := { program := "yteddjniecibjaaa", sum := "e09dc3e54a940d114b852aa9c927a29988b45fb72267b4f0d239793d7257b2d6", func := "loop.example/g00583/laws.FnKeyedHash", spec := "fnKeyedHash", apart := false }
def FnKeyedHashSaid : Prop := fnKeyedHashRow.holds Try.pinned (OpenSpec.ofChange fnKeyedHashSpec)

/-- ITS FALSE NEIGHBOUR: 'it returns false'. Refute it at one input. -/
def fnKeyedHashWrong : ChangeSpec := { name := "fnKeyedHash", fn := fun _ => fun
  | [d] => { results := [.lit (.bool false)], args := [d] }
  | _ => none }
def FnKeyedHashWrongFalsely : Prop := fnKeyedHashRow.holds Try.pinned (OpenSpec.ofChange fnKeyedHashWrong)

/-- 'laws.FnByteStrings': WHATEVER THE INPUT: true; the input reads as it did. -/
def fnByteStringsSpec : ChangeSpec := { name := "fnByteStrings", fn := fun _ => fun
  | [d] => { results := [.lit (.bool true)], args := [d] }
  | _ => none }
def fnByteStringsRow : OpenClaim := { program := "yteddjniecibjaaa", sum := "e09dc3e54a940d114b852aa9c927a29988b45fb72267b4f0d239793d7257b2d6", func := "loop.example/g00583/laws.FnByteStrings", spec := "fnByteStrings", apart := false }
def FnByteStringsSaid : Prop := fnByteStringsRow.holds Try.pinned (OpenSpec.ofChange fnByteStringsSpec)

/-- ITS FALSE NEIGHBOUR: 'it returns false'. Refute it at one input. -/
def fnByteStringsWrong : ChangeSpec := { name := "fnByteStrings", fn := fun _ => fun
  | [d] => { results := [.lit (.bool false)], args := [d] }
  | _ => none }
def FnByteStringsWrongFalsely : Prop := fnByteStringsRow.holds Try.pinned (OpenSpec.ofChange fnByteStringsWrong)

/-- 'laws.FnVarints': WHATEVER THE INPUT: true; the input reads as it did. -/
def fnVarintsSpec : ChangeSpec := { name := "fnVarints", fn := fun _ => fun
  | [d] => { results := [.lit (.bool true)], args := [d] }
  | _ => none }
def fnVarintsRow : OpenClaim := { program := "yteddjniecibjaaa", sum := "e09dc3e54a940d114b852aa9c927a29988b45fb72267b4f0d239793d7257b2d6", func := "loop.example/g00583/laws.FnVarints", spec := "fnVarints", apart := false }
def FnVarintsSaid : Prop := fnVarintsRow.holds Try.pinned (OpenSpec.ofChange fnVarintsSpec)

/-- ITS FALSE NEIGHBOUR: 'it returns false'. Refute it at one input. -/
def fnVarintsWrong : ChangeSpec := { name := "fnVarints", fn := fun _ => fun
  | [d] => { results := [.lit (.bool false)], args := [d] }
  | _ => none }
def FnVarintsWrongFalsely : Prop := fnVarintsRow.holds Try.pinned (OpenSpec.ofChange fnVarintsWrong)

/- THE SECOND FORM. 'bulk': how many values and letters a reading holds, each counted each time it is reached (what is shared counts as often as it is met; a slice's spare places count too). A statement '..UptoSaid' is the law's where the arguments, and the package variables that the reading takes, are together of bulk at most 1048576: NARROWER than '..Said'. Prove '..Said' where nothing that the law and all that it calls make is longer than what came in: it says more and counts as full. Else prove '..UptoSaid'. A law counts once. -/
mutual
def uptoBulk {H : Type} : DataW H → Nat
  | .lit (.string bytes) => bytes.length + 1
  | .lit _ => 1
  | .nil => 1
  | .ptr d => uptoBulk d + 1
  | .slice elems spare => uptoBulkAll elems + uptoBulkAll spare + 1
  | .agg parts => uptoBulkAll parts + 1
  | .iface _ d => uptoBulk d + 1
  | .map entries => uptoBulkEntries entries + 1
  | .held _ => 1
def uptoBulkAll {H : Type} : List (DataW H) → Nat
  | [] => 0
  | d :: r => uptoBulk d + uptoBulkAll r
def uptoBulkEntries {H : Type} : List (Lit × DataW H) → Nat
  | [] => 0
  | x :: r => uptoBulkEntry x + uptoBulkEntries r
def uptoBulkEntry {H : Type} : Lit × DataW H → Nat
  | (.string bytes, d) => bytes.length + uptoBulk d + 1
  | (_, d) => uptoBulk d + 1
 end
def uptoSmall : (H : Type) → List (DataW H) → Bool := fun _ ds => decide (uptoBulkAll ds ≤ 1048576)
def OpenSpec.upto (s : _root_.Go.ChangeSpec) : _root_.Go.OpenSpec := { _root_.Go.OpenSpec.ofChange s with cond := some uptoSmall }

/-- 'laws.FnExactMod', WHERE WHAT IT READS IS OF BULK AT MOST 1048576: true; the input reads as it did. -/
def fnExactModUptoRow : OpenClaim := { program := "yteddjniecibjaaa", sum := "e09dc3e54a940d114b852aa9c927a29988b45fb72267b4f0d239793d7257b2d6", func := "loop.example/g00583/laws.FnExactMod", spec := "fnExactMod", apart := false, narrowed := true }
def FnExactModUptoSaid : Prop := fnExactModUptoRow.holds Try.pinned (OpenSpec.upto fnExactModSpec)

/-- 'laws.FnExactIsName', WHERE WHAT IT READS IS OF BULK AT MOST 1048576: true; the input reads as it did. -/
def fnExactIsNameUptoRow : OpenClaim := { program := "yteddjniecibjaaa", sum := "e09dc3e54a940d114b852aa9c927a29988b45fb72267b4f0d239793d7257b2d6", func := "loop.example/g00583/laws.FnExactIsName", spec := "fnExactIsName", apart := false, narrowed := true }
def FnExactIsNameUptoSaid : Prop := fnExactIsNameUptoRow.holds Try.pinned (OpenSpec.upto fnExactIsNameSpec)

/-- 'laws.FnExactEqualBytes', WHERE WHAT IT READS IS OF BULK AT MOST 1048576: true; the input reads as it did. -/
def fnExactEqualBytesUptoRow : OpenClaim := { program := "yteddjniecibjaaa", sum := "e09dc3e54a940d114b852aa9c927a29988b45fb72267b4f0d239793d7257b2d6", func := "loop.example/g00583/laws.FnExactEqualBytes", spec := "fnExactEqualBytes", apart := false, narrowed := true }
def FnExactEqualBytesUptoSaid : Prop := fnExactEqualBytesUptoRow.holds Try.pinned (OpenSpec.upto fnExactEqualBytesSpec)

/-- 'laws.FnExactCompareBytes', WHERE WHAT IT READS IS OF BULK AT MOST 1048576: true; the input reads as it did. -/
def fnExactCompareBytesUptoRow : OpenClaim := { program := "yteddjniecibjaaa", sum := "e09dc3e54a940d114b852aa9c927a29988b45fb72267b4f0d239793d7257b2d6", func := "loop.example/g00583/laws.FnExactCompareBytes", spec := "fnExactCompareBytes", inPlace := ["internal/bytealg.Compare"], apart := false, narrowed := true }
def FnExactCompareBytesUptoSaid : Prop := fnExactCompareBytesUptoRow.holds Try.pinned (OpenSpec.upto fnExactCompareBytesSpec)

/-- 'laws.FnExactEqualInts', WHERE WHAT IT READS IS OF BULK AT MOST 1048576: true; the input reads as it did. -/
def fnExactEqualIntsUptoRow : OpenClaim := { program := "yteddjniecibjaaa", sum := "e09dc3e54a940d114b852aa9c927a29988b45fb72267b4f0d239793d7257b2d6", func := "loop.example/g00583/laws.FnExactEqualInts", spec := "fnExactEqualInts", apart := false, narrowed := true }
def FnExactEqualIntsUptoSaid : Prop := fnExactEqualIntsUptoRow.holds Try.pinned (OpenSpec.upto fnExactEqualIntsSpec)

/-- 'laws.FnExactHash', WHERE WHAT IT READS IS OF BULK AT MOST 1048576: true; the input reads as it did. -/
def fnExactHashUptoRow : OpenClaim := { program := "yteddjniecibjaaa", sum := "e09dc3e54a940d114b852aa9c927a29988b45fb72267b4f0d239793d7257b2d6", func := "loop.example/g00583/laws.FnExactHash", spec := "fnExactHash", apart := false, narrowed := true }
def FnExactHashUptoSaid : Prop := fnExactHashUptoRow.holds Try.pinned (OpenSpec.upto fnExactHashSpec)

/-- 'laws.FnExactReadUvarint', WHERE WHAT IT READS IS OF BULK AT MOST 1048576: true; the input reads as it did. -/
def fnExactReadUvarintUptoRow : OpenClaim := { program := "yteddjniecibjaaa", sum := "e09dc3e54a940d114b852aa9c927a29988b45fb72267b4f0d239793d7257b2d6", func := "loop.example/g00583/laws.FnExactReadUvarint", spec := "fnExactReadUvarint", apart := false, narrowed := true }
def FnExactReadUvarintUptoSaid : Prop := fnExactReadUvarintUptoRow.holds Try.pinned (OpenSpec.upto fnExactReadUvarintSpec)

/-- 'laws.FnExactKeyedHash', WHERE WHAT IT READS IS OF BULK AT MOST 1048576: true; the input reads as it did. -/
def fnExactKeyedHashUptoRow : OpenClaim := { program := "yteddjniecibjaaa", sum := "e09dc3e54a940d114b852aa9c927a29988b45fb72267b4f0d239793d7257b2d6", func := "loop.example/g00583/laws.FnExactKeyedHash", spec := "fnExactKeyedHash", apart := false, narrowed := true }
def FnExactKeyedHashUptoSaid : Prop := fnExactKeyedHashUptoRow.holds Try.pinned (OpenSpec.upto fnExactKeyedHashSpec)

/-- 'laws.FnExactAppendUvarint', WHERE WHAT IT READS IS OF BULK AT MOST 1048576: true; the input reads as it did. -/
def fnExactAppendUvarintUptoRow : OpenClaim := { program := "yteddjniecibjaaa", sum := "e09dc3e54a940d114b852aa9c927a29988b45fb72267b4f0d239793d7257b2d6", func := "loop.example/g00583/laws.FnExactAppendUvarint", spec := "fnExactAppendUvarint", apart := false, narrowed := true }
def FnExactAppendUvarintUptoSaid : Prop := fnExactAppendUvarintUptoRow.holds Try.pinned (OpenSpec.upto fnExactAppendUvarintSpec)

/-- 'laws.FnExactAppendBytes', WHERE WHAT IT READS IS OF BULK AT MOST 1048576: true; the input reads as it did. -/
def fnExactAppendBytesUptoRow : OpenClaim := { program := "yteddjniecibjaaa", sum := "e09dc3e54a940d114b852aa9c927a29988b45fb72267b4f0d239793d7257b2d6", func := "loop.example/g00583/laws.FnExactAppendBytes", spec := "fnExactAppendBytes", apart := false, narrowed := true }
def FnExactAppendBytesUptoSaid : Prop := fnExactAppendBytesUptoRow.holds Try.pinned (OpenSpec.upto fnExactAppendBytesSpec)

/-- 'laws.FnExactBytesToInts', WHERE WHAT IT READS IS OF BULK AT MOST 1048576: true; the input reads as it did. -/
def fnExactBytesToIntsUptoRow : OpenClaim := { program := "yteddjniecibjaaa", sum := "e09dc3e54a940d114b852aa9c927a29988b45fb72267b4f0d239793d7257b2d6", func := "loop.example/g00583/laws.FnExactBytesToInts", spec := "fnExactBytesToInts", apart := false, narrowed := true }
def FnExactBytesToIntsUptoSaid : Prop := fnExactBytesToIntsUptoRow.holds Try.pinned (OpenSpec.upto fnExactBytesToIntsSpec)

/-- 'laws.FnExactDeriveFromString', WHERE WHAT IT READS IS OF BULK AT MOST 1048576: true; the input reads as it did. -/
def fnExactDeriveFromStringUptoRow : OpenClaim := { program := "yteddjniecibjaaa", sum := "e09dc3e54a940d114b852aa9c927a29988b45fb72267b4f0d239793d7257b2d6", func := "loop.example/g00583/laws.FnExactDeriveFromString", spec := "fnExactDeriveFromString", apart := false, narrowed := true }
def FnExactDeriveFromStringUptoSaid : Prop := fnExactDeriveFromStringUptoRow.holds Try.pinned (OpenSpec.upto fnExactDeriveFromStringSpec)

/-- 'laws.FnExactReadBytes', WHERE WHAT IT READS IS OF BULK AT MOST 1048576: true; the input reads as it did. -/
def fnExactReadBytesUptoRow : OpenClaim := { program := "yteddjniecibjaaa", sum := "e09dc3e54a940d114b852aa9c927a29988b45fb72267b4f0d239793d7257b2d6", func := "loop.example/g00583/laws.FnExactReadBytes", spec := "fnExactReadBytes", apart := false, narrowed := true }
def FnExactReadBytesUptoSaid : Prop := fnExactReadBytesUptoRow.holds Try.pinned (OpenSpec.upto fnExactReadBytesSpec)

/-- 'laws.FnExactDecrypt', WHERE WHAT IT READS IS OF BULK AT MOST 1048576: true; the input reads as it did. -/
def fnExactDecryptUptoRow : OpenClaim := { program := "yteddjniecibjaaa", sum := "e09dc3e54a940d114b852aa9c927a29988b45fb72267b4f0d239793d7257b2d6", func := "loop.example/g00583/laws.FnExactDecrypt", spec := "fnExactDecrypt", apart := false, narrowed := true }
def FnExactDecryptUptoSaid : Prop := fnExactDecryptUptoRow.holds Try.pinned (OpenSpec.upto fnExactDecryptSpec)

/-- 'laws.FnExactEncrypt', WHERE WHAT IT READS IS OF BULK AT MOST 1048576: true; the input reads as it did. -/
def fnExactEncryptUptoRow : OpenClaim := { program := "yteddjniecibjaaa", sum := "e09dc3e54a940d114b852aa9c927a29988b45fb72267b4f0d239793d7257b2d6", func := "loop.example/g00583/laws.FnExactEncrypt", spec := "fnExactEncrypt", apart := false, narrowed := true }
def FnExactEncryptUptoSaid : Prop := fnExactEncryptUptoRow.holds Try.pinned (OpenSpec.upto fnExactEncryptSpec)

/-- 'laws.FnExactEncodeInts', WHERE WHAT IT READS IS OF BULK AT MOST 1048576: true; the input reads as it did. -/
def fnExactEncodeIntsUptoRow : OpenClaim := { program := "yteddjniecibjaaa", sum := "e09dc3e54a940d114b852aa9c927a29988b45fb72267b4f0d239793d7257b2d6", func := "loop.example/g00583/laws.FnExactEncodeInts", spec := "fnExactEncodeInts", apart := false, narrowed := true }
def FnExactEncodeIntsUptoSaid : Prop := fnExactEncodeIntsUptoRow.holds Try.pinned (OpenSpec.upto fnExactEncodeIntsSpec)

/-- 'laws.FnExactDecodeInts', WHERE WHAT IT READS IS OF BULK AT MOST 1048576: true; the input reads as it did. -/
def fnExactDecodeIntsUptoRow : OpenClaim := { program := "yteddjniecibjaaa", sum := "e09dc3e54a940d114b852aa9c927a29988b45fb72267b4f0d239793d7257b2d6", func := "loop.example/g00583/laws.FnExactDecodeInts", spec := "fnExactDecodeInts", apart := false, narrowed := true }
def FnExactDecodeIntsUptoSaid : Prop := fnExactDecodeIntsUptoRow.holds Try.pinned (OpenSpec.upto fnExactDecodeIntsSpec)

/-- 'laws.FnCipher', WHERE WHAT IT READS IS OF BULK AT MOST 1048576: true; the input reads as it did. -/
def fnCipherUptoRow : OpenClaim := { program := "yteddjniecibjaaa", sum := "e09dc3e54a940d114b852aa9c927a29988b45fb72267b4f0d239793d7257b2d6", func := "loop.example/g00583/laws.FnCipher", spec := "fnCipher", apart := false, narrowed := true }
def FnCipherUptoSaid : Prop := fnCipherUptoRow.holds Try.pinned (OpenSpec.upto fnCipherSpec)

/-- 'laws.FnKeyedHash', WHERE WHAT IT READS IS OF BULK AT MOST 1048576: true; the input reads as it did. -/
def fnKeyedHashUptoRow : OpenClaim := { program := "yteddjniecibjaaa", sum := "e09dc3e54a940d114b852aa9c927a29988b45fb72267b4f0d239793d7257b2d6", func := "loop.example/g00583/laws.FnKeyedHash", spec := "fnKeyedHash", apart := false, narrowed := true }
def FnKeyedHashUptoSaid : Prop := fnKeyedHashUptoRow.holds Try.pinned (OpenSpec.upto fnKeyedHashSpec)

/-- 'laws.FnByteStrings', WHERE WHAT IT READS IS OF BULK AT MOST 1048576: true; the input reads as it did. -/
def fnByteStringsUptoRow : OpenClaim := { program := "yteddjniecibjaaa", sum := "e09dc3e54a940d114b852aa9c927a29988b45fb72267b4f0d239793d7257b2d6", func := "loop.example/g00583/laws.FnByteStrings", spec := "fnByteStrings", apart := false, narrowed := true }
def FnByteStringsUptoSaid : Prop := fnByteStringsUptoRow.holds Try.pinned (OpenSpec.upto fnByteStringsSpec)

/-- 'laws.FnVarints', WHERE WHAT IT READS IS OF BULK AT MOST 1048576: true; the input reads as it did. -/
def fnVarintsUptoRow : OpenClaim := { program := "yteddjniecibjaaa", sum := "e09dc3e54a940d114b852aa9c927a29988b45fb72267b4f0d239793d7257b2d6", func := "loop.example/g00583/laws.FnVarints", spec := "fnVarints", apart := false, narrowed := true }
def FnVarintsUptoSaid : Prop := fnVarintsUptoRow.holds Try.pinned (OpenSpec.upto fnVarintsSpec)

end Rows
end Go.Proofs.Yteddjniecibjaaa
