/-
  No cell of these rows narrows 'for every input' (looked for: loops, veiled, ifaces, maps, wideKeys, modest, calm, conditions, laid).
  DERIVED. THE GIVEN ROWS OF THIS SEAT. 8 by the template 'for every input the law returns true; each argument reads behind the call as it read before'; 0 by the template 'total and deterministic' (their statements: YtgkdfnmgbobamaaTotals.lean).
  GIVEN WITH THE SEED: the statements are not yours to turn. If you find one false, say at which input.
  Laid BY PROGRAM, IN A SANDBOX (cutbox-rows.mjs): the forced cells as the released guide's own fill.sh prints them over the translation 1aa1b8a658234eae… (all of the seat's roots in one cut). By AI agents, Wed Nov 11 2026. No macro, syntax, notation, axiom, sorry.
-/
import Derived.Test.YtgkdfnmgbobamaaChecked
import GoSem.Claim
import GoSem.ClaimJoined
import GoSem.ClaimMapViews
import Derived.JoinedTies
import Derived.KernelRfl
namespace Go.Proofs.Ytgkdfnmgbobamaa
/- THE CELL 'sum', in the pinned program and in every row, IS THE sha256 OF THE DUMP (.gsa) THAT YtgkdfnmgbobamaaProg.lean LOADS. Nothing in Lean hashes anything: it is a label: what it is worth is what the hold of that sum in a sandbox is worth. -/
noncomputable def Try.pinned : Pinned := { name := "ytgkdfnmgbobamaa", sum := "1aa1b8a658234eae6526ff7c5b0639de27434d3e6a9d5c720bd94a54f38b2a43", checked := Try.checked }
namespace Rows
def none {H : Type} : Left H := { results := [], args := [] }

/-- 'probitylaw09.DigestSums': WHATEVER THE INPUT: true; the input reads as it did. -/
def digestSumsSpec : ChangeSpec := { name := "digestSums", fn := fun _ => fun
  | [d] => { results := [.lit (.bool true)], args := [d] }
  | _ => none }
def digestSumsRow : OpenClaim := { program := "ytgkdfnmgbobamaa", sum := "1aa1b8a658234eae6526ff7c5b0639de27434d3e6a9d5c720bd94a54f38b2a43", func := "probity/probitylaw09.DigestSums", spec := "digestSums", inPlace := ["internal/abi.NoEscape"], unfollowed := true, recurses := true, apart := false }
def DigestSumsSaid : Prop := digestSumsRow.holds Try.pinned (OpenSpec.ofChange digestSumsSpec)

/-- ITS FALSE NEIGHBOUR: 'it returns false'. Refute it at one input. -/
def digestSumsWrong : ChangeSpec := { name := "digestSums", fn := fun _ => fun
  | [d] => { results := [.lit (.bool false)], args := [d] }
  | _ => none }
def DigestSumsWrongFalsely : Prop := digestSumsRow.holds Try.pinned (OpenSpec.ofChange digestSumsWrong)

/-- 'probitylaw09.DigestLengths': WHATEVER THE INPUT: true; the input reads as it did. -/
def digestLengthsSpec : ChangeSpec := { name := "digestLengths", fn := fun _ => fun
  | [d1, d2, d3] => { results := [.lit (.bool true)], args := [d1, d2, d3] }
  | _ => none }
def digestLengthsRow : OpenClaim := { program := "ytgkdfnmgbobamaa", sum := "1aa1b8a658234eae6526ff7c5b0639de27434d3e6a9d5c720bd94a54f38b2a43", func := "probity/probitylaw09.DigestLengths", spec := "digestLengths", inPlace := ["internal/abi.NoEscape"], unfollowed := true, recurses := true, apart := false }
def DigestLengthsSaid : Prop := digestLengthsRow.holds Try.pinned (OpenSpec.ofChange digestLengthsSpec)

/-- ITS FALSE NEIGHBOUR: 'it returns false'. Refute it at one input. -/
def digestLengthsWrong : ChangeSpec := { name := "digestLengths", fn := fun _ => fun
  | [d1, d2, d3] => { results := [.lit (.bool false)], args := [d1, d2, d3] }
  | _ => none }
def DigestLengthsWrongFalsely : Prop := digestLengthsRow.holds Try.pinned (OpenSpec.ofChange digestLengthsWrong)

/-- 'probitylaw09.DigestChains': WHATEVER THE INPUT: true; the input reads as it did. -/
def digestChainsSpec : ChangeSpec := { name := "digestChains", fn := fun _ => fun
  | [d1, d2] => { results := [.lit (.bool true)], args := [d1, d2] }
  | _ => none }
def digestChainsRow : OpenClaim := { program := "ytgkdfnmgbobamaa", sum := "1aa1b8a658234eae6526ff7c5b0639de27434d3e6a9d5c720bd94a54f38b2a43", func := "probity/probitylaw09.DigestChains", spec := "digestChains", inPlace := ["internal/abi.NoEscape"], unfollowed := true, recurses := true, apart := false }
def DigestChainsSaid : Prop := digestChainsRow.holds Try.pinned (OpenSpec.ofChange digestChainsSpec)

/-- ITS FALSE NEIGHBOUR: 'it returns false'. Refute it at one input. -/
def digestChainsWrong : ChangeSpec := { name := "digestChains", fn := fun _ => fun
  | [d1, d2] => { results := [.lit (.bool false)], args := [d1, d2] }
  | _ => none }
def DigestChainsWrongFalsely : Prop := digestChainsRow.holds Try.pinned (OpenSpec.ofChange digestChainsWrong)

/-- 'probitylaw09.DigestTexts': WHATEVER THE INPUT: true; the input reads as it did. -/
def digestTextsSpec : ChangeSpec := { name := "digestTexts", fn := fun _ => fun
  | [d1, d2] => { results := [.lit (.bool true)], args := [d1, d2] }
  | _ => none }
def digestTextsRow : OpenClaim := { program := "ytgkdfnmgbobamaa", sum := "1aa1b8a658234eae6526ff7c5b0639de27434d3e6a9d5c720bd94a54f38b2a43", func := "probity/probitylaw09.DigestTexts", spec := "digestTexts", inPlace := ["internal/abi.NoEscape"], unfollowed := true, recurses := true, apart := false }
def DigestTextsSaid : Prop := digestTextsRow.holds Try.pinned (OpenSpec.ofChange digestTextsSpec)

/-- ITS FALSE NEIGHBOUR: 'it returns false'. Refute it at one input. -/
def digestTextsWrong : ChangeSpec := { name := "digestTexts", fn := fun _ => fun
  | [d1, d2] => { results := [.lit (.bool false)], args := [d1, d2] }
  | _ => none }
def DigestTextsWrongFalsely : Prop := digestTextsRow.holds Try.pinned (OpenSpec.ofChange digestTextsWrong)

/-- 'probitylaw09.DigestBits': WHATEVER THE INPUT: true; the input reads as it did. -/
def digestBitsSpec : ChangeSpec := { name := "digestBits", fn := fun _ => fun
  | [d1, d2] => { results := [.lit (.bool true)], args := [d1, d2] }
  | _ => none }
def digestBitsRow : OpenClaim := { program := "ytgkdfnmgbobamaa", sum := "1aa1b8a658234eae6526ff7c5b0639de27434d3e6a9d5c720bd94a54f38b2a43", func := "probity/probitylaw09.DigestBits", spec := "digestBits", inPlace := ["internal/abi.NoEscape"], unfollowed := true, recurses := true, apart := false }
def DigestBitsSaid : Prop := digestBitsRow.holds Try.pinned (OpenSpec.ofChange digestBitsSpec)

/-- ITS FALSE NEIGHBOUR: 'it returns false'. Refute it at one input. -/
def digestBitsWrong : ChangeSpec := { name := "digestBits", fn := fun _ => fun
  | [d1, d2] => { results := [.lit (.bool false)], args := [d1, d2] }
  | _ => none }
def DigestBitsWrongFalsely : Prop := digestBitsRow.holds Try.pinned (OpenSpec.ofChange digestBitsWrong)

/-- 'probitylaw09.DigestJoined': WHATEVER THE INPUT: true; the input reads as it did. -/
def digestJoinedSpec : ChangeSpec := { name := "digestJoined", fn := fun _ => fun
  | [d1, d2] => { results := [.lit (.bool true)], args := [d1, d2] }
  | _ => none }
def digestJoinedRow : OpenClaim := { program := "ytgkdfnmgbobamaa", sum := "1aa1b8a658234eae6526ff7c5b0639de27434d3e6a9d5c720bd94a54f38b2a43", func := "probity/probitylaw09.DigestJoined", spec := "digestJoined", inPlace := ["internal/abi.NoEscape"], unfollowed := true, recurses := true, apart := false }
def DigestJoinedSaid : Prop := digestJoinedRow.holds Try.pinned (OpenSpec.ofChange digestJoinedSpec)

/-- ITS FALSE NEIGHBOUR: 'it returns false'. Refute it at one input. -/
def digestJoinedWrong : ChangeSpec := { name := "digestJoined", fn := fun _ => fun
  | [d1, d2] => { results := [.lit (.bool false)], args := [d1, d2] }
  | _ => none }
def DigestJoinedWrongFalsely : Prop := digestJoinedRow.holds Try.pinned (OpenSpec.ofChange digestJoinedWrong)

/-- 'probitylaw09.DigestReads': WHATEVER THE INPUT: true; the input reads as it did. -/
def digestReadsSpec : ChangeSpec := { name := "digestReads", fn := fun _ => fun
  | [d1, d2, d3] => { results := [.lit (.bool true)], args := [d1, d2, d3] }
  | _ => none }
def digestReadsRow : OpenClaim := { program := "ytgkdfnmgbobamaa", sum := "1aa1b8a658234eae6526ff7c5b0639de27434d3e6a9d5c720bd94a54f38b2a43", func := "probity/probitylaw09.DigestReads", spec := "digestReads", inPlace := ["internal/abi.NoEscape", "internal/bytealg.IndexByteString"], unfollowed := true, recurses := true, apart := false }
def DigestReadsSaid : Prop := digestReadsRow.holds Try.pinned (OpenSpec.ofChange digestReadsSpec)

/-- ITS FALSE NEIGHBOUR: 'it returns false'. Refute it at one input. -/
def digestReadsWrong : ChangeSpec := { name := "digestReads", fn := fun _ => fun
  | [d1, d2, d3] => { results := [.lit (.bool false)], args := [d1, d2, d3] }
  | _ => none }
def DigestReadsWrongFalsely : Prop := digestReadsRow.holds Try.pinned (OpenSpec.ofChange digestReadsWrong)

/-- 'probitylaw09.DigestLess': WHATEVER THE INPUT: true; the input reads as it did. -/
def digestLessSpec : ChangeSpec := { name := "digestLess", fn := fun _ => fun
  | [d1, d2, d3] => { results := [.lit (.bool true)], args := [d1, d2, d3] }
  | _ => none }
def digestLessRow : OpenClaim := { program := "ytgkdfnmgbobamaa", sum := "1aa1b8a658234eae6526ff7c5b0639de27434d3e6a9d5c720bd94a54f38b2a43", func := "probity/probitylaw09.DigestLess", spec := "digestLess", inPlace := ["internal/abi.NoEscape"], unfollowed := true, recurses := true, apart := false }
def DigestLessSaid : Prop := digestLessRow.holds Try.pinned (OpenSpec.ofChange digestLessSpec)

/-- ITS FALSE NEIGHBOUR: 'it returns false'. Refute it at one input. -/
def digestLessWrong : ChangeSpec := { name := "digestLess", fn := fun _ => fun
  | [d1, d2, d3] => { results := [.lit (.bool false)], args := [d1, d2, d3] }
  | _ => none }
def DigestLessWrongFalsely : Prop := digestLessRow.holds Try.pinned (OpenSpec.ofChange digestLessWrong)

/- THE SECOND FORM. 'bulk': how many values and letters a reading holds, each counted each time it is reached (what is shared counts as often as it is met; a slice's spare places count too). A statement '..UptoSaid' is the law's where the arguments, and the package variables that the reading takes, are together of bulk at most 1048576: NARROWER than '..Said'. Prove '..Said' where nothing that the law and all that it calls make is longer than what came in: it says more and counts as full. Else prove '..UptoSaid'. A law counts once. -/
mutual
def uptoBulk {H : Type} : DataW H → Nat
  | .lit (.string bytes) => bytes.length + 1
  | .lit _ => 1
  | .nil => 1
  | .ptr d => uptoBulk d + 1
  | .slice elems spare => uptoBulkAll elems + uptoBulkAll spare + 1
  | .agg parts => uptoBulkAll parts + 1
  | .iface _ d => uptoBulk d + 1
  | .map entries => uptoBulkEntries entries + 1
  | .held _ => 1
def uptoBulkAll {H : Type} : List (DataW H) → Nat
  | [] => 0
  | d :: r => uptoBulk d + uptoBulkAll r
def uptoBulkEntries {H : Type} : List (Lit × DataW H) → Nat
  | [] => 0
  | x :: r => uptoBulkEntry x + uptoBulkEntries r
def uptoBulkEntry {H : Type} : Lit × DataW H → Nat
  | (.string bytes, d) => bytes.length + uptoBulk d + 1
  | (_, d) => uptoBulk d + 1
 end
def uptoSmall : (H : Type) → List (DataW H) → Bool := fun _ ds => decide (uptoBulkAll ds ≤ 1048576)
def OpenSpec.upto (s : _root_.Go.ChangeSpec) : _root_.Go.OpenSpec := { _root_.Go.OpenSpec.ofChange s with cond := some uptoSmall }

/-- 'probitylaw09.DigestSums', WHERE WHAT IT READS IS OF BULK AT MOST 1048576: true; the input reads as it did. -/
def digestSumsUptoRow : OpenClaim := { program := "ytgkdfnmgbobamaa", sum := "1aa1b8a658234eae6526ff7c5b0639de27434d3e6a9d5c720bd94a54f38b2a43", func := "probity/probitylaw09.DigestSums", spec := "digestSums", inPlace := ["internal/abi.NoEscape"], unfollowed := true, recurses := true, apart := false, narrowed := true }
def DigestSumsUptoSaid : Prop := digestSumsUptoRow.holds Try.pinned (OpenSpec.upto digestSumsSpec)

/-- 'probitylaw09.DigestLengths', WHERE WHAT IT READS IS OF BULK AT MOST 1048576: true; the input reads as it did. -/
def digestLengthsUptoRow : OpenClaim := { program := "ytgkdfnmgbobamaa", sum := "1aa1b8a658234eae6526ff7c5b0639de27434d3e6a9d5c720bd94a54f38b2a43", func := "probity/probitylaw09.DigestLengths", spec := "digestLengths", inPlace := ["internal/abi.NoEscape"], unfollowed := true, recurses := true, apart := false, narrowed := true }
def DigestLengthsUptoSaid : Prop := digestLengthsUptoRow.holds Try.pinned (OpenSpec.upto digestLengthsSpec)

/-- 'probitylaw09.DigestChains', WHERE WHAT IT READS IS OF BULK AT MOST 1048576: true; the input reads as it did. -/
def digestChainsUptoRow : OpenClaim := { program := "ytgkdfnmgbobamaa", sum := "1aa1b8a658234eae6526ff7c5b0639de27434d3e6a9d5c720bd94a54f38b2a43", func := "probity/probitylaw09.DigestChains", spec := "digestChains", inPlace := ["internal/abi.NoEscape"], unfollowed := true, recurses := true, apart := false, narrowed := true }
def DigestChainsUptoSaid : Prop := digestChainsUptoRow.holds Try.pinned (OpenSpec.upto digestChainsSpec)

/-- 'probitylaw09.DigestTexts', WHERE WHAT IT READS IS OF BULK AT MOST 1048576: true; the input reads as it did. -/
def digestTextsUptoRow : OpenClaim := { program := "ytgkdfnmgbobamaa", sum := "1aa1b8a658234eae6526ff7c5b0639de27434d3e6a9d5c720bd94a54f38b2a43", func := "probity/probitylaw09.DigestTexts", spec := "digestTexts", inPlace := ["internal/abi.NoEscape"], unfollowed := true, recurses := true, apart := false, narrowed := true }
def DigestTextsUptoSaid : Prop := digestTextsUptoRow.holds Try.pinned (OpenSpec.upto digestTextsSpec)

/-- 'probitylaw09.DigestBits', WHERE WHAT IT READS IS OF BULK AT MOST 1048576: true; the input reads as it did. -/
def digestBitsUptoRow : OpenClaim := { program := "ytgkdfnmgbobamaa", sum := "1aa1b8a658234eae6526ff7c5b0639de27434d3e6a9d5c720bd94a54f38b2a43", func := "probity/probitylaw09.DigestBits", spec := "digestBits", inPlace := ["internal/abi.NoEscape"], unfollowed := true, recurses := true, apart := false, narrowed := true }
def DigestBitsUptoSaid : Prop := digestBitsUptoRow.holds Try.pinned (OpenSpec.upto digestBitsSpec)

/-- 'probitylaw09.DigestJoined', WHERE WHAT IT READS IS OF BULK AT MOST 1048576: true; the input reads as it did. -/
def digestJoinedUptoRow : OpenClaim := { program := "ytgkdfnmgbobamaa", sum := "1aa1b8a658234eae6526ff7c5b0639de27434d3e6a9d5c720bd94a54f38b2a43", func := "probity/probitylaw09.DigestJoined", spec := "digestJoined", inPlace := ["internal/abi.NoEscape"], unfollowed := true, recurses := true, apart := false, narrowed := true }
def DigestJoinedUptoSaid : Prop := digestJoinedUptoRow.holds Try.pinned (OpenSpec.upto digestJoinedSpec)

/-- 'probitylaw09.DigestReads', WHERE WHAT IT READS IS OF BULK AT MOST 1048576: true; the input reads as it did. -/
def digestReadsUptoRow : OpenClaim := { program := "ytgkdfnmgbobamaa", sum := "1aa1b8a658234eae6526ff7c5b0639de27434d3e6a9d5c720bd94a54f38b2a43", func := "probity/probitylaw09.DigestReads", spec := "digestReads", inPlace := ["internal/abi.NoEscape", "internal/bytealg.IndexByteString"], unfollowed := true, recurses := true, apart := false, narrowed := true }
def DigestReadsUptoSaid : Prop := digestReadsUptoRow.holds Try.pinned (OpenSpec.upto digestReadsSpec)

/-- 'probitylaw09.DigestLess', WHERE WHAT IT READS IS OF BULK AT MOST 1048576: true; the input reads as it did. -/
def digestLessUptoRow : OpenClaim := { program := "ytgkdfnmgbobamaa", sum := "1aa1b8a658234eae6526ff7c5b0639de27434d3e6a9d5c720bd94a54f38b2a43", func := "probity/probitylaw09.DigestLess", spec := "digestLess", inPlace := ["internal/abi.NoEscape"], unfollowed := true, recurses := true, apart := false, narrowed := true }
def DigestLessUptoSaid : Prop := digestLessUptoRow.holds Try.pinned (OpenSpec.upto digestLessSpec)

end Rows
end Go.Proofs.Ytgkdfnmgbobamaa
