/-
  No cell of these rows narrows 'for every input' (looked for: loops, veiled, ifaces, maps, wideKeys, modest, calm, conditions, laid).
  DERIVED. THE GIVEN ROWS OF THIS SEAT. 9 by the template 'for every input the law returns true; each argument reads behind the call as it read before'; 0 by the template 'total and deterministic' (their statements: YtpkhdkbpfajfcaaTotals.lean).
  GIVEN WITH THE SEED: the statements are not yours to turn. If you find one false, say at which input.
  Laid BY PROGRAM, IN A SANDBOX (cutbox-rows.mjs): the forced cells as the released guide's own fill.sh prints them over the translation 9b52906032698286… (all of the seat's roots in one cut). By AI agents, Wed Nov 11 2026. No macro, syntax, notation, axiom, sorry.
-/
import Derived.Test.YtpkhdkbpfajfcaaChecked
import GoSem.Claim
import GoSem.ClaimJoined
import GoSem.ClaimMapViews
import Derived.JoinedTies
import Derived.KernelRfl
namespace Go.Proofs.Ytpkhdkbpfajfcaa
/- THE CELL 'sum', in the pinned program and in every row, IS THE sha256 OF THE DUMP (.gsa) THAT YtpkhdkbpfajfcaaProg.lean LOADS. Nothing in Lean hashes anything: it is a label: what it is worth is what the hold of that sum in a sandbox is worth. -/
noncomputable def Try.pinned : Pinned := { name := "ytpkhdkbpfajfcaa", sum := "9b52906032698286090abe70979d24836ab903bc7627c8a4e55a6ff2ff028ebe", checked := Try.checked }
namespace Rows
def none {H : Type} : Left H := { results := [], args := [] }

/-- 'probitylaw11.FieldSums': WHATEVER THE INPUT: true; the input reads as it did. -/
def fieldSumsSpec : ChangeSpec := { name := "fieldSums", fn := fun _ => fun
  | [d1, d2, d3] => { results := [.lit (.bool true)], args := [d1, d2, d3] }
  | _ => none }
def fieldSumsRow : OpenClaim := { program := "ytpkhdkbpfajfcaa", sum := "9b52906032698286090abe70979d24836ab903bc7627c8a4e55a6ff2ff028ebe", func := "probity/probitylaw11.FieldSums", spec := "fieldSums", unfollowed := true, recurses := true, named := ["math/bits.divideError", "math/bits.overflowError"], apart := false }
def FieldSumsSaid : Prop := fieldSumsRow.holds Try.pinned (OpenSpec.ofChange fieldSumsSpec)

/-- ITS FALSE NEIGHBOUR: 'it returns false'. Refute it at one input. -/
def fieldSumsWrong : ChangeSpec := { name := "fieldSums", fn := fun _ => fun
  | [d1, d2, d3] => { results := [.lit (.bool false)], args := [d1, d2, d3] }
  | _ => none }
def FieldSumsWrongFalsely : Prop := fieldSumsRow.holds Try.pinned (OpenSpec.ofChange fieldSumsWrong)

/-- 'probitylaw11.FieldResidues': WHATEVER THE INPUT: true; the input reads as it did. -/
def fieldResiduesSpec : ChangeSpec := { name := "fieldResidues", fn := fun _ => fun
  | [d1, d2, d3] => { results := [.lit (.bool true)], args := [d1, d2, d3] }
  | _ => none }
def fieldResiduesRow : OpenClaim := { program := "ytpkhdkbpfajfcaa", sum := "9b52906032698286090abe70979d24836ab903bc7627c8a4e55a6ff2ff028ebe", func := "probity/probitylaw11.FieldResidues", spec := "fieldResidues", unfollowed := true, recurses := true, named := ["math/bits.divideError", "math/bits.overflowError"], apart := false }
def FieldResiduesSaid : Prop := fieldResiduesRow.holds Try.pinned (OpenSpec.ofChange fieldResiduesSpec)

/-- ITS FALSE NEIGHBOUR: 'it returns false'. Refute it at one input. -/
def fieldResiduesWrong : ChangeSpec := { name := "fieldResidues", fn := fun _ => fun
  | [d1, d2, d3] => { results := [.lit (.bool false)], args := [d1, d2, d3] }
  | _ => none }
def FieldResiduesWrongFalsely : Prop := fieldResiduesRow.holds Try.pinned (OpenSpec.ofChange fieldResiduesWrong)

/-- 'probitylaw11.FieldRing': WHATEVER THE INPUT: true; the input reads as it did. -/
def fieldRingSpec : ChangeSpec := { name := "fieldRing", fn := fun _ => fun
  | [d1, d2, d3] => { results := [.lit (.bool true)], args := [d1, d2, d3] }
  | _ => none }
def fieldRingRow : OpenClaim := { program := "ytpkhdkbpfajfcaa", sum := "9b52906032698286090abe70979d24836ab903bc7627c8a4e55a6ff2ff028ebe", func := "probity/probitylaw11.FieldRing", spec := "fieldRing", unfollowed := true, recurses := true, named := ["math/bits.divideError", "math/bits.overflowError"], apart := false }
def FieldRingSaid : Prop := fieldRingRow.holds Try.pinned (OpenSpec.ofChange fieldRingSpec)

/-- ITS FALSE NEIGHBOUR: 'it returns false'. Refute it at one input. -/
def fieldRingWrong : ChangeSpec := { name := "fieldRing", fn := fun _ => fun
  | [d1, d2, d3] => { results := [.lit (.bool false)], args := [d1, d2, d3] }
  | _ => none }
def FieldRingWrongFalsely : Prop := fieldRingRow.holds Try.pinned (OpenSpec.ofChange fieldRingWrong)

/-- 'probitylaw11.FieldPowers': WHATEVER THE INPUT: true; the input reads as it did. -/
def fieldPowersSpec : ChangeSpec := { name := "fieldPowers", fn := fun _ => fun
  | [d1, d2, d3] => { results := [.lit (.bool true)], args := [d1, d2, d3] }
  | _ => none }
def fieldPowersRow : OpenClaim := { program := "ytpkhdkbpfajfcaa", sum := "9b52906032698286090abe70979d24836ab903bc7627c8a4e55a6ff2ff028ebe", func := "probity/probitylaw11.FieldPowers", spec := "fieldPowers", unfollowed := true, recurses := true, named := ["math/bits.divideError", "math/bits.overflowError"], apart := false }
def FieldPowersSaid : Prop := fieldPowersRow.holds Try.pinned (OpenSpec.ofChange fieldPowersSpec)

/-- ITS FALSE NEIGHBOUR: 'it returns false'. Refute it at one input. -/
def fieldPowersWrong : ChangeSpec := { name := "fieldPowers", fn := fun _ => fun
  | [d1, d2, d3] => { results := [.lit (.bool false)], args := [d1, d2, d3] }
  | _ => none }
def FieldPowersWrongFalsely : Prop := fieldPowersRow.holds Try.pinned (OpenSpec.ofChange fieldPowersWrong)

/-- 'probitylaw11.FieldInverse': WHATEVER THE INPUT: true; the input reads as it did. -/
def fieldInverseSpec : ChangeSpec := { name := "fieldInverse", fn := fun _ => fun
  | [d1, d2] => { results := [.lit (.bool true)], args := [d1, d2] }
  | _ => none }
def fieldInverseRow : OpenClaim := { program := "ytpkhdkbpfajfcaa", sum := "9b52906032698286090abe70979d24836ab903bc7627c8a4e55a6ff2ff028ebe", func := "probity/probitylaw11.FieldInverse", spec := "fieldInverse", unfollowed := true, recurses := true, named := ["math/bits.divideError", "math/bits.overflowError"], apart := false }
def FieldInverseSaid : Prop := fieldInverseRow.holds Try.pinned (OpenSpec.ofChange fieldInverseSpec)

/-- ITS FALSE NEIGHBOUR: 'it returns false'. Refute it at one input. -/
def fieldInverseWrong : ChangeSpec := { name := "fieldInverse", fn := fun _ => fun
  | [d1, d2] => { results := [.lit (.bool false)], args := [d1, d2] }
  | _ => none }
def FieldInverseWrongFalsely : Prop := fieldInverseRow.holds Try.pinned (OpenSpec.ofChange fieldInverseWrong)

/-- 'probitylaw11.FieldMember': WHATEVER THE INPUT: true; the input reads as it did. -/
def fieldMemberSpec : ChangeSpec := { name := "fieldMember", fn := fun _ => fun
  | [d1, d2] => { results := [.lit (.bool true)], args := [d1, d2] }
  | _ => none }
def fieldMemberRow : OpenClaim := { program := "ytpkhdkbpfajfcaa", sum := "9b52906032698286090abe70979d24836ab903bc7627c8a4e55a6ff2ff028ebe", func := "probity/probitylaw11.FieldMember", spec := "fieldMember", unfollowed := true, recurses := true, named := ["math/bits.divideError", "math/bits.overflowError"], apart := false }
def FieldMemberSaid : Prop := fieldMemberRow.holds Try.pinned (OpenSpec.ofChange fieldMemberSpec)

/-- ITS FALSE NEIGHBOUR: 'it returns false'. Refute it at one input. -/
def fieldMemberWrong : ChangeSpec := { name := "fieldMember", fn := fun _ => fun
  | [d1, d2] => { results := [.lit (.bool false)], args := [d1, d2] }
  | _ => none }
def FieldMemberWrongFalsely : Prop := fieldMemberRow.holds Try.pinned (OpenSpec.ofChange fieldMemberWrong)

/-- 'probitylaw11.FieldGroup': WHATEVER THE INPUT: true; the input reads as it did. -/
def fieldGroupSpec : ChangeSpec := { name := "fieldGroup", fn := fun _ => fun
  | [d1, d2, d3] => { results := [.lit (.bool true)], args := [d1, d2, d3] }
  | _ => none }
def fieldGroupRow : OpenClaim := { program := "ytpkhdkbpfajfcaa", sum := "9b52906032698286090abe70979d24836ab903bc7627c8a4e55a6ff2ff028ebe", func := "probity/probitylaw11.FieldGroup", spec := "fieldGroup", unfollowed := true, recurses := true, named := ["math/bits.divideError", "math/bits.overflowError"], apart := false }
def FieldGroupSaid : Prop := fieldGroupRow.holds Try.pinned (OpenSpec.ofChange fieldGroupSpec)

/-- ITS FALSE NEIGHBOUR: 'it returns false'. Refute it at one input. -/
def fieldGroupWrong : ChangeSpec := { name := "fieldGroup", fn := fun _ => fun
  | [d1, d2, d3] => { results := [.lit (.bool false)], args := [d1, d2, d3] }
  | _ => none }
def FieldGroupWrongFalsely : Prop := fieldGroupRow.holds Try.pinned (OpenSpec.ofChange fieldGroupWrong)

/-- 'probitylaw11.FieldFermat': WHATEVER THE INPUT: true; the input reads as it did. -/
def fieldFermatSpec : ChangeSpec := { name := "fieldFermat", fn := fun _ => fun
  | [d] => { results := [.lit (.bool true)], args := [d] }
  | _ => none }
def fieldFermatRow : OpenClaim := { program := "ytpkhdkbpfajfcaa", sum := "9b52906032698286090abe70979d24836ab903bc7627c8a4e55a6ff2ff028ebe", func := "probity/probitylaw11.FieldFermat", spec := "fieldFermat", unfollowed := true, recurses := true, named := ["math/bits.divideError", "math/bits.overflowError"], apart := false }
def FieldFermatSaid : Prop := fieldFermatRow.holds Try.pinned (OpenSpec.ofChange fieldFermatSpec)

/-- ITS FALSE NEIGHBOUR: 'it returns false'. Refute it at one input. -/
def fieldFermatWrong : ChangeSpec := { name := "fieldFermat", fn := fun _ => fun
  | [d] => { results := [.lit (.bool false)], args := [d] }
  | _ => none }
def FieldFermatWrongFalsely : Prop := fieldFermatRow.holds Try.pinned (OpenSpec.ofChange fieldFermatWrong)

/-- 'probitylaw11.FieldHash': WHATEVER THE INPUT: true; the input reads as it did. -/
def fieldHashSpec : ChangeSpec := { name := "fieldHash", fn := fun _ => fun
  | [d1, d2] => { results := [.lit (.bool true)], args := [d1, d2] }
  | _ => none }
def fieldHashRow : OpenClaim := { program := "ytpkhdkbpfajfcaa", sum := "9b52906032698286090abe70979d24836ab903bc7627c8a4e55a6ff2ff028ebe", func := "probity/probitylaw11.FieldHash", spec := "fieldHash", unfollowed := true, recurses := true, named := ["math/bits.divideError", "math/bits.overflowError"], apart := false }
def FieldHashSaid : Prop := fieldHashRow.holds Try.pinned (OpenSpec.ofChange fieldHashSpec)

/-- ITS FALSE NEIGHBOUR: 'it returns false'. Refute it at one input. -/
def fieldHashWrong : ChangeSpec := { name := "fieldHash", fn := fun _ => fun
  | [d1, d2] => { results := [.lit (.bool false)], args := [d1, d2] }
  | _ => none }
def FieldHashWrongFalsely : Prop := fieldHashRow.holds Try.pinned (OpenSpec.ofChange fieldHashWrong)

/- THE SECOND FORM. 'bulk': how many values and letters a reading holds, each counted each time it is reached (what is shared counts as often as it is met; a slice's spare places count too). A statement '..UptoSaid' is the law's where the arguments, and the package variables that the reading takes, are together of bulk at most 1048576: NARROWER than '..Said'. Prove '..Said' where nothing that the law and all that it calls make is longer than what came in: it says more and counts as full. Else prove '..UptoSaid'. A law counts once. -/
mutual
def uptoBulk {H : Type} : DataW H → Nat
  | .lit (.string bytes) => bytes.length + 1
  | .lit _ => 1
  | .nil => 1
  | .ptr d => uptoBulk d + 1
  | .slice elems spare => uptoBulkAll elems + uptoBulkAll spare + 1
  | .agg parts => uptoBulkAll parts + 1
  | .iface _ d => uptoBulk d + 1
  | .map entries => uptoBulkEntries entries + 1
  | .held _ => 1
def uptoBulkAll {H : Type} : List (DataW H) → Nat
  | [] => 0
  | d :: r => uptoBulk d + uptoBulkAll r
def uptoBulkEntries {H : Type} : List (Lit × DataW H) → Nat
  | [] => 0
  | x :: r => uptoBulkEntry x + uptoBulkEntries r
def uptoBulkEntry {H : Type} : Lit × DataW H → Nat
  | (.string bytes, d) => bytes.length + uptoBulk d + 1
  | (_, d) => uptoBulk d + 1
 end
def uptoSmall : (H : Type) → List (DataW H) → Bool := fun _ ds => decide (uptoBulkAll ds ≤ 1048576)
def OpenSpec.upto (s : _root_.Go.ChangeSpec) : _root_.Go.OpenSpec := { _root_.Go.OpenSpec.ofChange s with cond := some uptoSmall }

/-- 'probitylaw11.FieldSums', WHERE WHAT IT READS IS OF BULK AT MOST 1048576: true; the input reads as it did. -/
def fieldSumsUptoRow : OpenClaim := { program := "ytpkhdkbpfajfcaa", sum := "9b52906032698286090abe70979d24836ab903bc7627c8a4e55a6ff2ff028ebe", func := "probity/probitylaw11.FieldSums", spec := "fieldSums", unfollowed := true, recurses := true, named := ["math/bits.divideError", "math/bits.overflowError"], apart := false, narrowed := true }
def FieldSumsUptoSaid : Prop := fieldSumsUptoRow.holds Try.pinned (OpenSpec.upto fieldSumsSpec)

/-- 'probitylaw11.FieldResidues', WHERE WHAT IT READS IS OF BULK AT MOST 1048576: true; the input reads as it did. -/
def fieldResiduesUptoRow : OpenClaim := { program := "ytpkhdkbpfajfcaa", sum := "9b52906032698286090abe70979d24836ab903bc7627c8a4e55a6ff2ff028ebe", func := "probity/probitylaw11.FieldResidues", spec := "fieldResidues", unfollowed := true, recurses := true, named := ["math/bits.divideError", "math/bits.overflowError"], apart := false, narrowed := true }
def FieldResiduesUptoSaid : Prop := fieldResiduesUptoRow.holds Try.pinned (OpenSpec.upto fieldResiduesSpec)

/-- 'probitylaw11.FieldRing', WHERE WHAT IT READS IS OF BULK AT MOST 1048576: true; the input reads as it did. -/
def fieldRingUptoRow : OpenClaim := { program := "ytpkhdkbpfajfcaa", sum := "9b52906032698286090abe70979d24836ab903bc7627c8a4e55a6ff2ff028ebe", func := "probity/probitylaw11.FieldRing", spec := "fieldRing", unfollowed := true, recurses := true, named := ["math/bits.divideError", "math/bits.overflowError"], apart := false, narrowed := true }
def FieldRingUptoSaid : Prop := fieldRingUptoRow.holds Try.pinned (OpenSpec.upto fieldRingSpec)

/-- 'probitylaw11.FieldPowers', WHERE WHAT IT READS IS OF BULK AT MOST 1048576: true; the input reads as it did. -/
def fieldPowersUptoRow : OpenClaim := { program := "ytpkhdkbpfajfcaa", sum := "9b52906032698286090abe70979d24836ab903bc7627c8a4e55a6ff2ff028ebe", func := "probity/probitylaw11.FieldPowers", spec := "fieldPowers", unfollowed := true, recurses := true, named := ["math/bits.divideError", "math/bits.overflowError"], apart := false, narrowed := true }
def FieldPowersUptoSaid : Prop := fieldPowersUptoRow.holds Try.pinned (OpenSpec.upto fieldPowersSpec)

/-- 'probitylaw11.FieldInverse', WHERE WHAT IT READS IS OF BULK AT MOST 1048576: true; the input reads as it did. -/
def fieldInverseUptoRow : OpenClaim := { program := "ytpkhdkbpfajfcaa", sum := "9b52906032698286090abe70979d24836ab903bc7627c8a4e55a6ff2ff028ebe", func := "probity/probitylaw11.FieldInverse", spec := "fieldInverse", unfollowed := true, recurses := true, named := ["math/bits.divideError", "math/bits.overflowError"], apart := false, narrowed := true }
def FieldInverseUptoSaid : Prop := fieldInverseUptoRow.holds Try.pinned (OpenSpec.upto fieldInverseSpec)

/-- 'probitylaw11.FieldMember', WHERE WHAT IT READS IS OF BULK AT MOST 1048576: true; the input reads as it did. -/
def fieldMemberUptoRow : OpenClaim := { program := "ytpkhdkbpfajfcaa", sum := "9b52906032698286090abe70979d24836ab903bc7627c8a4e55a6ff2ff028ebe", func := "probity/probitylaw11.FieldMember", spec := "fieldMember", unfollowed := true, recurses := true, named := ["math/bits.divideError", "math/bits.overflowError"], apart := false, narrowed := true }
def FieldMemberUptoSaid : Prop := fieldMemberUptoRow.holds Try.pinned (OpenSpec.upto fieldMemberSpec)

/-- 'probitylaw11.FieldGroup', WHERE WHAT IT READS IS OF BULK AT MOST 1048576: true; the input reads as it did. -/
def fieldGroupUptoRow : OpenClaim := { program := "ytpkhdkbpfajfcaa", sum := "9b52906032698286090abe70979d24836ab903bc7627c8a4e55a6ff2ff028ebe", func := "probity/probitylaw11.FieldGroup", spec := "fieldGroup", unfollowed := true, recurses := true, named := ["math/bits.divideError", "math/bits.overflowError"], apart := false, narrowed := true }
def FieldGroupUptoSaid : Prop := fieldGroupUptoRow.holds Try.pinned (OpenSpec.upto fieldGroupSpec)

/-- 'probitylaw11.FieldFermat', WHERE WHAT IT READS IS OF BULK AT MOST 1048576: true; the input reads as it did. -/
def fieldFermatUptoRow : OpenClaim := { program := "ytpkhdkbpfajfcaa", sum := "9b52906032698286090abe70979d24836ab903bc7627c8a4e55a6ff2ff028ebe", func := "probity/probitylaw11.FieldFermat", spec := "fieldFermat", unfollowed := true, recurses := true, named := ["math/bits.divideError", "math/bits.overflowError"], apart := false, narrowed := true }
def FieldFermatUptoSaid : Prop := fieldFermatUptoRow.holds Try.pinned (OpenSpec.upto fieldFermatSpec)

/-- 'probitylaw11.FieldHash', WHERE WHAT IT READS IS OF BULK AT MOST 1048576: true; the input reads as it did. -/
def fieldHashUptoRow : OpenClaim := { program := "ytpkhdkbpfajfcaa", sum := "9b52906032698286090abe70979d24836ab903bc7627c8a4e55a6ff2ff028ebe", func := "probity/probitylaw11.FieldHash", spec := "fieldHash", unfollowed := true, recurses := true, named := ["math/bits.divideError", "math/bits.overflowError"], apart := false, narrowed := true }
def FieldHashUptoSaid : Prop := fieldHashUptoRow.holds Try.pinned (OpenSpec.upto fieldHashSpec)

end Rows
end Go.Proofs.Ytpkhdkbpfajfcaa
