/-
  No cell of these rows narrows 'for every input' (looked for: loops, veiled, ifaces, maps, wideKeys, modest, calm, conditions, laid).
  DERIVED. THE GIVEN ROWS OF THIS SEAT. 8 by the template 'for every input the law returns true; each argument reads behind the call as it read before'; 0 by the template 'total and deterministic' (their statements: YtdnabeldaighgaaTotals.lean).
  GIVEN WITH THE SEED: the statements are not yours to turn. If you find one false, say at which input.
  Laid BY PROGRAM, IN A SANDBOX (cutbox-rows.mjs): the forced cells as the released guide's own fill.sh prints them over the translation db754c2d3c64b2c0… (all of the seat's roots in one cut). By AI agents, Wed Nov 11 2026. No macro, syntax, notation, axiom, sorry.
-/
import Derived.Test.YtdnabeldaighgaaChecked
import GoSem.Claim
import GoSem.ClaimJoined
import GoSem.ClaimMapViews
import Derived.JoinedTies
import Derived.KernelRfl
namespace Go.Proofs.Ytdnabeldaighgaa
/- THE CELL 'sum', in the pinned program and in every row, IS THE sha256 OF THE DUMP (.gsa) THAT YtdnabeldaighgaaProg.lean LOADS. Nothing in Lean hashes anything: it is a label: what it is worth is what the hold of that sum in a sandbox is worth. -/
noncomputable def Try.pinned : Pinned := { name := "ytdnabeldaighgaa", sum := "db754c2d3c64b2c0f59bda1cbd0d25a442d3ae1ba65cd54489d21ce4f90823e8", checked := Try.checked }
namespace Rows
def none {H : Type} : Left H := { results := [], args := [] }

/-- 'probitylaw12.ShareHides': WHATEVER THE INPUT: true; the input reads as it did. -/
def shareHidesSpec : ChangeSpec := { name := "shareHides", fn := fun _ => fun
  | [d1, d2, d3] => { results := [.lit (.bool true)], args := [d1, d2, d3] }
  | _ => none }
def shareHidesRow : OpenClaim := { program := "ytdnabeldaighgaa", sum := "db754c2d3c64b2c0f59bda1cbd0d25a442d3ae1ba65cd54489d21ce4f90823e8", func := "probity/probitylaw12.ShareHides", spec := "shareHides", unfollowed := true, recurses := true, named := ["math/bits.divideError", "math/bits.overflowError"], apart := false }
def ShareHidesSaid : Prop := shareHidesRow.holds Try.pinned (OpenSpec.ofChange shareHidesSpec)

/-- ITS FALSE NEIGHBOUR: 'it returns false'. Refute it at one input. -/
def shareHidesWrong : ChangeSpec := { name := "shareHides", fn := fun _ => fun
  | [d1, d2, d3] => { results := [.lit (.bool false)], args := [d1, d2, d3] }
  | _ => none }
def ShareHidesWrongFalsely : Prop := shareHidesRow.holds Try.pinned (OpenSpec.ofChange shareHidesWrong)

/-- 'probitylaw12.ShareSums': WHATEVER THE INPUT: true; the input reads as it did. -/
def shareSumsSpec : ChangeSpec := { name := "shareSums", fn := fun _ => fun
  | [d1, d2] => { results := [.lit (.bool true)], args := [d1, d2] }
  | _ => none }
def shareSumsRow : OpenClaim := { program := "ytdnabeldaighgaa", sum := "db754c2d3c64b2c0f59bda1cbd0d25a442d3ae1ba65cd54489d21ce4f90823e8", func := "probity/probitylaw12.ShareSums", spec := "shareSums", unfollowed := true, recurses := true, named := ["math/bits.divideError", "math/bits.overflowError"], apart := false }
def ShareSumsSaid : Prop := shareSumsRow.holds Try.pinned (OpenSpec.ofChange shareSumsSpec)

/-- ITS FALSE NEIGHBOUR: 'it returns false'. Refute it at one input. -/
def shareSumsWrong : ChangeSpec := { name := "shareSums", fn := fun _ => fun
  | [d1, d2] => { results := [.lit (.bool false)], args := [d1, d2] }
  | _ => none }
def ShareSumsWrongFalsely : Prop := shareSumsRow.holds Try.pinned (OpenSpec.ofChange shareSumsWrong)

/-- 'probitylaw12.ShareSplits': WHATEVER THE INPUT: true; the input reads as it did. -/
def shareSplitsSpec : ChangeSpec := { name := "shareSplits", fn := fun _ => fun
  | [d1, d2, d3] => { results := [.lit (.bool true)], args := [d1, d2, d3] }
  | _ => none }
def shareSplitsRow : OpenClaim := { program := "ytdnabeldaighgaa", sum := "db754c2d3c64b2c0f59bda1cbd0d25a442d3ae1ba65cd54489d21ce4f90823e8", func := "probity/probitylaw12.ShareSplits", spec := "shareSplits", unfollowed := true, recurses := true, named := ["math/bits.divideError", "math/bits.overflowError"], apart := false }
def ShareSplitsSaid : Prop := shareSplitsRow.holds Try.pinned (OpenSpec.ofChange shareSplitsSpec)

/-- ITS FALSE NEIGHBOUR: 'it returns false'. Refute it at one input. -/
def shareSplitsWrong : ChangeSpec := { name := "shareSplits", fn := fun _ => fun
  | [d1, d2, d3] => { results := [.lit (.bool false)], args := [d1, d2, d3] }
  | _ => none }
def ShareSplitsWrongFalsely : Prop := shareSplitsRow.holds Try.pinned (OpenSpec.ofChange shareSplitsWrong)

/-- 'probitylaw12.ShareVerifies': WHATEVER THE INPUT: true; the input reads as it did. -/
def shareVerifiesSpec : ChangeSpec := { name := "shareVerifies", fn := fun _ => fun
  | [d1, d2, d3] => { results := [.lit (.bool true)], args := [d1, d2, d3] }
  | _ => none }
def shareVerifiesRow : OpenClaim := { program := "ytdnabeldaighgaa", sum := "db754c2d3c64b2c0f59bda1cbd0d25a442d3ae1ba65cd54489d21ce4f90823e8", func := "probity/probitylaw12.ShareVerifies", spec := "shareVerifies", unfollowed := true, recurses := true, named := ["math/bits.divideError", "math/bits.overflowError"], apart := false }
def ShareVerifiesSaid : Prop := shareVerifiesRow.holds Try.pinned (OpenSpec.ofChange shareVerifiesSpec)

/-- ITS FALSE NEIGHBOUR: 'it returns false'. Refute it at one input. -/
def shareVerifiesWrong : ChangeSpec := { name := "shareVerifies", fn := fun _ => fun
  | [d1, d2, d3] => { results := [.lit (.bool false)], args := [d1, d2, d3] }
  | _ => none }
def ShareVerifiesWrongFalsely : Prop := shareVerifiesRow.holds Try.pinned (OpenSpec.ofChange shareVerifiesWrong)

/-- 'probitylaw12.ShareOnly': WHATEVER THE INPUT: true; the input reads as it did. -/
def shareOnlySpec : ChangeSpec := { name := "shareOnly", fn := fun _ => fun
  | [d1, d2, d3] => { results := [.lit (.bool true)], args := [d1, d2, d3] }
  | _ => none }
def shareOnlyRow : OpenClaim := { program := "ytdnabeldaighgaa", sum := "db754c2d3c64b2c0f59bda1cbd0d25a442d3ae1ba65cd54489d21ce4f90823e8", func := "probity/probitylaw12.ShareOnly", spec := "shareOnly", unfollowed := true, recurses := true, named := ["math/bits.divideError", "math/bits.overflowError"], apart := false }
def ShareOnlySaid : Prop := shareOnlyRow.holds Try.pinned (OpenSpec.ofChange shareOnlySpec)

/-- ITS FALSE NEIGHBOUR: 'it returns false'. Refute it at one input. -/
def shareOnlyWrong : ChangeSpec := { name := "shareOnly", fn := fun _ => fun
  | [d1, d2, d3] => { results := [.lit (.bool false)], args := [d1, d2, d3] }
  | _ => none }
def ShareOnlyWrongFalsely : Prop := shareOnlyRow.holds Try.pinned (OpenSpec.ofChange shareOnlyWrong)

/-- 'probitylaw12.ShareJoins': WHATEVER THE INPUT: true; the input reads as it did. -/
def shareJoinsSpec : ChangeSpec := { name := "shareJoins", fn := fun _ => fun
  | [d1, d2, d3] => { results := [.lit (.bool true)], args := [d1, d2, d3] }
  | _ => none }
def shareJoinsRow : OpenClaim := { program := "ytdnabeldaighgaa", sum := "db754c2d3c64b2c0f59bda1cbd0d25a442d3ae1ba65cd54489d21ce4f90823e8", func := "probity/probitylaw12.ShareJoins", spec := "shareJoins", unfollowed := true, recurses := true, named := ["math/bits.divideError", "math/bits.overflowError"], apart := false }
def ShareJoinsSaid : Prop := shareJoinsRow.holds Try.pinned (OpenSpec.ofChange shareJoinsSpec)

/-- ITS FALSE NEIGHBOUR: 'it returns false'. Refute it at one input. -/
def shareJoinsWrong : ChangeSpec := { name := "shareJoins", fn := fun _ => fun
  | [d1, d2, d3] => { results := [.lit (.bool false)], args := [d1, d2, d3] }
  | _ => none }
def ShareJoinsWrongFalsely : Prop := shareJoinsRow.holds Try.pinned (OpenSpec.ofChange shareJoinsWrong)

/-- 'probitylaw12.ShareOpens': WHATEVER THE INPUT: true; the input reads as it did. -/
def shareOpensSpec : ChangeSpec := { name := "shareOpens", fn := fun _ => fun
  | [d1, d2, d3] => { results := [.lit (.bool true)], args := [d1, d2, d3] }
  | _ => none }
def shareOpensRow : OpenClaim := { program := "ytdnabeldaighgaa", sum := "db754c2d3c64b2c0f59bda1cbd0d25a442d3ae1ba65cd54489d21ce4f90823e8", func := "probity/probitylaw12.ShareOpens", spec := "shareOpens", unfollowed := true, recurses := true, named := ["math/bits.divideError", "math/bits.overflowError"], apart := false }
def ShareOpensSaid : Prop := shareOpensRow.holds Try.pinned (OpenSpec.ofChange shareOpensSpec)

/-- ITS FALSE NEIGHBOUR: 'it returns false'. Refute it at one input. -/
def shareOpensWrong : ChangeSpec := { name := "shareOpens", fn := fun _ => fun
  | [d1, d2, d3] => { results := [.lit (.bool false)], args := [d1, d2, d3] }
  | _ => none }
def ShareOpensWrongFalsely : Prop := shareOpensRow.holds Try.pinned (OpenSpec.ofChange shareOpensWrong)

/-- 'probitylaw12.ShareBlames': WHATEVER THE INPUT: true; the input reads as it did. -/
def shareBlamesSpec : ChangeSpec := { name := "shareBlames", fn := fun _ => fun
  | [d1, d2] => { results := [.lit (.bool true)], args := [d1, d2] }
  | _ => none }
def shareBlamesRow : OpenClaim := { program := "ytdnabeldaighgaa", sum := "db754c2d3c64b2c0f59bda1cbd0d25a442d3ae1ba65cd54489d21ce4f90823e8", func := "probity/probitylaw12.ShareBlames", spec := "shareBlames", unfollowed := true, recurses := true, named := ["math/bits.divideError", "math/bits.overflowError"], apart := false }
def ShareBlamesSaid : Prop := shareBlamesRow.holds Try.pinned (OpenSpec.ofChange shareBlamesSpec)

/-- ITS FALSE NEIGHBOUR: 'it returns false'. Refute it at one input. -/
def shareBlamesWrong : ChangeSpec := { name := "shareBlames", fn := fun _ => fun
  | [d1, d2] => { results := [.lit (.bool false)], args := [d1, d2] }
  | _ => none }
def ShareBlamesWrongFalsely : Prop := shareBlamesRow.holds Try.pinned (OpenSpec.ofChange shareBlamesWrong)

/- THE SECOND FORM. 'bulk': how many values and letters a reading holds, each counted each time it is reached (what is shared counts as often as it is met; a slice's spare places count too). A statement '..UptoSaid' is the law's where the arguments, and the package variables that the reading takes, are together of bulk at most 1048576: NARROWER than '..Said'. Prove '..Said' where nothing that the law and all that it calls make is longer than what came in: it says more and counts as full. Else prove '..UptoSaid'. A law counts once. -/
mutual
def uptoBulk {H : Type} : DataW H → Nat
  | .lit (.string bytes) => bytes.length + 1
  | .lit _ => 1
  | .nil => 1
  | .ptr d => uptoBulk d + 1
  | .slice elems spare => uptoBulkAll elems + uptoBulkAll spare + 1
  | .agg parts => uptoBulkAll parts + 1
  | .iface _ d => uptoBulk d + 1
  | .map entries => uptoBulkEntries entries + 1
  | .held _ => 1
def uptoBulkAll {H : Type} : List (DataW H) → Nat
  | [] => 0
  | d :: r => uptoBulk d + uptoBulkAll r
def uptoBulkEntries {H : Type} : List (Lit × DataW H) → Nat
  | [] => 0
  | x :: r => uptoBulkEntry x + uptoBulkEntries r
def uptoBulkEntry {H : Type} : Lit × DataW H → Nat
  | (.string bytes, d) => bytes.length + uptoBulk d + 1
  | (_, d) => uptoBulk d + 1
 end
def uptoSmall : (H : Type) → List (DataW H) → Bool := fun _ ds => decide (uptoBulkAll ds ≤ 1048576)
def OpenSpec.upto (s : _root_.Go.ChangeSpec) : _root_.Go.OpenSpec := { _root_.Go.OpenSpec.ofChange s with cond := some uptoSmall }

/-- 'probitylaw12.ShareHides', WHERE WHAT IT READS IS OF BULK AT MOST 1048576: true; the input reads as it did. -/
def shareHidesUptoRow : OpenClaim := { program := "ytdnabeldaighgaa", sum := "db754c2d3c64b2c0f59bda1cbd0d25a442d3ae1ba65cd54489d21ce4f90823e8", func := "probity/probitylaw12.ShareHides", spec := "shareHides", unfollowed := true, recurses := true, named := ["math/bits.divideError", "math/bits.overflowError"], apart := false, narrowed := true }
def ShareHidesUptoSaid : Prop := shareHidesUptoRow.holds Try.pinned (OpenSpec.upto shareHidesSpec)

/-- 'probitylaw12.ShareSums', WHERE WHAT IT READS IS OF BULK AT MOST 1048576: true; the input reads as it did. -/
def shareSumsUptoRow : OpenClaim := { program := "ytdnabeldaighgaa", sum := "db754c2d3c64b2c0f59bda1cbd0d25a442d3ae1ba65cd54489d21ce4f90823e8", func := "probity/probitylaw12.ShareSums", spec := "shareSums", unfollowed := true, recurses := true, named := ["math/bits.divideError", "math/bits.overflowError"], apart := false, narrowed := true }
def ShareSumsUptoSaid : Prop := shareSumsUptoRow.holds Try.pinned (OpenSpec.upto shareSumsSpec)

/-- 'probitylaw12.ShareSplits', WHERE WHAT IT READS IS OF BULK AT MOST 1048576: true; the input reads as it did. -/
def shareSplitsUptoRow : OpenClaim := { program := "ytdnabeldaighgaa", sum := "db754c2d3c64b2c0f59bda1cbd0d25a442d3ae1ba65cd54489d21ce4f90823e8", func := "probity/probitylaw12.ShareSplits", spec := "shareSplits", unfollowed := true, recurses := true, named := ["math/bits.divideError", "math/bits.overflowError"], apart := false, narrowed := true }
def ShareSplitsUptoSaid : Prop := shareSplitsUptoRow.holds Try.pinned (OpenSpec.upto shareSplitsSpec)

/-- 'probitylaw12.ShareVerifies', WHERE WHAT IT READS IS OF BULK AT MOST 1048576: true; the input reads as it did. -/
def shareVerifiesUptoRow : OpenClaim := { program := "ytdnabeldaighgaa", sum := "db754c2d3c64b2c0f59bda1cbd0d25a442d3ae1ba65cd54489d21ce4f90823e8", func := "probity/probitylaw12.ShareVerifies", spec := "shareVerifies", unfollowed := true, recurses := true, named := ["math/bits.divideError", "math/bits.overflowError"], apart := false, narrowed := true }
def ShareVerifiesUptoSaid : Prop := shareVerifiesUptoRow.holds Try.pinned (OpenSpec.upto shareVerifiesSpec)

/-- 'probitylaw12.ShareOnly', WHERE WHAT IT READS IS OF BULK AT MOST 1048576: true; the input reads as it did. -/
def shareOnlyUptoRow : OpenClaim := { program := "ytdnabeldaighgaa", sum := "db754c2d3c64b2c0f59bda1cbd0d25a442d3ae1ba65cd54489d21ce4f90823e8", func := "probity/probitylaw12.ShareOnly", spec := "shareOnly", unfollowed := true, recurses := true, named := ["math/bits.divideError", "math/bits.overflowError"], apart := false, narrowed := true }
def ShareOnlyUptoSaid : Prop := shareOnlyUptoRow.holds Try.pinned (OpenSpec.upto shareOnlySpec)

/-- 'probitylaw12.ShareJoins', WHERE WHAT IT READS IS OF BULK AT MOST 1048576: true; the input reads as it did. -/
def shareJoinsUptoRow : OpenClaim := { program := "ytdnabeldaighgaa", sum := "db754c2d3c64b2c0f59bda1cbd0d25a442d3ae1ba65cd54489d21ce4f90823e8", func := "probity/probitylaw12.ShareJoins", spec := "shareJoins", unfollowed := true, recurses := true, named := ["math/bits.divideError", "math/bits.overflowError"], apart := false, narrowed := true }
def ShareJoinsUptoSaid : Prop := shareJoinsUptoRow.holds Try.pinned (OpenSpec.upto shareJoinsSpec)

/-- 'probitylaw12.ShareOpens', WHERE WHAT IT READS IS OF BULK AT MOST 1048576: true; the input reads as it did. -/
def shareOpensUptoRow : OpenClaim := { program := "ytdnabeldaighgaa", sum := "db754c2d3c64b2c0f59bda1cbd0d25a442d3ae1ba65cd54489d21ce4f90823e8", func := "probity/probitylaw12.ShareOpens", spec := "shareOpens", unfollowed := true, recurses := true, named := ["math/bits.divideError", "math/bits.overflowError"], apart := false, narrowed := true }
def ShareOpensUptoSaid : Prop := shareOpensUptoRow.holds Try.pinned (OpenSpec.upto shareOpensSpec)

/-- 'probitylaw12.ShareBlames', WHERE WHAT IT READS IS OF BULK AT MOST 1048576: true; the input reads as it did. -/
def shareBlamesUptoRow : OpenClaim := { program := "ytdnabeldaighgaa", sum := "db754c2d3c64b2c0f59bda1cbd0d25a442d3ae1ba65cd54489d21ce4f90823e8", func := "probity/probitylaw12.ShareBlames", spec := "shareBlames", unfollowed := true, recurses := true, named := ["math/bits.divideError", "math/bits.overflowError"], apart := false, narrowed := true }
def ShareBlamesUptoSaid : Prop := shareBlamesUptoRow.holds Try.pinned (OpenSpec.upto shareBlamesSpec)

end Rows
end Go.Proofs.Ytdnabeldaighgaa
