/-
  No cell of these rows narrows 'for every input' (looked for: loops, veiled, ifaces, maps, wideKeys, modest, calm, conditions, laid).
  DERIVED. THE GIVEN ROWS OF THIS SEAT. 10 by the template 'for every input the law returns true; each argument reads behind the call as it read before'; 0 by the template 'total and deterministic' (their statements: YtjekdeikoebmgaaTotals.lean).
  GIVEN WITH THE SEED: the statements are not yours to turn. If you find one false, say at which input.
  Laid BY PROGRAM, IN A SANDBOX (cutbox-rows.mjs): the forced cells as the released guide's own fill.sh prints them over the translation 54b2fd2be281b6ab… (all of the seat's roots in one cut). By AI agents, Wed Nov 11 2026. No macro, syntax, notation, axiom, sorry.
-/
import Derived.Test.YtjekdeikoebmgaaChecked
import GoSem.Claim
import GoSem.ClaimJoined
import GoSem.ClaimMapViews
import Derived.JoinedTies
import Derived.KernelRfl
namespace Go.Proofs.Ytjekdeikoebmgaa
/- THE CELL 'sum', in the pinned program and in every row, IS THE sha256 OF THE DUMP (.gsa) THAT YtjekdeikoebmgaaProg.lean LOADS. Nothing in Lean hashes anything: it is a label: what it is worth is what the hold of that sum in a sandbox is worth. -/
noncomputable def Try.pinned : Pinned := { name := "ytjekdeikoebmgaa", sum := "54b2fd2be281b6abf145afe6672a7f0f75dda65765c1b4faeecf0f2af88f2e42", checked := Try.checked }
namespace Rows
def none {H : Type} : Left H := { results := [], args := [] }

/-- 'probitylaw10.TreeRoots': WHATEVER THE INPUT: true; the input reads as it did. -/
def treeRootsSpec : ChangeSpec := { name := "treeRoots", fn := fun _ => fun
  | [d1, d2, d3] => { results := [.lit (.bool true)], args := [d1, d2, d3] }
  | _ => none }
def treeRootsRow : OpenClaim := { program := "ytjekdeikoebmgaa", sum := "54b2fd2be281b6abf145afe6672a7f0f75dda65765c1b4faeecf0f2af88f2e42", func := "probity/probitylaw10.TreeRoots", spec := "treeRoots", unfollowed := true, recurses := true, apart := false }
def TreeRootsSaid : Prop := treeRootsRow.holds Try.pinned (OpenSpec.ofChange treeRootsSpec)

/-- ITS FALSE NEIGHBOUR: 'it returns false'. Refute it at one input. -/
def treeRootsWrong : ChangeSpec := { name := "treeRoots", fn := fun _ => fun
  | [d1, d2, d3] => { results := [.lit (.bool false)], args := [d1, d2, d3] }
  | _ => none }
def TreeRootsWrongFalsely : Prop := treeRootsRow.holds Try.pinned (OpenSpec.ofChange treeRootsWrong)

/-- 'probitylaw10.TreePaths': WHATEVER THE INPUT: true; the input reads as it did. -/
def treePathsSpec : ChangeSpec := { name := "treePaths", fn := fun _ => fun
  | [d1, d2] => { results := [.lit (.bool true)], args := [d1, d2] }
  | _ => none }
def treePathsRow : OpenClaim := { program := "ytjekdeikoebmgaa", sum := "54b2fd2be281b6abf145afe6672a7f0f75dda65765c1b4faeecf0f2af88f2e42", func := "probity/probitylaw10.TreePaths", spec := "treePaths", unfollowed := true, recurses := true, apart := false }
def TreePathsSaid : Prop := treePathsRow.holds Try.pinned (OpenSpec.ofChange treePathsSpec)

/-- ITS FALSE NEIGHBOUR: 'it returns false'. Refute it at one input. -/
def treePathsWrong : ChangeSpec := { name := "treePaths", fn := fun _ => fun
  | [d1, d2] => { results := [.lit (.bool false)], args := [d1, d2] }
  | _ => none }
def TreePathsWrongFalsely : Prop := treePathsRow.holds Try.pinned (OpenSpec.ofChange treePathsWrong)

/-- 'probitylaw10.TreeChecks': WHATEVER THE INPUT: true; the input reads as it did. -/
def treeChecksSpec : ChangeSpec := { name := "treeChecks", fn := fun _ => fun
  | [d1, d2, d3] => { results := [.lit (.bool true)], args := [d1, d2, d3] }
  | _ => none }
def treeChecksRow : OpenClaim := { program := "ytjekdeikoebmgaa", sum := "54b2fd2be281b6abf145afe6672a7f0f75dda65765c1b4faeecf0f2af88f2e42", func := "probity/probitylaw10.TreeChecks", spec := "treeChecks", unfollowed := true, recurses := true, apart := false }
def TreeChecksSaid : Prop := treeChecksRow.holds Try.pinned (OpenSpec.ofChange treeChecksSpec)

/-- ITS FALSE NEIGHBOUR: 'it returns false'. Refute it at one input. -/
def treeChecksWrong : ChangeSpec := { name := "treeChecks", fn := fun _ => fun
  | [d1, d2, d3] => { results := [.lit (.bool false)], args := [d1, d2, d3] }
  | _ => none }
def TreeChecksWrongFalsely : Prop := treeChecksRow.holds Try.pinned (OpenSpec.ofChange treeChecksWrong)

/-- 'probitylaw10.TreeBinds': WHATEVER THE INPUT: true; the input reads as it did. -/
def treeBindsSpec : ChangeSpec := { name := "treeBinds", fn := fun _ => fun
  | [d1, d2, d3] => { results := [.lit (.bool true)], args := [d1, d2, d3] }
  | _ => none }
def treeBindsRow : OpenClaim := { program := "ytjekdeikoebmgaa", sum := "54b2fd2be281b6abf145afe6672a7f0f75dda65765c1b4faeecf0f2af88f2e42", func := "probity/probitylaw10.TreeBinds", spec := "treeBinds", unfollowed := true, recurses := true, apart := false }
def TreeBindsSaid : Prop := treeBindsRow.holds Try.pinned (OpenSpec.ofChange treeBindsSpec)

/-- ITS FALSE NEIGHBOUR: 'it returns false'. Refute it at one input. -/
def treeBindsWrong : ChangeSpec := { name := "treeBinds", fn := fun _ => fun
  | [d1, d2, d3] => { results := [.lit (.bool false)], args := [d1, d2, d3] }
  | _ => none }
def TreeBindsWrongFalsely : Prop := treeBindsRow.holds Try.pinned (OpenSpec.ofChange treeBindsWrong)

/-- 'probitylaw10.TreeGrows': WHATEVER THE INPUT: true; the input reads as it did. -/
def treeGrowsSpec : ChangeSpec := { name := "treeGrows", fn := fun _ => fun
  | [d1, d2] => { results := [.lit (.bool true)], args := [d1, d2] }
  | _ => none }
def treeGrowsRow : OpenClaim := { program := "ytjekdeikoebmgaa", sum := "54b2fd2be281b6abf145afe6672a7f0f75dda65765c1b4faeecf0f2af88f2e42", func := "probity/probitylaw10.TreeGrows", spec := "treeGrows", unfollowed := true, recurses := true, apart := false }
def TreeGrowsSaid : Prop := treeGrowsRow.holds Try.pinned (OpenSpec.ofChange treeGrowsSpec)

/-- ITS FALSE NEIGHBOUR: 'it returns false'. Refute it at one input. -/
def treeGrowsWrong : ChangeSpec := { name := "treeGrows", fn := fun _ => fun
  | [d1, d2] => { results := [.lit (.bool false)], args := [d1, d2] }
  | _ => none }
def TreeGrowsWrongFalsely : Prop := treeGrowsRow.holds Try.pinned (OpenSpec.ofChange treeGrowsWrong)

/-- 'probitylaw10.TreeBent': WHATEVER THE INPUT: true; the input reads as it did. -/
def treeBentSpec : ChangeSpec := { name := "treeBent", fn := fun _ => fun
  | [d1, d2, d3] => { results := [.lit (.bool true)], args := [d1, d2, d3] }
  | _ => none }
def treeBentRow : OpenClaim := { program := "ytjekdeikoebmgaa", sum := "54b2fd2be281b6abf145afe6672a7f0f75dda65765c1b4faeecf0f2af88f2e42", func := "probity/probitylaw10.TreeBent", spec := "treeBent", unfollowed := true, recurses := true, apart := false }
def TreeBentSaid : Prop := treeBentRow.holds Try.pinned (OpenSpec.ofChange treeBentSpec)

/-- ITS FALSE NEIGHBOUR: 'it returns false'. Refute it at one input. -/
def treeBentWrong : ChangeSpec := { name := "treeBent", fn := fun _ => fun
  | [d1, d2, d3] => { results := [.lit (.bool false)], args := [d1, d2, d3] }
  | _ => none }
def TreeBentWrongFalsely : Prop := treeBentRow.holds Try.pinned (OpenSpec.ofChange treeBentWrong)

/-- 'probitylaw10.TreeExtends': WHATEVER THE INPUT: true; the input reads as it did. -/
def treeExtendsSpec : ChangeSpec := { name := "treeExtends", fn := fun _ => fun
  | [d1, d2, d3] => { results := [.lit (.bool true)], args := [d1, d2, d3] }
  | _ => none }
def treeExtendsRow : OpenClaim := { program := "ytjekdeikoebmgaa", sum := "54b2fd2be281b6abf145afe6672a7f0f75dda65765c1b4faeecf0f2af88f2e42", func := "probity/probitylaw10.TreeExtends", spec := "treeExtends", unfollowed := true, recurses := true, apart := false }
def TreeExtendsSaid : Prop := treeExtendsRow.holds Try.pinned (OpenSpec.ofChange treeExtendsSpec)

/-- ITS FALSE NEIGHBOUR: 'it returns false'. Refute it at one input. -/
def treeExtendsWrong : ChangeSpec := { name := "treeExtends", fn := fun _ => fun
  | [d1, d2, d3] => { results := [.lit (.bool false)], args := [d1, d2, d3] }
  | _ => none }
def TreeExtendsWrongFalsely : Prop := treeExtendsRow.holds Try.pinned (OpenSpec.ofChange treeExtendsWrong)

/-- 'probitylaw10.TreeLarge': WHATEVER THE INPUT: true; the input reads as it did. -/
def treeLargeSpec : ChangeSpec := { name := "treeLarge", fn := fun _ => fun
  | [d1, d2, d3] => { results := [.lit (.bool true)], args := [d1, d2, d3] }
  | _ => none }
def treeLargeRow : OpenClaim := { program := "ytjekdeikoebmgaa", sum := "54b2fd2be281b6abf145afe6672a7f0f75dda65765c1b4faeecf0f2af88f2e42", func := "probity/probitylaw10.TreeLarge", spec := "treeLarge", unfollowed := true, recurses := true, apart := false }
def TreeLargeSaid : Prop := treeLargeRow.holds Try.pinned (OpenSpec.ofChange treeLargeSpec)

/-- ITS FALSE NEIGHBOUR: 'it returns false'. Refute it at one input. -/
def treeLargeWrong : ChangeSpec := { name := "treeLarge", fn := fun _ => fun
  | [d1, d2, d3] => { results := [.lit (.bool false)], args := [d1, d2, d3] }
  | _ => none }
def TreeLargeWrongFalsely : Prop := treeLargeRow.holds Try.pinned (OpenSpec.ofChange treeLargeWrong)

/-- 'probitylaw10.TreeTwice': WHATEVER THE INPUT: true; the input reads as it did. -/
def treeTwiceSpec : ChangeSpec := { name := "treeTwice", fn := fun _ => fun
  | [d1, d2, d3] => { results := [.lit (.bool true)], args := [d1, d2, d3] }
  | _ => none }
def treeTwiceRow : OpenClaim := { program := "ytjekdeikoebmgaa", sum := "54b2fd2be281b6abf145afe6672a7f0f75dda65765c1b4faeecf0f2af88f2e42", func := "probity/probitylaw10.TreeTwice", spec := "treeTwice", unfollowed := true, recurses := true, apart := false }
def TreeTwiceSaid : Prop := treeTwiceRow.holds Try.pinned (OpenSpec.ofChange treeTwiceSpec)

/-- ITS FALSE NEIGHBOUR: 'it returns false'. Refute it at one input. -/
def treeTwiceWrong : ChangeSpec := { name := "treeTwice", fn := fun _ => fun
  | [d1, d2, d3] => { results := [.lit (.bool false)], args := [d1, d2, d3] }
  | _ => none }
def TreeTwiceWrongFalsely : Prop := treeTwiceRow.holds Try.pinned (OpenSpec.ofChange treeTwiceWrong)

/-- 'probitylaw10.TreeKeeps': WHATEVER THE INPUT: true; the input reads as it did. -/
def treeKeepsSpec : ChangeSpec := { name := "treeKeeps", fn := fun _ => fun
  | [d1, d2] => { results := [.lit (.bool true)], args := [d1, d2] }
  | _ => none }
def treeKeepsRow : OpenClaim := { program := "ytjekdeikoebmgaa", sum := "54b2fd2be281b6abf145afe6672a7f0f75dda65765c1b4faeecf0f2af88f2e42", func := "probity/probitylaw10.TreeKeeps", spec := "treeKeeps", unfollowed := true, recurses := true, apart := false }
def TreeKeepsSaid : Prop := treeKeepsRow.holds Try.pinned (OpenSpec.ofChange treeKeepsSpec)

/-- ITS FALSE NEIGHBOUR: 'it returns false'. Refute it at one input. -/
def treeKeepsWrong : ChangeSpec := { name := "treeKeeps", fn := fun _ => fun
  | [d1, d2] => { results := [.lit (.bool false)], args := [d1, d2] }
  | _ => none }
def TreeKeepsWrongFalsely : Prop := treeKeepsRow.holds Try.pinned (OpenSpec.ofChange treeKeepsWrong)

/- THE SECOND FORM. 'bulk': how many values and letters a reading holds, each counted each time it is reached (what is shared counts as often as it is met; a slice's spare places count too). A statement '..UptoSaid' is the law's where the arguments, and the package variables that the reading takes, are together of bulk at most 1048576: NARROWER than '..Said'. Prove '..Said' where nothing that the law and all that it calls make is longer than what came in: it says more and counts as full. Else prove '..UptoSaid'. A law counts once. -/
mutual
def uptoBulk {H : Type} : DataW H → Nat
  | .lit (.string bytes) => bytes.length + 1
  | .lit _ => 1
  | .nil => 1
  | .ptr d => uptoBulk d + 1
  | .slice elems spare => uptoBulkAll elems + uptoBulkAll spare + 1
  | .agg parts => uptoBulkAll parts + 1
  | .iface _ d => uptoBulk d + 1
  | .map entries => uptoBulkEntries entries + 1
  | .held _ => 1
def uptoBulkAll {H : Type} : List (DataW H) → Nat
  | [] => 0
  | d :: r => uptoBulk d + uptoBulkAll r
def uptoBulkEntries {H : Type} : List (Lit × DataW H) → Nat
  | [] => 0
  | x :: r => uptoBulkEntry x + uptoBulkEntries r
def uptoBulkEntry {H : Type} : Lit × DataW H → Nat
  | (.string bytes, d) => bytes.length + uptoBulk d + 1
  | (_, d) => uptoBulk d + 1
 end
def uptoSmall : (H : Type) → List (DataW H) → Bool := fun _ ds => decide (uptoBulkAll ds ≤ 1048576)
def OpenSpec.upto (s : _root_.Go.ChangeSpec) : _root_.Go.OpenSpec := { _root_.Go.OpenSpec.ofChange s with cond := some uptoSmall }

/-- 'probitylaw10.TreeRoots', WHERE WHAT IT READS IS OF BULK AT MOST 1048576: true; the input reads as it did. -/
def treeRootsUptoRow : OpenClaim := { program := "ytjekdeikoebmgaa", sum := "54b2fd2be281b6abf145afe6672a7f0f75dda65765c1b4faeecf0f2af88f2e42", func := "probity/probitylaw10.TreeRoots", spec := "treeRoots", unfollowed := true, recurses := true, apart := false, narrowed := true }
def TreeRootsUptoSaid : Prop := treeRootsUptoRow.holds Try.pinned (OpenSpec.upto treeRootsSpec)

/-- 'probitylaw10.TreePaths', WHERE WHAT IT READS IS OF BULK AT MOST 1048576: true; the input reads as it did. -/
def treePathsUptoRow : OpenClaim := { program := "ytjekdeikoebmgaa", sum := "54b2fd2be281b6abf145afe6672a7f0f75dda65765c1b4faeecf0f2af88f2e42", func := "probity/probitylaw10.TreePaths", spec := "treePaths", unfollowed := true, recurses := true, apart := false, narrowed := true }
def TreePathsUptoSaid : Prop := treePathsUptoRow.holds Try.pinned (OpenSpec.upto treePathsSpec)

/-- 'probitylaw10.TreeChecks', WHERE WHAT IT READS IS OF BULK AT MOST 1048576: true; the input reads as it did. -/
def treeChecksUptoRow : OpenClaim := { program := "ytjekdeikoebmgaa", sum := "54b2fd2be281b6abf145afe6672a7f0f75dda65765c1b4faeecf0f2af88f2e42", func := "probity/probitylaw10.TreeChecks", spec := "treeChecks", unfollowed := true, recurses := true, apart := false, narrowed := true }
def TreeChecksUptoSaid : Prop := treeChecksUptoRow.holds Try.pinned (OpenSpec.upto treeChecksSpec)

/-- 'probitylaw10.TreeBinds', WHERE WHAT IT READS IS OF BULK AT MOST 1048576: true; the input reads as it did. -/
def treeBindsUptoRow : OpenClaim := { program := "ytjekdeikoebmgaa", sum := "54b2fd2be281b6abf145afe6672a7f0f75dda65765c1b4faeecf0f2af88f2e42", func := "probity/probitylaw10.TreeBinds", spec := "treeBinds", unfollowed := true, recurses := true, apart := false, narrowed := true }
def TreeBindsUptoSaid : Prop := treeBindsUptoRow.holds Try.pinned (OpenSpec.upto treeBindsSpec)

/-- 'probitylaw10.TreeGrows', WHERE WHAT IT READS IS OF BULK AT MOST 1048576: true; the input reads as it did. -/
def treeGrowsUptoRow : OpenClaim := { program := "ytjekdeikoebmgaa", sum := "54b2fd2be281b6abf145afe6672a7f0f75dda65765c1b4faeecf0f2af88f2e42", func := "probity/probitylaw10.TreeGrows", spec := "treeGrows", unfollowed := true, recurses := true, apart := false, narrowed := true }
def TreeGrowsUptoSaid : Prop := treeGrowsUptoRow.holds Try.pinned (OpenSpec.upto treeGrowsSpec)

/-- 'probitylaw10.TreeBent', WHERE WHAT IT READS IS OF BULK AT MOST 1048576: true; the input reads as it did. -/
def treeBentUptoRow : OpenClaim := { program := "ytjekdeikoebmgaa", sum := "54b2fd2be281b6abf145afe6672a7f0f75dda65765c1b4faeecf0f2af88f2e42", func := "probity/probitylaw10.TreeBent", spec := "treeBent", unfollowed := true, recurses := true, apart := false, narrowed := true }
def TreeBentUptoSaid : Prop := treeBentUptoRow.holds Try.pinned (OpenSpec.upto treeBentSpec)

/-- 'probitylaw10.TreeExtends', WHERE WHAT IT READS IS OF BULK AT MOST 1048576: true; the input reads as it did. -/
def treeExtendsUptoRow : OpenClaim := { program := "ytjekdeikoebmgaa", sum := "54b2fd2be281b6abf145afe6672a7f0f75dda65765c1b4faeecf0f2af88f2e42", func := "probity/probitylaw10.TreeExtends", spec := "treeExtends", unfollowed := true, recurses := true, apart := false, narrowed := true }
def TreeExtendsUptoSaid : Prop := treeExtendsUptoRow.holds Try.pinned (OpenSpec.upto treeExtendsSpec)

/-- 'probitylaw10.TreeLarge', WHERE WHAT IT READS IS OF BULK AT MOST 1048576: true; the input reads as it did. -/
def treeLargeUptoRow : OpenClaim := { program := "ytjekdeikoebmgaa", sum := "54b2fd2be281b6abf145afe6672a7f0f75dda65765c1b4faeecf0f2af88f2e42", func := "probity/probitylaw10.TreeLarge", spec := "treeLarge", unfollowed := true, recurses := true, apart := false, narrowed := true }
def TreeLargeUptoSaid : Prop := treeLargeUptoRow.holds Try.pinned (OpenSpec.upto treeLargeSpec)

/-- 'probitylaw10.TreeTwice', WHERE WHAT IT READS IS OF BULK AT MOST 1048576: true; the input reads as it did. -/
def treeTwiceUptoRow : OpenClaim := { program := "ytjekdeikoebmgaa", sum := "54b2fd2be281b6abf145afe6672a7f0f75dda65765c1b4faeecf0f2af88f2e42", func := "probity/probitylaw10.TreeTwice", spec := "treeTwice", unfollowed := true, recurses := true, apart := false, narrowed := true }
def TreeTwiceUptoSaid : Prop := treeTwiceUptoRow.holds Try.pinned (OpenSpec.upto treeTwiceSpec)

/-- 'probitylaw10.TreeKeeps', WHERE WHAT IT READS IS OF BULK AT MOST 1048576: true; the input reads as it did. -/
def treeKeepsUptoRow : OpenClaim := { program := "ytjekdeikoebmgaa", sum := "54b2fd2be281b6abf145afe6672a7f0f75dda65765c1b4faeecf0f2af88f2e42", func := "probity/probitylaw10.TreeKeeps", spec := "treeKeeps", unfollowed := true, recurses := true, apart := false, narrowed := true }
def TreeKeepsUptoSaid : Prop := treeKeepsUptoRow.holds Try.pinned (OpenSpec.upto treeKeepsSpec)

end Rows
end Go.Proofs.Ytjekdeikoebmgaa
