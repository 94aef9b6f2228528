/-
  No cell of these rows narrows 'for every input' (looked for: loops, veiled, ifaces, maps, wideKeys, modest, calm, conditions, laid).
  DERIVED. THE GIVEN ROWS OF THIS SEAT. 8 by the template 'for every input the law returns true; each argument reads behind the call as it read before'; 0 by the template 'total and deterministic' (their statements: YtonhhonhcgfcaaaTotals.lean).
  GIVEN WITH THE SEED: the statements are not yours to turn. If you find one false, say at which input.
  Laid BY PROGRAM, IN A SANDBOX (cutbox-rows.mjs): the forced cells as the released guide's own fill.sh prints them over the translation fdfceaa896d97ead… (all of the seat's roots in one cut). By AI agents, Wed Nov 11 2026. No macro, syntax, notation, axiom, sorry.
-/
import Derived.Test.YtonhhonhcgfcaaaChecked
import GoSem.Claim
import GoSem.ClaimJoined
import GoSem.ClaimMapViews
import Derived.JoinedTies
import Derived.KernelRfl
namespace Go.Proofs.Ytonhhonhcgfcaaa
/- THE CELL 'sum', in the pinned program and in every row, IS THE sha256 OF THE DUMP (.gsa) THAT YtonhhonhcgfcaaaProg.lean LOADS. Nothing in Lean hashes anything: it is a label: what it is worth is what the hold of that sum in a sandbox is worth. -/
noncomputable def Try.pinned : Pinned := { name := "ytonhhonhcgfcaaa", sum := "fdfceaa896d97ead64dc75bfde8ccb0bcba4eea5660079bdddac27eb21468782", checked := Try.checked }
namespace Rows
def none {H : Type} : Left H := { results := [], args := [] }

/-- 'probitylaw17.StageTimes': WHATEVER THE INPUT: true; the input reads as it did. -/
def stageTimesSpec : ChangeSpec := { name := "stageTimes", fn := fun _ => fun
  | [d1, d2] => { results := [.lit (.bool true)], args := [d1, d2] }
  | _ => none }
def stageTimesRow : OpenClaim := { program := "ytonhhonhcgfcaaa", sum := "fdfceaa896d97ead64dc75bfde8ccb0bcba4eea5660079bdddac27eb21468782", func := "probity/probitylaw17.StageTimes", spec := "stageTimes", unfollowed := true, recurses := true, apart := false }
def StageTimesSaid : Prop := stageTimesRow.holds Try.pinned (OpenSpec.ofChange stageTimesSpec)

/-- ITS FALSE NEIGHBOUR: 'it returns false'. Refute it at one input. -/
def stageTimesWrong : ChangeSpec := { name := "stageTimes", fn := fun _ => fun
  | [d1, d2] => { results := [.lit (.bool false)], args := [d1, d2] }
  | _ => none }
def StageTimesWrongFalsely : Prop := stageTimesRow.holds Try.pinned (OpenSpec.ofChange stageTimesWrong)

/-- 'probitylaw17.StageGrows': WHATEVER THE INPUT: true; the input reads as it did. -/
def stageGrowsSpec : ChangeSpec := { name := "stageGrows", fn := fun _ => fun
  | [d1, d2, d3] => { results := [.lit (.bool true)], args := [d1, d2, d3] }
  | _ => none }
def stageGrowsRow : OpenClaim := { program := "ytonhhonhcgfcaaa", sum := "fdfceaa896d97ead64dc75bfde8ccb0bcba4eea5660079bdddac27eb21468782", func := "probity/probitylaw17.StageGrows", spec := "stageGrows", unfollowed := true, recurses := true, apart := false }
def StageGrowsSaid : Prop := stageGrowsRow.holds Try.pinned (OpenSpec.ofChange stageGrowsSpec)

/-- ITS FALSE NEIGHBOUR: 'it returns false'. Refute it at one input. -/
def stageGrowsWrong : ChangeSpec := { name := "stageGrows", fn := fun _ => fun
  | [d1, d2, d3] => { results := [.lit (.bool false)], args := [d1, d2, d3] }
  | _ => none }
def StageGrowsWrongFalsely : Prop := stageGrowsRow.holds Try.pinned (OpenSpec.ofChange stageGrowsWrong)

/-- 'probitylaw17.StageNext': WHATEVER THE INPUT: true; the input reads as it did. -/
def stageNextSpec : ChangeSpec := { name := "stageNext", fn := fun _ => fun
  | [d1, d2, d3] => { results := [.lit (.bool true)], args := [d1, d2, d3] }
  | _ => none }
def stageNextRow : OpenClaim := { program := "ytonhhonhcgfcaaa", sum := "fdfceaa896d97ead64dc75bfde8ccb0bcba4eea5660079bdddac27eb21468782", func := "probity/probitylaw17.StageNext", spec := "stageNext", unfollowed := true, recurses := true, apart := false }
def StageNextSaid : Prop := stageNextRow.holds Try.pinned (OpenSpec.ofChange stageNextSpec)

/-- ITS FALSE NEIGHBOUR: 'it returns false'. Refute it at one input. -/
def stageNextWrong : ChangeSpec := { name := "stageNext", fn := fun _ => fun
  | [d1, d2, d3] => { results := [.lit (.bool false)], args := [d1, d2, d3] }
  | _ => none }
def StageNextWrongFalsely : Prop := stageNextRow.holds Try.pinned (OpenSpec.ofChange stageNextWrong)

/-- 'probitylaw17.StagePermits': WHATEVER THE INPUT: true; the input reads as it did. -/
def stagePermitsSpec : ChangeSpec := { name := "stagePermits", fn := fun _ => fun
  | [d1, d2] => { results := [.lit (.bool true)], args := [d1, d2] }
  | _ => none }
def stagePermitsRow : OpenClaim := { program := "ytonhhonhcgfcaaa", sum := "fdfceaa896d97ead64dc75bfde8ccb0bcba4eea5660079bdddac27eb21468782", func := "probity/probitylaw17.StagePermits", spec := "stagePermits", unfollowed := true, recurses := true, apart := false }
def StagePermitsSaid : Prop := stagePermitsRow.holds Try.pinned (OpenSpec.ofChange stagePermitsSpec)

/-- ITS FALSE NEIGHBOUR: 'it returns false'. Refute it at one input. -/
def stagePermitsWrong : ChangeSpec := { name := "stagePermits", fn := fun _ => fun
  | [d1, d2] => { results := [.lit (.bool false)], args := [d1, d2] }
  | _ => none }
def StagePermitsWrongFalsely : Prop := stagePermitsRow.holds Try.pinned (OpenSpec.ofChange stagePermitsWrong)

/-- 'probitylaw17.StageOnce': WHATEVER THE INPUT: true; the input reads as it did. -/
def stageOnceSpec : ChangeSpec := { name := "stageOnce", fn := fun _ => fun
  | [d] => { results := [.lit (.bool true)], args := [d] }
  | _ => none }
def stageOnceRow : OpenClaim := { program := "ytonhhonhcgfcaaa", sum := "fdfceaa896d97ead64dc75bfde8ccb0bcba4eea5660079bdddac27eb21468782", func := "probity/probitylaw17.StageOnce", spec := "stageOnce", unfollowed := true, recurses := true, apart := false }
def StageOnceSaid : Prop := stageOnceRow.holds Try.pinned (OpenSpec.ofChange stageOnceSpec)

/-- ITS FALSE NEIGHBOUR: 'it returns false'. Refute it at one input. -/
def stageOnceWrong : ChangeSpec := { name := "stageOnce", fn := fun _ => fun
  | [d] => { results := [.lit (.bool false)], args := [d] }
  | _ => none }
def StageOnceWrongFalsely : Prop := stageOnceRow.holds Try.pinned (OpenSpec.ofChange stageOnceWrong)

/-- 'probitylaw17.StageShift': WHATEVER THE INPUT: true; the input reads as it did. -/
def stageShiftSpec : ChangeSpec := { name := "stageShift", fn := fun _ => fun
  | [d1, d2, d3] => { results := [.lit (.bool true)], args := [d1, d2, d3] }
  | _ => none }
def stageShiftRow : OpenClaim := { program := "ytonhhonhcgfcaaa", sum := "fdfceaa896d97ead64dc75bfde8ccb0bcba4eea5660079bdddac27eb21468782", func := "probity/probitylaw17.StageShift", spec := "stageShift", unfollowed := true, recurses := true, apart := false }
def StageShiftSaid : Prop := stageShiftRow.holds Try.pinned (OpenSpec.ofChange stageShiftSpec)

/-- ITS FALSE NEIGHBOUR: 'it returns false'. Refute it at one input. -/
def stageShiftWrong : ChangeSpec := { name := "stageShift", fn := fun _ => fun
  | [d1, d2, d3] => { results := [.lit (.bool false)], args := [d1, d2, d3] }
  | _ => none }
def StageShiftWrongFalsely : Prop := stageShiftRow.holds Try.pinned (OpenSpec.ofChange stageShiftWrong)

/-- 'probitylaw17.StageAdds': WHATEVER THE INPUT: true; the input reads as it did. -/
def stageAddsSpec : ChangeSpec := { name := "stageAdds", fn := fun _ => fun
  | [d1, d2, d3] => { results := [.lit (.bool true)], args := [d1, d2, d3] }
  | _ => none }
def stageAddsRow : OpenClaim := { program := "ytonhhonhcgfcaaa", sum := "fdfceaa896d97ead64dc75bfde8ccb0bcba4eea5660079bdddac27eb21468782", func := "probity/probitylaw17.StageAdds", spec := "stageAdds", unfollowed := true, recurses := true, apart := false }
def StageAddsSaid : Prop := stageAddsRow.holds Try.pinned (OpenSpec.ofChange stageAddsSpec)

/-- ITS FALSE NEIGHBOUR: 'it returns false'. Refute it at one input. -/
def stageAddsWrong : ChangeSpec := { name := "stageAdds", fn := fun _ => fun
  | [d1, d2, d3] => { results := [.lit (.bool false)], args := [d1, d2, d3] }
  | _ => none }
def StageAddsWrongFalsely : Prop := stageAddsRow.holds Try.pinned (OpenSpec.ofChange stageAddsWrong)

/-- 'probitylaw17.StageLate': WHATEVER THE INPUT: true; the input reads as it did. -/
def stageLateSpec : ChangeSpec := { name := "stageLate", fn := fun _ => fun
  | [d1, d2] => { results := [.lit (.bool true)], args := [d1, d2] }
  | _ => none }
def stageLateRow : OpenClaim := { program := "ytonhhonhcgfcaaa", sum := "fdfceaa896d97ead64dc75bfde8ccb0bcba4eea5660079bdddac27eb21468782", func := "probity/probitylaw17.StageLate", spec := "stageLate", unfollowed := true, recurses := true, apart := false }
def StageLateSaid : Prop := stageLateRow.holds Try.pinned (OpenSpec.ofChange stageLateSpec)

/-- ITS FALSE NEIGHBOUR: 'it returns false'. Refute it at one input. -/
def stageLateWrong : ChangeSpec := { name := "stageLate", fn := fun _ => fun
  | [d1, d2] => { results := [.lit (.bool false)], args := [d1, d2] }
  | _ => none }
def StageLateWrongFalsely : Prop := stageLateRow.holds Try.pinned (OpenSpec.ofChange stageLateWrong)

/- THE SECOND FORM. 'bulk': how many values and letters a reading holds, each counted each time it is reached (what is shared counts as often as it is met; a slice's spare places count too). A statement '..UptoSaid' is the law's where the arguments, and the package variables that the reading takes, are together of bulk at most 1048576: NARROWER than '..Said'. Prove '..Said' where nothing that the law and all that it calls make is longer than what came in: it says more and counts as full. Else prove '..UptoSaid'. A law counts once. -/
mutual
def uptoBulk {H : Type} : DataW H → Nat
  | .lit (.string bytes) => bytes.length + 1
  | .lit _ => 1
  | .nil => 1
  | .ptr d => uptoBulk d + 1
  | .slice elems spare => uptoBulkAll elems + uptoBulkAll spare + 1
  | .agg parts => uptoBulkAll parts + 1
  | .iface _ d => uptoBulk d + 1
  | .map entries => uptoBulkEntries entries + 1
  | .held _ => 1
def uptoBulkAll {H : Type} : List (DataW H) → Nat
  | [] => 0
  | d :: r => uptoBulk d + uptoBulkAll r
def uptoBulkEntries {H : Type} : List (Lit × DataW H) → Nat
  | [] => 0
  | x :: r => uptoBulkEntry x + uptoBulkEntries r
def uptoBulkEntry {H : Type} : Lit × DataW H → Nat
  | (.string bytes, d) => bytes.length + uptoBulk d + 1
  | (_, d) => uptoBulk d + 1
 end
def uptoSmall : (H : Type) → List (DataW H) → Bool := fun _ ds => decide (uptoBulkAll ds ≤ 1048576)
def OpenSpec.upto (s : _root_.Go.ChangeSpec) : _root_.Go.OpenSpec := { _root_.Go.OpenSpec.ofChange s with cond := some uptoSmall }

/-- 'probitylaw17.StageTimes', WHERE WHAT IT READS IS OF BULK AT MOST 1048576: true; the input reads as it did. -/
def stageTimesUptoRow : OpenClaim := { program := "ytonhhonhcgfcaaa", sum := "fdfceaa896d97ead64dc75bfde8ccb0bcba4eea5660079bdddac27eb21468782", func := "probity/probitylaw17.StageTimes", spec := "stageTimes", unfollowed := true, recurses := true, apart := false, narrowed := true }
def StageTimesUptoSaid : Prop := stageTimesUptoRow.holds Try.pinned (OpenSpec.upto stageTimesSpec)

/-- 'probitylaw17.StageGrows', WHERE WHAT IT READS IS OF BULK AT MOST 1048576: true; the input reads as it did. -/
def stageGrowsUptoRow : OpenClaim := { program := "ytonhhonhcgfcaaa", sum := "fdfceaa896d97ead64dc75bfde8ccb0bcba4eea5660079bdddac27eb21468782", func := "probity/probitylaw17.StageGrows", spec := "stageGrows", unfollowed := true, recurses := true, apart := false, narrowed := true }
def StageGrowsUptoSaid : Prop := stageGrowsUptoRow.holds Try.pinned (OpenSpec.upto stageGrowsSpec)

/-- 'probitylaw17.StageNext', WHERE WHAT IT READS IS OF BULK AT MOST 1048576: true; the input reads as it did. -/
def stageNextUptoRow : OpenClaim := { program := "ytonhhonhcgfcaaa", sum := "fdfceaa896d97ead64dc75bfde8ccb0bcba4eea5660079bdddac27eb21468782", func := "probity/probitylaw17.StageNext", spec := "stageNext", unfollowed := true, recurses := true, apart := false, narrowed := true }
def StageNextUptoSaid : Prop := stageNextUptoRow.holds Try.pinned (OpenSpec.upto stageNextSpec)

/-- 'probitylaw17.StagePermits', WHERE WHAT IT READS IS OF BULK AT MOST 1048576: true; the input reads as it did. -/
def stagePermitsUptoRow : OpenClaim := { program := "ytonhhonhcgfcaaa", sum := "fdfceaa896d97ead64dc75bfde8ccb0bcba4eea5660079bdddac27eb21468782", func := "probity/probitylaw17.StagePermits", spec := "stagePermits", unfollowed := true, recurses := true, apart := false, narrowed := true }
def StagePermitsUptoSaid : Prop := stagePermitsUptoRow.holds Try.pinned (OpenSpec.upto stagePermitsSpec)

/-- 'probitylaw17.StageOnce', WHERE WHAT IT READS IS OF BULK AT MOST 1048576: true; the input reads as it did. -/
def stageOnceUptoRow : OpenClaim := { program := "ytonhhonhcgfcaaa", sum := "fdfceaa896d97ead64dc75bfde8ccb0bcba4eea5660079bdddac27eb21468782", func := "probity/probitylaw17.StageOnce", spec := "stageOnce", unfollowed := true, recurses := true, apart := false, narrowed := true }
def StageOnceUptoSaid : Prop := stageOnceUptoRow.holds Try.pinned (OpenSpec.upto stageOnceSpec)

/-- 'probitylaw17.StageShift', WHERE WHAT IT READS IS OF BULK AT MOST 1048576: true; the input reads as it did. -/
def stageShiftUptoRow : OpenClaim := { program := "ytonhhonhcgfcaaa", sum := "fdfceaa896d97ead64dc75bfde8ccb0bcba4eea5660079bdddac27eb21468782", func := "probity/probitylaw17.StageShift", spec := "stageShift", unfollowed := true, recurses := true, apart := false, narrowed := true }
def StageShiftUptoSaid : Prop := stageShiftUptoRow.holds Try.pinned (OpenSpec.upto stageShiftSpec)

/-- 'probitylaw17.StageAdds', WHERE WHAT IT READS IS OF BULK AT MOST 1048576: true; the input reads as it did. -/
def stageAddsUptoRow : OpenClaim := { program := "ytonhhonhcgfcaaa", sum := "fdfceaa896d97ead64dc75bfde8ccb0bcba4eea5660079bdddac27eb21468782", func := "probity/probitylaw17.StageAdds", spec := "stageAdds", unfollowed := true, recurses := true, apart := false, narrowed := true }
def StageAddsUptoSaid : Prop := stageAddsUptoRow.holds Try.pinned (OpenSpec.upto stageAddsSpec)

/-- 'probitylaw17.StageLate', WHERE WHAT IT READS IS OF BULK AT MOST 1048576: true; the input reads as it did. -/
def stageLateUptoRow : OpenClaim := { program := "ytonhhonhcgfcaaa", sum := "fdfceaa896d97ead64dc75bfde8ccb0bcba4eea5660079bdddac27eb21468782", func := "probity/probitylaw17.StageLate", spec := "stageLate", unfollowed := true, recurses := true, apart := false, narrowed := true }
def StageLateUptoSaid : Prop := stageLateUptoRow.holds Try.pinned (OpenSpec.upto stageLateSpec)

end Rows
end Go.Proofs.Ytonhhonhcgfcaaa
