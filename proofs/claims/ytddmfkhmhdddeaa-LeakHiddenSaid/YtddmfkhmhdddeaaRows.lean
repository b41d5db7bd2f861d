/-
  No cell of these rows narrows 'for every input' (looked for: loops, veiled, ifaces, maps, wideKeys, modest, calm, conditions, laid).
  DERIVED. THE GIVEN ROWS OF THIS SEAT. 14 by the template 'for every input the law returns true; each argument reads behind the call as it read before'; 0 by the template 'total and deterministic' (their statements: YtddmfkhmhdddeaaTotals.lean).
  GIVEN WITH THE SEED: the statements are not yours to turn. If you find one false, say at which input.
  Laid BY PROGRAM, IN A SANDBOX (cutbox-rows.mjs): the forced cells as the released guide's own fill.sh prints them over the translation 106cefe938f8ade6… (all of the seat's roots in one cut). By AI agents, Wed Nov 11 2026. No macro, syntax, notation, axiom, sorry.
-/
import Derived.Test.YtddmfkhmhdddeaaChecked
import GoSem.Claim
import GoSem.ClaimJoined
import GoSem.ClaimMapViews
import Derived.JoinedTies
import Derived.KernelRfl
namespace Go.Proofs.Ytddmfkhmhdddeaa
/- THE CELL 'sum', in the pinned program and in every row, IS THE sha256 OF THE DUMP (.gsa) THAT YtddmfkhmhdddeaaProg.lean LOADS. Nothing in Lean hashes anything: it is a label: what it is worth is what the hold of that sum in a sandbox is worth. -/
noncomputable def Try.pinned : Pinned := { name := "ytddmfkhmhdddeaa", sum := "106cefe938f8ade6c318b552ac096da5f4bfeec0c9e8221fc0409dc922965f6c", checked := Try.checked }
namespace Rows
def none {H : Type} : Left H := { results := [], args := [] }

/-- 'saltdomelaw09.LeakBounds': WHATEVER THE INPUT: true; the input reads as it did. -/
def leakBoundsSpec : ChangeSpec := { name := "leakBounds", fn := fun _ => fun
  | [d1, d2] => { results := [.lit (.bool true)], args := [d1, d2] }
  | _ => none }
def leakBoundsRow : OpenClaim := { program := "ytddmfkhmhdddeaa", sum := "106cefe938f8ade6c318b552ac096da5f4bfeec0c9e8221fc0409dc922965f6c", func := "saltdome/saltdomelaw09.LeakBounds", spec := "leakBounds", unfollowed := true, recurses := true, apart := false }
def LeakBoundsSaid : Prop := leakBoundsRow.holds Try.pinned (OpenSpec.ofChange leakBoundsSpec)

/-- ITS FALSE NEIGHBOUR: 'it returns false'. Refute it at one input. -/
def leakBoundsWrong : ChangeSpec := { name := "leakBounds", fn := fun _ => fun
  | [d1, d2] => { results := [.lit (.bool false)], args := [d1, d2] }
  | _ => none }
def LeakBoundsWrongFalsely : Prop := leakBoundsRow.holds Try.pinned (OpenSpec.ofChange leakBoundsWrong)

/-- 'saltdomelaw09.LeakBlames': WHATEVER THE INPUT: true; the input reads as it did. -/
def leakBlamesSpec : ChangeSpec := { name := "leakBlames", fn := fun _ => fun
  | [d] => { results := [.lit (.bool true)], args := [d] }
  | _ => none }
def leakBlamesRow : OpenClaim := { program := "ytddmfkhmhdddeaa", sum := "106cefe938f8ade6c318b552ac096da5f4bfeec0c9e8221fc0409dc922965f6c", func := "saltdome/saltdomelaw09.LeakBlames", spec := "leakBlames", unfollowed := true, recurses := true, apart := false }
def LeakBlamesSaid : Prop := leakBlamesRow.holds Try.pinned (OpenSpec.ofChange leakBlamesSpec)

/-- ITS FALSE NEIGHBOUR: 'it returns false'. Refute it at one input. -/
def leakBlamesWrong : ChangeSpec := { name := "leakBlames", fn := fun _ => fun
  | [d] => { results := [.lit (.bool false)], args := [d] }
  | _ => none }
def LeakBlamesWrongFalsely : Prop := leakBlamesRow.holds Try.pinned (OpenSpec.ofChange leakBlamesWrong)

/-- 'saltdomelaw09.LeakFinds': WHATEVER THE INPUT: true; the input reads as it did. -/
def leakFindsSpec : ChangeSpec := { name := "leakFinds", fn := fun _ => fun
  | [d1, d2, d3] => { results := [.lit (.bool true)], args := [d1, d2, d3] }
  | _ => none }
def leakFindsRow : OpenClaim := { program := "ytddmfkhmhdddeaa", sum := "106cefe938f8ade6c318b552ac096da5f4bfeec0c9e8221fc0409dc922965f6c", func := "saltdome/saltdomelaw09.LeakFinds", spec := "leakFinds", unfollowed := true, recurses := true, apart := false }
def LeakFindsSaid : Prop := leakFindsRow.holds Try.pinned (OpenSpec.ofChange leakFindsSpec)

/-- ITS FALSE NEIGHBOUR: 'it returns false'. Refute it at one input. -/
def leakFindsWrong : ChangeSpec := { name := "leakFinds", fn := fun _ => fun
  | [d1, d2, d3] => { results := [.lit (.bool false)], args := [d1, d2, d3] }
  | _ => none }
def LeakFindsWrongFalsely : Prop := leakFindsRow.holds Try.pinned (OpenSpec.ofChange leakFindsWrong)

/-- 'saltdomelaw09.LeakTells': WHATEVER THE INPUT: true; the input reads as it did. -/
def leakTellsSpec : ChangeSpec := { name := "leakTells", fn := fun _ => fun
  | [d1, d2, d3, d4] => { results := [.lit (.bool true)], args := [d1, d2, d3, d4] }
  | _ => none }
def leakTellsRow : OpenClaim := { program := "ytddmfkhmhdddeaa", sum := "106cefe938f8ade6c318b552ac096da5f4bfeec0c9e8221fc0409dc922965f6c", func := "saltdome/saltdomelaw09.LeakTells", spec := "leakTells", unfollowed := true, recurses := true, apart := false }
def LeakTellsSaid : Prop := leakTellsRow.holds Try.pinned (OpenSpec.ofChange leakTellsSpec)

/-- ITS FALSE NEIGHBOUR: 'it returns false'. Refute it at one input. -/
def leakTellsWrong : ChangeSpec := { name := "leakTells", fn := fun _ => fun
  | [d1, d2, d3, d4] => { results := [.lit (.bool false)], args := [d1, d2, d3, d4] }
  | _ => none }
def LeakTellsWrongFalsely : Prop := leakTellsRow.holds Try.pinned (OpenSpec.ofChange leakTellsWrong)

/-- 'saltdomelaw09.LeakMore': WHATEVER THE INPUT: true; the input reads as it did. -/
def leakMoreSpec : ChangeSpec := { name := "leakMore", fn := fun _ => fun
  | [d1, d2] => { results := [.lit (.bool true)], args := [d1, d2] }
  | _ => none }
def leakMoreRow : OpenClaim := { program := "ytddmfkhmhdddeaa", sum := "106cefe938f8ade6c318b552ac096da5f4bfeec0c9e8221fc0409dc922965f6c", func := "saltdome/saltdomelaw09.LeakMore", spec := "leakMore", unfollowed := true, recurses := true, apart := false }
def LeakMoreSaid : Prop := leakMoreRow.holds Try.pinned (OpenSpec.ofChange leakMoreSpec)

/-- ITS FALSE NEIGHBOUR: 'it returns false'. Refute it at one input. -/
def leakMoreWrong : ChangeSpec := { name := "leakMore", fn := fun _ => fun
  | [d1, d2] => { results := [.lit (.bool false)], args := [d1, d2] }
  | _ => none }
def LeakMoreWrongFalsely : Prop := leakMoreRow.holds Try.pinned (OpenSpec.ofChange leakMoreWrong)

/-- 'saltdomelaw09.LeakTrue': WHATEVER THE INPUT: true; the input reads as it did. -/
def leakTrueSpec : ChangeSpec := { name := "leakTrue", fn := fun _ => fun
  | [d1, d2, d3, d4] => { results := [.lit (.bool true)], args := [d1, d2, d3, d4] }
  | _ => none }
def leakTrueRow : OpenClaim := { program := "ytddmfkhmhdddeaa", sum := "106cefe938f8ade6c318b552ac096da5f4bfeec0c9e8221fc0409dc922965f6c", func := "saltdome/saltdomelaw09.LeakTrue", spec := "leakTrue", unfollowed := true, recurses := true, apart := false }
def LeakTrueSaid : Prop := leakTrueRow.holds Try.pinned (OpenSpec.ofChange leakTrueSpec)

/-- ITS FALSE NEIGHBOUR: 'it returns false'. Refute it at one input. -/
def leakTrueWrong : ChangeSpec := { name := "leakTrue", fn := fun _ => fun
  | [d1, d2, d3, d4] => { results := [.lit (.bool false)], args := [d1, d2, d3, d4] }
  | _ => none }
def LeakTrueWrongFalsely : Prop := leakTrueRow.holds Try.pinned (OpenSpec.ofChange leakTrueWrong)

/-- 'saltdomelaw09.LeakAttained': WHATEVER THE INPUT: true; the input reads as it did. -/
def leakAttainedSpec : ChangeSpec := { name := "leakAttained", fn := fun _ => fun
  | [d1, d2, d3, d4] => { results := [.lit (.bool true)], args := [d1, d2, d3, d4] }
  | _ => none }
def leakAttainedRow : OpenClaim := { program := "ytddmfkhmhdddeaa", sum := "106cefe938f8ade6c318b552ac096da5f4bfeec0c9e8221fc0409dc922965f6c", func := "saltdome/saltdomelaw09.LeakAttained", spec := "leakAttained", unfollowed := true, recurses := true, apart := false }
def LeakAttainedSaid : Prop := leakAttainedRow.holds Try.pinned (OpenSpec.ofChange leakAttainedSpec)

/-- ITS FALSE NEIGHBOUR: 'it returns false'. Refute it at one input. -/
def leakAttainedWrong : ChangeSpec := { name := "leakAttained", fn := fun _ => fun
  | [d1, d2, d3, d4] => { results := [.lit (.bool false)], args := [d1, d2, d3, d4] }
  | _ => none }
def LeakAttainedWrongFalsely : Prop := leakAttainedRow.holds Try.pinned (OpenSpec.ofChange leakAttainedWrong)

/-- 'saltdomelaw09.LeakBlamed': WHATEVER THE INPUT: true; the input reads as it did. -/
def leakBlamedSpec : ChangeSpec := { name := "leakBlamed", fn := fun _ => fun
  | [d1, d2, d3] => { results := [.lit (.bool true)], args := [d1, d2, d3] }
  | _ => none }
def leakBlamedRow : OpenClaim := { program := "ytddmfkhmhdddeaa", sum := "106cefe938f8ade6c318b552ac096da5f4bfeec0c9e8221fc0409dc922965f6c", func := "saltdome/saltdomelaw09.LeakBlamed", spec := "leakBlamed", unfollowed := true, recurses := true, apart := false }
def LeakBlamedSaid : Prop := leakBlamedRow.holds Try.pinned (OpenSpec.ofChange leakBlamedSpec)

/-- ITS FALSE NEIGHBOUR: 'it returns false'. Refute it at one input. -/
def leakBlamedWrong : ChangeSpec := { name := "leakBlamed", fn := fun _ => fun
  | [d1, d2, d3] => { results := [.lit (.bool false)], args := [d1, d2, d3] }
  | _ => none }
def LeakBlamedWrongFalsely : Prop := leakBlamedRow.holds Try.pinned (OpenSpec.ofChange leakBlamedWrong)

/-- 'saltdomelaw09.LeakFound': WHATEVER THE INPUT: true; the input reads as it did. -/
def leakFoundSpec : ChangeSpec := { name := "leakFound", fn := fun _ => fun
  | [d1, d2, d3, d4, d5, d6] => { results := [.lit (.bool true)], args := [d1, d2, d3, d4, d5, d6] }
  | _ => none }
def leakFoundRow : OpenClaim := { program := "ytddmfkhmhdddeaa", sum := "106cefe938f8ade6c318b552ac096da5f4bfeec0c9e8221fc0409dc922965f6c", func := "saltdome/saltdomelaw09.LeakFound", spec := "leakFound", unfollowed := true, recurses := true, apart := false }
def LeakFoundSaid : Prop := leakFoundRow.holds Try.pinned (OpenSpec.ofChange leakFoundSpec)

/-- ITS FALSE NEIGHBOUR: 'it returns false'. Refute it at one input. -/
def leakFoundWrong : ChangeSpec := { name := "leakFound", fn := fun _ => fun
  | [d1, d2, d3, d4, d5, d6] => { results := [.lit (.bool false)], args := [d1, d2, d3, d4, d5, d6] }
  | _ => none }
def LeakFoundWrongFalsely : Prop := leakFoundRow.holds Try.pinned (OpenSpec.ofChange leakFoundWrong)

/-- 'saltdomelaw09.LeakHidden': WHATEVER THE INPUT: true; the input reads as it did. -/
def leakHiddenSpec : ChangeSpec := { name := "leakHidden", fn := fun _ => fun
  | [d1, d2, d3] => { results := [.lit (.bool true)], args := [d1, d2, d3] }
  | _ => none }
def leakHiddenRow : OpenClaim := { program := "ytddmfkhmhdddeaa", sum := "106cefe938f8ade6c318b552ac096da5f4bfeec0c9e8221fc0409dc922965f6c", func := "saltdome/saltdomelaw09.LeakHidden", spec := "leakHidden", unfollowed := true, recurses := true, apart := false }
def LeakHiddenSaid : Prop := leakHiddenRow.holds Try.pinned (OpenSpec.ofChange leakHiddenSpec)

/-- ITS FALSE NEIGHBOUR: 'it returns false'. Refute it at one input. -/
def leakHiddenWrong : ChangeSpec := { name := "leakHidden", fn := fun _ => fun
  | [d1, d2, d3] => { results := [.lit (.bool false)], args := [d1, d2, d3] }
  | _ => none }
def LeakHiddenWrongFalsely : Prop := leakHiddenRow.holds Try.pinned (OpenSpec.ofChange leakHiddenWrong)

/-- 'saltdomelaw09.LeakTold': WHATEVER THE INPUT: true; the input reads as it did. -/
def leakToldSpec : ChangeSpec := { name := "leakTold", fn := fun _ => fun
  | [d1, d2, d3, d4, d5, d6, d7] => { results := [.lit (.bool true)], args := [d1, d2, d3, d4, d5, d6, d7] }
  | _ => none }
def leakToldRow : OpenClaim := { program := "ytddmfkhmhdddeaa", sum := "106cefe938f8ade6c318b552ac096da5f4bfeec0c9e8221fc0409dc922965f6c", func := "saltdome/saltdomelaw09.LeakTold", spec := "leakTold", unfollowed := true, recurses := true, apart := false }
def LeakToldSaid : Prop := leakToldRow.holds Try.pinned (OpenSpec.ofChange leakToldSpec)

/-- ITS FALSE NEIGHBOUR: 'it returns false'. Refute it at one input. -/
def leakToldWrong : ChangeSpec := { name := "leakTold", fn := fun _ => fun
  | [d1, d2, d3, d4, d5, d6, d7] => { results := [.lit (.bool false)], args := [d1, d2, d3, d4, d5, d6, d7] }
  | _ => none }
def LeakToldWrongFalsely : Prop := leakToldRow.holds Try.pinned (OpenSpec.ofChange leakToldWrong)

/-- 'saltdomelaw09.LeakChecks': WHATEVER THE INPUT: true; the input reads as it did. -/
def leakChecksSpec : ChangeSpec := { name := "leakChecks", fn := fun _ => fun
  | [d1, d2] => { results := [.lit (.bool true)], args := [d1, d2] }
  | _ => none }
def leakChecksRow : OpenClaim := { program := "ytddmfkhmhdddeaa", sum := "106cefe938f8ade6c318b552ac096da5f4bfeec0c9e8221fc0409dc922965f6c", func := "saltdome/saltdomelaw09.LeakChecks", spec := "leakChecks", unfollowed := true, recurses := true, apart := false }
def LeakChecksSaid : Prop := leakChecksRow.holds Try.pinned (OpenSpec.ofChange leakChecksSpec)

/-- ITS FALSE NEIGHBOUR: 'it returns false'. Refute it at one input. -/
def leakChecksWrong : ChangeSpec := { name := "leakChecks", fn := fun _ => fun
  | [d1, d2] => { results := [.lit (.bool false)], args := [d1, d2] }
  | _ => none }
def LeakChecksWrongFalsely : Prop := leakChecksRow.holds Try.pinned (OpenSpec.ofChange leakChecksWrong)

/-- 'saltdomelaw09.LeakSizes': WHATEVER THE INPUT: true; the input reads as it did. -/
def leakSizesSpec : ChangeSpec := { name := "leakSizes", fn := fun _ => fun
  | [d1, d2, d3] => { results := [.lit (.bool true)], args := [d1, d2, d3] }
  | _ => none }
def leakSizesRow : OpenClaim := { program := "ytddmfkhmhdddeaa", sum := "106cefe938f8ade6c318b552ac096da5f4bfeec0c9e8221fc0409dc922965f6c", func := "saltdome/saltdomelaw09.LeakSizes", spec := "leakSizes", unfollowed := true, recurses := true, apart := false }
def LeakSizesSaid : Prop := leakSizesRow.holds Try.pinned (OpenSpec.ofChange leakSizesSpec)

/-- ITS FALSE NEIGHBOUR: 'it returns false'. Refute it at one input. -/
def leakSizesWrong : ChangeSpec := { name := "leakSizes", fn := fun _ => fun
  | [d1, d2, d3] => { results := [.lit (.bool false)], args := [d1, d2, d3] }
  | _ => none }
def LeakSizesWrongFalsely : Prop := leakSizesRow.holds Try.pinned (OpenSpec.ofChange leakSizesWrong)

/-- 'saltdomelaw09.LeakSized': WHATEVER THE INPUT: true; the input reads as it did. -/
def leakSizedSpec : ChangeSpec := { name := "leakSized", fn := fun _ => fun
  | [d1, d2] => { results := [.lit (.bool true)], args := [d1, d2] }
  | _ => none }
def leakSizedRow : OpenClaim := { program := "ytddmfkhmhdddeaa", sum := "106cefe938f8ade6c318b552ac096da5f4bfeec0c9e8221fc0409dc922965f6c", func := "saltdome/saltdomelaw09.LeakSized", spec := "leakSized", unfollowed := true, recurses := true, apart := false }
def LeakSizedSaid : Prop := leakSizedRow.holds Try.pinned (OpenSpec.ofChange leakSizedSpec)

/-- ITS FALSE NEIGHBOUR: 'it returns false'. Refute it at one input. -/
def leakSizedWrong : ChangeSpec := { name := "leakSized", fn := fun _ => fun
  | [d1, d2] => { results := [.lit (.bool false)], args := [d1, d2] }
  | _ => none }
def LeakSizedWrongFalsely : Prop := leakSizedRow.holds Try.pinned (OpenSpec.ofChange leakSizedWrong)

/- THE SECOND FORM. 'bulk': how many values and letters a reading holds, each counted each time it is reached (what is shared counts as often as it is met; a slice's spare places count too). A statement '..UptoSaid' is the law's where the arguments, and the package variables that the reading takes, are together of bulk at most 1048576: NARROWER than '..Said'. Prove '..Said' where nothing that the law and all that it calls make is longer than what came in: it says more and counts as full. Else prove '..UptoSaid'. A law counts once. -/
mutual
def uptoBulk {H : Type} : DataW H → Nat
  | .lit (.string bytes) => bytes.length + 1
  | .lit _ => 1
  | .nil => 1
  | .ptr d => uptoBulk d + 1
  | .slice elems spare => uptoBulkAll elems + uptoBulkAll spare + 1
  | .agg parts => uptoBulkAll parts + 1
  | .iface _ d => uptoBulk d + 1
  | .map entries => uptoBulkEntries entries + 1
  | .held _ => 1
def uptoBulkAll {H : Type} : List (DataW H) → Nat
  | [] => 0
  | d :: r => uptoBulk d + uptoBulkAll r
def uptoBulkEntries {H : Type} : List (Lit × DataW H) → Nat
  | [] => 0
  | x :: r => uptoBulkEntry x + uptoBulkEntries r
def uptoBulkEntry {H : Type} : Lit × DataW H → Nat
  | (.string bytes, d) => bytes.length + uptoBulk d + 1
  | (_, d) => uptoBulk d + 1
 end
def uptoSmall : (H : Type) → List (DataW H) → Bool := fun _ ds => decide (uptoBulkAll ds ≤ 1048576)
def OpenSpec.upto (s : _root_.Go.ChangeSpec) : _root_.Go.OpenSpec := { _root_.Go.OpenSpec.ofChange s with cond := some uptoSmall }

/-- 'saltdomelaw09.LeakBounds', WHERE WHAT IT READS IS OF BULK AT MOST 1048576: true; the input reads as it did. -/
def leakBoundsUptoRow : OpenClaim := { program := "ytddmfkhmhdddeaa", sum := "106cefe938f8ade6c318b552ac096da5f4bfeec0c9e8221fc0409dc922965f6c", func := "saltdome/saltdomelaw09.LeakBounds", spec := "leakBounds", unfollowed := true, recurses := true, apart := false, narrowed := true }
def LeakBoundsUptoSaid : Prop := leakBoundsUptoRow.holds Try.pinned (OpenSpec.upto leakBoundsSpec)

/-- 'saltdomelaw09.LeakBlames', WHERE WHAT IT READS IS OF BULK AT MOST 1048576: true; the input reads as it did. -/
def leakBlamesUptoRow : OpenClaim := { program := "ytddmfkhmhdddeaa", sum := "106cefe938f8ade6c318b552ac096da5f4bfeec0c9e8221fc0409dc922965f6c", func := "saltdome/saltdomelaw09.LeakBlames", spec := "leakBlames", unfollowed := true, recurses := true, apart := false, narrowed := true }
def LeakBlamesUptoSaid : Prop := leakBlamesUptoRow.holds Try.pinned (OpenSpec.upto leakBlamesSpec)

/-- 'saltdomelaw09.LeakFinds', WHERE WHAT IT READS IS OF BULK AT MOST 1048576: true; the input reads as it did. -/
def leakFindsUptoRow : OpenClaim := { program := "ytddmfkhmhdddeaa", sum := "106cefe938f8ade6c318b552ac096da5f4bfeec0c9e8221fc0409dc922965f6c", func := "saltdome/saltdomelaw09.LeakFinds", spec := "leakFinds", unfollowed := true, recurses := true, apart := false, narrowed := true }
def LeakFindsUptoSaid : Prop := leakFindsUptoRow.holds Try.pinned (OpenSpec.upto leakFindsSpec)

/-- 'saltdomelaw09.LeakTells', WHERE WHAT IT READS IS OF BULK AT MOST 1048576: true; the input reads as it did. -/
def leakTellsUptoRow : OpenClaim := { program := "ytddmfkhmhdddeaa", sum := "106cefe938f8ade6c318b552ac096da5f4bfeec0c9e8221fc0409dc922965f6c", func := "saltdome/saltdomelaw09.LeakTells", spec := "leakTells", unfollowed := true, recurses := true, apart := false, narrowed := true }
def LeakTellsUptoSaid : Prop := leakTellsUptoRow.holds Try.pinned (OpenSpec.upto leakTellsSpec)

/-- 'saltdomelaw09.LeakMore', WHERE WHAT IT READS IS OF BULK AT MOST 1048576: true; the input reads as it did. -/
def leakMoreUptoRow : OpenClaim := { program := "ytddmfkhmhdddeaa", sum := "106cefe938f8ade6c318b552ac096da5f4bfeec0c9e8221fc0409dc922965f6c", func := "saltdome/saltdomelaw09.LeakMore", spec := "leakMore", unfollowed := true, recurses := true, apart := false, narrowed := true }
def LeakMoreUptoSaid : Prop := leakMoreUptoRow.holds Try.pinned (OpenSpec.upto leakMoreSpec)

/-- 'saltdomelaw09.LeakTrue', WHERE WHAT IT READS IS OF BULK AT MOST 1048576: true; the input reads as it did. -/
def leakTrueUptoRow : OpenClaim := { program := "ytddmfkhmhdddeaa", sum := "106cefe938f8ade6c318b552ac096da5f4bfeec0c9e8221fc0409dc922965f6c", func := "saltdome/saltdomelaw09.LeakTrue", spec := "leakTrue", unfollowed := true, recurses := true, apart := false, narrowed := true }
def LeakTrueUptoSaid : Prop := leakTrueUptoRow.holds Try.pinned (OpenSpec.upto leakTrueSpec)

/-- 'saltdomelaw09.LeakAttained', WHERE WHAT IT READS IS OF BULK AT MOST 1048576: true; the input reads as it did. -/
def leakAttainedUptoRow : OpenClaim := { program := "ytddmfkhmhdddeaa", sum := "106cefe938f8ade6c318b552ac096da5f4bfeec0c9e8221fc0409dc922965f6c", func := "saltdome/saltdomelaw09.LeakAttained", spec := "leakAttained", unfollowed := true, recurses := true, apart := false, narrowed := true }
def LeakAttainedUptoSaid : Prop := leakAttainedUptoRow.holds Try.pinned (OpenSpec.upto leakAttainedSpec)

/-- 'saltdomelaw09.LeakBlamed', WHERE WHAT IT READS IS OF BULK AT MOST 1048576: true; the input reads as it did. -/
def leakBlamedUptoRow : OpenClaim := { program := "ytddmfkhmhdddeaa", sum := "106cefe938f8ade6c318b552ac096da5f4bfeec0c9e8221fc0409dc922965f6c", func := "saltdome/saltdomelaw09.LeakBlamed", spec := "leakBlamed", unfollowed := true, recurses := true, apart := false, narrowed := true }
def LeakBlamedUptoSaid : Prop := leakBlamedUptoRow.holds Try.pinned (OpenSpec.upto leakBlamedSpec)

/-- 'saltdomelaw09.LeakFound', WHERE WHAT IT READS IS OF BULK AT MOST 1048576: true; the input reads as it did. -/
def leakFoundUptoRow : OpenClaim := { program := "ytddmfkhmhdddeaa", sum := "106cefe938f8ade6c318b552ac096da5f4bfeec0c9e8221fc0409dc922965f6c", func := "saltdome/saltdomelaw09.LeakFound", spec := "leakFound", unfollowed := true, recurses := true, apart := false, narrowed := true }
def LeakFoundUptoSaid : Prop := leakFoundUptoRow.holds Try.pinned (OpenSpec.upto leakFoundSpec)

/-- 'saltdomelaw09.LeakHidden', WHERE WHAT IT READS IS OF BULK AT MOST 1048576: true; the input reads as it did. -/
def leakHiddenUptoRow : OpenClaim := { program := "ytddmfkhmhdddeaa", sum := "106cefe938f8ade6c318b552ac096da5f4bfeec0c9e8221fc0409dc922965f6c", func := "saltdome/saltdomelaw09.LeakHidden", spec := "leakHidden", unfollowed := true, recurses := true, apart := false, narrowed := true }
def LeakHiddenUptoSaid : Prop := leakHiddenUptoRow.holds Try.pinned (OpenSpec.upto leakHiddenSpec)

/-- 'saltdomelaw09.LeakTold', WHERE WHAT IT READS IS OF BULK AT MOST 1048576: true; the input reads as it did. -/
def leakToldUptoRow : OpenClaim := { program := "ytddmfkhmhdddeaa", sum := "106cefe938f8ade6c318b552ac096da5f4bfeec0c9e8221fc0409dc922965f6c", func := "saltdome/saltdomelaw09.LeakTold", spec := "leakTold", unfollowed := true, recurses := true, apart := false, narrowed := true }
def LeakToldUptoSaid : Prop := leakToldUptoRow.holds Try.pinned (OpenSpec.upto leakToldSpec)

/-- 'saltdomelaw09.LeakChecks', WHERE WHAT IT READS IS OF BULK AT MOST 1048576: true; the input reads as it did. -/
def leakChecksUptoRow : OpenClaim := { program := "ytddmfkhmhdddeaa", sum := "106cefe938f8ade6c318b552ac096da5f4bfeec0c9e8221fc0409dc922965f6c", func := "saltdome/saltdomelaw09.LeakChecks", spec := "leakChecks", unfollowed := true, recurses := true, apart := false, narrowed := true }
def LeakChecksUptoSaid : Prop := leakChecksUptoRow.holds Try.pinned (OpenSpec.upto leakChecksSpec)

/-- 'saltdomelaw09.LeakSizes', WHERE WHAT IT READS IS OF BULK AT MOST 1048576: true; the input reads as it did. -/
def leakSizesUptoRow : OpenClaim := { program := "ytddmfkhmhdddeaa", sum := "106cefe938f8ade6c318b552ac096da5f4bfeec0c9e8221fc0409dc922965f6c", func := "saltdome/saltdomelaw09.LeakSizes", spec := "leakSizes", unfollowed := true, recurses := true, apart := false, narrowed := true }
def LeakSizesUptoSaid : Prop := leakSizesUptoRow.holds Try.pinned (OpenSpec.upto leakSizesSpec)

/-- 'saltdomelaw09.LeakSized', WHERE WHAT IT READS IS OF BULK AT MOST 1048576: true; the input reads as it did. -/
def leakSizedUptoRow : OpenClaim := { program := "ytddmfkhmhdddeaa", sum := "106cefe938f8ade6c318b552ac096da5f4bfeec0c9e8221fc0409dc922965f6c", func := "saltdome/saltdomelaw09.LeakSized", spec := "leakSized", unfollowed := true, recurses := true, apart := false, narrowed := true }
def LeakSizedUptoSaid : Prop := leakSizedUptoRow.holds Try.pinned (OpenSpec.upto leakSizedSpec)

end Rows
end Go.Proofs.Ytddmfkhmhdddeaa
