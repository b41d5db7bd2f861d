/-
  No cell of these rows narrows 'for every input' (looked for: loops, veiled, ifaces, maps, wideKeys, modest, calm, conditions, laid).
  DERIVED. THE GIVEN ROWS OF THIS SEAT. 11 by the template 'for every input the law returns true; each argument reads behind the call as it read before'; 0 by the template 'total and deterministic' (their statements: YtacajmpggjgaiaaTotals.lean).
  GIVEN WITH THE SEED: the statements are not yours to turn. If you find one false, say at which input.
  Laid BY PROGRAM, IN A SANDBOX (cutbox-rows.mjs): the forced cells as the released guide's own fill.sh prints them over the translation 246ee40476adba22… (all of the seat's roots in one cut). By AI agents, Wed Nov 11 2026. No macro, syntax, notation, axiom, sorry.
-/
import Derived.Test.YtacajmpggjgaiaaChecked
import GoSem.Claim
import GoSem.ClaimJoined
import GoSem.ClaimMapViews
import Derived.JoinedTies
import Derived.KernelRfl
namespace Go.Proofs.Ytacajmpggjgaiaa
/- THE CELL 'sum', in the pinned program and in every row, IS THE sha256 OF THE DUMP (.gsa) THAT YtacajmpggjgaiaaProg.lean LOADS. Nothing in Lean hashes anything: it is a label: what it is worth is what the hold of that sum in a sandbox is worth. -/
noncomputable def Try.pinned : Pinned := { name := "ytacajmpggjgaiaa", sum := "246ee40476adba2278a858f1fb4ef95ce2b42dd12af4ab0c52976ab1c2e6a055", checked := Try.checked }
namespace Rows
def none {H : Type} : Left H := { results := [], args := [] }

/-- 'saltdomelaw08.SeasonBest': WHATEVER THE INPUT: true; the input reads as it did. -/
def seasonBestSpec : ChangeSpec := { name := "seasonBest", fn := fun _ => fun
  | [d1, d2] => { results := [.lit (.bool true)], args := [d1, d2] }
  | _ => none }
def seasonBestRow : OpenClaim := { program := "ytacajmpggjgaiaa", sum := "246ee40476adba2278a858f1fb4ef95ce2b42dd12af4ab0c52976ab1c2e6a055", func := "saltdome/saltdomelaw08.SeasonBest", spec := "seasonBest", unfollowed := true, recurses := true, plainKeys := false, apart := false }
def SeasonBestSaid : Prop := seasonBestRow.holds Try.pinned (OpenSpec.ofChange seasonBestSpec)

/-- ITS FALSE NEIGHBOUR: 'it returns false'. Refute it at one input. -/
def seasonBestWrong : ChangeSpec := { name := "seasonBest", fn := fun _ => fun
  | [d1, d2] => { results := [.lit (.bool false)], args := [d1, d2] }
  | _ => none }
def SeasonBestWrongFalsely : Prop := seasonBestRow.holds Try.pinned (OpenSpec.ofChange seasonBestWrong)

/-- 'saltdomelaw08.SeasonSafes': WHATEVER THE INPUT: true; the input reads as it did. -/
def seasonSafesSpec : ChangeSpec := { name := "seasonSafes", fn := fun _ => fun
  | [d] => { results := [.lit (.bool true)], args := [d] }
  | _ => none }
def seasonSafesRow : OpenClaim := { program := "ytacajmpggjgaiaa", sum := "246ee40476adba2278a858f1fb4ef95ce2b42dd12af4ab0c52976ab1c2e6a055", func := "saltdome/saltdomelaw08.SeasonSafes", spec := "seasonSafes", unfollowed := true, recurses := true, plainKeys := false, apart := false }
def SeasonSafesSaid : Prop := seasonSafesRow.holds Try.pinned (OpenSpec.ofChange seasonSafesSpec)

/-- ITS FALSE NEIGHBOUR: 'it returns false'. Refute it at one input. -/
def seasonSafesWrong : ChangeSpec := { name := "seasonSafes", fn := fun _ => fun
  | [d] => { results := [.lit (.bool false)], args := [d] }
  | _ => none }
def SeasonSafesWrongFalsely : Prop := seasonSafesRow.holds Try.pinned (OpenSpec.ofChange seasonSafesWrong)

/-- 'saltdomelaw08.SeasonAdvises': WHATEVER THE INPUT: true; the input reads as it did. -/
def seasonAdvisesSpec : ChangeSpec := { name := "seasonAdvises", fn := fun _ => fun
  | [d1, d2, d3, d4] => { results := [.lit (.bool true)], args := [d1, d2, d3, d4] }
  | _ => none }
def seasonAdvisesRow : OpenClaim := { program := "ytacajmpggjgaiaa", sum := "246ee40476adba2278a858f1fb4ef95ce2b42dd12af4ab0c52976ab1c2e6a055", func := "saltdome/saltdomelaw08.SeasonAdvises", spec := "seasonAdvises", unfollowed := true, recurses := true, plainKeys := false, apart := false }
def SeasonAdvisesSaid : Prop := seasonAdvisesRow.holds Try.pinned (OpenSpec.ofChange seasonAdvisesSpec)

/-- ITS FALSE NEIGHBOUR: 'it returns false'. Refute it at one input. -/
def seasonAdvisesWrong : ChangeSpec := { name := "seasonAdvises", fn := fun _ => fun
  | [d1, d2, d3, d4] => { results := [.lit (.bool false)], args := [d1, d2, d3, d4] }
  | _ => none }
def SeasonAdvisesWrongFalsely : Prop := seasonAdvisesRow.holds Try.pinned (OpenSpec.ofChange seasonAdvisesWrong)

/-- 'saltdomelaw08.SeasonMore': WHATEVER THE INPUT: true; the input reads as it did. -/
def seasonMoreSpec : ChangeSpec := { name := "seasonMore", fn := fun _ => fun
  | [d1, d2, d3, d4, d5, d6] => { results := [.lit (.bool true)], args := [d1, d2, d3, d4, d5, d6] }
  | _ => none }
def seasonMoreRow : OpenClaim := { program := "ytacajmpggjgaiaa", sum := "246ee40476adba2278a858f1fb4ef95ce2b42dd12af4ab0c52976ab1c2e6a055", func := "saltdome/saltdomelaw08.SeasonMore", spec := "seasonMore", unfollowed := true, recurses := true, plainKeys := false, apart := false }
def SeasonMoreSaid : Prop := seasonMoreRow.holds Try.pinned (OpenSpec.ofChange seasonMoreSpec)

/-- ITS FALSE NEIGHBOUR: 'it returns false'. Refute it at one input. -/
def seasonMoreWrong : ChangeSpec := { name := "seasonMore", fn := fun _ => fun
  | [d1, d2, d3, d4, d5, d6] => { results := [.lit (.bool false)], args := [d1, d2, d3, d4, d5, d6] }
  | _ => none }
def SeasonMoreWrongFalsely : Prop := seasonMoreRow.holds Try.pinned (OpenSpec.ofChange seasonMoreWrong)

/-- 'saltdomelaw08.SeasonChecks': WHATEVER THE INPUT: true; the input reads as it did. -/
def seasonChecksSpec : ChangeSpec := { name := "seasonChecks", fn := fun _ => fun
  | [d1, d2] => { results := [.lit (.bool true)], args := [d1, d2] }
  | _ => none }
def seasonChecksRow : OpenClaim := { program := "ytacajmpggjgaiaa", sum := "246ee40476adba2278a858f1fb4ef95ce2b42dd12af4ab0c52976ab1c2e6a055", func := "saltdome/saltdomelaw08.SeasonChecks", spec := "seasonChecks", unfollowed := true, recurses := true, plainKeys := false, apart := false }
def SeasonChecksSaid : Prop := seasonChecksRow.holds Try.pinned (OpenSpec.ofChange seasonChecksSpec)

/-- ITS FALSE NEIGHBOUR: 'it returns false'. Refute it at one input. -/
def seasonChecksWrong : ChangeSpec := { name := "seasonChecks", fn := fun _ => fun
  | [d1, d2] => { results := [.lit (.bool false)], args := [d1, d2] }
  | _ => none }
def SeasonChecksWrongFalsely : Prop := seasonChecksRow.holds Try.pinned (OpenSpec.ofChange seasonChecksWrong)

/-- 'saltdomelaw08.SeasonFloors': WHATEVER THE INPUT: true; the input reads as it did. -/
def seasonFloorsSpec : ChangeSpec := { name := "seasonFloors", fn := fun _ => fun
  | [d1, d2, d3] => { results := [.lit (.bool true)], args := [d1, d2, d3] }
  | _ => none }
def seasonFloorsRow : OpenClaim := { program := "ytacajmpggjgaiaa", sum := "246ee40476adba2278a858f1fb4ef95ce2b42dd12af4ab0c52976ab1c2e6a055", func := "saltdome/saltdomelaw08.SeasonFloors", spec := "seasonFloors", unfollowed := true, recurses := true, plainKeys := false, apart := false }
def SeasonFloorsSaid : Prop := seasonFloorsRow.holds Try.pinned (OpenSpec.ofChange seasonFloorsSpec)

/-- ITS FALSE NEIGHBOUR: 'it returns false'. Refute it at one input. -/
def seasonFloorsWrong : ChangeSpec := { name := "seasonFloors", fn := fun _ => fun
  | [d1, d2, d3] => { results := [.lit (.bool false)], args := [d1, d2, d3] }
  | _ => none }
def SeasonFloorsWrongFalsely : Prop := seasonFloorsRow.holds Try.pinned (OpenSpec.ofChange seasonFloorsWrong)

/-- 'saltdomelaw08.SeasonPlays': WHATEVER THE INPUT: true; the input reads as it did. -/
def seasonPlaysSpec : ChangeSpec := { name := "seasonPlays", fn := fun _ => fun
  | [d1, d2, d3] => { results := [.lit (.bool true)], args := [d1, d2, d3] }
  | _ => none }
def seasonPlaysRow : OpenClaim := { program := "ytacajmpggjgaiaa", sum := "246ee40476adba2278a858f1fb4ef95ce2b42dd12af4ab0c52976ab1c2e6a055", func := "saltdome/saltdomelaw08.SeasonPlays", spec := "seasonPlays", unfollowed := true, recurses := true, plainKeys := false, apart := false }
def SeasonPlaysSaid : Prop := seasonPlaysRow.holds Try.pinned (OpenSpec.ofChange seasonPlaysSpec)

/-- ITS FALSE NEIGHBOUR: 'it returns false'. Refute it at one input. -/
def seasonPlaysWrong : ChangeSpec := { name := "seasonPlays", fn := fun _ => fun
  | [d1, d2, d3] => { results := [.lit (.bool false)], args := [d1, d2, d3] }
  | _ => none }
def SeasonPlaysWrongFalsely : Prop := seasonPlaysRow.holds Try.pinned (OpenSpec.ofChange seasonPlaysWrong)

/-- 'saltdomelaw08.SeasonCheapest': WHATEVER THE INPUT: true; the input reads as it did. -/
def seasonCheapestSpec : ChangeSpec := { name := "seasonCheapest", fn := fun _ => fun
  | [d1, d2, d3] => { results := [.lit (.bool true)], args := [d1, d2, d3] }
  | _ => none }
def seasonCheapestRow : OpenClaim := { program := "ytacajmpggjgaiaa", sum := "246ee40476adba2278a858f1fb4ef95ce2b42dd12af4ab0c52976ab1c2e6a055", func := "saltdome/saltdomelaw08.SeasonCheapest", spec := "seasonCheapest", unfollowed := true, recurses := true, plainKeys := false, apart := false }
def SeasonCheapestSaid : Prop := seasonCheapestRow.holds Try.pinned (OpenSpec.ofChange seasonCheapestSpec)

/-- ITS FALSE NEIGHBOUR: 'it returns false'. Refute it at one input. -/
def seasonCheapestWrong : ChangeSpec := { name := "seasonCheapest", fn := fun _ => fun
  | [d1, d2, d3] => { results := [.lit (.bool false)], args := [d1, d2, d3] }
  | _ => none }
def SeasonCheapestWrongFalsely : Prop := seasonCheapestRow.holds Try.pinned (OpenSpec.ofChange seasonCheapestWrong)

/-- 'saltdomelaw08.SeasonServes': WHATEVER THE INPUT: true; the input reads as it did. -/
def seasonServesSpec : ChangeSpec := { name := "seasonServes", fn := fun _ => fun
  | [d1, d2] => { results := [.lit (.bool true)], args := [d1, d2] }
  | _ => none }
def seasonServesRow : OpenClaim := { program := "ytacajmpggjgaiaa", sum := "246ee40476adba2278a858f1fb4ef95ce2b42dd12af4ab0c52976ab1c2e6a055", func := "saltdome/saltdomelaw08.SeasonServes", spec := "seasonServes", unfollowed := true, recurses := true, plainKeys := false, apart := false }
def SeasonServesSaid : Prop := seasonServesRow.holds Try.pinned (OpenSpec.ofChange seasonServesSpec)

/-- ITS FALSE NEIGHBOUR: 'it returns false'. Refute it at one input. -/
def seasonServesWrong : ChangeSpec := { name := "seasonServes", fn := fun _ => fun
  | [d1, d2] => { results := [.lit (.bool false)], args := [d1, d2] }
  | _ => none }
def SeasonServesWrongFalsely : Prop := seasonServesRow.holds Try.pinned (OpenSpec.ofChange seasonServesWrong)

/-- 'saltdomelaw08.SeasonStops': WHATEVER THE INPUT: true; the input reads as it did. -/
def seasonStopsSpec : ChangeSpec := { name := "seasonStops", fn := fun _ => fun
  | [d1, d2] => { results := [.lit (.bool true)], args := [d1, d2] }
  | _ => none }
def seasonStopsRow : OpenClaim := { program := "ytacajmpggjgaiaa", sum := "246ee40476adba2278a858f1fb4ef95ce2b42dd12af4ab0c52976ab1c2e6a055", func := "saltdome/saltdomelaw08.SeasonStops", spec := "seasonStops", unfollowed := true, recurses := true, plainKeys := false, apart := false }
def SeasonStopsSaid : Prop := seasonStopsRow.holds Try.pinned (OpenSpec.ofChange seasonStopsSpec)

/-- ITS FALSE NEIGHBOUR: 'it returns false'. Refute it at one input. -/
def seasonStopsWrong : ChangeSpec := { name := "seasonStops", fn := fun _ => fun
  | [d1, d2] => { results := [.lit (.bool false)], args := [d1, d2] }
  | _ => none }
def SeasonStopsWrongFalsely : Prop := seasonStopsRow.holds Try.pinned (OpenSpec.ofChange seasonStopsWrong)

/-- 'saltdomelaw08.SeasonProved': WHATEVER THE INPUT: true; the input reads as it did. -/
def seasonProvedSpec : ChangeSpec := { name := "seasonProved", fn := fun _ => fun
  | [d1, d2, d3, d4] => { results := [.lit (.bool true)], args := [d1, d2, d3, d4] }
  | _ => none }
def seasonProvedRow : OpenClaim := { program := "ytacajmpggjgaiaa", sum := "246ee40476adba2278a858f1fb4ef95ce2b42dd12af4ab0c52976ab1c2e6a055", func := "saltdome/saltdomelaw08.SeasonProved", spec := "seasonProved", unfollowed := true, recurses := true, plainKeys := false, apart := false }
def SeasonProvedSaid : Prop := seasonProvedRow.holds Try.pinned (OpenSpec.ofChange seasonProvedSpec)

/-- ITS FALSE NEIGHBOUR: 'it returns false'. Refute it at one input. -/
def seasonProvedWrong : ChangeSpec := { name := "seasonProved", fn := fun _ => fun
  | [d1, d2, d3, d4] => { results := [.lit (.bool false)], args := [d1, d2, d3, d4] }
  | _ => none }
def SeasonProvedWrongFalsely : Prop := seasonProvedRow.holds Try.pinned (OpenSpec.ofChange seasonProvedWrong)

/- THE SECOND FORM. 'bulk': how many values and letters a reading holds, each counted each time it is reached (what is shared counts as often as it is met; a slice's spare places count too). A statement '..UptoSaid' is the law's where the arguments, and the package variables that the reading takes, are together of bulk at most 1048576: NARROWER than '..Said'. Prove '..Said' where nothing that the law and all that it calls make is longer than what came in: it says more and counts as full. Else prove '..UptoSaid'. A law counts once. -/
mutual
def uptoBulk {H : Type} : DataW H → Nat
  | .lit (.string bytes) => bytes.length + 1
  | .lit _ => 1
  | .nil => 1
  | .ptr d => uptoBulk d + 1
  | .slice elems spare => uptoBulkAll elems + uptoBulkAll spare + 1
  | .agg parts => uptoBulkAll parts + 1
  | .iface _ d => uptoBulk d + 1
  | .map entries => uptoBulkEntries entries + 1
  | .held _ => 1
def uptoBulkAll {H : Type} : List (DataW H) → Nat
  | [] => 0
  | d :: r => uptoBulk d + uptoBulkAll r
def uptoBulkEntries {H : Type} : List (Lit × DataW H) → Nat
  | [] => 0
  | x :: r => uptoBulkEntry x + uptoBulkEntries r
def uptoBulkEntry {H : Type} : Lit × DataW H → Nat
  | (.string bytes, d) => bytes.length + uptoBulk d + 1
  | (_, d) => uptoBulk d + 1
 end
def uptoSmall : (H : Type) → List (DataW H) → Bool := fun _ ds => decide (uptoBulkAll ds ≤ 1048576)
def OpenSpec.upto (s : _root_.Go.ChangeSpec) : _root_.Go.OpenSpec := { _root_.Go.OpenSpec.ofChange s with cond := some uptoSmall }

/-- 'saltdomelaw08.SeasonBest', WHERE WHAT IT READS IS OF BULK AT MOST 1048576: true; the input reads as it did. -/
def seasonBestUptoRow : OpenClaim := { program := "ytacajmpggjgaiaa", sum := "246ee40476adba2278a858f1fb4ef95ce2b42dd12af4ab0c52976ab1c2e6a055", func := "saltdome/saltdomelaw08.SeasonBest", spec := "seasonBest", unfollowed := true, recurses := true, plainKeys := false, apart := false, narrowed := true }
def SeasonBestUptoSaid : Prop := seasonBestUptoRow.holds Try.pinned (OpenSpec.upto seasonBestSpec)

/-- 'saltdomelaw08.SeasonSafes', WHERE WHAT IT READS IS OF BULK AT MOST 1048576: true; the input reads as it did. -/
def seasonSafesUptoRow : OpenClaim := { program := "ytacajmpggjgaiaa", sum := "246ee40476adba2278a858f1fb4ef95ce2b42dd12af4ab0c52976ab1c2e6a055", func := "saltdome/saltdomelaw08.SeasonSafes", spec := "seasonSafes", unfollowed := true, recurses := true, plainKeys := false, apart := false, narrowed := true }
def SeasonSafesUptoSaid : Prop := seasonSafesUptoRow.holds Try.pinned (OpenSpec.upto seasonSafesSpec)

/-- 'saltdomelaw08.SeasonAdvises', WHERE WHAT IT READS IS OF BULK AT MOST 1048576: true; the input reads as it did. -/
def seasonAdvisesUptoRow : OpenClaim := { program := "ytacajmpggjgaiaa", sum := "246ee40476adba2278a858f1fb4ef95ce2b42dd12af4ab0c52976ab1c2e6a055", func := "saltdome/saltdomelaw08.SeasonAdvises", spec := "seasonAdvises", unfollowed := true, recurses := true, plainKeys := false, apart := false, narrowed := true }
def SeasonAdvisesUptoSaid : Prop := seasonAdvisesUptoRow.holds Try.pinned (OpenSpec.upto seasonAdvisesSpec)

/-- 'saltdomelaw08.SeasonMore', WHERE WHAT IT READS IS OF BULK AT MOST 1048576: true; the input reads as it did. -/
def seasonMoreUptoRow : OpenClaim := { program := "ytacajmpggjgaiaa", sum := "246ee40476adba2278a858f1fb4ef95ce2b42dd12af4ab0c52976ab1c2e6a055", func := "saltdome/saltdomelaw08.SeasonMore", spec := "seasonMore", unfollowed := true, recurses := true, plainKeys := false, apart := false, narrowed := true }
def SeasonMoreUptoSaid : Prop := seasonMoreUptoRow.holds Try.pinned (OpenSpec.upto seasonMoreSpec)

/-- 'saltdomelaw08.SeasonChecks', WHERE WHAT IT READS IS OF BULK AT MOST 1048576: true; the input reads as it did. -/
def seasonChecksUptoRow : OpenClaim := { program := "ytacajmpggjgaiaa", sum := "246ee40476adba2278a858f1fb4ef95ce2b42dd12af4ab0c52976ab1c2e6a055", func := "saltdome/saltdomelaw08.SeasonChecks", spec := "seasonChecks", unfollowed := true, recurses := true, plainKeys := false, apart := false, narrowed := true }
def SeasonChecksUptoSaid : Prop := seasonChecksUptoRow.holds Try.pinned (OpenSpec.upto seasonChecksSpec)

/-- 'saltdomelaw08.SeasonFloors', WHERE WHAT IT READS IS OF BULK AT MOST 1048576: true; the input reads as it did. -/
def seasonFloorsUptoRow : OpenClaim := { program := "ytacajmpggjgaiaa", sum := "246ee40476adba2278a858f1fb4ef95ce2b42dd12af4ab0c52976ab1c2e6a055", func := "saltdome/saltdomelaw08.SeasonFloors", spec := "seasonFloors", unfollowed := true, recurses := true, plainKeys := false, apart := false, narrowed := true }
def SeasonFloorsUptoSaid : Prop := seasonFloorsUptoRow.holds Try.pinned (OpenSpec.upto seasonFloorsSpec)

/-- 'saltdomelaw08.SeasonPlays', WHERE WHAT IT READS IS OF BULK AT MOST 1048576: true; the input reads as it did. -/
def seasonPlaysUptoRow : OpenClaim := { program := "ytacajmpggjgaiaa", sum := "246ee40476adba2278a858f1fb4ef95ce2b42dd12af4ab0c52976ab1c2e6a055", func := "saltdome/saltdomelaw08.SeasonPlays", spec := "seasonPlays", unfollowed := true, recurses := true, plainKeys := false, apart := false, narrowed := true }
def SeasonPlaysUptoSaid : Prop := seasonPlaysUptoRow.holds Try.pinned (OpenSpec.upto seasonPlaysSpec)

/-- 'saltdomelaw08.SeasonCheapest', WHERE WHAT IT READS IS OF BULK AT MOST 1048576: true; the input reads as it did. -/
def seasonCheapestUptoRow : OpenClaim := { program := "ytacajmpggjgaiaa", sum := "246ee40476adba2278a858f1fb4ef95ce2b42dd12af4ab0c52976ab1c2e6a055", func := "saltdome/saltdomelaw08.SeasonCheapest", spec := "seasonCheapest", unfollowed := true, recurses := true, plainKeys := false, apart := false, narrowed := true }
def SeasonCheapestUptoSaid : Prop := seasonCheapestUptoRow.holds Try.pinned (OpenSpec.upto seasonCheapestSpec)

/-- 'saltdomelaw08.SeasonServes', WHERE WHAT IT READS IS OF BULK AT MOST 1048576: true; the input reads as it did. -/
def seasonServesUptoRow : OpenClaim := { program := "ytacajmpggjgaiaa", sum := "246ee40476adba2278a858f1fb4ef95ce2b42dd12af4ab0c52976ab1c2e6a055", func := "saltdome/saltdomelaw08.SeasonServes", spec := "seasonServes", unfollowed := true, recurses := true, plainKeys := false, apart := false, narrowed := true }
def SeasonServesUptoSaid : Prop := seasonServesUptoRow.holds Try.pinned (OpenSpec.upto seasonServesSpec)

/-- 'saltdomelaw08.SeasonStops', WHERE WHAT IT READS IS OF BULK AT MOST 1048576: true; the input reads as it did. -/
def seasonStopsUptoRow : OpenClaim := { program := "ytacajmpggjgaiaa", sum := "246ee40476adba2278a858f1fb4ef95ce2b42dd12af4ab0c52976ab1c2e6a055", func := "saltdome/saltdomelaw08.SeasonStops", spec := "seasonStops", unfollowed := true, recurses := true, plainKeys := false, apart := false, narrowed := true }
def SeasonStopsUptoSaid : Prop := seasonStopsUptoRow.holds Try.pinned (OpenSpec.upto seasonStopsSpec)

/-- 'saltdomelaw08.SeasonProved', WHERE WHAT IT READS IS OF BULK AT MOST 1048576: true; the input reads as it did. -/
def seasonProvedUptoRow : OpenClaim := { program := "ytacajmpggjgaiaa", sum := "246ee40476adba2278a858f1fb4ef95ce2b42dd12af4ab0c52976ab1c2e6a055", func := "saltdome/saltdomelaw08.SeasonProved", spec := "seasonProved", unfollowed := true, recurses := true, plainKeys := false, apart := false, narrowed := true }
def SeasonProvedUptoSaid : Prop := seasonProvedUptoRow.holds Try.pinned (OpenSpec.upto seasonProvedSpec)

end Rows
end Go.Proofs.Ytacajmpggjgaiaa
