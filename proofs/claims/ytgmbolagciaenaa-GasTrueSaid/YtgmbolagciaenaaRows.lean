/-
  No cell of these rows narrows 'for every input' (looked for: loops, veiled, ifaces, maps, wideKeys, modest, calm, conditions, laid).
  DERIVED. THE GIVEN ROWS OF THIS SEAT. 13 by the template 'for every input the law returns true; each argument reads behind the call as it read before'; 0 by the template 'total and deterministic' (their statements: YtgmbolagciaenaaTotals.lean).
  GIVEN WITH THE SEED: the statements are not yours to turn. If you find one false, say at which input.
  Laid BY PROGRAM, IN A SANDBOX (cutbox-rows.mjs): the forced cells as the released guide's own fill.sh prints them over the translation 6aaba7dbefe374da… (all of the seat's roots in one cut). By AI agents, Wed Nov 11 2026. No macro, syntax, notation, axiom, sorry.
-/
import Derived.Test.YtgmbolagciaenaaChecked
import GoSem.Claim
import GoSem.ClaimJoined
import GoSem.ClaimMapViews
import Derived.JoinedTies
import Derived.KernelRfl
namespace Go.Proofs.Ytgmbolagciaenaa
/- THE CELL 'sum', in the pinned program and in every row, IS THE sha256 OF THE DUMP (.gsa) THAT YtgmbolagciaenaaProg.lean LOADS. Nothing in Lean hashes anything: it is a label: what it is worth is what the hold of that sum in a sandbox is worth. -/
noncomputable def Try.pinned : Pinned := { name := "ytgmbolagciaenaa", sum := "6aaba7dbefe374daed3a1b5d839c5583f987bba72fe5c54f33a73f46a1bce803", checked := Try.checked }
namespace Rows
def none {H : Type} : Left H := { results := [], args := [] }

/-- 'saltdomelaw03.GasDoes': WHATEVER THE INPUT: true; the input reads as it did. -/
def gasDoesSpec : ChangeSpec := { name := "gasDoes", fn := fun _ => fun
  | [d1, d2, d3] => { results := [.lit (.bool true)], args := [d1, d2, d3] }
  | _ => none }
def gasDoesRow : OpenClaim := { program := "ytgmbolagciaenaa", sum := "6aaba7dbefe374daed3a1b5d839c5583f987bba72fe5c54f33a73f46a1bce803", func := "saltdome/saltdomelaw03.GasDoes", spec := "gasDoes", unfollowed := true, recurses := true, apart := false }
def GasDoesSaid : Prop := gasDoesRow.holds Try.pinned (OpenSpec.ofChange gasDoesSpec)

/-- ITS FALSE NEIGHBOUR: 'it returns false'. Refute it at one input. -/
def gasDoesWrong : ChangeSpec := { name := "gasDoes", fn := fun _ => fun
  | [d1, d2, d3] => { results := [.lit (.bool false)], args := [d1, d2, d3] }
  | _ => none }
def GasDoesWrongFalsely : Prop := gasDoesRow.holds Try.pinned (OpenSpec.ofChange gasDoesWrong)

/-- 'saltdomelaw03.GasNarrow': WHATEVER THE INPUT: true; the input reads as it did. -/
def gasNarrowSpec : ChangeSpec := { name := "gasNarrow", fn := fun _ => fun
  | [d1, d2, d3] => { results := [.lit (.bool true)], args := [d1, d2, d3] }
  | _ => none }
def gasNarrowRow : OpenClaim := { program := "ytgmbolagciaenaa", sum := "6aaba7dbefe374daed3a1b5d839c5583f987bba72fe5c54f33a73f46a1bce803", func := "saltdome/saltdomelaw03.GasNarrow", spec := "gasNarrow", unfollowed := true, recurses := true, apart := false }
def GasNarrowSaid : Prop := gasNarrowRow.holds Try.pinned (OpenSpec.ofChange gasNarrowSpec)

/-- ITS FALSE NEIGHBOUR: 'it returns false'. Refute it at one input. -/
def gasNarrowWrong : ChangeSpec := { name := "gasNarrow", fn := fun _ => fun
  | [d1, d2, d3] => { results := [.lit (.bool false)], args := [d1, d2, d3] }
  | _ => none }
def GasNarrowWrongFalsely : Prop := gasNarrowRow.holds Try.pinned (OpenSpec.ofChange gasNarrowWrong)

/-- 'saltdomelaw03.GasPlays': WHATEVER THE INPUT: true; the input reads as it did. -/
def gasPlaysSpec : ChangeSpec := { name := "gasPlays", fn := fun _ => fun
  | [d1, d2, d3, d4, d5] => { results := [.lit (.bool true)], args := [d1, d2, d3, d4, d5] }
  | _ => none }
def gasPlaysRow : OpenClaim := { program := "ytgmbolagciaenaa", sum := "6aaba7dbefe374daed3a1b5d839c5583f987bba72fe5c54f33a73f46a1bce803", func := "saltdome/saltdomelaw03.GasPlays", spec := "gasPlays", unfollowed := true, recurses := true, apart := false }
def GasPlaysSaid : Prop := gasPlaysRow.holds Try.pinned (OpenSpec.ofChange gasPlaysSpec)

/-- ITS FALSE NEIGHBOUR: 'it returns false'. Refute it at one input. -/
def gasPlaysWrong : ChangeSpec := { name := "gasPlays", fn := fun _ => fun
  | [d1, d2, d3, d4, d5] => { results := [.lit (.bool false)], args := [d1, d2, d3, d4, d5] }
  | _ => none }
def GasPlaysWrongFalsely : Prop := gasPlaysRow.holds Try.pinned (OpenSpec.ofChange gasPlaysWrong)

/-- 'saltdomelaw03.GasBalance': WHATEVER THE INPUT: true; the input reads as it did. -/
def gasBalanceSpec : ChangeSpec := { name := "gasBalance", fn := fun _ => fun
  | [d1, d2, d3, d4, d5] => { results := [.lit (.bool true)], args := [d1, d2, d3, d4, d5] }
  | _ => none }
def gasBalanceRow : OpenClaim := { program := "ytgmbolagciaenaa", sum := "6aaba7dbefe374daed3a1b5d839c5583f987bba72fe5c54f33a73f46a1bce803", func := "saltdome/saltdomelaw03.GasBalance", spec := "gasBalance", unfollowed := true, recurses := true, apart := false }
def GasBalanceSaid : Prop := gasBalanceRow.holds Try.pinned (OpenSpec.ofChange gasBalanceSpec)

/-- ITS FALSE NEIGHBOUR: 'it returns false'. Refute it at one input. -/
def gasBalanceWrong : ChangeSpec := { name := "gasBalance", fn := fun _ => fun
  | [d1, d2, d3, d4, d5] => { results := [.lit (.bool false)], args := [d1, d2, d3, d4, d5] }
  | _ => none }
def GasBalanceWrongFalsely : Prop := gasBalanceRow.holds Try.pinned (OpenSpec.ofChange gasBalanceWrong)

/-- 'saltdomelaw03.GasMore': WHATEVER THE INPUT: true; the input reads as it did. -/
def gasMoreSpec : ChangeSpec := { name := "gasMore", fn := fun _ => fun
  | [d1, d2, d3, d4] => { results := [.lit (.bool true)], args := [d1, d2, d3, d4] }
  | _ => none }
def gasMoreRow : OpenClaim := { program := "ytgmbolagciaenaa", sum := "6aaba7dbefe374daed3a1b5d839c5583f987bba72fe5c54f33a73f46a1bce803", func := "saltdome/saltdomelaw03.GasMore", spec := "gasMore", unfollowed := true, recurses := true, apart := false }
def GasMoreSaid : Prop := gasMoreRow.holds Try.pinned (OpenSpec.ofChange gasMoreSpec)

/-- ITS FALSE NEIGHBOUR: 'it returns false'. Refute it at one input. -/
def gasMoreWrong : ChangeSpec := { name := "gasMore", fn := fun _ => fun
  | [d1, d2, d3, d4] => { results := [.lit (.bool false)], args := [d1, d2, d3, d4] }
  | _ => none }
def GasMoreWrongFalsely : Prop := gasMoreRow.holds Try.pinned (OpenSpec.ofChange gasMoreWrong)

/-- 'saltdomelaw03.GasSteps': WHATEVER THE INPUT: true; the input reads as it did. -/
def gasStepsSpec : ChangeSpec := { name := "gasSteps", fn := fun _ => fun
  | [d1, d2, d3] => { results := [.lit (.bool true)], args := [d1, d2, d3] }
  | _ => none }
def gasStepsRow : OpenClaim := { program := "ytgmbolagciaenaa", sum := "6aaba7dbefe374daed3a1b5d839c5583f987bba72fe5c54f33a73f46a1bce803", func := "saltdome/saltdomelaw03.GasSteps", spec := "gasSteps", unfollowed := true, recurses := true, apart := false }
def GasStepsSaid : Prop := gasStepsRow.holds Try.pinned (OpenSpec.ofChange gasStepsSpec)

/-- ITS FALSE NEIGHBOUR: 'it returns false'. Refute it at one input. -/
def gasStepsWrong : ChangeSpec := { name := "gasSteps", fn := fun _ => fun
  | [d1, d2, d3] => { results := [.lit (.bool false)], args := [d1, d2, d3] }
  | _ => none }
def GasStepsWrongFalsely : Prop := gasStepsRow.holds Try.pinned (OpenSpec.ofChange gasStepsWrong)

/-- 'saltdomelaw03.GasTrue': WHATEVER THE INPUT: true; the input reads as it did. -/
def gasTrueSpec : ChangeSpec := { name := "gasTrue", fn := fun _ => fun
  | [d1, d2, d3, d4, d5, d6] => { results := [.lit (.bool true)], args := [d1, d2, d3, d4, d5, d6] }
  | _ => none }
def gasTrueRow : OpenClaim := { program := "ytgmbolagciaenaa", sum := "6aaba7dbefe374daed3a1b5d839c5583f987bba72fe5c54f33a73f46a1bce803", func := "saltdome/saltdomelaw03.GasTrue", spec := "gasTrue", unfollowed := true, recurses := true, apart := false }
def GasTrueSaid : Prop := gasTrueRow.holds Try.pinned (OpenSpec.ofChange gasTrueSpec)

/-- ITS FALSE NEIGHBOUR: 'it returns false'. Refute it at one input. -/
def gasTrueWrong : ChangeSpec := { name := "gasTrue", fn := fun _ => fun
  | [d1, d2, d3, d4, d5, d6] => { results := [.lit (.bool false)], args := [d1, d2, d3, d4, d5, d6] }
  | _ => none }
def GasTrueWrongFalsely : Prop := gasTrueRow.holds Try.pinned (OpenSpec.ofChange gasTrueWrong)

/-- 'saltdomelaw03.GasChains': WHATEVER THE INPUT: true; the input reads as it did. -/
def gasChainsSpec : ChangeSpec := { name := "gasChains", fn := fun _ => fun
  | [d1, d2, d3, d4] => { results := [.lit (.bool true)], args := [d1, d2, d3, d4] }
  | _ => none }
def gasChainsRow : OpenClaim := { program := "ytgmbolagciaenaa", sum := "6aaba7dbefe374daed3a1b5d839c5583f987bba72fe5c54f33a73f46a1bce803", func := "saltdome/saltdomelaw03.GasChains", spec := "gasChains", unfollowed := true, recurses := true, apart := false }
def GasChainsSaid : Prop := gasChainsRow.holds Try.pinned (OpenSpec.ofChange gasChainsSpec)

/-- ITS FALSE NEIGHBOUR: 'it returns false'. Refute it at one input. -/
def gasChainsWrong : ChangeSpec := { name := "gasChains", fn := fun _ => fun
  | [d1, d2, d3, d4] => { results := [.lit (.bool false)], args := [d1, d2, d3, d4] }
  | _ => none }
def GasChainsWrongFalsely : Prop := gasChainsRow.holds Try.pinned (OpenSpec.ofChange gasChainsWrong)

/-- 'saltdomelaw03.GasPurged': WHATEVER THE INPUT: true; the input reads as it did. -/
def gasPurgedSpec : ChangeSpec := { name := "gasPurged", fn := fun _ => fun
  | [d1, d2, d3, d4] => { results := [.lit (.bool true)], args := [d1, d2, d3, d4] }
  | _ => none }
def gasPurgedRow : OpenClaim := { program := "ytgmbolagciaenaa", sum := "6aaba7dbefe374daed3a1b5d839c5583f987bba72fe5c54f33a73f46a1bce803", func := "saltdome/saltdomelaw03.GasPurged", spec := "gasPurged", unfollowed := true, recurses := true, apart := false }
def GasPurgedSaid : Prop := gasPurgedRow.holds Try.pinned (OpenSpec.ofChange gasPurgedSpec)

/-- ITS FALSE NEIGHBOUR: 'it returns false'. Refute it at one input. -/
def gasPurgedWrong : ChangeSpec := { name := "gasPurged", fn := fun _ => fun
  | [d1, d2, d3, d4] => { results := [.lit (.bool false)], args := [d1, d2, d3, d4] }
  | _ => none }
def GasPurgedWrongFalsely : Prop := gasPurgedRow.holds Try.pinned (OpenSpec.ofChange gasPurgedWrong)

/-- 'saltdomelaw03.GasKeeps': WHATEVER THE INPUT: true; the input reads as it did. -/
def gasKeepsSpec : ChangeSpec := { name := "gasKeeps", fn := fun _ => fun
  | [d1, d2, d3, d4] => { results := [.lit (.bool true)], args := [d1, d2, d3, d4] }
  | _ => none }
def gasKeepsRow : OpenClaim := { program := "ytgmbolagciaenaa", sum := "6aaba7dbefe374daed3a1b5d839c5583f987bba72fe5c54f33a73f46a1bce803", func := "saltdome/saltdomelaw03.GasKeeps", spec := "gasKeeps", unfollowed := true, recurses := true, apart := false }
def GasKeepsSaid : Prop := gasKeepsRow.holds Try.pinned (OpenSpec.ofChange gasKeepsSpec)

/-- ITS FALSE NEIGHBOUR: 'it returns false'. Refute it at one input. -/
def gasKeepsWrong : ChangeSpec := { name := "gasKeeps", fn := fun _ => fun
  | [d1, d2, d3, d4] => { results := [.lit (.bool false)], args := [d1, d2, d3, d4] }
  | _ => none }
def GasKeepsWrongFalsely : Prop := gasKeepsRow.holds Try.pinned (OpenSpec.ofChange gasKeepsWrong)

/-- 'saltdomelaw03.GasChecks': WHATEVER THE INPUT: true; the input reads as it did. -/
def gasChecksSpec : ChangeSpec := { name := "gasChecks", fn := fun _ => fun
  | [d1, d2] => { results := [.lit (.bool true)], args := [d1, d2] }
  | _ => none }
def gasChecksRow : OpenClaim := { program := "ytgmbolagciaenaa", sum := "6aaba7dbefe374daed3a1b5d839c5583f987bba72fe5c54f33a73f46a1bce803", func := "saltdome/saltdomelaw03.GasChecks", spec := "gasChecks", unfollowed := true, recurses := true, apart := false }
def GasChecksSaid : Prop := gasChecksRow.holds Try.pinned (OpenSpec.ofChange gasChecksSpec)

/-- ITS FALSE NEIGHBOUR: 'it returns false'. Refute it at one input. -/
def gasChecksWrong : ChangeSpec := { name := "gasChecks", fn := fun _ => fun
  | [d1, d2] => { results := [.lit (.bool false)], args := [d1, d2] }
  | _ => none }
def GasChecksWrongFalsely : Prop := gasChecksRow.holds Try.pinned (OpenSpec.ofChange gasChecksWrong)

/-- 'saltdomelaw03.GasRoomed': WHATEVER THE INPUT: true; the input reads as it did. -/
def gasRoomedSpec : ChangeSpec := { name := "gasRoomed", fn := fun _ => fun
  | [d1, d2, d3, d4, d5, d6, d7] => { results := [.lit (.bool true)], args := [d1, d2, d3, d4, d5, d6, d7] }
  | _ => none }
def gasRoomedRow : OpenClaim := { program := "ytgmbolagciaenaa", sum := "6aaba7dbefe374daed3a1b5d839c5583f987bba72fe5c54f33a73f46a1bce803", func := "saltdome/saltdomelaw03.GasRoomed", spec := "gasRoomed", unfollowed := true, recurses := true, apart := false }
def GasRoomedSaid : Prop := gasRoomedRow.holds Try.pinned (OpenSpec.ofChange gasRoomedSpec)

/-- ITS FALSE NEIGHBOUR: 'it returns false'. Refute it at one input. -/
def gasRoomedWrong : ChangeSpec := { name := "gasRoomed", fn := fun _ => fun
  | [d1, d2, d3, d4, d5, d6, d7] => { results := [.lit (.bool false)], args := [d1, d2, d3, d4, d5, d6, d7] }
  | _ => none }
def GasRoomedWrongFalsely : Prop := gasRoomedRow.holds Try.pinned (OpenSpec.ofChange gasRoomedWrong)

/-- 'saltdomelaw03.GasRooms': WHATEVER THE INPUT: true; the input reads as it did. -/
def gasRoomsSpec : ChangeSpec := { name := "gasRooms", fn := fun _ => fun
  | [d1, d2, d3, d4] => { results := [.lit (.bool true)], args := [d1, d2, d3, d4] }
  | _ => none }
def gasRoomsRow : OpenClaim := { program := "ytgmbolagciaenaa", sum := "6aaba7dbefe374daed3a1b5d839c5583f987bba72fe5c54f33a73f46a1bce803", func := "saltdome/saltdomelaw03.GasRooms", spec := "gasRooms", unfollowed := true, recurses := true, apart := false }
def GasRoomsSaid : Prop := gasRoomsRow.holds Try.pinned (OpenSpec.ofChange gasRoomsSpec)

/-- ITS FALSE NEIGHBOUR: 'it returns false'. Refute it at one input. -/
def gasRoomsWrong : ChangeSpec := { name := "gasRooms", fn := fun _ => fun
  | [d1, d2, d3, d4] => { results := [.lit (.bool false)], args := [d1, d2, d3, d4] }
  | _ => none }
def GasRoomsWrongFalsely : Prop := gasRoomsRow.holds Try.pinned (OpenSpec.ofChange gasRoomsWrong)

/- THE SECOND FORM. 'bulk': how many values and letters a reading holds, each counted each time it is reached (what is shared counts as often as it is met; a slice's spare places count too). A statement '..UptoSaid' is the law's where the arguments, and the package variables that the reading takes, are together of bulk at most 1048576: NARROWER than '..Said'. Prove '..Said' where nothing that the law and all that it calls make is longer than what came in: it says more and counts as full. Else prove '..UptoSaid'. A law counts once. -/
mutual
def uptoBulk {H : Type} : DataW H → Nat
  | .lit (.string bytes) => bytes.length + 1
  | .lit _ => 1
  | .nil => 1
  | .ptr d => uptoBulk d + 1
  | .slice elems spare => uptoBulkAll elems + uptoBulkAll spare + 1
  | .agg parts => uptoBulkAll parts + 1
  | .iface _ d => uptoBulk d + 1
  | .map entries => uptoBulkEntries entries + 1
  | .held _ => 1
def uptoBulkAll {H : Type} : List (DataW H) → Nat
  | [] => 0
  | d :: r => uptoBulk d + uptoBulkAll r
def uptoBulkEntries {H : Type} : List (Lit × DataW H) → Nat
  | [] => 0
  | x :: r => uptoBulkEntry x + uptoBulkEntries r
def uptoBulkEntry {H : Type} : Lit × DataW H → Nat
  | (.string bytes, d) => bytes.length + uptoBulk d + 1
  | (_, d) => uptoBulk d + 1
 end
def uptoSmall : (H : Type) → List (DataW H) → Bool := fun _ ds => decide (uptoBulkAll ds ≤ 1048576)
def OpenSpec.upto (s : _root_.Go.ChangeSpec) : _root_.Go.OpenSpec := { _root_.Go.OpenSpec.ofChange s with cond := some uptoSmall }

/-- 'saltdomelaw03.GasDoes', WHERE WHAT IT READS IS OF BULK AT MOST 1048576: true; the input reads as it did. -/
def gasDoesUptoRow : OpenClaim := { program := "ytgmbolagciaenaa", sum := "6aaba7dbefe374daed3a1b5d839c5583f987bba72fe5c54f33a73f46a1bce803", func := "saltdome/saltdomelaw03.GasDoes", spec := "gasDoes", unfollowed := true, recurses := true, apart := false, narrowed := true }
def GasDoesUptoSaid : Prop := gasDoesUptoRow.holds Try.pinned (OpenSpec.upto gasDoesSpec)

/-- 'saltdomelaw03.GasNarrow', WHERE WHAT IT READS IS OF BULK AT MOST 1048576: true; the input reads as it did. -/
def gasNarrowUptoRow : OpenClaim := { program := "ytgmbolagciaenaa", sum := "6aaba7dbefe374daed3a1b5d839c5583f987bba72fe5c54f33a73f46a1bce803", func := "saltdome/saltdomelaw03.GasNarrow", spec := "gasNarrow", unfollowed := true, recurses := true, apart := false, narrowed := true }
def GasNarrowUptoSaid : Prop := gasNarrowUptoRow.holds Try.pinned (OpenSpec.upto gasNarrowSpec)

/-- 'saltdomelaw03.GasPlays', WHERE WHAT IT READS IS OF BULK AT MOST 1048576: true; the input reads as it did. -/
def gasPlaysUptoRow : OpenClaim := { program := "ytgmbolagciaenaa", sum := "6aaba7dbefe374daed3a1b5d839c5583f987bba72fe5c54f33a73f46a1bce803", func := "saltdome/saltdomelaw03.GasPlays", spec := "gasPlays", unfollowed := true, recurses := true, apart := false, narrowed := true }
def GasPlaysUptoSaid : Prop := gasPlaysUptoRow.holds Try.pinned (OpenSpec.upto gasPlaysSpec)

/-- 'saltdomelaw03.GasBalance', WHERE WHAT IT READS IS OF BULK AT MOST 1048576: true; the input reads as it did. -/
def gasBalanceUptoRow : OpenClaim := { program := "ytgmbolagciaenaa", sum := "6aaba7dbefe374daed3a1b5d839c5583f987bba72fe5c54f33a73f46a1bce803", func := "saltdome/saltdomelaw03.GasBalance", spec := "gasBalance", unfollowed := true, recurses := true, apart := false, narrowed := true }
def GasBalanceUptoSaid : Prop := gasBalanceUptoRow.holds Try.pinned (OpenSpec.upto gasBalanceSpec)

/-- 'saltdomelaw03.GasMore', WHERE WHAT IT READS IS OF BULK AT MOST 1048576: true; the input reads as it did. -/
def gasMoreUptoRow : OpenClaim := { program := "ytgmbolagciaenaa", sum := "6aaba7dbefe374daed3a1b5d839c5583f987bba72fe5c54f33a73f46a1bce803", func := "saltdome/saltdomelaw03.GasMore", spec := "gasMore", unfollowed := true, recurses := true, apart := false, narrowed := true }
def GasMoreUptoSaid : Prop := gasMoreUptoRow.holds Try.pinned (OpenSpec.upto gasMoreSpec)

/-- 'saltdomelaw03.GasSteps', WHERE WHAT IT READS IS OF BULK AT MOST 1048576: true; the input reads as it did. -/
def gasStepsUptoRow : OpenClaim := { program := "ytgmbolagciaenaa", sum := "6aaba7dbefe374daed3a1b5d839c5583f987bba72fe5c54f33a73f46a1bce803", func := "saltdome/saltdomelaw03.GasSteps", spec := "gasSteps", unfollowed := true, recurses := true, apart := false, narrowed := true }
def GasStepsUptoSaid : Prop := gasStepsUptoRow.holds Try.pinned (OpenSpec.upto gasStepsSpec)

/-- 'saltdomelaw03.GasTrue', WHERE WHAT IT READS IS OF BULK AT MOST 1048576: true; the input reads as it did. -/
def gasTrueUptoRow : OpenClaim := { program := "ytgmbolagciaenaa", sum := "6aaba7dbefe374daed3a1b5d839c5583f987bba72fe5c54f33a73f46a1bce803", func := "saltdome/saltdomelaw03.GasTrue", spec := "gasTrue", unfollowed := true, recurses := true, apart := false, narrowed := true }
def GasTrueUptoSaid : Prop := gasTrueUptoRow.holds Try.pinned (OpenSpec.upto gasTrueSpec)

/-- 'saltdomelaw03.GasChains', WHERE WHAT IT READS IS OF BULK AT MOST 1048576: true; the input reads as it did. -/
def gasChainsUptoRow : OpenClaim := { program := "ytgmbolagciaenaa", sum := "6aaba7dbefe374daed3a1b5d839c5583f987bba72fe5c54f33a73f46a1bce803", func := "saltdome/saltdomelaw03.GasChains", spec := "gasChains", unfollowed := true, recurses := true, apart := false, narrowed := true }
def GasChainsUptoSaid : Prop := gasChainsUptoRow.holds Try.pinned (OpenSpec.upto gasChainsSpec)

/-- 'saltdomelaw03.GasPurged', WHERE WHAT IT READS IS OF BULK AT MOST 1048576: true; the input reads as it did. -/
def gasPurgedUptoRow : OpenClaim := { program := "ytgmbolagciaenaa", sum := "6aaba7dbefe374daed3a1b5d839c5583f987bba72fe5c54f33a73f46a1bce803", func := "saltdome/saltdomelaw03.GasPurged", spec := "gasPurged", unfollowed := true, recurses := true, apart := false, narrowed := true }
def GasPurgedUptoSaid : Prop := gasPurgedUptoRow.holds Try.pinned (OpenSpec.upto gasPurgedSpec)

/-- 'saltdomelaw03.GasKeeps', WHERE WHAT IT READS IS OF BULK AT MOST 1048576: true; the input reads as it did. -/
def gasKeepsUptoRow : OpenClaim := { program := "ytgmbolagciaenaa", sum := "6aaba7dbefe374daed3a1b5d839c5583f987bba72fe5c54f33a73f46a1bce803", func := "saltdome/saltdomelaw03.GasKeeps", spec := "gasKeeps", unfollowed := true, recurses := true, apart := false, narrowed := true }
def GasKeepsUptoSaid : Prop := gasKeepsUptoRow.holds Try.pinned (OpenSpec.upto gasKeepsSpec)

/-- 'saltdomelaw03.GasChecks', WHERE WHAT IT READS IS OF BULK AT MOST 1048576: true; the input reads as it did. -/
def gasChecksUptoRow : OpenClaim := { program := "ytgmbolagciaenaa", sum := "6aaba7dbefe374daed3a1b5d839c5583f987bba72fe5c54f33a73f46a1bce803", func := "saltdome/saltdomelaw03.GasChecks", spec := "gasChecks", unfollowed := true, recurses := true, apart := false, narrowed := true }
def GasChecksUptoSaid : Prop := gasChecksUptoRow.holds Try.pinned (OpenSpec.upto gasChecksSpec)

/-- 'saltdomelaw03.GasRoomed', WHERE WHAT IT READS IS OF BULK AT MOST 1048576: true; the input reads as it did. -/
def gasRoomedUptoRow : OpenClaim := { program := "ytgmbolagciaenaa", sum := "6aaba7dbefe374daed3a1b5d839c5583f987bba72fe5c54f33a73f46a1bce803", func := "saltdome/saltdomelaw03.GasRoomed", spec := "gasRoomed", unfollowed := true, recurses := true, apart := false, narrowed := true }
def GasRoomedUptoSaid : Prop := gasRoomedUptoRow.holds Try.pinned (OpenSpec.upto gasRoomedSpec)

/-- 'saltdomelaw03.GasRooms', WHERE WHAT IT READS IS OF BULK AT MOST 1048576: true; the input reads as it did. -/
def gasRoomsUptoRow : OpenClaim := { program := "ytgmbolagciaenaa", sum := "6aaba7dbefe374daed3a1b5d839c5583f987bba72fe5c54f33a73f46a1bce803", func := "saltdome/saltdomelaw03.GasRooms", spec := "gasRooms", unfollowed := true, recurses := true, apart := false, narrowed := true }
def GasRoomsUptoSaid : Prop := gasRoomsUptoRow.holds Try.pinned (OpenSpec.upto gasRoomsSpec)

end Rows
end Go.Proofs.Ytgmbolagciaenaa
