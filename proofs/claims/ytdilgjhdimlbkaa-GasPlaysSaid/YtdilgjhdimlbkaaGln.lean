/- Gas: what an operation of a drawn region may yield besides. -/
import Derived.Test.YtdilgjhdimlbkaaKno
set_option linter.unusedVariables false
set_option linter.unusedSimpArgs false
namespace Go.Proofs.Ytdilgjhdimlbkaa
open Go Go.RowKit Go.Sd Gas

def OpsIs (xs : List Gas.Op) : Value → World → Prop := fun v w => OpsAt w v xs
def IntsIs (xs : List Int) : Value → World → Prop := fun v w => IntsAt w v xs
theorem pers_ops (xs : List Gas.Op) : Pers (OpsIs xs) := fun _ _ _ hb h => OpsAt.mono h hb
theorem pers_ints (xs : List Int) : Pers (IntsIs xs) := fun _ _ _ hb h => IntsAt.mono h hb

theorem wp_region_locN {P : Program} {Q : Exit → Act → World → Prop} {b0 : Act} {id : Nat} {w : World} {l : List Oper} (n T : Nat) (opt sl : List Nat) (nd : List (List Nat)) (rs : List (Value → World → Prop)) (nw : List Nat) (hm : P.follows .mixedOrders = true) (hB : locB .any l.toArray n T opt = true) (hO : optB .any l.toArray n opt = true) (hseq : Region.seqB .any l.toArray (l.length - n) n (listedBut l.toArray n []) = true)
    (hsl : (List.range n).map (slotOf l.toArray) = sl.map some) (hnd : (List.range n).map (needs l.toArray n) = nd) (hT : b0.tmps.size = T)
    (hQ : ∀ c a a' w, Q (.panic c) a' w → Q (.panic c) a w) (hp : ∀ f ∈ rs, Pers f) (hn : ∀ k ∈ nw, ∀ u w, RL rs k u w → IsNew u w)
    (hop : HopL P l.toArray (RL rs) (NL nw) sl b0 w 0 (l.take n) nd)
    (hpure : ∀ j ∈ opt, ∀ o, l[j]? = some o → ∀ vals w', Below w.heap.size w w' → Facts (RL rs) vals (nd.getD j []) w' → ∃ v, Yields P l.toArray o v (fillS sl vals (nd.getD j []) b0) ∧ RL rs j v w' ∧ NL nw j v w')
    (htail : ∀ vals w', Below w.heap.size w w' → (∀ k, k < n → RL rs k (vals k) w') → (∀ j k, j < n → k < n → j ≠ k → DL nw j (vals j) k (vals k)) → wpList P l.toArray Q (l.drop n) (fillS sl vals (List.range n) b0) w') : (Code.region id l.toArray true).wp P Q b0 w :=
  wp_region_any hm (any_region_locN n T opt sl nd rs nw hB hO hseq hsl hnd hT hQ hp hn hop hpure htail)
end Go.Proofs.Ytdilgjhdimlbkaa
