/- A region that draws its order, as Gen has it, with what each operation yields given in a list; the variables that it makes are new and apart. -/
import Derived.Test.YtgmbolagciaenaaKno
set_option linter.unusedVariables false
set_option linter.unusedSimpArgs false
namespace Go.Proofs.Ytgmbolagciaenaa
open Go Go.RowKit Go.Sd Gas

def Pers (f : Value → World → Prop) : Prop := ∀ v w w', Below w.heap.size w w' → f v w → f v w'
def IsV (x : Value) : Value → World → Prop := fun v _ => v = x
def OpsIs (xs : List Gas.Op) : Value → World → Prop := fun v w => OpsAt w v xs
def IntsIs (xs : List Int) : Value → World → Prop := fun v w => IntsAt w v xs
theorem pers_v (x : Value) : Pers (IsV x) := fun _ _ _ _ h => h
theorem pers_ops (xs : List Gas.Op) : Pers (OpsIs xs) := fun _ _ _ hb h => OpsAt.mono h hb
theorem pers_ints (xs : List Int) : Pers (IntsIs xs) := fun _ _ _ hb h => IntsAt.mono h hb
theorem pers_new (L : Nat) (cs : Array Value) (t : TypeId) : Pers (NewAt L cs t) := fun _ _ _ hb h => h.mono hb
def RL (rs : List (Value → World → Prop)) (j : Nat) (v : Value) (w : World) : Prop := match rs[j]? with
  | some f => f v w
  | none => True
def NL (nw : List Nat) (j : Nat) (v : Value) (w : World) : Prop := nw.contains j = true → NewNow v w
def IsNew (u : Value) (w : World) : Prop := ∃ b, u = .pointer (some ⟨b, 0, none⟩) ∧ b < w.heap.size
def DL (nw : List Nat) (j : Nat) (v : Value) (k : Nat) (u : Value) : Prop := nw.contains j = true → nw.contains k = true → v ≠ u
theorem NewAt.isNew {L : Nat} {cs : Array Value} {t : TypeId} {v : Value} {w : World} (h : NewAt L cs t v w) : IsNew v w := by
  obtain ⟨b, h1, _, h3⟩ := h
  exact ⟨b, h1, (Array.getElem?_eq_some_iff.1 h3).1⟩
theorem RL_pers {rs : List (Value → World → Prop)} (h : ∀ f ∈ rs, Pers f) : ∀ j v w w', Below w.heap.size w w' → RL rs j v w → RL rs j v w' := by
  intro j v w w' hb hr
  unfold RL at *
  cases e : rs[j]? with
  | none => trivial
  | some f =>
    rw [e] at hr
    exact h f (List.mem_of_getElem? e) v w w' hb hr
theorem DL_of {rs : List (Value → World → Prop)} {nw : List Nat} (hn : ∀ k ∈ nw, ∀ u w, RL rs k u w → IsNew u w) : ∀ j k v u w, j ≠ k → NL nw j v w → RL rs k u w → DL nw j v k u ∧ DL nw k u j v := by
  intro j k v u w _ h1 h2
  have key : nw.contains j = true → nw.contains k = true → v ≠ u := fun hj hk he => by
    have h3 := h1 hj
    unfold NewNow at h3
    obtain ⟨b, h4, h5⟩ := hn k (by simpa using hk) u w h2
    rw [← he, h3] at h4
    simp only [Value.pointer.injEq, Option.some.injEq, Addr.mk.injEq] at h4
    omega
  exact ⟨key, fun hk hj => (key hj hk).symm⟩

theorem wp_region_locN {P : Program} {Q : Exit → Act → World → Prop} {b0 : Act} {id : Nat} {w : World} {l : List Oper} (n T : Nat) (opt sl : List Nat) (nd : List (List Nat)) (rs : List (Value → World → Prop)) (nw : List Nat) (hm : P.follows .mixedOrders = true) (hB : locB .any l.toArray n T opt = true) (hO : optB .any l.toArray n opt = true) (hseq : Region.seqB .any l.toArray (l.length - n) n (listedBut l.toArray n []) = true)
    (hsl : (List.range n).map (slotOf l.toArray) = sl.map some) (hnd : (List.range n).map (needs l.toArray n) = nd) (hT : b0.tmps.size = T)
    (hQ : ∀ c a a' w, Q (.panic c) a' w → Q (.panic c) a w) (hp : ∀ f ∈ rs, Pers f) (hn : ∀ k ∈ nw, ∀ u w, RL rs k u w → IsNew u w)
    (hop : HopL P l.toArray (RL rs) (NL nw) sl b0 w 0 (l.take n) nd)
    (hpure : ∀ j ∈ opt, ∀ o, l[j]? = some o → ∀ vals w', Below w.heap.size w w' → Facts (RL rs) vals (nd.getD j []) w' → ∃ v, Yields P l.toArray o v (fillS sl vals (nd.getD j []) b0) ∧ RL rs j v w' ∧ NL nw j v w')
    (htail : ∀ vals w', Below w.heap.size w w' → (∀ k, k < n → RL rs k (vals k) w') → (∀ j k, j < n → k < n → j ≠ k → DL nw j (vals j) k (vals k)) → wpList P l.toArray Q (l.drop n) (fillS sl vals (List.range n) b0) w') : (Code.region id l.toArray true).wp P Q b0 w :=
  wp_region_locL (R := RL rs) (N := NL nw) (D := DL nw) n T opt sl nd hm hB hO hseq hsl hnd hT hQ (RL_pers hp) (DL_of hn) hop hpure htail
end Go.Proofs.Ytgmbolagciaenaa
