/- A region that draws its order, of which each operation ahead of the tail has a law of its own: what each yields is given in a list; the variables that it makes are new and apart. The same in the round of a range over a function. -/
import Derived.Test.YtdilgjhdimlbkaaGen
set_option linter.unusedVariables false
set_option linter.unusedSimpArgs false
namespace Go.Proofs.Ytdilgjhdimlbkaa
open Go Go.RowKit Go.Sd

/-- A pointer to a block of one's own that holds these cells. -/
def NewAt (L : Nat) (cs : Array Value) (t : TypeId) (v : Value) (w : World) : Prop := ∃ b, v = .pointer (some ⟨b, 0, none⟩) ∧ L ≤ b ∧ w.heap[b]? = some (.cells cs t (0, 0))
def NewNow (v : Value) (w : World) : Prop := v = .pointer (some ⟨w.heap.size, 0, none⟩)
theorem NewAt.mono {L : Nat} {cs : Array Value} {t : TypeId} {v : Value} {w w' : World} (h : NewAt L cs t v w) (hb : Below w.heap.size w w') : NewAt L cs t v w' := by
  obtain ⟨b, h1, h2, h3⟩ := h
  exact ⟨b, h1, h2, (hb.block b (Array.getElem?_eq_some_iff.1 h3).1).trans h3⟩
theorem NewAt.ne {L : Nat} {cs : Array Value} {t : TypeId} {v u : Value} {w : World} (h : NewAt L cs t v w) (hn : NewNow u w) : v ≠ u := by
  obtain ⟨b, rfl, _, h3⟩ := h
  rintro rfl
  unfold NewNow at hn
  simp only [Value.pointer.injEq, Option.some.injEq, Addr.mk.injEq] at hn
  have := (Array.getElem?_eq_some_iff.1 h3).1
  omega

def Pers (f : Value → World → Prop) : Prop := ∀ v w w', Below w.heap.size w w' → f v w → f v w'
def IsV (x : Value) : Value → World → Prop := fun v _ => v = x
theorem pers_v (x : Value) : Pers (IsV x) := fun _ _ _ _ h => h
theorem pers_new (L : Nat) (cs : Array Value) (t : TypeId) : Pers (NewAt L cs t) := fun _ _ _ hb h => h.mono hb
def RL (rs : List (Value → World → Prop)) (j : Nat) (v : Value) (w : World) : Prop := match rs[j]? with
  | some f => f v w
  | none => True
def NL (nw : List Nat) (j : Nat) (v : Value) (w : World) : Prop := nw.contains j = true → NewNow v w
def IsNew (u : Value) (w : World) : Prop := ∃ b, u = .pointer (some ⟨b, 0, none⟩) ∧ b < w.heap.size
def DL (nw : List Nat) (j : Nat) (v : Value) (k : Nat) (u : Value) : Prop := nw.contains j = true → nw.contains k = true → v ≠ u
theorem NewAt.isNew {L : Nat} {cs : Array Value} {t : TypeId} {v : Value} {w : World} (h : NewAt L cs t v w) : IsNew v w := by
  obtain ⟨b, h1, _, h3⟩ := h
  exact ⟨b, h1, (Array.getElem?_eq_some_iff.1 h3).1⟩
theorem RL_pers {rs : List (Value → World → Prop)} (h : ∀ f ∈ rs, Pers f) : ∀ j v w w', Below w.heap.size w w' → RL rs j v w → RL rs j v w' := by
  intro j v w w' hb hr
  unfold RL at *
  cases e : rs[j]? with
  | none => trivial
  | some f =>
    rw [e] at hr
    exact h f (List.mem_of_getElem? e) v w w' hb hr
theorem DL_of {rs : List (Value → World → Prop)} {nw : List Nat} (hn : ∀ k ∈ nw, ∀ u w, RL rs k u w → IsNew u w) : ∀ j k v u w, j ≠ k → NL nw j v w → RL rs k u w → DL nw j v k u ∧ DL nw k u j v := by
  intro j k v u w _ h1 h2
  have key : nw.contains j = true → nw.contains k = true → v ≠ u := fun hj hk he => by
    have h3 := h1 hj
    unfold NewNow at h3
    obtain ⟨b, h4, h5⟩ := hn k (by simpa using hk) u w h2
    rw [← he, h3] at h4
    simp only [Value.pointer.injEq, Option.some.injEq, Addr.mk.injEq] at h4
    omega
  exact ⟨key, fun hk hj => (key hj hk).symm⟩


section
variable {P : Program} {Q : Exit → Act → World → Prop} {b0 : Act} {w : World} {l : List Oper} (n T : Nat) (opt sl : List Nat) (nd : List (List Nat)) (rs : List (Value → World → Prop)) (nw : List Nat)
theorem any_region_locN (hB : locB .any l.toArray n T opt = true) (hO : optB .any l.toArray n opt = true) (hseq : Region.seqB .any l.toArray (l.length - n) n (listedBut l.toArray n []) = true)
    (hsl : (List.range n).map (slotOf l.toArray) = sl.map some) (hnd : (List.range n).map (needs l.toArray n) = nd) (hT : b0.tmps.size = T)
    (hQ : ∀ c a a' w, Q (.panic c) a' w → Q (.panic c) a w) (hp : ∀ f ∈ rs, Pers f) (hn : ∀ k ∈ nw, ∀ u w, RL rs k u w → IsNew u w)
    (hop : HopL P l.toArray (RL rs) (NL nw) sl b0 w 0 (l.take n) nd)
    (hpure : ∀ j ∈ opt, ∀ o, l[j]? = some o → ∀ vals w', Below w.heap.size w w' → Facts (RL rs) vals (nd.getD j []) w' → ∃ v, Yields P l.toArray o v (fillS sl vals (nd.getD j []) b0) ∧ RL rs j v w' ∧ NL nw j v w')
    (htail : ∀ vals w', Below w.heap.size w w' → (∀ k, k < n → RL rs k (vals k) w') → (∀ j k, j < n → k < n → j ≠ k → DL nw j (vals j) k (vals k)) → wpList P l.toArray Q (l.drop n) (fillS sl vals (List.range n) b0) w') : wpAny P .any l.toArray Q l.toArray.size (Array.replicate l.toArray.size false) b0 { w with drawn := w.drawn + 1 } :=
  any_region_locL (R := RL rs) (N := NL nw) (D := DL nw) n T opt sl nd hB hO hseq hsl hnd hT hQ (RL_pers hp) (DL_of hn) hop hpure htail

/-- What is left if nothing but the end is to be met. -/
def OnlyN (Q : Exit → Act → World → Prop) : Exit → Act → World → Prop
  | .normal, a, w => Q .normal a w
  | _, _, _ => False
theorem OnlyN.mk {Q : Exit → Act → World → Prop} {a : Act} {w : World} (h : Q .normal a w) : OnlyN Q .normal a w := h
theorem OnlyN.out {Q : Exit → Act → World → Prop} : ∀ e a w, OnlyN Q e a w → Q e a w := fun e a w h => by cases e <;> first | exact h | exact h.elim
theorem OnlyN.panic {Q : Exit → Act → World → Prop} : ∀ c a a' w, OnlyN Q (.panic c) a' w → OnlyN Q (.panic c) a w := fun _ _ _ _ h => h
theorem OnlyN.lets {Q : Exit → Act → World → Prop} : ¬ LetsOut (OnlyN Q) := fun ⟨_, _, h⟩ => h

theorem rows_fence {F : Fence} (hF : WideAt F) {row : String} {args : Array Value} {R : Value → World → Prop} (h : Rows P row args w R) : RowsIn F 0 P row args w R := fun c cs _ => by
  obtain ⟨v, w', hr, hs⟩ := h c cs
  refine ⟨v, w', hr, ?_⟩
  have h2 : StepsIn (Machine.fenced P Fence.wide) P (lone (Frame.ofRow P row args .normal) (c :: cs) w) (lone (c.finish v) cs w') := stepsIn_wide.2 hs
  rcases hF with rfl | ⟨r, rfl⟩
  · exact h2
  · exact h2
theorem fence_wp {F : Fence} (hF : WideAt F) {o : Oper} {a : Act} {K : Act → World → Prop} (hnd : ∀ c, o.op ≠ .defer c) (h : o.wp P a w K Q) : o.wpIn F 0 P a w K Q := by
  unfold Oper.wp at h
  unfold Oper.wpIn
  refine ⟨fun _ _ => hF.fn _, ?_⟩
  rw [Oper.semAt_eq _ _ _ hnd]
  generalize (execOp a.eval o).run P w = q at *
  cases q with
  | ok x w' =>
    cases x <;> simp only [Oper.upon] at h <;> simp only [Oper.uponIn]
    case value u => exact h
    case skip => exact h
    case defer d => exact h
    case enter f args => exact ⟨fun hd => (by rw [hF.depth] at hd; cases hd), hF.calls (callsIn_wide.2 h)⟩
    case row r args => exact ⟨fun hd => (by rw [hF.depth] at hd; cases hd), rows_fence hF h⟩
  | halt x w' =>
    cases x <;> simp only [Oper.upon] at h <;> simp only [Oper.uponIn]
    exact h
theorem fence_any {F : Fence} (hF : WideAt F) {ops : Array Oper} {md : Region.Mode} (hno : ¬ LetsOut Q) (hnd : ∀ (j : Nat) (o : Oper), ops[j]? = some o → ∀ c, o.op ≠ .defer c) : ∀ (g : Nat) (listed : Array Bool) (a : Act) (w : World), wpAny P md ops Q g listed a w → wpAnyIn F 0 P md ops Q g listed a w
  | 0, _, _, _, h => h
  | g + 1, listed, a, w, h => by
    refine ⟨h.1, fun i hi => ?_⟩
    have hh := h.2 i hi
    unfold wpOp at hh
    unfold wpOpIn
    split
    · rename_i ho; simp only [ho] at hh; exact fence_any hF hno hnd g _ _ _ hh
    · rename_i o ho
      simp only [ho] at hh
      split
      · rename_i hw
        simp only [hw, if_true] at hh
        rcases hh with hh | hh
        · exact Oper.wpIn_mono (fun a w => fence_any hF hno hnd g _ a w) (fence_wp hF (hnd _ _ ho) hh)
        · exact absurd hh.2 hno
      · rename_i hw
        simp only [hw] at hh
        exact ⟨fun _ _ => hF.fn _, fence_any hF hno hnd g _ _ _ hh⟩
/-- A region that draws its order, at the wide fence or in a round. -/
theorem fence_region {F : Fence} (hF : WideAt F) {id : Nat} {ops : List Oper} (hm : P.follows .mixedOrders = true) (hnd : plainOps ops = true) (h : wpAny P .any ops.toArray (OnlyN Q) ops.toArray.size (Array.replicate ops.toArray.size false) b0 { w with drawn := w.drawn + 1 }) : (Code.region id ops.toArray true).wpIn F 0 P Q b0 w :=
  wpIn_mono (wpIn_region_any hm (fence_any hF OnlyN.lets (fun j o ho => plainOps_at hnd ho) _ _ _ _ h)) OnlyN.out
theorem plain_region {id : Nat} {ops : List Oper} (hm : P.follows .mixedOrders = true) (h : wpAny P .any ops.toArray (OnlyN Q) ops.toArray.size (Array.replicate ops.toArray.size false) b0 { w with drawn := w.drawn + 1 }) : (Code.region id ops.toArray true).wp P Q b0 w :=
  wp_mono (wp_region_any hm h) OnlyN.out
end

/-! ### A region that lays variables, in a round too -/
open Go.Sd in
theorem any_region_vars {P : Program} {G : World → World → Prop} {va : List Va} {l : List Oper} {Q : Exit → Act → World → Prop} {W : World} (hG : Growth G) {a : Act} (hok : varsOk va l = true)
    (hz : ∀ p ∈ va, ∀ w, (Instr.alloc p.e true (.tuple #[])).run P w = .ok (.pointer (some ⟨w.heap.size, 0, none⟩)) (w.alloc (.cells p.c p.e)))
    (hi : ∀ p ∈ va, (P.info? p.e).map (·.size) = some p.c.size) (hsz : ∀ p ∈ va, p.d < a.tmps.size)
    (h : ∀ (T : Type) (f : T → World), Nonempty T → (∀ g, G W (f g)) → (∀ g w', G (f g) w' → ∃ g', w' = f g') → wpQuiet P (lexOf va l).toArray (fun w' => ∃ g : T, w' = f g) (AfterV G va Q W) (lexOf va l) a) :
    wpAny P .any l.toArray Q l.toArray.size (Array.replicate l.toArray.size false) a { W with drawn := W.drawn + 1 } := by
  have hok' := hok
  simp only [varsOk, Bool.and_eq_true, decide_eq_true_eq] at hok'
  obtain ⟨⟨⟨⟨⟨⟨⟨hlb, hsel⟩, hva⟩, hops⟩, hnd⟩, hni⟩, hnj⟩, hij⟩ := hok'
  simp only [Region.lexB, Bool.and_eq_true] at hlb
  have hlen : (lexOf va l).length = l.length := by simp [lexOf]
  have any : ∀ x, G W x → wpAnyQ P .any (lexOf va l).toArray (fun w' => ∃ g : Gr G x, w' = g.x) (AfterV G va Q W) l.toArray.size (Array.replicate l.toArray.size false) a := fun x hx => by
    have h2 := wpAnyQ_lex (md := .any) (C := fun w' => ∃ g : Gr G x, w' = g.x) hlb.1 (lexOf va l) 0 (Array.replicate (lexOf va l).toArray.size false) a (by simp) (by simpa using hlb.2)
      (h (Gr G x) (fun g => g.x) ⟨⟨x, hG.refl _⟩⟩ (fun g => hG.trans _ _ _ hx g.h) (fun g w' hg => ⟨⟨w', hG.trans _ _ _ g.h hg⟩, rfl⟩))
    simpa [hlen] using h2
  exact vars_run (Q := Q) (W := W) hG hok hz hi l.toArray.size (Array.replicate l.toArray.size false) a a { W with drawn := W.drawn + 1 } (fun _ => 0) (by simp) (by simp)
    (fun j oj _ hl => (by rw [getD_replicate_false] at hl; cases hl)) hsz (any W (hG.refl _)) any
    ⟨rfl, rfl, fun _ _ => rfl, fun p _ hl => (by rw [getD_replicate_false] at hl; cases hl), fun p _ q _ hl => (by rw [getD_replicate_false] at hl; cases hl)⟩ (hG.drew W)
end Go.Proofs.Ytdilgjhdimlbkaa
