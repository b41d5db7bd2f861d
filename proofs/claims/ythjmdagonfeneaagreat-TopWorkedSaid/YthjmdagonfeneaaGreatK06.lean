/- Laws and walks: GPut. -/
import Derived.Deep.AppendLies
import Derived.Test.YthjmdagonfeneaaGreatK05
set_option maxRecDepth 100000
set_option maxHeartbeats 16000000
set_option linter.unusedVariables false
set_option linter.unusedSimpArgs false
namespace Go.Proofs.YthjmdagonfeneaaGreat.G
open Go.RowKit Go.Sd Gas
theorem add_zero' (a : Addr) : a.add 0 = a := by unfold Addr.add; simp
theorem put_tmps (a : Act) (d i : Nat) (v : Value) (hd : d < a.tmps.size) : (a.put (some d) v).tmps[i]? = if i = d then some v else a.tmps[i]? := by
 simp only [Act.put]
 rw [Array.getElem?_setIfInBounds]
 by_cases h : d = i
 · subst h; simp [hd]
 · rw [if_neg h, if_neg (Ne.symm h)]
theorem put_size (a : Act) (d : Nat) (v : Value) : (a.put (some d) v).tmps.size = a.tmps.size ∧ (a.put (some d) v).defers = a.defers := by simp [Act.put]
theorem eval_tmp (a : Act) (i : Nat) (v : Value) (h : a.tmps[i]? = some v) : a.eval (.tmp i) = v := by
 have : a.tmps.getD i undef = v := by simp [h]
 exact this
theorem set_getD (l : Array Bool) (i j : Nat) : (l.setIfInBounds i true).getD j true = if j = i then true else l.getD j true := by
 by_cases h : j = i
 · subst h
   rw [if_pos rfl]
   by_cases hl : j < l.size
   · simp [Array.getD, hl]
   · simp [Array.getD, hl]
 · rw [if_neg h, getD_set_ne true (Ne.symm h)]
theorem run_build1 (dst : Option Tmp) (ty : TypeId) (pos : String) (after : Array Edge) (a : Act) (x : Int) (t : Nat) (h : a.tmps[t]? = some (.int .i64 x)) (w : World) :
    (execOp a.eval ⟨dst, .buildSlice 28 1 #[(0, .tmp t)], ty, pos, after, none⟩).run Tryz.prog w = .ok (.value (.slice (some ⟨w.heap.size, 0, none⟩) 1 1)) (w.alloc (.cells #[.int .i64 x] 3)) := by
 have h2 : a.tmps.getD t undef = .int .i64 x := by simp [h]
 simp [go_sem, h, h2]
structure PutOps (ops : Array Oper) : Prop where
 size : ops.size = 48
 build : ∀ k, k < 4 → ∃ ty pos after, ops[8 * k + 10]? = some ⟨some (8 * k + 14), .buildSlice 28 1 #[(0, .tmp (8 * k + 13))], ty, pos, after, none⟩ ∧ (after.all fun e => e.on == 8 * k + 9) = true
 app : ∀ k, k < 4 → ∃ ty pos after, ops[8 * k + 11]? = some ⟨some (8 * k + 15), .call { callee := .builtin .append, args := #[.tmp (8 * k + 11), .tmp (8 * k + 14)], argTypes := #[28, 28] }, ty, pos, after, none⟩ ∧
  (after.all fun e => e.on == 8 * k + 7 || e.on == 8 * k + 10 || (decide (0 < k) && e.on == 8 * k + 3)) = true ∧ (after.any fun e => Region.binds .any e && e.on == 8 * k + 10) = true
structure PutMid (B : Nat) (X : World) (v : Nat → Value) (l : Nat → List Int) (x : Nat → Int) (bb : Nat) (listed : Array Bool) (a : Act) (w : World) (r : Nat → Value) : Prop where
 sz : a.tmps.size = 48
 df : a.defers = []
 ps : ∀ i, 4 ≤ i → i < 8 → a.tmps[i]? = some (.pointer (some ⟨bb, 0, none⟩))
 xs : ∀ k, k < 4 → a.tmps[8 * k + 13]? = some (.int .i64 (x k))
 vs : ∀ k, k < 4 → a.tmps[8 * k + 11]? = some (v k)
 done : ∀ k, k < 4 → listed.getD (8 * k + 11) true = true → a.tmps[8 * k + 15]? = some (r k) ∧ OwnInts B w (r k) (l k ++ [x k])
 todo : ∀ k, k < 4 → listed.getD (8 * k + 11) true = false → r k = v k ∧ OwnInts B w (v k) (l k)
 orig : ∀ k, k < 4 → (r k).ownBlock = (v k).ownBlock ∨ ∃ m, X.heap.size ≤ m ∧ (r k).ownBlock = some m
 dis : ∀ i j, i < 4 → j < 4 → i ≠ j → ∀ b, (r i).ownBlock = some b → (r j).ownBlock ≠ some b
 built : ∀ k, k < 4 → listed.getD (8 * k + 10) true = true → listed.getD (8 * k + 11) true = false →
  ∃ n, a.tmps[8 * k + 14]? = some (.slice (some ⟨n, 0, none⟩) 1 1) ∧ w.heap[n]? = some (.cells #[.int .i64 (x k)] 3 (0, 0)) ∧ ∀ j, j < 4 → (r j).ownBlock ≠ some n
 kept : Kept (fun b => ∀ k, k < 4 → (v k).ownBlock ≠ some b) X w
 base : B ≤ X.heap.size
section
variable {B : Nat} {X : World} {v : Nat → Value} {l : Nat → List Int} {x : Nat → Int} {bb : Nat} {listed : Array Bool} {a : Act} {w : World} {r : Nat → Value}
theorem PutMid.lt (h : PutMid B X v l x bb listed a w r) {k : Nat} (hk : k < 4) : ∀ b, (r k).ownBlock = some b → B ≤ b ∧ b < w.heap.size := by
 intro b hb
 cases hl : listed.getD (8 * k + 11) true with
 | true => exact (h.done k hk hl).2.lt b hb
 | false => have := h.todo k hk hl; rw [this.1] at hb; exact this.2.lt b hb
theorem PutMid.build (h : PutMid B X v l x bb listed a w r) {k : Nat} (hk : k < 4) :
    PutMid B X v l x bb (listed.setIfInBounds (8 * k + 10) true) (a.put (some (8 * k + 14)) (.slice (some ⟨w.heap.size, 0, none⟩) 1 1)) (w.alloc (.cells #[.int .i64 (x k)] 3)) r := by
 have hd : 8 * k + 14 < a.tmps.size := by rw [h.sz]; omega
 have hB : Below w.heap.size w (w.alloc (.cells #[.int .i64 (x k)] 3)) := (Below.refl _ _).alloc (Nat.le_refl _) _
 refine ⟨(put_size _ _ _).1.trans h.sz, (put_size _ _ _).2.trans h.df, ?_, ?_, ?_, ?_, ?_, h.orig, h.dis, ?_, h.kept.alloc _, h.base⟩
 · intro i h1 h2; rw [put_tmps _ _ _ _ hd, if_neg (by omega)]; exact h.ps i h1 h2
 · intro j hj; rw [put_tmps _ _ _ _ hd, if_neg (by omega)]; exact h.xs j hj
 · intro j hj; rw [put_tmps _ _ _ _ hd, if_neg (by omega)]; exact h.vs j hj
 · intro j hj hl
   rw [set_getD, if_neg (by omega)] at hl
   rw [put_tmps _ _ _ _ hd, if_neg (by omega)]
   exact ⟨(h.done j hj hl).1, (h.done j hj hl).2.mono hB⟩
 · intro j hj hl
   rw [set_getD, if_neg (by omega)] at hl
   exact ⟨(h.todo j hj hl).1, (h.todo j hj hl).2.mono hB⟩
 · intro j hj h1 h2
   rw [set_getD, if_neg (by omega)] at h2
   by_cases e : j = k
   · subst e
     refine ⟨w.heap.size, by rw [put_tmps _ _ _ _ hd, if_pos rfl], World.alloc_heap_new w _, fun i hi he => ?_⟩
     have := (h.lt hi _ he).2
     omega
   · rw [set_getD, if_neg (by omega)] at h1
     obtain ⟨n, n1, n2, n3⟩ := h.built j hj h1 h2
     refine ⟨n, by rw [put_tmps _ _ _ _ hd, if_neg (by omega)]; exact n1, (hB.block n (zqo n2)).trans n2, n3⟩
theorem PutMid.app (h : PutMid B X v l x bb listed a w r) {k : Nat} (hk : k < 4) (hun : listed.getD (8 * k + 11) true = false) {g cap : Nat} {w' : World}
    (ho : w'.ownsRow B 3 1 (.slice (some ⟨g, 0, none⟩) ((l k).length + 1) cap) ((l k).length + 1) ((l k).map (Value.int .i64) ++ [.int .i64 (x k)])) (hg : w.grownBy w' (v k).ownBlock) (hat : (v k).ownBlock = some g ∨ g = w.heap.size) :
    PutMid B X v l x bb (listed.setIfInBounds (8 * k + 11) true) (a.put (some (8 * k + 15)) (.slice (some ⟨g, 0, none⟩) ((l k).length + 1) cap)) w' (fun i => if i = k then .slice (some ⟨g, 0, none⟩) ((l k).length + 1) cap else r i) := by
 have hd : 8 * k + 15 < a.tmps.size := by rw [h.sz]; omega
 obtain ⟨hrk, hok⟩ := h.todo k hk hun
 have hother : ∀ j, j < 4 → j ≠ k → (r j).ownBlock = none ∨ (r j).ownBlock ≠ (v k).ownBlock := by
  intro j hj hjk
  cases e : (r j).ownBlock with
  | none => exact .inl rfl
  | some b =>
   refine .inr fun e2 => ?_
   have := h.dis j k hj hk hjk b e
   rw [hrk] at this
   exact this e2.symm
 have hgne : ∀ j, j < 4 → j ≠ k → (r j).ownBlock ≠ some g := by
  intro j hj hjk e
  rcases hat with hat | hat
  · have := h.dis j k hj hk hjk g e
    rw [hrk] at this
    exact this hat
  · have := (h.lt hj g e).2
    omega
 refine ⟨(put_size _ _ _).1.trans h.sz, (put_size _ _ _).2.trans h.df, ?_, ?_, ?_, ?_, ?_, ?_, ?_, ?_, ?_, h.base⟩
 · intro i h1 h2; rw [put_tmps _ _ _ _ hd, if_neg (by omega)]; exact h.ps i h1 h2
 · intro j hj; rw [put_tmps _ _ _ _ hd, if_neg (by omega)]; exact h.xs j hj
 · intro j hj; rw [put_tmps _ _ _ _ hd, if_neg (by omega)]; exact h.vs j hj
 · intro j hj hl
   by_cases e : j = k
   · subst e
     simp only [if_true]
     exact ⟨by rw [put_tmps _ _ _ _ hd, if_pos rfl], own_more (by simpa using ho)⟩
   · simp only [if_neg e]
     rw [set_getD, if_neg (by omega)] at hl
     obtain ⟨h1, h2⟩ := h.done j hj hl
     exact ⟨by rw [put_tmps _ _ _ _ hd, if_neg (by omega)]; exact h1, h2.kept hg (hother j hj e)⟩
 · intro j hj hl
   have e : j ≠ k := by rintro rfl; rw [set_getD, if_pos rfl] at hl; cases hl
   simp only [if_neg e]
   rw [set_getD, if_neg (by omega)] at hl
   obtain ⟨h1, h2⟩ := h.todo j hj hl
   have := hother j hj e
   rw [h1] at this
   exact ⟨h1, h2.kept hg this⟩
 · intro j hj
   by_cases e : j = k
   · subst e
     simp only [if_true]
     rcases hat with hat | hat
     · exact .inl hat.symm
     · exact .inr ⟨g, by rw [hat]; exact h.kept.size, rfl⟩
   · simp only [if_neg e]; exact h.orig j hj
 · intro i j hi hj hij b hb
   by_cases e : i = k
   · subst e
     simp only [if_true] at hb
     rw [if_neg (Ne.symm hij)]
     have : g = b := by simpa [Value.ownBlock] using hb
     subst this
     exact hgne j hj (Ne.symm hij)
   · simp only [if_neg e] at hb
     by_cases e2 : j = k
     · subst e2
       rw [if_pos rfl]
       intro e3
       have : g = b := by simpa [Value.ownBlock] using e3
       subst this
       exact hgne i hi e hb
     · rw [if_neg e2]; exact h.dis i j hi hj hij b hb
 · intro j hj h1 h2
   have e : j ≠ k := by rintro rfl; rw [set_getD, if_pos rfl] at h2; cases h2
   rw [set_getD, if_neg (by omega)] at h1 h2
   obtain ⟨n, n1, n2, n3⟩ := h.built j hj h1 h2
   have hnlt := (zqo n2)
   have hnk : some n ≠ (v k).ownBlock := fun e2 => by have := n3 k hk; rw [hrk] at this; exact this e2.symm
   refine ⟨n, by rw [put_tmps _ _ _ _ hd, if_neg (by omega)]; exact n1, (hg.block n hnlt hnk).trans n2, fun i hi => ?_⟩
   by_cases e2 : i = k
   · subst e2
     simp only [if_true]
     intro e3
     have : g = n := by simpa [Value.ownBlock] using e3
     subst this
     rcases hat with hat | hat
     · exact hnk hat.symm
     · omega
   · simp only [if_neg e2]; exact n3 i hi
 · exact h.kept.trans ⟨hg.os, hg.tape, hg.output, hg.size, fun b hb hs => hg.block b hb (fun e => hs k hk e.symm)⟩
end
def putCnt (d : Array Bool) : Nat :=
 (if d.getD 10 true = true then 0 else 1) + (if d.getD 11 true = true then 0 else 1) + (if d.getD 18 true = true then 0 else 1) + (if d.getD 19 true = true then 0 else 1) +
 (if d.getD 26 true = true then 0 else 1) + (if d.getD 27 true = true then 0 else 1) + (if d.getD 34 true = true then 0 else 1) + (if d.getD 35 true = true then 0 else 1)
theorem putCnt_set {d : Array Bool} {i : Nat} (hi : i = 10 ∨ i = 11 ∨ i = 18 ∨ i = 19 ∨ i = 26 ∨ i = 27 ∨ i = 34 ∨ i = 35) (hun : d.getD i true = false) : putCnt (d.setIfInBounds i true) + 1 = putCnt d := by
 unfold putCnt
 simp only [set_getD]
 rcases hi with rfl | rfl | rfl | rfl | rfl | rfl | rfl | rfl <;> simp [hun] <;> omega
theorem get_both {d : Array Bool} {i : Nat} (h : i < d.size) : d.getD i false = d.getD i true := by simp [Array.getD, h]
section
variable {B : Nat} {X : World} {v : Nat → Value} {l : Nat → List Int} {x : Nat → Int} {bb : Nat} {ops : Array Oper}
theorem ready_build (hO : PutOps ops) {d : Array Bool} (hd : d.size = 48) {k : Nat} (hk : k < 4) (hun : d.getD (8 * k + 10) true = false) (h9 : d.getD (8 * k + 9) true = true) : 8 * k + 10 ∈ Region.ready .any ops d := by
 obtain ⟨ty, pos, after, ho, ha⟩ := hO.build k hk
 refine mem_ready.2 ⟨hun, _, ho, fun e he _ => ?_⟩
 have := Array.all_eq_true'.1 ha e he
 have e9 : e.on = 8 * k + 9 := by simpa using this
 rw [e9, get_both (by omega)]; exact h9
theorem ready_app (hO : PutOps ops) {d : Array Bool} (hd : d.size = 48) {k : Nat} (hk : k < 4) (hun : d.getD (8 * k + 11) true = false) (h7 : d.getD (8 * k + 7) true = true) (h10 : d.getD (8 * k + 10) true = true) (h3 : 0 < k → d.getD (8 * k + 3) true = true) :
    8 * k + 11 ∈ Region.ready .any ops d := by
 obtain ⟨ty, pos, after, ho, ha, -⟩ := hO.app k hk
 refine mem_ready.2 ⟨hun, _, ho, fun e he _ => ?_⟩
 have := Array.all_eq_true'.1 ha e he
 simp only [Bool.or_eq_true, beq_iff_eq, Bool.and_eq_true, decide_eq_true_eq] at this
 rcases this with (h | h) | ⟨h0, h⟩
 · rw [h, get_both (by omega)]; exact h7
 · rw [h, get_both (by omega)]; exact h10
 · rw [h, get_both (by omega)]; exact h3 h0
theorem app_built (hO : PutOps ops) {d : Array Bool} (hd : d.size = 48) {k : Nat} (hk : k < 4) (hr : 8 * k + 11 ∈ Region.ready .any ops d) : d.getD (8 * k + 10) true = true := by
 obtain ⟨ty, pos, after, ho, -, hb⟩ := hO.app k hk
 obtain ⟨-, o', ho', hall⟩ := mem_ready.1 hr
 rw [ho] at ho'
 obtain rfl := Option.some.inj ho'
 obtain ⟨e, he, h⟩ := Array.any_eq_true'.1 hb
 simp only [Bool.and_eq_true, beq_iff_eq] at h
 have := hall e he h.1
 rw [h.2, get_both (by omega)] at this
 exact this
theorem put_mid (hO : PutOps ops) {Q : Exit → Act → World → Prop} {L : Array Bool → Act → World → Prop} (hs : sinkP .any ops 36 [0, 1, 2, 3] = true) (hc : Region.chainB .any ops 36 = true)
    (hlen : ∀ k, k < 4 → (l k).length ≤ 1000)
    (hL : ∀ d a w r, HInv .any ops 36 [0, 1, 2, 3] d → (∀ i, i < 36 → d.getD i true = true) → PutMid B X v l x bb d a w r → L d a w) :
    ∀ f d a w r, HInv .any ops 36 [0, 1, 2, 3] d → (∀ i, i < 36 → (i ≠ 10 ∧ i ≠ 11 ∧ i ≠ 18 ∧ i ≠ 19 ∧ i ≠ 26 ∧ i ≠ 27 ∧ i ≠ 34 ∧ i ≠ 35) → d.getD i true = true) → putCnt d = f → PutMid B X v l x bb d a w r →
     wpAnyHL Tryz.prog .any ops Q (Kept (fun b => ∀ k, k < 4 → (v k).ownBlock ≠ some b) X) 36 L f d a w := by
 intro f
 induction f with
 | zero =>
  intro d a w r inv hoth hcnt hM
  refine hL d a w r inv (fun i hi => ?_) hM
  by_cases e : i ≠ 10 ∧ i ≠ 11 ∧ i ≠ 18 ∧ i ≠ 19 ∧ i ≠ 26 ∧ i ≠ 27 ∧ i ≠ 34 ∧ i ≠ 35
  · exact hoth i hi e
  · unfold putCnt at hcnt
    have e' : i = 10 ∨ i = 11 ∨ i = 18 ∨ i = 19 ∨ i = 26 ∨ i = 27 ∨ i = 34 ∨ i = 35 := by omega
    cases hv : d.getD i true
    · exfalso
      rcases e' with rfl | rfl | rfl | rfl | rfl | rfl | rfl | rfl <;> simp [hv] at hcnt
    · rfl
 | succ f ih =>
  intro d a w r inv hoth hcnt hM
  have hsz : d.size = 48 := inv.head.size.trans hO.size
  -- the builds and the appends, by their numbers
  have hb9 : ∀ k, k < 4 → d.getD (8 * k + 9) true = true := fun k hk => hoth _ (by omega) (by omega)
  have hb7 : ∀ k, k < 4 → d.getD (8 * k + 7) true = true := fun k hk => hoth _ (by omega) (by omega)
  have hun : ∃ k, k < 4 ∧ (d.getD (8 * k + 10) true = false ∨ d.getD (8 * k + 11) true = false) := by
   refine Classical.byContradiction fun hno => ?_
   have hall : ∀ k, k < 4 → d.getD (8 * k + 10) true = true ∧ d.getD (8 * k + 11) true = true := fun k hk => by
    refine ⟨?_, ?_⟩
    · cases e : d.getD (8 * k + 10) true
      · exact absurd ⟨k, hk, .inl e⟩ hno
      · rfl
    · cases e : d.getD (8 * k + 11) true
      · exact absurd ⟨k, hk, .inr e⟩ hno
      · rfl
   have h0 := hall 0 (by omega); have h1 := hall 1 (by omega); have h2 := hall 2 (by omega); have h3 := hall 3 (by omega)
   simp only [Nat.mul_zero, Nat.zero_add, Nat.reduceMul, Nat.reduceAdd] at h0 h1 h2 h3
   unfold putCnt at hcnt
   simp [h0.1, h0.2, h1.1, h1.2, h2.1, h2.2, h3.1, h3.2] at hcnt
  refine ⟨fun hnil => ?_, fun i hi => ?_⟩
  · -- something may come up
    have no : ∀ i, i ∉ Region.ready .any ops d := fun i h => by rw [hnil] at h; cases h
    have hbl : ∀ k, k < 4 → d.getD (8 * k + 10) true = true := fun k hk => by
     cases e : d.getD (8 * k + 10) true
     · exact absurd (ready_build hO hsz hk e (hb9 k hk)) (no _)
     · rfl
    have hap : ∀ k, k < 4 → (0 < k → d.getD (8 * k + 3) true = true) → d.getD (8 * k + 11) true = true := fun k hk h3 => by
     cases e : d.getD (8 * k + 11) true
     · exact absurd (ready_app hO hsz hk e (hb7 k hk) (hbl k hk) h3) (no _)
     · rfl
    have a0 := hap 0 (by omega) (by omega)
    have a1 := hap 1 (by omega) (fun _ => a0)
    have a2 := hap 2 (by omega) (fun _ => a1)
    have a3 := hap 3 (by omega) (fun _ => a2)
    obtain ⟨k, hk, h | h⟩ := hun
    · rw [hbl k hk] at h; cases h
    · have : d.getD (8 * k + 11) true = true := by
       match k, hk with
       | 0, _ => exact a0
       | 1, _ => exact a1
       | 2, _ => exact a2
       | 3, _ => exact a3
      rw [this] at h; cases h
  · have hi36 : i < 36 := by
     rcases Nat.lt_or_ge i 36 with h | h
     · exact h
     · obtain ⟨k, hk, h1 | h1⟩ := hun
       · exact absurd hi (tail_waitsP hs hc (by rw [hO.size]; omega) inv _ (8 * k + 10) rfl (by omega) h1 i h)
       · exact absurd hi (tail_waitsP hs hc (by rw [hO.size]; omega) inv _ (8 * k + 11) rfl (by omega) h1 i h)
    refine ⟨hi36, ?_⟩
    have hiu := (mem_ready.1 hi).1
    have hcase : ∃ k, k < 4 ∧ (i = 8 * k + 10 ∨ i = 8 * k + 11) := by
     refine Classical.byContradiction fun hno => ?_
     have h0 : ¬ (i = 10 ∨ i = 11) := fun h => hno ⟨0, by omega, h⟩
     have h1 : ¬ (i = 18 ∨ i = 19) := fun h => hno ⟨1, by omega, h⟩
     have h2 : ¬ (i = 26 ∨ i = 27) := fun h => hno ⟨2, by omega, h⟩
     have h3 : ¬ (i = 34 ∨ i = 35) := fun h => hno ⟨3, by omega, h⟩
     have := hoth i hi36 (by omega)
     rw [hiu] at this; cases this
    have hinv' := inv.set hi hi36
    have hoth' : ∀ j, j < 36 → (j ≠ 10 ∧ j ≠ 11 ∧ j ≠ 18 ∧ j ≠ 19 ∧ j ≠ 26 ∧ j ≠ 27 ∧ j ≠ 34 ∧ j ≠ 35) → (d.setIfInBounds i true).getD j true = true := fun j hj h => by
     rw [set_getD]; split
     · rfl
     · exact hoth j hj h
    have hcnt' : putCnt (d.setIfInBounds i true) = f := by
     have := putCnt_set (d := d) (i := i) (by obtain ⟨k, hk, h | h⟩ := hcase <;> omega) hiu
     omega
    obtain ⟨k, hk, rfl | rfl⟩ := hcase
    · obtain ⟨ty, pos, after, ho, -⟩ := hO.build k hk
      have hM' := hM.build hk
      unfold wpOp
      simp only [ho]
      rw [if_pos (by simp [Region.wanted])]
      refine .inl ?_
      unfold Oper.wp
      rw [run_build1 _ _ _ _ _ (x k) _ (hM.xs k hk)]
      exact ⟨hM'.kept, ih _ _ _ r hinv' hoth' hcnt' hM'⟩
    · have h10 := app_built hO hsz hk hi
      obtain ⟨n, n1, n2, n3⟩ := hM.built k hk h10 hiu
      obtain ⟨t1, t2⟩ := hM.todo k hk hiu
      obtain ⟨ty, pos, after, ho, -⟩ := hO.app k hk
      obtain ⟨i0, hi0, hz0, hz1, hz2⟩ := info_parts infoInt
      have hl := hlen k hk
      unfold wpOp
      simp only [ho]
      rw [if_pos (by simp [Region.wanted])]
      refine .inl ?_
      refine wp_append_lies _ (.tmp (8 * k + 11)) (.tmp (8 * k + 14)) 28 rfl B 3 i0 (.int .i64 0) 1 8 Tryz.underlying28 hi0 hz0 hz1 hz2 rfl (by decide) (v k) (l k).length _ (eval_tmp _ _ _ (hM.vs k hk)) t2
       ⟨n, 0, none⟩ 1 1 [.int .i64 (x k)] (eval_tmp _ _ _ n1) rfl ?_ (by simp [Value.oneCell']) (by decide) (by unfold maxLen; omega) (by omega) (Nat.le_trans hM.base hM.kept.size) w.heap.size rfl ?_
      · intro j u hj
        match j, hj with
        | 0, hj =>
         simp only [List.getElem?_cons_zero, Option.some.injEq] at hj
         subst hj
         have := (row_cells n2).2.1 0
         simpa [add_zero'] using this
      · intro g cap w' h1 h2 h3 h4
        have hM' := hM.app hk hiu h1 h2 h3
        exact ⟨hM'.kept, ih _ _ _ _ hinv' hoth' hcnt' hM'⟩
end
end Go.Proofs.YthjmdagonfeneaaGreat.G
namespace Go.Proofs.YthjmdagonfeneaaGreat.G
open Go.RowKit Go.Sd Gas
theorem nil_step {ops : Array Oper} {rest : List Oper} {Q : Exit → Act → World → Prop} {a : Act} {w : World} {s d : Nat} {ad : Addr} {ty : TypeId} {pos : String} {after : Array Edge} (h : a.tmps[s]? = some (.pointer (some ad)))
    (hr : wpList Tryz.prog ops Q rest (a.put (some d) (.pointer (some ad))) w) : wpList Tryz.prog ops Q (⟨some d, .nilCheck (.tmp s), ty, pos, after, none⟩ :: rest) a w := by
 unfold wpList
 rw [if_pos (by simp [Region.wanted])]
 refine .inl ?_
 have h2 : a.tmps.getD s undef = .pointer (some ad) := by simp [h]
 simpa [go_sem, h, h2] using hr
theorem field_step0 {ops : Array Oper} {rest : List Oper} {Q : Exit → Act → World → Prop} {a : Act} {w : World} {s d : Nat} {bb : Nat} {ty : TypeId} {pos : String} {after : Array Edge} (h : a.tmps[s]? = some (.pointer (some ⟨bb, 0, none⟩)))
    (hr : wpList Tryz.prog ops Q rest (a.put (some d) (.pointer (some ⟨bb, 0, none⟩))) w) : wpList Tryz.prog ops Q (⟨some d, .fieldAddr 187 (.tmp s) 0, ty, pos, after, none⟩ :: rest) a w := by
 unfold wpList
 rw [if_pos (by simp [Region.wanted])]
 refine .inl ?_
 have h2 : a.tmps.getD s undef = .pointer (some ⟨bb, 0, none⟩) := by simp [h]
 simpa [go_sem, h, h2] using hr
theorem field_step1 {ops : Array Oper} {rest : List Oper} {Q : Exit → Act → World → Prop} {a : Act} {w : World} {s d : Nat} {bb : Nat} {ty : TypeId} {pos : String} {after : Array Edge} (h : a.tmps[s]? = some (.pointer (some ⟨bb, 0, none⟩)))
    (hr : wpList Tryz.prog ops Q rest (a.put (some d) (.pointer (some ⟨bb, 1, none⟩))) w) : wpList Tryz.prog ops Q (⟨some d, .fieldAddr 187 (.tmp s) 1, ty, pos, after, none⟩ :: rest) a w := by
 unfold wpList
 rw [if_pos (by simp [Region.wanted])]
 refine .inl ?_
 have h2 : a.tmps.getD s undef = .pointer (some ⟨bb, 0, none⟩) := by simp [h]
 simpa [go_sem, h, h2] using hr
theorem field_step2 {ops : Array Oper} {rest : List Oper} {Q : Exit → Act → World → Prop} {a : Act} {w : World} {s d : Nat} {bb : Nat} {ty : TypeId} {pos : String} {after : Array Edge} (h : a.tmps[s]? = some (.pointer (some ⟨bb, 0, none⟩)))
    (hr : wpList Tryz.prog ops Q rest (a.put (some d) (.pointer (some ⟨bb, 2, none⟩))) w) : wpList Tryz.prog ops Q (⟨some d, .fieldAddr 187 (.tmp s) 2, ty, pos, after, none⟩ :: rest) a w := by
 unfold wpList
 rw [if_pos (by simp [Region.wanted])]
 refine .inl ?_
 have h2 : a.tmps.getD s undef = .pointer (some ⟨bb, 0, none⟩) := by simp [h]
 simpa [go_sem, h, h2] using hr
theorem field_step3 {ops : Array Oper} {rest : List Oper} {Q : Exit → Act → World → Prop} {a : Act} {w : World} {s d : Nat} {bb : Nat} {ty : TypeId} {pos : String} {after : Array Edge} (h : a.tmps[s]? = some (.pointer (some ⟨bb, 0, none⟩)))
    (hr : wpList Tryz.prog ops Q rest (a.put (some d) (.pointer (some ⟨bb, 3, none⟩))) w) : wpList Tryz.prog ops Q (⟨some d, .fieldAddr 187 (.tmp s) 3, ty, pos, after, none⟩ :: rest) a w := by
 unfold wpList
 rw [if_pos (by simp [Region.wanted])]
 refine .inl ?_
 have h2 : a.tmps.getD s undef = .pointer (some ⟨bb, 0, none⟩) := by simp [h]
 simpa [go_sem, h, h2] using hr
theorem store_step {ops : Array Oper} {rest : List Oper} {Q : Exit → Act → World → Prop} {a : Act} {w : World} {s q i : Nat} {bb : Nat} {v u : Value} {ty : TypeId} {pos : String} {after : Array Edge} (h : a.tmps[s]? = some (.pointer (some ⟨bb, i, none⟩)))
    (hq : a.tmps[q]? = some v) (hsl : ∃ p n c, v = .slice p n c) (hc : w.cell? ⟨bb, i, none⟩ = some u) (hz : w.frozen? ⟨bb, i, none⟩ = false)
    (hr : wpList Tryz.prog ops Q rest a (w.setCell ⟨bb, i, none⟩ v)) : wpList Tryz.prog ops Q (⟨none, .store 28 (.tmp s) (.tmp q), ty, pos, after, none⟩ :: rest) a w := by
 obtain ⟨p, n, c, rfl⟩ := hsl
 unfold wpList
 rw [if_pos (by simp [Region.wanted])]
 refine .inl ?_
 have h2 : a.tmps.getD s undef = .pointer (some ⟨bb, i, none⟩) := by simp [h]
 have h3 : a.tmps.getD q undef = .slice p n c := by simp [hq]
 have h4 : a.put none undef = a := rfl
 simpa [go_sem, h, h2, h3, hq, hc, hz, h4] using hr
def coord (k : Nat) (l : List Pt) : List Int := match k with
 | 0 => l.map (·.g)
 | 1 => l.map (·.y)
 | 2 => l.map (·.t)
 | _ => l.map (·.w)
def ptAt (p : Pt) (k : Nat) : Int := match k with
 | 0 => p.g
 | 1 => p.y
 | 2 => p.t
 | _ => p.w
theorem coord_snoc (k : Nat) (l : List Pt) (p : Pt) : coord k (l ++ [p]) = coord k l ++ [ptAt p k] := by
 unfold coord ptAt; split <;> simp
theorem coord_len (k : Nat) (l : List Pt) : (coord k l).length = l.length := by unfold coord; split <;> simp
structure BoxV (B bb : Nat) (w : World) (v : Nat → Value) (l : List Pt) : Prop where
 at' : w.heap[bb]? = some (.cells #[v 0, v 1, v 2, v 3] 187 (0, 0))
 own : ∀ k, k < 4 → OwnInts B w (v k) (coord k l)
 dis : ∀ i j, i < 4 → j < 4 → i ≠ j → ∀ b, (v i).ownBlock = some b → (v j).ownBlock ≠ some b
 self : ∀ k, k < 4 → (v k).ownBlock ≠ some bb
def PutPost (B bb : Nat) (w : World) (v : Nat → Value) (l : List Pt) (e : Ending) (w' : World) : Prop :=
 e = .returned (.tuple #[]) ∧ ∃ v', BoxV B bb w' v' l ∧ (∀ k, k < 4 → (v' k).ownBlock = (v k).ownBlock ∨ ∃ m, w.heap.size ≤ m ∧ (v' k).ownBlock = some m) ∧ Kept (fun b => b ≠ bb ∧ ∀ k, k < 4 → (v k).ownBlock ≠ some b) w w'
theorem own_slice {B : Nat} {w : World} {v : Value} {xs : List Int} (h : OwnInts B w v xs) : ∃ p n c, v = .slice p n c := by
 obtain ⟨_, h2⟩ := h
 rcases h2 with ⟨rfl, _⟩ | ⟨g, cap, cur, rfl, _⟩ <;> exact ⟨_, _, _, rfl⟩
theorem done_listed {ops : Array Oper} {d : Array Bool} (h48 : ops.size = 48) (inv : HInv .any ops 36 [0, 1, 2, 3] d) (h : ∀ i, i < 36 → d.getD i true = true) :
    d = #[true, true, true, true, true, true, true, true, true, true, true, true, true, true, true, true, true, true, true, true, true, true, true, true, true, true, true, true, true, true, true, true, true, true, true, true, false, false, false, false, false, false, false, false, false, false, false, false] := by
 have hs := inv.head.size
 rw [h48] at hs
 have key : ∀ i : Fin 48, (#[true, true, true, true, true, true, true, true, true, true, true, true, true, true, true, true, true, true, true, true, true, true, true, true, true, true, true, true, true, true, true, true, true, true, true, true, false, false, false, false, false, false, false, false, false, false, false, false] : Array Bool).getD i.val true = decide (i.val < 36) := by decide
 apply Array.ext
 · rw [hs]; rfl
 · intro i h1 h2
   have hi : i < 48 := by omega
   have e : d.getD i true = d[i] := by simp [Array.getD, h1]
   have k2 := key ⟨i, hi⟩
   simp only at k2
   rw [Array.getD, dif_pos h2] at k2
   by_cases hlt : i < 36
   · have := h i hlt
     rw [e] at this; rw [this]
     simpa [hlt] using k2.symm
   · have := inv.head.tail i (by omega) (by rw [h48]; exact hi)
     rw [e] at this; rw [this]
     simpa [hlt] using k2.symm
theorem four_cells {w : World} {n : Nat} {a b c d : Value} {e : TypeId} (h : w.heap[n]? = some (.cells #[a, b, c, d] e (0, 0))) (a' b' c' d' : Value) :
    ((((w.setCell ⟨n, 0, none⟩ a').setCell ⟨n, 1, none⟩ b').setCell ⟨n, 2, none⟩ c').setCell ⟨n, 3, none⟩ d').heap[n]? = some (.cells #[a', b', c', d'] e (0, 0)) := by
 simp only [World.setCell, Array.getElem?_modify, if_true, h]
 rfl
theorem four_other {w : World} {n m : Nat} (a' b' c' d' : Value) (h : m ≠ n) :
    ((((w.setCell ⟨n, 0, none⟩ a').setCell ⟨n, 1, none⟩ b').setCell ⟨n, 2, none⟩ c').setCell ⟨n, 3, none⟩ d').heap[m]? = w.heap[m]? := by
 rw [Below.heap_setCell _ _ _ _ h, Below.heap_setCell _ _ _ _ h, Below.heap_setCell _ _ _ _ h, Below.heap_setCell _ _ _ _ h]
theorem four_kept {S : Nat → Prop} {v w : World} {n : Nat} (hk : Kept S v w) (h : ¬ S n ∨ v.heap.size ≤ n) (a' b' c' d' : Value) :
    Kept S v ((((w.setCell ⟨n, 0, none⟩ a').setCell ⟨n, 1, none⟩ b').setCell ⟨n, 2, none⟩ c').setCell ⟨n, 3, none⟩ d') :=
 (((hk.setCell (p := ⟨n, 0, none⟩) h _).setCell (p := ⟨n, 1, none⟩) h _).setCell (p := ⟨n, 2, none⟩) h _).setCell (p := ⟨n, 3, none⟩) h _
theorem OwnInts.block {B : Nat} {w w' : World} {v : Value} {xs : List Int} (h : OwnInts B w v xs) (hb : ∀ k, v.ownBlock = some k → w'.heap[k]? = w.heap[k]?) : OwnInts B w' v xs := by
 obtain ⟨h1, h2⟩ := h
 refine ⟨h1, ?_⟩
 rcases h2 with h2 | ⟨g, cap, cur, rfl, hB, hg, r⟩
 · exact .inl h2
 · exact .inr ⟨g, cap, cur, rfl, hB, (hb g rfl).trans hg, r⟩
theorem put_end {B bb : Nat} {X : World} {v : Nat → Value} {l : List Pt} {p : Pt} {w0 w : World} {r : Nat → Value} {d : Array Bool} {a : Act} (hB : BoxV B bb X v l) (hM : PutMid B X v (fun k => coord k l) (ptAt p) bb d a w r) (hd : ∀ i, i < 36 → d.getD i true = true)
    (hw : w0.heap.size ≤ X.heap.size) (hX : Below w0.heap.size w0 X) (hbb : bb < w0.heap.size) (hv : ∀ k, k < 4 → ∀ b, (v k).ownBlock = some b → b < w0.heap.size) :
    PutPost B bb w0 v (l ++ [p]) (.returned (.tuple #[])) ((((w.setCell ⟨bb, 0, none⟩ (r 0)).setCell ⟨bb, 1, none⟩ (r 1)).setCell ⟨bb, 2, none⟩ (r 2)).setCell ⟨bb, 3, none⟩ (r 3)) := by
 have hat : w.heap[bb]? = some (.cells #[v 0, v 1, v 2, v 3] 187 (0, 0)) := (hM.kept.block bb (zqo hB.at') (fun k hk => hB.self k hk)).trans hB.at'
 have hne : ∀ k, k < 4 → (r k).ownBlock ≠ some bb := by
  intro k hk e
  rcases hM.orig k hk with h | ⟨m, hm, h⟩
  · rw [h] at e; exact hB.self k hk e
  · rw [h] at e; have : m = bb := by simpa using e
    omega
 refine ⟨rfl, r, ⟨four_cells hat _ _ _ _, fun k hk => ?_, hM.dis, hne⟩, fun k hk => ?_, ?_⟩
 · rw [coord_snoc]
   refine OwnInts.block (hM.done k hk (hd _ (by omega))).2 fun b hb => four_other _ _ _ _ ?_
   rintro rfl; exact hne k hk hb
 · rcases hM.orig k hk with h | ⟨m, hm, h⟩
   · exact .inl h
   · exact .inr ⟨m, by omega, h⟩
 · refine four_kept ?_ (.inl fun h => h.1 rfl) _ _ _ _
   refine (Kept.of_below hX fun k hk _ => hk).trans ?_
   exact hM.kept.mono fun k _ h => h.2
end Go.Proofs.YthjmdagonfeneaaGreat.G
namespace Go.Proofs.YthjmdagonfeneaaGreat.G
open Go.RowKit Go.Sd Gas
theorem progPut {B bb : Nat} {v : Nat → Value} {l : List Pt} (p : Pt) (w : World) (hb : BoxV B bb w v l) (hB : B ≤ w.heap.size) (hl : l.length ≤ 1000) :
    Calls Tryz.prog 132 #[.pointer (some ⟨bb, 0, none⟩), ptV p] w (PutPost B bb w v (l ++ [p])) := by
 have hbbw := (zqo hb.at')
 have hvw : ∀ k, k < 4 → ∀ b, (v k).ownBlock = some b → b < w.heap.size := fun k hk b h => ((hb.own k hk).lt b h).2
 obtain ⟨W, hW⟩ : ∃ W, w.alloc (.cells #[.int .i64 p.g, .int .i64 p.y, .int .i64 p.t, .int .i64 p.w] 35) = W := ⟨_, rfl⟩
 obtain ⟨eW0, bW0, sW0⟩ := boxed hW
 have hBw : Below w.heap.size w W := bW0
 obtain ⟨zW0, rW0, tW0⟩ := row_cells eW0
 obtain ⟨qW0_0, qW0_1, qW0_2, qW0_3⟩ := rc4 eW0
 clear rW0 tW0 eW0
 have xW0 : w.heap.size ≤ w.heap.size := by omega
 clear bW0 sW0
 have hbW : BoxV B bb W v l := ⟨(hBw.block _ hbbw).trans hb.at', fun k hk => (hb.own k hk).mono hBw, hb.dis, hb.self⟩
 have hbX : BoxV B bb W.drew v l := ⟨hbW.at', hbW.own, hbW.dis, hbW.self⟩
 have hBx : Below w.heap.size w W.drew := hBw.drew
 have hsz : w.heap.size ≤ W.drew.heap.size := hBw.size
 have cb := (row_cells hbX.at').2.1
 have cz := (row_cells hbX.at').2.2
 have hpb : ∀ k, k < 4 → (v k).ownBlock ≠ some w.heap.size := fun k hk h => by have := hvw k hk _ h; omega
 have hbw : B ≤ W.drew.heap.size := Nat.le_trans hB hsz
 clear hBw hbW
 go_enter Tryz.func132, Tryz.ntmps132
 go_wp2
 refine wp_region_noPanic ?_
 refine wp_region_any (by kernel_rfl) ?_
 show wpAny _ _ _ _ (44 + 1 + 1 + 1 + 1) #[false, false, false, false, false, false, false, false, false, false, false, false, false, false, false, false, false, false, false, false, false, false, false, false, false, false, false, false, false, false, false, false, false, false, false, false, false, false, false, false, false, false, false, false, false, false, false, false] _ W.drew
 refine wpAny_takeD (i := 0) (v := .pointer (some ⟨bb, 0, none⟩)) 4 rfl rfl (by kernel_rfl) (by kernel_rfl) (by kernel_rfl) (fun _ _ _ h => h) (Or.inl ⟨by rfl, ?_⟩) ?_
 · intro w'; go_simp
 try simp only [Act.put, List.setIfInBounds_toArray, List.set_cons_zero, List.set_cons_succ]
 refine wpAny_takeD (i := 1) (v := .pointer (some ⟨bb, 0, none⟩)) 5 rfl rfl (by kernel_rfl) (by kernel_rfl) (by kernel_rfl) (fun _ _ _ h => h) (Or.inl ⟨by rfl, ?_⟩) ?_
 · intro w'; go_simp
 try simp only [Act.put, List.setIfInBounds_toArray, List.set_cons_zero, List.set_cons_succ]
 refine wpAny_takeD (i := 2) (v := .pointer (some ⟨bb, 0, none⟩)) 6 rfl rfl (by kernel_rfl) (by kernel_rfl) (by kernel_rfl) (fun _ _ _ h => h) (Or.inl ⟨by rfl, ?_⟩) ?_
 · intro w'; go_simp
 try simp only [Act.put, List.setIfInBounds_toArray, List.set_cons_zero, List.set_cons_succ]
 refine wpAny_takeD (i := 3) (v := .pointer (some ⟨bb, 0, none⟩)) 7 rfl rfl (by kernel_rfl) (by kernel_rfl) (by kernel_rfl) (fun _ _ _ h => h) (Or.inl ⟨by rfl, ?_⟩) ?_
 · intro w'; go_simp
 try simp only [Act.put, List.setIfInBounds_toArray, List.set_cons_zero, List.set_cons_succ]
 refine any_of_HL2 (n := 36) (S := Kept (fun b => ∀ k, k < 4 → (v k).ownBlock ≠ some b) W.drew) (f := 32) rfl ?_
 have hS0 : Kept (fun b => ∀ k, k < 4 → (v k).ownBlock ≠ some b) W.drew W.drew := .refl _ _
 refine wpAnyHL_takeD (pre := [0, 1, 2, 3]) (i := 4) (v := .pointer (some ⟨bb, 0, none⟩)) 8 rfl rfl (by kernel_rfl) (by kernel_rfl) (fun _ _ _ h => h) (Or.inl ⟨by rfl, ?_⟩) hS0 ?_
 · intro w' _; go_simp
 try simp only [Act.put, List.setIfInBounds_toArray, List.set_cons_zero, List.set_cons_succ]
 refine wpAnyHL_takeD (pre := [0, 1, 2, 3]) (i := 5) (v := .pointer (some ⟨bb, 0, none⟩)) 9 rfl rfl (by kernel_rfl) (by kernel_rfl) (fun _ _ _ h => h) (Or.inl ⟨by rfl, ?_⟩) hS0 ?_
 · intro w' _; go_simp
 try simp only [Act.put, List.setIfInBounds_toArray, List.set_cons_zero, List.set_cons_succ]
 refine wpAnyHL_takeD (pre := [0, 1, 2, 3]) (i := 6) (v := .pointer (some ⟨bb, 0, none⟩)) 10 rfl rfl (by kernel_rfl) (by kernel_rfl) (fun _ _ _ h => h) (Or.inl ⟨by rfl, ?_⟩) hS0 ?_
 · intro w' _; go_simp
 try simp only [Act.put, List.setIfInBounds_toArray, List.set_cons_zero, List.set_cons_succ]
 refine wpAnyHL_takeD (pre := [0, 1, 2, 3]) (i := 7) (v := v 0) 11 rfl rfl (by kernel_rfl) (by kernel_rfl) (fun _ _ _ h => h) (Or.inl ⟨by rfl, ?_⟩) hS0 ?_
 · intro w' hSw; have c0 : w'.cell? ⟨bb, 0, none⟩ = some (v 0) := hSw.cell hbX.self (cb 0); go_simp
 try simp only [Act.put, List.setIfInBounds_toArray, List.set_cons_zero, List.set_cons_succ]
 refine wpAnyHL_takeD (pre := [0, 1, 2, 3]) (i := 8) (v := .pointer (some ⟨w.heap.size, 0, none⟩)) 12 rfl rfl (by kernel_rfl) (by kernel_rfl) (fun _ _ _ h => h) (Or.inl ⟨by rfl, ?_⟩) hS0 ?_
 · intro w' _; go_simp
 try simp only [Act.put, List.setIfInBounds_toArray, List.set_cons_zero, List.set_cons_succ]
 refine wpAnyHL_takeD (pre := [0, 1, 2, 3]) (i := 9) (v := .int .i64 p.g) 13 rfl rfl (by kernel_rfl) (by kernel_rfl) (fun _ _ _ h => h) (Or.inl ⟨by rfl, ?_⟩) hS0 ?_
 · intro w' hSw; have c0 : w'.cell? ⟨w.heap.size, 0, none⟩ = some (.int .i64 p.g) := hSw.cell hpb qW0_0; go_simp
 try simp only [Act.put, List.setIfInBounds_toArray, List.set_cons_zero, List.set_cons_succ]
 refine wpAnyHL_takeD (pre := [0, 1, 2, 3]) (i := 12) (v := .pointer (some ⟨bb, 0, none⟩)) 16 rfl rfl (by kernel_rfl) (by kernel_rfl) (fun _ _ _ h => h) (Or.inl ⟨by rfl, ?_⟩) hS0 ?_
 · intro w' _; go_simp
 try simp only [Act.put, List.setIfInBounds_toArray, List.set_cons_zero, List.set_cons_succ]
 refine wpAnyHL_takeD (pre := [0, 1, 2, 3]) (i := 13) (v := .pointer (some ⟨bb, 0, none⟩)) 17 rfl rfl (by kernel_rfl) (by kernel_rfl) (fun _ _ _ h => h) (Or.inl ⟨by rfl, ?_⟩) hS0 ?_
 · intro w' _; go_simp
 try simp only [Act.put, List.setIfInBounds_toArray, List.set_cons_zero, List.set_cons_succ]
 refine wpAnyHL_takeD (pre := [0, 1, 2, 3]) (i := 14) (v := .pointer (some ⟨bb, 1, none⟩)) 18 rfl rfl (by kernel_rfl) (by kernel_rfl) (fun _ _ _ h => h) (Or.inl ⟨by rfl, ?_⟩) hS0 ?_
 · intro w' _; go_simp
 try simp only [Act.put, List.setIfInBounds_toArray, List.set_cons_zero, List.set_cons_succ]
 refine wpAnyHL_takeD (pre := [0, 1, 2, 3]) (i := 15) (v := v 1) 19 rfl rfl (by kernel_rfl) (by kernel_rfl) (fun _ _ _ h => h) (Or.inl ⟨by rfl, ?_⟩) hS0 ?_
 · intro w' hSw; have c0 : w'.cell? ⟨bb, 1, none⟩ = some (v 1) := hSw.cell hbX.self (cb 1); go_simp
 try simp only [Act.put, List.setIfInBounds_toArray, List.set_cons_zero, List.set_cons_succ]
 refine wpAnyHL_takeD (pre := [0, 1, 2, 3]) (i := 16) (v := .pointer (some ⟨w.heap.size, 1, none⟩)) 20 rfl rfl (by kernel_rfl) (by kernel_rfl) (fun _ _ _ h => h) (Or.inl ⟨by rfl, ?_⟩) hS0 ?_
 · intro w' _; go_simp
 try simp only [Act.put, List.setIfInBounds_toArray, List.set_cons_zero, List.set_cons_succ]
 refine wpAnyHL_takeD (pre := [0, 1, 2, 3]) (i := 17) (v := .int .i64 p.y) 21 rfl rfl (by kernel_rfl) (by kernel_rfl) (fun _ _ _ h => h) (Or.inl ⟨by rfl, ?_⟩) hS0 ?_
 · intro w' hSw; have c0 : w'.cell? ⟨w.heap.size, 1, none⟩ = some (.int .i64 p.y) := hSw.cell hpb qW0_1; go_simp
 try simp only [Act.put, List.setIfInBounds_toArray, List.set_cons_zero, List.set_cons_succ]
 refine wpAnyHL_takeD (pre := [0, 1, 2, 3]) (i := 20) (v := .pointer (some ⟨bb, 0, none⟩)) 24 rfl rfl (by kernel_rfl) (by kernel_rfl) (fun _ _ _ h => h) (Or.inl ⟨by rfl, ?_⟩) hS0 ?_
 · intro w' _; go_simp
 try simp only [Act.put, List.setIfInBounds_toArray, List.set_cons_zero, List.set_cons_succ]
 refine wpAnyHL_takeD (pre := [0, 1, 2, 3]) (i := 21) (v := .pointer (some ⟨bb, 0, none⟩)) 25 rfl rfl (by kernel_rfl) (by kernel_rfl) (fun _ _ _ h => h) (Or.inl ⟨by rfl, ?_⟩) hS0 ?_
 · intro w' _; go_simp
 try simp only [Act.put, List.setIfInBounds_toArray, List.set_cons_zero, List.set_cons_succ]
 refine wpAnyHL_takeD (pre := [0, 1, 2, 3]) (i := 22) (v := .pointer (some ⟨bb, 2, none⟩)) 26 rfl rfl (by kernel_rfl) (by kernel_rfl) (fun _ _ _ h => h) (Or.inl ⟨by rfl, ?_⟩) hS0 ?_
 · intro w' _; go_simp
 try simp only [Act.put, List.setIfInBounds_toArray, List.set_cons_zero, List.set_cons_succ]
 refine wpAnyHL_takeD (pre := [0, 1, 2, 3]) (i := 23) (v := v 2) 27 rfl rfl (by kernel_rfl) (by kernel_rfl) (fun _ _ _ h => h) (Or.inl ⟨by rfl, ?_⟩) hS0 ?_
 · intro w' hSw; have c0 : w'.cell? ⟨bb, 2, none⟩ = some (v 2) := hSw.cell hbX.self (cb 2); go_simp
 try simp only [Act.put, List.setIfInBounds_toArray, List.set_cons_zero, List.set_cons_succ]
 refine wpAnyHL_takeD (pre := [0, 1, 2, 3]) (i := 24) (v := .pointer (some ⟨w.heap.size, 2, none⟩)) 28 rfl rfl (by kernel_rfl) (by kernel_rfl) (fun _ _ _ h => h) (Or.inl ⟨by rfl, ?_⟩) hS0 ?_
 · intro w' _; go_simp
 try simp only [Act.put, List.setIfInBounds_toArray, List.set_cons_zero, List.set_cons_succ]
 refine wpAnyHL_takeD (pre := [0, 1, 2, 3]) (i := 25) (v := .int .i64 p.t) 29 rfl rfl (by kernel_rfl) (by kernel_rfl) (fun _ _ _ h => h) (Or.inl ⟨by rfl, ?_⟩) hS0 ?_
 · intro w' hSw; have c0 : w'.cell? ⟨w.heap.size, 2, none⟩ = some (.int .i64 p.t) := hSw.cell hpb qW0_2; go_simp
 try simp only [Act.put, List.setIfInBounds_toArray, List.set_cons_zero, List.set_cons_succ]
 refine wpAnyHL_takeD (pre := [0, 1, 2, 3]) (i := 28) (v := .pointer (some ⟨bb, 0, none⟩)) 32 rfl rfl (by kernel_rfl) (by kernel_rfl) (fun _ _ _ h => h) (Or.inl ⟨by rfl, ?_⟩) hS0 ?_
 · intro w' _; go_simp
 try simp only [Act.put, List.setIfInBounds_toArray, List.set_cons_zero, List.set_cons_succ]
 refine wpAnyHL_takeD (pre := [0, 1, 2, 3]) (i := 29) (v := .pointer (some ⟨bb, 0, none⟩)) 33 rfl rfl (by kernel_rfl) (by kernel_rfl) (fun _ _ _ h => h) (Or.inl ⟨by rfl, ?_⟩) hS0 ?_
 · intro w' _; go_simp
 try simp only [Act.put, List.setIfInBounds_toArray, List.set_cons_zero, List.set_cons_succ]
 refine wpAnyHL_takeD (pre := [0, 1, 2, 3]) (i := 30) (v := .pointer (some ⟨bb, 3, none⟩)) 34 rfl rfl (by kernel_rfl) (by kernel_rfl) (fun _ _ _ h => h) (Or.inl ⟨by rfl, ?_⟩) hS0 ?_
 · intro w' _; go_simp
 try simp only [Act.put, List.setIfInBounds_toArray, List.set_cons_zero, List.set_cons_succ]
 refine wpAnyHL_takeD (pre := [0, 1, 2, 3]) (i := 31) (v := v 3) 35 rfl rfl (by kernel_rfl) (by kernel_rfl) (fun _ _ _ h => h) (Or.inl ⟨by rfl, ?_⟩) hS0 ?_
 · intro w' hSw; have c0 : w'.cell? ⟨bb, 3, none⟩ = some (v 3) := hSw.cell hbX.self (cb 3); go_simp
 try simp only [Act.put, List.setIfInBounds_toArray, List.set_cons_zero, List.set_cons_succ]
 refine wpAnyHL_takeD (pre := [0, 1, 2, 3]) (i := 32) (v := .pointer (some ⟨w.heap.size, 3, none⟩)) 36 rfl rfl (by kernel_rfl) (by kernel_rfl) (fun _ _ _ h => h) (Or.inl ⟨by rfl, ?_⟩) hS0 ?_
 · intro w' _; go_simp
 try simp only [Act.put, List.setIfInBounds_toArray, List.set_cons_zero, List.set_cons_succ]
 refine wpAnyHL_takeD (pre := [0, 1, 2, 3]) (i := 33) (v := .int .i64 p.w) 37 rfl rfl (by kernel_rfl) (by kernel_rfl) (fun _ _ _ h => h) (Or.inl ⟨by rfl, ?_⟩) hS0 ?_
 · intro w' hSw; have c0 : w'.cell? ⟨w.heap.size, 3, none⟩ = some (.int .i64 p.w) := hSw.cell hpb qW0_3; go_simp
 try simp only [Act.put, List.setIfInBounds_toArray, List.set_cons_zero, List.set_cons_succ]
 refine put_mid (B := B) (X := W.drew) (v := v) (l := fun k => coord k l) (x := ptAt p) (bb := bb) ⟨rfl, ?ob, ?oa⟩ (by kernel_rfl) (by kernel_rfl) (fun k _ => by rw [coord_len]; exact hl) ?end' 8 _ _ _ v ?inv (by decide) (by decide) ?mid
 case ob =>
  intro k hk
  match k, hk with
  | 0, _ => exact ⟨_, _, _, rfl, by kernel_rfl⟩
  | 1, _ => exact ⟨_, _, _, rfl, by kernel_rfl⟩
  | 2, _ => exact ⟨_, _, _, rfl, by kernel_rfl⟩
  | 3, _ => exact ⟨_, _, _, rfl, by kernel_rfl⟩
 case oa =>
  intro k hk
  match k, hk with
  | 0, _ => exact ⟨_, _, _, rfl, by kernel_rfl, by kernel_rfl⟩
  | 1, _ => exact ⟨_, _, _, rfl, by kernel_rfl, by kernel_rfl⟩
  | 2, _ => exact ⟨_, _, _, rfl, by kernel_rfl, by kernel_rfl⟩
  | 3, _ => exact ⟨_, _, _, rfl, by kernel_rfl, by kernel_rfl⟩
 case inv => exact okInv_spec (by kernel_rfl)
 case mid =>
  refine PutMid.mk (by simp only [List.size_toArray, List.length_cons, List.length_nil]) rfl ?_ ?_ ?_ ?_ ?_ (fun k _ => .inl rfl) hbX.dis ?_ (.refl _ _) hbw
  · intro i h1 h2
    have : i = 4 ∨ i = 5 ∨ i = 6 ∨ i = 7 := by omega
    rcases this with rfl | rfl | rfl | rfl <;> rfl
  · intro k hk
    match k, hk with
    | 0, _ => rfl
    | 1, _ => rfl
    | 2, _ => rfl
    | 3, _ => rfl
  · intro k hk
    match k, hk with
    | 0, _ => rfl
    | 1, _ => rfl
    | 2, _ => rfl
    | 3, _ => rfl
  · intro k hk h
    match k, hk, h with
    | 0, _, h => exact absurd h (by decide)
    | 1, _, h => exact absurd h (by decide)
    | 2, _, h => exact absurd h (by decide)
    | 3, _, h => exact absurd h (by decide)
  · intro k hk _; exact ⟨rfl, hbX.own k hk⟩
  · intro k hk h _
    match k, hk, h with
    | 0, _, h => exact absurd h (by decide)
    | 1, _, h => exact absurd h (by decide)
    | 2, _, h => exact absurd h (by decide)
    | 3, _, h => exact absurd h (by decide)
 case end' =>
  intro d a w2 r inv hall hM
  have hP := put_end (p := p) hbX hM hall hsz hBx hbbw hvw
  have hd := done_listed rfl inv hall
  have hat := (hM.kept.block bb (zqo hbX.at') (fun k hk => hbX.self k hk)).trans hbX.at'
  obtain ⟨-, c1, f1⟩ := row_cells hat
  refine ⟨by rw [hd]; kernel_rfl, ?_⟩
  have o0 := hM.done 0 (by decide) (hall _ (by decide))
  have o1 := hM.done 1 (by decide) (hall _ (by decide))
  have o2 := hM.done 2 (by decide) (hall _ (by decide))
  have o3 := hM.done 3 (by decide) (hall _ (by decide))
  have p4 := hM.ps 4 (by decide) (by decide)
  have p5 := hM.ps 5 (by decide) (by decide)
  have p6 := hM.ps 6 (by decide) (by decide)
  have p7 := hM.ps 7 (by decide) (by decide)
  have sz := hM.sz
  have df := hM.df
  have sd : ∀ (a : Act) (d : Nat) (v : Value), a.tmps.size = 48 → (a.put (some d) v).tmps.size = 48 := fun a d v h => (put_size a d v).1.trans h
  simp only [List.drop_succ_cons, List.drop_zero]
  have keepT : ∀ (a : Act) (d i : Nat) (v u : Value), a.tmps.size = 48 → d < 48 → i ≠ d → a.tmps[i]? = some u → (a.put (some d) v).tmps[i]? = some u := fun a d i v u h1 h2 h3 h4 => by rw [put_tmps _ _ _ _ (by omega), if_neg h3]; exact h4
  have newT : ∀ (a : Act) (d : Nat) (v : Value), a.tmps.size = 48 → d < 48 → (a.put (some d) v).tmps[d]? = some v := fun a d v h1 h2 => by rw [put_tmps _ _ _ _ (by omega), if_pos rfl]
  have u0 := o0.1
  have u1 := o1.1
  have u2 := o2.1
  have u3 := o3.1
  simp only [Nat.mul_zero, Nat.zero_add, Nat.reduceMul, Nat.reduceAdd] at u0 u1 u2 u3
  refine nil_step (ad := ⟨bb, 0, none⟩) p4 ?_
  obtain ⟨a1, ha1⟩ : ∃ x, a.put (some 40) (.pointer (some ⟨bb, 0, none⟩)) = x := ⟨_, rfl⟩
  have z1 : a1.tmps.size = 48 := by rw [← ha1]; exact sd _ _ _ sz
  have df1 : a1.defers = [] := by rw [← ha1]; exact (put_size _ _ _).2.trans df
  have p4_1 := keepT _ 40 4 (.pointer (some ⟨bb, 0, none⟩)) _ sz (by decide) (by decide) p4
  rw [ha1] at p4_1
  have p5_1 := keepT _ 40 5 (.pointer (some ⟨bb, 0, none⟩)) _ sz (by decide) (by decide) p5
  rw [ha1] at p5_1
  have p6_1 := keepT _ 40 6 (.pointer (some ⟨bb, 0, none⟩)) _ sz (by decide) (by decide) p6
  rw [ha1] at p6_1
  have p7_1 := keepT _ 40 7 (.pointer (some ⟨bb, 0, none⟩)) _ sz (by decide) (by decide) p7
  rw [ha1] at p7_1
  have u0_1 := keepT _ 40 15 (.pointer (some ⟨bb, 0, none⟩)) _ sz (by decide) (by decide) u0
  rw [ha1] at u0_1
  have u1_1 := keepT _ 40 23 (.pointer (some ⟨bb, 0, none⟩)) _ sz (by decide) (by decide) u1
  rw [ha1] at u1_1
  have u2_1 := keepT _ 40 31 (.pointer (some ⟨bb, 0, none⟩)) _ sz (by decide) (by decide) u2
  rw [ha1] at u2_1
  have u3_1 := keepT _ 40 39 (.pointer (some ⟨bb, 0, none⟩)) _ sz (by decide) (by decide) u3
  rw [ha1] at u3_1
  have n1 := newT _ 40 (.pointer (some ⟨bb, 0, none⟩)) sz (by decide)
  rw [ha1] at n1
  rw [ha1]
  refine field_step0 (bb := bb) n1 ?_
  obtain ⟨a2, ha2⟩ : ∃ x, a1.put (some 41) (.pointer (some ⟨bb, 0, none⟩)) = x := ⟨_, rfl⟩
  have z2 : a2.tmps.size = 48 := by rw [← ha2]; exact sd _ _ _ z1
  have df2 : a2.defers = [] := by rw [← ha2]; exact (put_size _ _ _).2.trans df1
  have p5_2 := keepT _ 41 5 (.pointer (some ⟨bb, 0, none⟩)) _ z1 (by decide) (by decide) p5_1
  rw [ha2] at p5_2
  have p6_2 := keepT _ 41 6 (.pointer (some ⟨bb, 0, none⟩)) _ z1 (by decide) (by decide) p6_1
  rw [ha2] at p6_2
  have p7_2 := keepT _ 41 7 (.pointer (some ⟨bb, 0, none⟩)) _ z1 (by decide) (by decide) p7_1
  rw [ha2] at p7_2
  have u0_2 := keepT _ 41 15 (.pointer (some ⟨bb, 0, none⟩)) _ z1 (by decide) (by decide) u0_1
  rw [ha2] at u0_2
  have u1_2 := keepT _ 41 23 (.pointer (some ⟨bb, 0, none⟩)) _ z1 (by decide) (by decide) u1_1
  rw [ha2] at u1_2
  have u2_2 := keepT _ 41 31 (.pointer (some ⟨bb, 0, none⟩)) _ z1 (by decide) (by decide) u2_1
  rw [ha2] at u2_2
  have u3_2 := keepT _ 41 39 (.pointer (some ⟨bb, 0, none⟩)) _ z1 (by decide) (by decide) u3_1
  rw [ha2] at u3_2
  have n2 := newT _ 41 (.pointer (some ⟨bb, 0, none⟩)) z1 (by decide)
  rw [ha2] at n2
  rw [ha2]
  refine store_step (v := r 0) (u := v 0) (bb := bb) n2 u0_2 (own_slice o0.2) (c1 0) (f1 0) ?_
  refine nil_step (ad := ⟨bb, 0, none⟩) p5_2 ?_
  obtain ⟨a3, ha3⟩ : ∃ x, a2.put (some 42) (.pointer (some ⟨bb, 0, none⟩)) = x := ⟨_, rfl⟩
  have z3 : a3.tmps.size = 48 := by rw [← ha3]; exact sd _ _ _ z2
  have df3 : a3.defers = [] := by rw [← ha3]; exact (put_size _ _ _).2.trans df2
  have p5_3 := keepT _ 42 5 (.pointer (some ⟨bb, 0, none⟩)) _ z2 (by decide) (by decide) p5_2
  rw [ha3] at p5_3
  have p6_3 := keepT _ 42 6 (.pointer (some ⟨bb, 0, none⟩)) _ z2 (by decide) (by decide) p6_2
  rw [ha3] at p6_3
  have p7_3 := keepT _ 42 7 (.pointer (some ⟨bb, 0, none⟩)) _ z2 (by decide) (by decide) p7_2
  rw [ha3] at p7_3
  have u1_3 := keepT _ 42 23 (.pointer (some ⟨bb, 0, none⟩)) _ z2 (by decide) (by decide) u1_2
  rw [ha3] at u1_3
  have u2_3 := keepT _ 42 31 (.pointer (some ⟨bb, 0, none⟩)) _ z2 (by decide) (by decide) u2_2
  rw [ha3] at u2_3
  have u3_3 := keepT _ 42 39 (.pointer (some ⟨bb, 0, none⟩)) _ z2 (by decide) (by decide) u3_2
  rw [ha3] at u3_3
  have n3 := newT _ 42 (.pointer (some ⟨bb, 0, none⟩)) z2 (by decide)
  rw [ha3] at n3
  rw [ha3]
  refine field_step1 (bb := bb) n3 ?_
  obtain ⟨a4, ha4⟩ : ∃ x, a3.put (some 43) (.pointer (some ⟨bb, 1, none⟩)) = x := ⟨_, rfl⟩
  have z4 : a4.tmps.size = 48 := by rw [← ha4]; exact sd _ _ _ z3
  have df4 : a4.defers = [] := by rw [← ha4]; exact (put_size _ _ _).2.trans df3
  have p6_4 := keepT _ 43 6 (.pointer (some ⟨bb, 1, none⟩)) _ z3 (by decide) (by decide) p6_3
  rw [ha4] at p6_4
  have p7_4 := keepT _ 43 7 (.pointer (some ⟨bb, 1, none⟩)) _ z3 (by decide) (by decide) p7_3
  rw [ha4] at p7_4
  have u1_4 := keepT _ 43 23 (.pointer (some ⟨bb, 1, none⟩)) _ z3 (by decide) (by decide) u1_3
  rw [ha4] at u1_4
  have u2_4 := keepT _ 43 31 (.pointer (some ⟨bb, 1, none⟩)) _ z3 (by decide) (by decide) u2_3
  rw [ha4] at u2_4
  have u3_4 := keepT _ 43 39 (.pointer (some ⟨bb, 1, none⟩)) _ z3 (by decide) (by decide) u3_3
  rw [ha4] at u3_4
  have n4 := newT _ 43 (.pointer (some ⟨bb, 1, none⟩)) z3 (by decide)
  rw [ha4] at n4
  rw [ha4]
  refine store_step (v := r 1) (u := v 1) (bb := bb) n4 u1_4 (own_slice o1.2) (by rw [World.cell?_setCell_other _ _ _ _ (by simp)]; exact c1 1) (by simp only [World.frozen?_setCell]; exact f1 1) ?_
  refine nil_step (ad := ⟨bb, 0, none⟩) p6_4 ?_
  obtain ⟨a5, ha5⟩ : ∃ x, a4.put (some 44) (.pointer (some ⟨bb, 0, none⟩)) = x := ⟨_, rfl⟩
  have z5 : a5.tmps.size = 48 := by rw [← ha5]; exact sd _ _ _ z4
  have df5 : a5.defers = [] := by rw [← ha5]; exact (put_size _ _ _).2.trans df4
  have p6_5 := keepT _ 44 6 (.pointer (some ⟨bb, 0, none⟩)) _ z4 (by decide) (by decide) p6_4
  rw [ha5] at p6_5
  have p7_5 := keepT _ 44 7 (.pointer (some ⟨bb, 0, none⟩)) _ z4 (by decide) (by decide) p7_4
  rw [ha5] at p7_5
  have u2_5 := keepT _ 44 31 (.pointer (some ⟨bb, 0, none⟩)) _ z4 (by decide) (by decide) u2_4
  rw [ha5] at u2_5
  have u3_5 := keepT _ 44 39 (.pointer (some ⟨bb, 0, none⟩)) _ z4 (by decide) (by decide) u3_4
  rw [ha5] at u3_5
  have n5 := newT _ 44 (.pointer (some ⟨bb, 0, none⟩)) z4 (by decide)
  rw [ha5] at n5
  rw [ha5]
  refine field_step2 (bb := bb) n5 ?_
  obtain ⟨a6, ha6⟩ : ∃ x, a5.put (some 45) (.pointer (some ⟨bb, 2, none⟩)) = x := ⟨_, rfl⟩
  have z6 : a6.tmps.size = 48 := by rw [← ha6]; exact sd _ _ _ z5
  have df6 : a6.defers = [] := by rw [← ha6]; exact (put_size _ _ _).2.trans df5
  have p7_6 := keepT _ 45 7 (.pointer (some ⟨bb, 2, none⟩)) _ z5 (by decide) (by decide) p7_5
  rw [ha6] at p7_6
  have u2_6 := keepT _ 45 31 (.pointer (some ⟨bb, 2, none⟩)) _ z5 (by decide) (by decide) u2_5
  rw [ha6] at u2_6
  have u3_6 := keepT _ 45 39 (.pointer (some ⟨bb, 2, none⟩)) _ z5 (by decide) (by decide) u3_5
  rw [ha6] at u3_6
  have n6 := newT _ 45 (.pointer (some ⟨bb, 2, none⟩)) z5 (by decide)
  rw [ha6] at n6
  rw [ha6]
  refine store_step (v := r 2) (u := v 2) (bb := bb) n6 u2_6 (own_slice o2.2) (by rw [World.cell?_setCell_other _ _ _ _ (by simp)]; rw [World.cell?_setCell_other _ _ _ _ (by simp)]; exact c1 2) (by simp only [World.frozen?_setCell]; exact f1 2) ?_
  refine nil_step (ad := ⟨bb, 0, none⟩) p7_6 ?_
  obtain ⟨a7, ha7⟩ : ∃ x, a6.put (some 46) (.pointer (some ⟨bb, 0, none⟩)) = x := ⟨_, rfl⟩
  have z7 : a7.tmps.size = 48 := by rw [← ha7]; exact sd _ _ _ z6
  have df7 : a7.defers = [] := by rw [← ha7]; exact (put_size _ _ _).2.trans df6
  have p7_7 := keepT _ 46 7 (.pointer (some ⟨bb, 0, none⟩)) _ z6 (by decide) (by decide) p7_6
  rw [ha7] at p7_7
  have u3_7 := keepT _ 46 39 (.pointer (some ⟨bb, 0, none⟩)) _ z6 (by decide) (by decide) u3_6
  rw [ha7] at u3_7
  have n7 := newT _ 46 (.pointer (some ⟨bb, 0, none⟩)) z6 (by decide)
  rw [ha7] at n7
  rw [ha7]
  refine field_step3 (bb := bb) n7 ?_
  obtain ⟨a8, ha8⟩ : ∃ x, a7.put (some 47) (.pointer (some ⟨bb, 3, none⟩)) = x := ⟨_, rfl⟩
  have z8 : a8.tmps.size = 48 := by rw [← ha8]; exact sd _ _ _ z7
  have df8 : a8.defers = [] := by rw [← ha8]; exact (put_size _ _ _).2.trans df7
  have u3_8 := keepT _ 47 39 (.pointer (some ⟨bb, 3, none⟩)) _ z7 (by decide) (by decide) u3_7
  rw [ha8] at u3_8
  have n8 := newT _ 47 (.pointer (some ⟨bb, 3, none⟩)) z7 (by decide)
  rw [ha8] at n8
  rw [ha8]
  refine store_step (v := r 3) (u := v 3) (bb := bb) n8 u3_8 (own_slice o3.2) (by rw [World.cell?_setCell_other _ _ _ _ (by simp)]; rw [World.cell?_setCell_other _ _ _ _ (by simp)]; rw [World.cell?_setCell_other _ _ _ _ (by simp)]; exact c1 3) (by simp only [World.frozen?_setCell]; exact f1 3) ?_
  refine NoPanic.normal ?_
  exact bodyPost_end (results_none rfl _ _ _) df8 hP
end Go.Proofs.YthjmdagonfeneaaGreat.G
