/- Laws and walks: GPly. -/
import Derived.Test.YthjmdagonfeneaaGreatK31
set_option maxRecDepth 100000
set_option maxHeartbeats 16000000
set_option linter.unusedVariables false
set_option linter.unusedSimpArgs false
namespace Gas
def addPt (s g : Pt) : Pt := ⟨s.g + g.g, s.y + g.y, 0, s.w + g.w⟩
def playTo (c : Cav) (p : Pt) (l : List Op) (a b : List Int) : Nat → Option (Pt × Pt)
 | 0 => some (p, ⟨0, 0, 0, 0⟩)
 | k + 1 => match playTo c p l a b k with
  | none => none
  | some (q, s) => match one c q (theOp l k) (at0 a k) (at0 b k) with
   | none => none
   | some (x, g) => some (x, addPt s g)
def play (c : Cav) (p : Pt) (l : List Op) (a b : List Int) : Option (Pt × Pt) := playTo c p l a b l.length
theorem playTo_none {c : Cav} {p : Pt} {l : List Op} {a b : List Int} {k : Nat} (h : playTo c p l a b k = none) : ∀ n, k ≤ n → playTo c p l a b n = none := by
 intro n hn
 induction n with
 | zero => obtain rfl : k = 0 := by omega
           exact h
 | succ n ih =>
  by_cases e : k = n + 1
  · rw [← e]; exact h
  · simp only [playTo, ih (by omega)]
theorem playTo_next {c : Cav} {p q s : Pt} {l : List Op} {a b : List Int} {k : Nat} (h : playTo c p l a b k = some (q, s)) : playTo c p l a b (k + 1) = match one c q (theOp l k) (at0 a k) (at0 b k) with
    | none => none
    | some (x, g) => some (x, addPt s g) := by simp only [playTo, h]
theorem playTo_step {c : Cav} {p q s x g : Pt} {l : List Op} {a b : List Int} {k : Nat} (h : playTo c p l a b k = some (q, s)) (h1 : one c q (theOp l k) (at0 a k) (at0 b k) = some (x, g)) : playTo c p l a b (k + 1) = some (x, addPt s g) := by
 rw [playTo_next h, h1]
theorem playTo_stop {c : Cav} {p q s : Pt} {l : List Op} {a b : List Int} {k : Nat} (h : playTo c p l a b k = some (q, s)) (h1 : one c q (theOp l k) (at0 a k) (at0 b k) = none) (hk : k < l.length) : play c p l a b = none := by
 refine playTo_none (k := k + 1) ?_ _ (by omega)
 rw [playTo_next h, h1]
theorem left_pt {q : Pt} {m : Int} (hq : q.Ok) (hm : 0 ≤ m) (h : m ≤ q.g + q.y) : (left q m).Ok := by
 have hs : St.Ok ⟨q.g, q.g, q.y, q.y, q.t, q.t, q.w, q.w⟩ := ⟨⟨hq.g.1, Int.le_refl _, hq.g.2⟩, ⟨hq.y.1, Int.le_refl _, hq.y.2⟩, ⟨hq.t.1, Int.le_refl _, hq.t.2⟩, ⟨hq.w.1, Int.le_refl _, hq.w.2⟩⟩
 have := left_ok (m := m) hs hm h
 exact ⟨⟨this.g.1, this.g.2.2⟩, ⟨this.y.1, this.y.2.2⟩, ⟨this.t.1, this.t.2.2⟩, ⟨this.w.1, this.w.2.2⟩⟩
theorem out_bd {q : Pt} {m : Int} (hq : q.Ok) (hm : 0 ≤ m) (h : m ≤ q.g + q.y) : (0 ≤ (out q m).g ∧ (out q m).g ≤ 2000000) ∧ (0 ≤ (out q m).y ∧ (out q m).y ≤ 2000000) ∧ (0 ≤ (out q m).w ∧ (out q m).w ≤ 1000000000) ∧ (out q m).t = 0 := by
 have h1 := hq.g; have h2 := hq.y; have h3 := hq.w
 have a := part_nn (m := m) (n := q.y) (all := q.g + q.y) hm h2.1 (by omega)
 have b := part_le_m (m := m) (n := q.y) (all := q.g + q.y) hm h2.1 (by omega)
 have d := part_nn (m := m) (n := q.w) (all := q.g + q.y) hm h3.1 (by omega)
 have e := part_le_n (m := m) (n := q.w) (all := q.g + q.y) hm h3.1 (by omega)
 refine ⟨⟨?_, ?_⟩, ⟨?_, ?_⟩, ⟨?_, ?_⟩, rfl⟩ <;> simp only [out] <;> omega
theorem one_ok {c : Cav} {q x g : Pt} {o : Op} {u v : Int} (hq : q.Ok) (ho : o.Is) (h : one c q o u v = some (x, g)) :
    x.Ok ∧ (0 ≤ g.g ∧ g.g ≤ 2000000) ∧ (0 ≤ g.y ∧ g.y ≤ 2000000) ∧ (0 ≤ g.w ∧ g.w ≤ 1000000000) ∧ g.t = 0 := by
 cases ho with
 | inject l hl =>
  simp only [one, if_true] at h
  split at h
  · rename_i hb
    simp only [Option.some.injEq, Prod.mk.injEq] at h
    obtain ⟨rfl, rfl⟩ := h
    exact ⟨Pt.ok_iff.1 hb, by decide, by decide, by decide, rfl⟩
  · cases h
 | withdraw m hm =>
  simp only [one] at h
  rw [if_neg (by decide), if_pos trivial] at h
  split at h
  · rename_i hb
    simp only [Option.some.injEq, Prod.mk.injEq] at h
    obtain ⟨rfl, rfl⟩ := h
    exact ⟨left_pt hq hm.1 hb, out_bd hq hm.1 hb⟩
  · cases h
 | rest a b x' y ha hx =>
  simp only [one] at h
  rw [if_neg (by decide), if_neg (by decide)] at h
  split at h
  · rename_i hb
    simp only [Option.some.injEq, Prod.mk.injEq] at h
    obtain ⟨rfl, rfl⟩ := h
    exact ⟨Pt.ok_iff.1 hb, by decide, by decide, by decide, rfl⟩
  · cases h
structure PlayOk (k : Nat) (q s : Pt) : Prop where
 q : q.Ok
 g : 0 ≤ s.g ∧ s.g ≤ 2000000 * (k : Int)
 y : 0 ≤ s.y ∧ s.y ≤ 2000000 * (k : Int)
 w : 0 ≤ s.w ∧ s.w ≤ 1000000000 * (k : Int)
 t : s.t = 0
theorem playTo_ok {c : Cav} {p : Pt} {l : List Op} {a b : List Int} (hp : p.Ok) (ho : opsB l = true) : ∀ (k : Nat) (q s : Pt), k ≤ l.length → playTo c p l a b k = some (q, s) → PlayOk k q s := by
 intro k
 induction k with
 | zero =>
  intro q s _ h
  simp only [playTo, Option.some.injEq, Prod.mk.injEq] at h
  obtain ⟨rfl, rfl⟩ := h
  exact ⟨hp, by decide, by decide, by decide, rfl⟩
 | succ k ih =>
  intro q s hk h
  cases hpk : playTo c p l a b k with
  | none => simp only [playTo, hpk] at h; cases h
  | some r =>
   obtain ⟨q', s'⟩ := r
   have hi := ih q' s' (by omega) hpk
   rw [playTo_next hpk] at h
   cases h1 : one c q' (theOp l k) (at0 a k) (at0 b k) with
   | none => rw [h1] at h; cases h
   | some r1 =>
    obtain ⟨x, g⟩ := r1
    rw [h1] at h
    simp only [Option.some.injEq, Prod.mk.injEq] at h
    obtain ⟨rfl, rfl⟩ := h
    obtain ⟨k1, k2, k3, k4, -⟩ := one_ok hi.q (Op.ok_is (opsB_iff.1 ho k (by omega))) h1
    have := hi.g; have := hi.y; have := hi.w
    refine ⟨k1, ⟨?_, ?_⟩, ⟨?_, ?_⟩, ⟨?_, ?_⟩, rfl⟩ <;> simp only [addPt] <;> omega
end Gas
