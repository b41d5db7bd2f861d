/- Gas: the plain law of kilomoles: what was there and was injected is what is there and went out. -/
import Derived.Test.YtgmbolagciaenaaPly
set_option linter.unusedVariables false
set_option linter.unusedSimpArgs false
namespace Gas
def sumTo (f : Nat → Int) : Nat → Int
  | 0 => 0
  | k + 1 => sumTo f k + f k
theorem sumTo_bd {f : Nat → Int} {n : Nat} {B : Int} (h : ∀ i, i < n → 0 ≤ f i ∧ f i ≤ B) : ∀ k : Nat, k ≤ n → 0 ≤ sumTo f k ∧ sumTo f k ≤ B * (k : Int)
  | 0, _ => by simp [sumTo]
  | k + 1, hk => by
    have ih := sumTo_bd h k (by omega)
    have := h k (by omega)
    have e : B * ((k + 1 : Nat) : Int) = B * (k : Int) + B := by rw [Int.natCast_add, Int.mul_add]; simp
    rw [e]
    simp only [sumTo]
    omega
def lgAt (l : List Op) (k : Nat) : Int := (theOp l k).lg
def lyAt (l : List Op) (k : Nat) : Int := (theOp l k).ly
def lwAt (l : List Op) (b : List Int) (k : Nat) : Int := (theOp l k).lw + at0 b k
def mAt (l : List Op) (k : Nat) : Int := (theOp l k).moles
/-- The bounds of what comes in with an operation. -/
theorem op_bd {o : Op} {v : Int} (ho : o.Is) (hv : o.wlo ≤ v ∧ v ≤ o.whi) : (0 ≤ o.lg ∧ o.lg ≤ 1000000) ∧ (0 ≤ o.ly ∧ o.ly ≤ 1000000) ∧ (0 ≤ o.lw ∧ o.lw ≤ 1000000000) ∧ (0 ≤ v ∧ v ≤ 1000000) ∧ (0 ≤ o.moles ∧ o.moles ≤ 2000000) := by
  cases ho with
  | inject p h => have := h.g; have := h.y; have := h.w; simp only at hv ⊢; omega
  | withdraw m h => simp only at hv ⊢; omega
  | rest a b x y h k => simp only at hv ⊢; omega
theorem one_bal {c : Cav} {q x g : Pt} {o : Op} {u v : Int} (ho : o.Is) (hv : o.wlo ≤ v ∧ v ≤ o.whi) (h : one c q o u v = some (x, g)) :
    x.g + g.g = q.g + o.lg ∧ x.y + g.y = q.y + o.ly ∧ x.w + g.w = q.w + (o.lw + v) ∧ g.g + g.y = o.moles := by
  cases ho with
  | inject l hl =>
    simp only [one, if_true] at h
    split at h
    · simp only [Option.some.injEq, Prod.mk.injEq] at h
      obtain ⟨rfl, rfl⟩ := h
      simp only [inject, Op.lot] at hv ⊢
      omega
    · cases h
  | withdraw m hm =>
    simp only [one] at h
    rw [if_neg (by decide), if_pos trivial] at h
    split at h
    · simp only [Option.some.injEq, Prod.mk.injEq] at h
      obtain ⟨rfl, rfl⟩ := h
      simp only [left, out] at hv ⊢
      omega
    · cases h
  | rest a b x' y ha hx =>
    simp only [one] at h
    rw [if_neg (by decide), if_neg (by decide)] at h
    split at h
    · simp only [Option.some.injEq, Prod.mk.injEq] at h
      obtain ⟨rfl, rfl⟩ := h
      refine ⟨?_, ?_, ?_, ?_⟩ <;> simp [Gas.rest] <;> omega
    · cases h
theorem truth_wet {l : List Op} {a b : List Int} (ht : truthB l a b = true) {k : Nat} (hk : k < l.length) : (theOp l k).wlo ≤ at0 b k ∧ at0 b k ≤ (theOp l k).whi := by
  have := (truth_iff.1 ht).2.2 k hk
  simp only [trueAt, Bool.and_eq_true, inB_iff] at this
  exact this.2
theorem play_bal {c : Cav} {p : Pt} {l : List Op} {a b : List Int} (ho : opsB l = true) (ht : truthB l a b = true) : ∀ (k : Nat) (q s : Pt), k ≤ l.length → playTo c p l a b k = some (q, s) →
    q.g + s.g = p.g + sumTo (lgAt l) k ∧ q.y + s.y = p.y + sumTo (lyAt l) k ∧ q.w + s.w = p.w + sumTo (lwAt l b) k ∧ s.g + s.y = sumTo (mAt l) k := by
  intro k
  induction k with
  | zero =>
    intro q s _ h
    simp only [playTo, Option.some.injEq, Prod.mk.injEq] at h
    obtain ⟨rfl, rfl⟩ := h
    simp [sumTo]
  | succ k ih =>
    intro q s hk h
    cases hpk : playTo c p l a b k with
    | none => simp only [playTo, hpk] at h; cases h
    | some r =>
      obtain ⟨q', s'⟩ := r
      obtain ⟨i1, i2, i3, i4⟩ := ih q' s' (by omega) hpk
      rw [playTo_next hpk] at h
      cases h1 : one c q' (theOp l k) (at0 a k) (at0 b k) with
      | none => rw [h1] at h; cases h
      | some r1 =>
        obtain ⟨x, g⟩ := r1
        rw [h1] at h
        simp only [Option.some.injEq, Prod.mk.injEq] at h
        obtain ⟨rfl, rfl⟩ := h
        obtain ⟨k1, k2, k3, k4⟩ := one_bal (Op.ok_is (opsB_iff.1 ho k (by omega))) (truth_wet ht (by omega)) h1
        simp only [addPt, sumTo, lgAt, lyAt, lwAt, mAt]
        omega
/-- What the loop of the law reckons. -/
structure BalOk (p : Pt) (l : List Op) (b : List Int) (sm : Pt) (n : Nat) : Prop where
  g : ∀ k, k < n → (0 ≤ lgAt l k ∧ lgAt l k ≤ 1000000) ∧ -30000000 ≤ p.g - sm.g + sumTo (lgAt l) k ∧ p.g - sm.g + sumTo (lgAt l) k ≤ 30000000
  y : ∀ k, k < n → (0 ≤ lyAt l k ∧ lyAt l k ≤ 1000000) ∧ -30000000 ≤ p.y - sm.y + sumTo (lyAt l) k ∧ p.y - sm.y + sumTo (lyAt l) k ≤ 30000000
  w : ∀ k, k < n → (0 ≤ (theOp l k).lw ∧ (theOp l k).lw ≤ 1000000000) ∧ (0 ≤ at0 b k ∧ at0 b k ≤ 1000000) ∧ -30000000000 ≤ p.w - sm.w + sumTo (lwAt l b) k ∧ p.w - sm.w + sumTo (lwAt l b) k ≤ 30000000000
  m : ∀ k, k < n → (0 ≤ mAt l k ∧ mAt l k ≤ 2000000) ∧ 0 ≤ sumTo (mAt l) k ∧ sumTo (mAt l) k ≤ 30000000
theorem bal_ok {c : Cav} {p q sm : Pt} {l : List Op} {a b : List Int} (hp : p.Ok) (hlen : l.length ≤ 12) (ho : opsB l = true) (ht : truthB l a b = true) (h : play c p l a b = some (q, sm)) : BalOk p l b sm l.length := by
  have hs := playTo_ok hp ho l.length q sm (Nat.le_refl _) h
  have hbd : ∀ k, k < l.length → _ := fun k hk => op_bd (Op.ok_is (opsB_iff.1 ho k hk)) (truth_wet ht hk)
  have hg := sumTo_bd (f := lgAt l) (n := l.length) (B := 1000000) (fun k hk => (hbd k hk).1)
  have hy := sumTo_bd (f := lyAt l) (n := l.length) (B := 1000000) (fun k hk => (hbd k hk).2.1)
  have hw := sumTo_bd (f := lwAt l b) (n := l.length) (B := 1001000000) (fun k hk => by have := (hbd k hk).2.2.1; have := (hbd k hk).2.2.2.1; simp only [lwAt]; omega)
  have hm := sumTo_bd (f := mAt l) (n := l.length) (B := 2000000) (fun k hk => (hbd k hk).2.2.2.2)
  have h1 := hp.g; have h2 := hp.y; have h3 := hp.w
  have h4 := hs.g; have h5 := hs.y; have h6 := hs.w
  refine ⟨fun k hk => ⟨(hbd k hk).1, ?_⟩, fun k hk => ⟨(hbd k hk).2.1, ?_⟩, fun k hk => ⟨(hbd k hk).2.2.1, (hbd k hk).2.2.2.1, ?_⟩, fun k hk => ⟨(hbd k hk).2.2.2.2, ?_⟩⟩
  · have := hg k (by omega); omega
  · have := hy k (by omega); omega
  · have := hw k (by omega); omega
  · have := hm k (by omega); omega
end Gas
