/- Gas: the plain laws of room and purity. Gas: the plain law of purity. Gas: the plain laws of room: what is injected, or taken out, within the room breaks no rule. -/
import Derived.Test.YtgmbolagciaenaaMpl
import Derived.Test.YtgmbolagciaenaaPly
set_option linter.unusedVariables false
set_option linter.unusedSimpArgs false
namespace Gas
def lotsOp (l : Pt) (n : Int) : Op := ⟨1, n * l.g, n * l.y, l.t, n * l.w, 0, 0, 0, 0, 0⟩
def unitOp (u n : Int) : Op := ⟨2, 0, 0, 0, 0, n * u, 0, 0, 0, 0⟩
def fineOp (c : Cav) (s : St) (o : Op) : Bool := match act c s o with
  | some (x, _) => decide (sure c x = 1)
  | none => false
def pureOp (c : Cav) (s : St) (o : Op) : Bool := match act c s o with
  | some (x, _) => !thin c x && !rich c x
  | none => false
/-- The greatest number so that all up to it hold. -/
def upTo (p : Nat → Bool) : Nat → Nat → Nat
  | 0, k => k
  | f + 1, k => if p (k + 1) = true then upTo p f (k + 1) else k
theorem upTo_run {p : Nat → Bool} : ∀ (m f k : Nat), (∀ j, k < j → j ≤ k + m → p j = true) → upTo p (m + f) k = upTo p f (k + m)
  | 0, f, k, _ => by simp
  | m + 1, f, k, h => by
    rw [show m + 1 + f = (m + f) + 1 by omega]
    simp only [upTo]
    rw [if_pos (h (k + 1) (by omega) (by omega)), upTo_run m f (k + 1) (fun j h1 h2 => h j (by omega) (by omega)), show k + 1 + m = k + (m + 1) by omega]
def roomOf (p : Nat → Bool) : Nat := upTo p 100 0
theorem roomOf_stop {p : Nat → Bool} {k : Nat} (hk : k < 100) (h : ∀ j, 0 < j → j ≤ k → p j = true) (hn : p (k + 1) = false) : roomOf p = k := by
  unfold roomOf
  rw [show 100 = k + ((99 - k) + 1) by omega, upTo_run k _ 0 (fun j h1 h2 => h j h1 (by omega))]
  simp [upTo, hn]
theorem roomOf_all {p : Nat → Bool} (h : ∀ j, 0 < j → j ≤ 100 → p j = true) : roomOf p = 100 := by
  unfold roomOf
  rw [show 100 = 100 + 0 by omega, upTo_run 100 0 0 (fun j h1 h2 => h j h1 (by omega))]
  rfl
theorem upTo_spec {p : Nat → Bool} : ∀ (f k : Nat), k ≤ upTo p f k ∧ upTo p f k ≤ k + f ∧ (∀ j, k < j → j ≤ upTo p f k → p j = true) ∧ (upTo p f k < k + f → p (upTo p f k + 1) = false)
  | 0, k => by simp [upTo]; intro j h1 h2; omega
  | f + 1, k => by
    simp only [upTo]
    by_cases e : p (k + 1) = true
    · rw [if_pos e]
      obtain ⟨h1, h2, h3, h4⟩ := upTo_spec (p := p) f (k + 1)
      refine ⟨by omega, by omega, fun j h5 h6 => ?_, fun h => h4 (by omega)⟩
      by_cases e2 : j = k + 1
      · rw [e2]; exact e
      · exact h3 j (by omega) h6
    · rw [if_neg e]
      refine ⟨by omega, by omega, fun j h1 h2 => by omega, fun _ => by simpa using e⟩
theorem roomOf_spec (p : Nat → Bool) : roomOf p ≤ 100 ∧ (∀ j, 0 < j → j ≤ roomOf p → p j = true) ∧ (roomOf p < 100 → p (roomOf p + 1) = false) := by
  obtain ⟨_, h2, h3, h4⟩ := upTo_spec (p := p) 100 0
  exact ⟨by unfold roomOf; omega, h3, fun h => h4 (by unfold roomOf at h; omega)⟩
/-- The first number that holds. -/
def firstFrom (p : Nat → Bool) : Nat → Nat → Option Nat
  | 0, _ => none
  | f + 1, k => if p k = true then some k else firstFrom p f (k + 1)
theorem firstFrom_run {p : Nat → Bool} : ∀ (m f k : Nat), (∀ j, k ≤ j → j < k + m → p j = false) → firstFrom p (m + f) k = firstFrom p f (k + m)
  | 0, f, k, _ => by simp
  | m + 1, f, k, h => by
    rw [show m + 1 + f = (m + f) + 1 by omega]
    simp only [firstFrom]
    rw [if_neg (by rw [h k (by omega) (by omega)]; simp), firstFrom_run m f (k + 1) (fun j h1 h2 => h j (by omega) (by omega)), show k + 1 + m = k + (m + 1) by omega]
def purgeOf (p : Nat → Bool) : Option Nat := firstFrom p 101 0
theorem purgeOf_some {p : Nat → Bool} {k : Nat} (hk : k < 101) (h : ∀ j, j < k → p j = false) (hp : p k = true) : purgeOf p = some k := by
  unfold purgeOf
  rw [show 101 = k + ((100 - k) + 1) by omega, firstFrom_run k _ 0 (fun j _ h2 => h j (by omega))]
  simp [firstFrom, hp]
theorem purgeOf_none {p : Nat → Bool} (h : ∀ j, j < 101 → p j = false) : purgeOf p = none := by
  unfold purgeOf
  rw [show 101 = 101 + 0 by omega, firstFrom_run 101 0 0 (fun j _ h2 => h j (by omega))]
  rfl
theorem purgeOf_spec {p : Nat → Bool} {k : Nat} (h : purgeOf p = some k) : k < 101 ∧ p k = true ∧ ∀ j, j < k → p j = false := by
  have key : ∀ n, n ≤ 101 → (∀ j, j < n → p j = false) ∨ ∃ m, m < n ∧ p m = true ∧ ∀ j, j < m → p j = false := by
    intro n
    induction n with
    | zero => intro _; exact .inl fun j h => by omega
    | succ n ih =>
      intro hn
      rcases ih (by omega) with h1 | ⟨m, h1, h2, h3⟩
      · cases e : p n
        · refine .inl fun j hj => ?_
          by_cases e2 : j = n
          · rw [e2]; exact e
          · exact h1 j (by omega)
        · exact .inr ⟨n, by omega, e, h1⟩
      · exact .inr ⟨m, by omega, h2, h3⟩
  rcases key 101 (Nat.le_refl _) with h1 | ⟨m, h1, h2, h3⟩
  · rw [purgeOf_none h1] at h; cases h
  · rw [purgeOf_some h1 h3 h2] at h
    cases h
    exact ⟨h1, h2, h3⟩
theorem lots_wide {l : Pt} {n : Nat} (hl : l.Ok) (hn : n ≤ 100) : (lotsOp l n).lot.Wide := by
  have h1 := hl.g; have h2 := hl.y; have h3 := hl.w
  have e1 : (n : Int) * l.g ≤ 100 * 1000000 := Int.le_trans (mul_up (by omega) h1.1) (mul_up2 h1.2 (by omega))
  have e2 : (n : Int) * l.y ≤ 100 * 1000000 := Int.le_trans (mul_up (by omega) h2.1) (mul_up2 h2.2 (by omega))
  have e3 : (n : Int) * l.w ≤ 100 * 1000000000 := Int.le_trans (mul_up (by omega) h3.1) (mul_up2 h3.2 (by omega))
  exact ⟨⟨mul_nn (by omega) h1.1, by show (n : Int) * l.g ≤ 100000000; omega⟩, ⟨mul_nn (by omega) h2.1, by show (n : Int) * l.y ≤ 100000000; omega⟩, hl.t, ⟨mul_nn (by omega) h3.1, by show (n : Int) * l.w ≤ 100000000000; omega⟩⟩
theorem lots_fit {l : Pt} {n : Nat} (hl : l.Ok) (hn : n ≤ 100) : (lotsOp l n).Fit := .inl ⟨rfl, lots_wide hl hn⟩
theorem unit_fit {u : Int} {n : Nat} (hu : 1 ≤ u ∧ u ≤ 1000000) (hn : n ≤ 100) : (unitOp u n).Fit := by
  have e1 : (n : Int) * u ≤ 100 * 1000000 := Int.le_trans (mul_up (by omega) (by omega)) (mul_up2 hu.2 (by omega))
  exact .inr (.inl ⟨rfl, mul_nn (by omega) (by omega), by show (n : Int) * u ≤ 100000000; omega⟩)
theorem act_ok_fit {c : Cav} {s n : St} {o : Op} {q : Out} (hc : c.Ok) (hs : s.Ok) (ho : o.Fit) (h : act c s o = some (n, q)) : n.Ok := by
  obtain ⟨k, lg, ly, lt, lw, m, a, b, x, y⟩ := o
  rcases ho with ⟨hk, hl⟩ | ⟨hk, h1, h2⟩ | ⟨hk, h1, h2⟩
  · have hk : k = 1 := hk
    subst hk
    have hl : (⟨lg, ly, lt, lw⟩ : Pt).Wide := hl
    simp only [act, if_true] at h
    split at h
    · rename_i hh
      simp only [Option.some.injEq, Prod.mk.injEq] at h
      obtain ⟨rfl, rfl⟩ := h
      exact inj_ok hc hs ⟨hl.g.1, hl.y.1, hl.w.1, hl.t.1, hl.t.2⟩ hh
    · cases h
  · have hk : k = 2 := hk
    subst hk
    simp only [act] at h
    rw [if_neg (by decide), if_pos trivial] at h
    split at h
    · rename_i hh
      simp only [Option.some.injEq, Prod.mk.injEq] at h
      obtain ⟨rfl, rfl⟩ := h
      exact left_ok hs h1 hh
    · cases h
  · have hk : k = 3 := hk
    subst hk
    simp only [act] at h
    rw [if_neg (by decide), if_neg (by decide)] at h
    split at h
    · rename_i hh
      simp only [Option.some.injEq, Prod.mk.injEq] at h
      obtain ⟨rfl, rfl⟩ := h
      exact rest_ok hc hs h1 ⟨h2.1, h2.2.1⟩ hh
    · cases h
end Gas
namespace Gas
theorem act_lotsE {c : Cav} {s : St} {l : Pt} {n : Int} : act c s (lotsOp l n) = if s.ghi + n * l.g ≤ 1000000 ∧ s.yhi + n * l.y ≤ 1000000 ∧ s.whi + n * l.w ≤ 1000000000 then some (injS c s ⟨n * l.g, n * l.y, l.t, n * l.w⟩, ⟨0, 0, 0, 0, 0, 0⟩) else none := by
  unfold act
  exact if_pos rfl
theorem act_lots {c : Cav} {s x : St} {l : Pt} {n : Int} {q : Out} (h : act c s (lotsOp l n) = some (x, q)) : (s.ghi + n * l.g ≤ 1000000 ∧ s.yhi + n * l.y ≤ 1000000 ∧ s.whi + n * l.w ≤ 1000000000) ∧
    x.glo = s.glo + n * l.g ∧ x.ghi = s.ghi + n * l.g ∧ x.ylo = s.ylo + n * l.y ∧ x.yhi = s.yhi + n * l.y := by
  rw [act_lotsE] at h
  by_cases hh : s.ghi + n * l.g ≤ 1000000 ∧ s.yhi + n * l.y ≤ 1000000 ∧ s.whi + n * l.w ≤ 1000000000
  · rw [if_pos hh] at h
    simp only [Option.some.injEq, Prod.mk.injEq] at h
    obtain ⟨rfl, rfl⟩ := h
    exact ⟨hh, rfl, rfl, rfl, rfl⟩
  · rw [if_neg hh] at h; cases h
theorem purged {c : Cav} {s : St} {l p : Pt} {k : Nat} (hc : c.Ok) (hs : s.Ok) (hl : l.Ok) (hp : s.Has p) (h : purgeOf (fun n : Nat => pureOp c s (lotsOp l (n : Int))) = some k) :
    k ≤ 100 ∧ ¬ 1000 * (p.y + (k : Int) * l.y) < c.plo * (p.g + p.y + (k : Int) * (l.g + l.y)) ∧ ¬ 1000 * (p.y + (k : Int) * l.y) > c.phi * (p.g + p.y + (k : Int) * (l.g + l.y)) ∧
    (k ≠ 0 → 1000 * (s.ylo + ((k : Int) - 1) * l.y) < c.plo * (s.ghi + ((k : Int) - 1) * l.g + (s.ylo + ((k : Int) - 1) * l.y)) ∨ 1000 * (s.yhi + ((k : Int) - 1) * l.y) > c.phi * (s.glo + ((k : Int) - 1) * l.g + (s.yhi + ((k : Int) - 1) * l.y))) := by
  obtain ⟨h1, h2, h3⟩ := purgeOf_spec h
  have q1 := hc.pur
  have e : p.g + p.y + (k : Int) * (l.g + l.y) = p.g + (k : Int) * l.g + (p.y + (k : Int) * l.y) := by rw [Int.mul_add]; omega
  rw [e]
  simp only [pureOp] at h2
  cases ha : act c s (lotsOp l (k : Int)) with
  | none => rw [ha] at h2; cases h2
  | some r =>
    obtain ⟨x, q⟩ := r
    rw [ha] at h2
    simp only [Bool.and_eq_true, Bool.not_eq_true'] at h2
    obtain ⟨hth, hri⟩ := h2
    obtain ⟨hfit, x1, x2, x3, x4⟩ := act_lots ha
    refine ⟨by omega, fun hlt => ?_, fun hgt => ?_, fun hk => ?_⟩
    · have : 1000 * x.ylo < c.plo * (x.ghi + x.ylo) := by
        rw [x2, x3]
        exact thin_up ⟨q1.1, by omega⟩ (by have := hp.g; omega) (by have := hp.y; omega) hlt
      unfold thin at hth
      exact of_decide_eq_false hth this
    · have : 1000 * x.yhi > c.phi * (x.glo + x.yhi) := by
        rw [x1, x4]
        exact rich_up ⟨by omega, q1.2.2⟩ (by have := hp.g; omega) (by have := hp.y; omega) hgt
      unfold rich at hri
      exact of_decide_eq_false hri this
    · have hb := h3 (k - 1) (by omega)
      have ek : ((k - 1 : Nat) : Int) = (k : Int) - 1 := by omega
      simp only [pureOp] at hb
      rw [ek] at hb
      have m1 : ((k : Int) - 1) * l.g ≤ (k : Int) * l.g := mul_up (by omega) hl.g.1
      have m2 : ((k : Int) - 1) * l.y ≤ (k : Int) * l.y := mul_up (by omega) hl.y.1
      have m3 : ((k : Int) - 1) * l.w ≤ (k : Int) * l.w := mul_up (by omega) hl.w.1
      cases hb2 : act c s (lotsOp l ((k : Int) - 1)) with
      | none =>
        rw [act_lotsE] at hb2
        rw [if_pos ⟨by omega, by omega, by omega⟩] at hb2
        cases hb2
      | some r =>
        obtain ⟨y, q2⟩ := r
        rw [hb2] at hb
        simp only at hb
        obtain ⟨_, y1, y2, y3, y4⟩ := act_lots hb2
        cases ht : thin c y
        · cases hr : rich c y
          · rw [ht, hr] at hb; cases hb
          · right
            unfold rich at hr
            have := of_decide_eq_true hr
            rw [y1, y4] at this
            exact this
        · left
          unfold thin at ht
          have := of_decide_eq_true ht
          rw [y2, y3] at this
          exact this
theorem pmul {a x M : Int} (ha : 0 ≤ a ∧ a ≤ 1000) (hx : 0 ≤ x ∧ x ≤ M) : 0 ≤ a * x ∧ a * x ≤ 1000 * M :=
  ⟨mul_nn ha.1 hx.1, Int.le_trans (mul_up ha.2 hx.1) (mul_up2 hx.2 (by omega))⟩
theorem kmul {k x : Int} (hk : 0 ≤ k ∧ k ≤ 100) (hx : 0 ≤ x ∧ x ≤ 1000000) : 0 ≤ k * x ∧ k * x ≤ 100000000 := by
  have := mul_nn hk.1 hx.1
  have h1 : k * x ≤ 100 * x := mul_up hk.2 hx.1
  omega
end Gas
namespace Gas
theorem fineOp_some {c : Cav} {s : St} {o : Op} (h : fineOp c s o = true) : ∃ x q, act c s o = some (x, q) ∧ sure c x = 1 := by
  unfold fineOp at h
  cases ha : act c s o with
  | none => rw [ha] at h; cases h
  | some r =>
    obtain ⟨x, q⟩ := r
    rw [ha] at h
    exact ⟨x, q, rfl, of_decide_eq_true h⟩
theorem lots_is {c : Cav} {s x : St} {l : Pt} {n : Nat} {q : Out} (hs : s.Ok) (hl : l.Ok) (h : act c s (lotsOp l (n : Int)) = some (x, q)) : (lotsOp l (n : Int)).Is := by
  obtain ⟨⟨h1, h2, h3⟩, _⟩ := act_lots h
  have a1 := hs.g; have a2 := hs.y; have a3 := hs.w
  have b1 := mul_nn (a := (n : Int)) (b := l.g) (by omega) hl.g.1
  have b2 := mul_nn (a := (n : Int)) (b := l.y) (by omega) hl.y.1
  have b3 := mul_nn (a := (n : Int)) (b := l.w) (by omega) hl.w.1
  exact Op.Is.inject ⟨(n : Int) * l.g, (n : Int) * l.y, l.t, (n : Int) * l.w⟩ ⟨⟨b1, by show (n : Int) * l.g ≤ 1000000; omega⟩, ⟨b2, by show (n : Int) * l.y ≤ 1000000; omega⟩, hl.t, ⟨b3, by show (n : Int) * l.w ≤ 1000000000; omega⟩⟩
theorem act_unitE {c : Cav} {s : St} {u n : Int} : act c s (unitOp u n) = if n * u ≤ s.glo + s.ylo then some (leftS s (n * u), outS s (n * u)) else none := by
  unfold act
  exact (if_neg (show ¬ (2 : Int) = 1 by decide)).trans (if_pos rfl)
theorem unit_is {c : Cav} {s x : St} {u : Int} {n : Nat} {q : Out} (hs : s.Ok) (hu : 1 ≤ u) (h : act c s (unitOp u (n : Int)) = some (x, q)) : (unitOp u (n : Int)).Is := by
  rw [act_unitE] at h
  have a1 := hs.g; have a2 := hs.y
  have b1 := mul_nn (a := (n : Int)) (b := u) (by omega) (by omega)
  by_cases e : (n : Int) * u ≤ s.glo + s.ylo
  · exact Op.Is.withdraw ((n : Int) * u) ⟨b1, by omega⟩
  · rw [if_neg e] at h; cases h
/-- What the law calls kept. -/
theorem kept_plain {c : Cav} {s : St} {o : Op} {p : Pt} {v : Int} (hc : c.Ok) (hs : s.Ok) (ho : o.Is) (h0 : o.slo = 0 ∧ o.shi = 0 ∧ o.wlo = 0 ∧ o.whi = 0) (hp : s.Has p) (hv : c.vlo ≤ v ∧ v ≤ c.vhi) (h : fineOp c s o = true) :
    ∃ x g, play c p [o] [0] [0] = some (x, g) ∧ x.Ok ∧ keeps c x v = 1 ∧ opsB [o] = true ∧ truthB [o] [0] [0] = true := by
  obtain ⟨n, q, ha, hsu⟩ := fineOp_some h
  obtain ⟨h1, h2, h3, h4⟩ := h0
  obtain ⟨x, g, ho1, hx, _, hn⟩ := act_sound (u := 0) (v := 0) hc hs ho hp (by omega) (by omega) ha
  have hk := keeps_sure hc hn hx hv
  rw [hsu] at hk
  refine ⟨x, addPt ⟨0, 0, 0, 0⟩ g, ?_, hx.ok hn, ?_, ?_, ?_⟩
  · show (match one c p o 0 0 with | none => none | some (x, g) => some (x, addPt ⟨0, 0, 0, 0⟩ g)) = _
    rw [ho1]
  · rcases hk with hk | hk
    · exact hk
    · exact absurd rfl hk.1
  · simp [opsB, Op.is_ok ho]
  · refine truth_iff.2 ⟨rfl, rfl, fun k hk => ?_⟩
    obtain rfl : k = 0 := by simp at hk; omega
    show (inB 0 o.slo o.shi && inB 0 o.wlo o.whi) = true
    rw [h1, h2, h3, h4]; rfl
end Gas
