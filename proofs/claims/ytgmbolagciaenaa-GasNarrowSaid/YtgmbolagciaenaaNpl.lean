/- Gas: the plain law of narrow states: each end is reached by a content at the ends. -/
import Derived.Test.YtgmbolagciaenaaMpl
set_option linter.unusedVariables false
set_option linter.unusedSimpArgs false
namespace Gas
def foldLo (f : Nat → Int) : Nat → Int
  | 0 => f 0
  | k + 1 => if f (k + 1) < foldLo f k then f (k + 1) else foldLo f k
def foldHi (f : Nat → Int) : Nat → Int
  | 0 => f 0
  | k + 1 => if foldHi f k < f (k + 1) then f (k + 1) else foldHi f k
theorem foldLo_le (f : Nat → Int) : ∀ k j, j ≤ k → foldLo f k ≤ f j
  | 0, j, h => by obtain rfl : j = 0 := by omega
                  exact Int.le_refl _
  | k + 1, j, h => by
    simp only [foldLo]
    by_cases e : j = k + 1
    · subst e; split <;> omega
    · have := foldLo_le f k j (by omega)
      split <;> omega
theorem foldLo_ge {f : Nat → Int} {a : Int} : ∀ k, (∀ j, j ≤ k → a ≤ f j) → a ≤ foldLo f k
  | 0, h => h 0 (Nat.le_refl _)
  | k + 1, h => by
    have h1 := foldLo_ge k fun j hj => h j (by omega)
    have h2 := h (k + 1) (Nat.le_refl _)
    simp only [foldLo]; split <;> omega
theorem foldHi_ge (f : Nat → Int) : ∀ k j, j ≤ k → f j ≤ foldHi f k
  | 0, j, h => by obtain rfl : j = 0 := by omega
                  exact Int.le_refl _
  | k + 1, j, h => by
    simp only [foldHi]
    by_cases e : j = k + 1
    · subst e; split <;> omega
    · have := foldHi_ge f k j (by omega)
      split <;> omega
theorem foldHi_le {f : Nat → Int} {a : Int} : ∀ k, (∀ j, j ≤ k → f j ≤ a) → foldHi f k ≤ a
  | 0, h => h 0 (Nat.le_refl _)
  | k + 1, h => by
    have h1 := foldHi_le k fun j hj => h j (by omega)
    have h2 := h (k + 1) (Nat.le_refl _)
    simp only [foldHi]; split <;> omega
theorem lo_is {f : Nat → Int} {a : Int} (h : ∀ j, j ≤ 63 → a ≤ f j) (j : Nat) (hj : j ≤ 63) (he : f j = a) : foldLo f 63 = a := by
  have := foldLo_le f 63 j hj
  have := foldLo_ge 63 h
  omega
theorem hi_is {f : Nat → Int} {a : Int} (h : ∀ j, j ≤ 63 → f j ≤ a) (j : Nat) (hj : j ≤ 63) (he : f j = a) : foldHi f 63 = a := by
  have := foldHi_ge f 63 j hj
  have := foldHi_le 63 h
  omega
/-- An end of a span. -/
def endN (a b : Int) (n : Nat) : Int := if n % 2 = 1 then b else a
theorem endN_in {a b : Int} (h : a ≤ b) (n : Nat) : a ≤ endN a b n ∧ endN a b n ≤ b := by unfold endN; split <;> omega
def cornP (s : St) (n : Nat) : Pt := ⟨endN s.glo s.ghi n, endN s.ylo s.yhi (n / 2), endN s.tlo s.thi (n / 4), endN s.wlo s.whi (n / 8)⟩
def cornU (o : Op) (n : Nat) : Int := endN o.slo o.shi (n / 16)
def cornV (o : Op) (n : Nat) : Int := endN o.wlo o.whi (n / 32)
theorem corn_has {s : St} (hs : s.Ok) (n : Nat) : s.Has (cornP s n) := ⟨endN_in hs.g.2.1 _, endN_in hs.y.2.1 _, endN_in hs.t.2.1 _, endN_in hs.w.2.1 _⟩
theorem op_spans {o : Op} (h : o.Is) : o.slo ≤ o.shi ∧ o.wlo ≤ o.whi := by
  cases h with
  | inject p h => exact ⟨Int.le_refl _, Int.le_refl _⟩
  | withdraw m h => exact ⟨Int.le_refl _, Int.le_refl _⟩
  | rest a b x y h k => exact ⟨h.2.1, k.2.1⟩
/-- The content behind the operation, and what goes out, at an end. -/
def zAt (c : Cav) (s : St) (o : Op) (n : Nat) : Pt := match one c (cornP s n) o (cornU o n) (cornV o n) with
  | some (z, _) => z
  | none => ⟨0, 0, 0, 0⟩
def gAt (c : Cav) (s : St) (o : Op) (n : Nat) : Pt := match one c (cornP s n) o (cornU o n) (cornV o n) with
  | some (_, g) => g
  | none => ⟨0, 0, 0, 0⟩
theorem corn_one {c : Cav} {s x : St} {o : Op} {q : Out} (hc : c.Ok) (hs : s.Ok) (ho : o.Is) (h : act c s o = some (x, q)) (n : Nat) :
    one c (cornP s n) o (cornU o n) (cornV o n) = some (zAt c s o n, gAt c s o n) ∧ x.Has (zAt c s o n) ∧ q.Has (gAt c s o n) ∧ (zAt c s o n).Ok := by
  obtain ⟨h1, h2⟩ := op_spans ho
  obtain ⟨z, g, h3, h4, h5, h6⟩ := act_sound (u := cornU o n) (v := cornV o n) hc hs ho (corn_has hs n) (endN_in h1 _) (endN_in h2 _) h
  have e1 : zAt c s o n = z := by unfold zAt; rw [h3]
  have e2 : gAt c s o n = g := by unfold gAt; rw [h3]
  rw [e1, e2]
  exact ⟨h3, h4, h5, h4.ok h6⟩
def foldS (z : Nat → Pt) (k : Nat) : St := ⟨foldLo (fun i => (z i).g) k, foldHi (fun i => (z i).g) k, foldLo (fun i => (z i).y) k, foldHi (fun i => (z i).y) k, foldLo (fun i => (z i).t) k, foldHi (fun i => (z i).t) k, foldLo (fun i => (z i).w) k, foldHi (fun i => (z i).w) k⟩
def foldQ (z : Nat → Pt) (k : Nat) : Out := ⟨foldLo (fun i => (z i).g) k, foldHi (fun i => (z i).g) k, foldLo (fun i => (z i).y) k, foldHi (fun i => (z i).y) k, foldLo (fun i => (z i).w) k, foldHi (fun i => (z i).w) k⟩
/-- What reaches the ends. -/
theorem fold_is {x : St} {q : Out} {z g : Nat → Pt} (hz : ∀ n, x.Has (z n)) (hg : ∀ n, q.Has (g n))
    (z1 : ∃ j, j ≤ 63 ∧ (z j).g = x.glo) (z2 : ∃ j, j ≤ 63 ∧ (z j).g = x.ghi) (z3 : ∃ j, j ≤ 63 ∧ (z j).y = x.ylo) (z4 : ∃ j, j ≤ 63 ∧ (z j).y = x.yhi) (z5 : ∃ j, j ≤ 63 ∧ (z j).t = x.tlo) (z6 : ∃ j, j ≤ 63 ∧ (z j).t = x.thi) (z7 : ∃ j, j ≤ 63 ∧ (z j).w = x.wlo) (z8 : ∃ j, j ≤ 63 ∧ (z j).w = x.whi)
    (g1 : ∃ j, j ≤ 63 ∧ (g j).g = q.glo) (g2 : ∃ j, j ≤ 63 ∧ (g j).g = q.ghi) (g3 : ∃ j, j ≤ 63 ∧ (g j).y = q.ylo) (g4 : ∃ j, j ≤ 63 ∧ (g j).y = q.yhi) (g5 : ∃ j, j ≤ 63 ∧ (g j).w = q.wlo) (g6 : ∃ j, j ≤ 63 ∧ (g j).w = q.whi) : foldS z 63 = x ∧ foldQ g 63 = q := by
  obtain ⟨i1, j1, e1⟩ := z1; obtain ⟨i2, j2, e2⟩ := z2; obtain ⟨i3, j3, e3⟩ := z3; obtain ⟨i4, j4, e4⟩ := z4
  obtain ⟨i5, j5, e5⟩ := z5; obtain ⟨i6, j6, e6⟩ := z6; obtain ⟨i7, j7, e7⟩ := z7; obtain ⟨i8, j8, e8⟩ := z8
  obtain ⟨k1, l1, f1⟩ := g1; obtain ⟨k2, l2, f2⟩ := g2; obtain ⟨k3, l3, f3⟩ := g3; obtain ⟨k4, l4, f4⟩ := g4; obtain ⟨k5, l5, f5⟩ := g5; obtain ⟨k6, l6, f6⟩ := g6
  constructor
  · unfold foldS
    rw [lo_is (fun j _ => (hz j).g.1) i1 j1 e1, hi_is (fun j _ => (hz j).g.2) i2 j2 e2, lo_is (fun j _ => (hz j).y.1) i3 j3 e3, hi_is (fun j _ => (hz j).y.2) i4 j4 e4,
      lo_is (fun j _ => (hz j).t.1) i5 j5 e5, hi_is (fun j _ => (hz j).t.2) i6 j6 e6, lo_is (fun j _ => (hz j).w.1) i7 j7 e7, hi_is (fun j _ => (hz j).w.2) i8 j8 e8]
  · unfold foldQ
    rw [lo_is (fun j _ => (hg j).g.1) k1 l1 f1, hi_is (fun j _ => (hg j).g.2) k2 l2 f2, lo_is (fun j _ => (hg j).y.1) k3 l3 f3, hi_is (fun j _ => (hg j).y.2) k4 l4 f4,
      lo_is (fun j _ => (hg j).w.1) k5 l5 f5, hi_is (fun j _ => (hg j).w.2) k6 l6 f6]
theorem min_or (a b : Int) : min a b = a ∨ min a b = b := by rw [Int.min_def]; split <;> simp
theorem max_or (a b : Int) : max a b = a ∨ max a b = b := by rw [Int.max_def]; split <;> simp
theorem narrow_is {c : Cav} {s x : St} {o : Op} {q : Out} (hc : c.Ok) (hs : s.Ok) (ho : o.Is) (h : act c s o = some (x, q)) : foldS (zAt c s o) 63 = x ∧ foldQ (gAt c s o) 63 = q := by
  have H := corn_one hc hs ho h
  have key : ∀ n z g, one c (cornP s n) o (cornU o n) (cornV o n) = some (z, g) → zAt c s o n = z ∧ gAt c s o n = g := fun n z g he => by
    have h1 := (H n).1
    rw [he] at h1
    simp only [Option.some.injEq, Prod.mk.injEq] at h1
    exact ⟨h1.1.symm, h1.2.symm⟩
  cases ho with
  | inject l hl =>
    have hz : ∀ n, zAt c s ⟨1, l.g, l.y, l.t, l.w, 0, 0, 0, 0, 0⟩ n = inject c (cornP s n) l ∧ gAt c s ⟨1, l.g, l.y, l.t, l.w, 0, 0, 0, 0, 0⟩ n = ⟨0, 0, 0, 0⟩ := fun n => by
      have h1 := (H n).1
      simp only [one, if_true] at h1
      split at h1
      · simp only [Option.some.injEq, Prod.mk.injEq] at h1
        exact ⟨h1.1.symm, h1.2.symm⟩
      · cases h1
    simp only [act, if_true] at h
    split at h
    · simp only [Option.some.injEq, Prod.mk.injEq] at h
      obtain ⟨rfl, rfl⟩ := h
      refine fold_is (fun n => (H n).2.1) (fun n => (H n).2.2.1) ⟨0, by omega, by rw [(hz 0).1]; rfl⟩ ⟨1, by omega, by rw [(hz 1).1]; rfl⟩ ⟨0, by omega, by rw [(hz 0).1]; rfl⟩ ⟨2, by omega, by rw [(hz 2).1]; rfl⟩ ?_ ?_ ⟨0, by omega, by rw [(hz 0).1]; rfl⟩ ⟨8, by omega, by rw [(hz 8).1]; rfl⟩
        ⟨0, by omega, by rw [(hz 0).2]⟩ ⟨0, by omega, by rw [(hz 0).2]⟩ ⟨0, by omega, by rw [(hz 0).2]⟩ ⟨0, by omega, by rw [(hz 0).2]⟩ ⟨0, by omega, by rw [(hz 0).2]⟩ ⟨0, by omega, by rw [(hz 0).2]⟩
      · rcases min_or (warm (heat c s.low) s.tlo (heat c l) l.t) (warm (heat c s.high) s.tlo (heat c l) l.t) with e | e
        · exact ⟨0, by omega, by rw [(hz 0).1]; exact e.symm⟩
        · exact ⟨3, by omega, by rw [(hz 3).1]; exact e.symm⟩
      · rcases max_or (warm (heat c s.low) s.thi (heat c l) l.t) (warm (heat c s.high) s.thi (heat c l) l.t) with e | e
        · exact ⟨4, by omega, by rw [(hz 4).1]; exact e.symm⟩
        · exact ⟨7, by omega, by rw [(hz 7).1]; exact e.symm⟩
    · cases h
  | withdraw m hm =>
    have hz : ∀ n, zAt c s ⟨2, 0, 0, 0, 0, m, 0, 0, 0, 0⟩ n = left (cornP s n) m ∧ gAt c s ⟨2, 0, 0, 0, 0, m, 0, 0, 0, 0⟩ n = out (cornP s n) m := fun n => by
      have h1 := (H n).1
      simp only [one] at h1
      rw [if_neg (by decide), if_pos trivial] at h1
      split at h1
      · simp only [Option.some.injEq, Prod.mk.injEq] at h1
        exact ⟨h1.1.symm, h1.2.symm⟩
      · cases h1
    simp only [act] at h
    rw [if_neg (by decide), if_pos trivial] at h
    split at h
    · simp only [Option.some.injEq, Prod.mk.injEq] at h
      obtain ⟨rfl, rfl⟩ := h
      exact fold_is (fun n => (H n).2.1) (fun n => (H n).2.2.1) ⟨0, by omega, by rw [(hz 0).1]; rfl⟩ ⟨3, by omega, by rw [(hz 3).1]; rfl⟩ ⟨0, by omega, by rw [(hz 0).1]; rfl⟩ ⟨3, by omega, by rw [(hz 3).1]; rfl⟩ ⟨0, by omega, by rw [(hz 0).1]; rfl⟩ ⟨4, by omega, by rw [(hz 4).1]; rfl⟩ ⟨0, by omega, by rw [(hz 0).1]; rfl⟩ ⟨11, by omega, by rw [(hz 11).1]; rfl⟩
        ⟨2, by omega, by rw [(hz 2).2]; rfl⟩ ⟨1, by omega, by rw [(hz 1).2]; rfl⟩ ⟨1, by omega, by rw [(hz 1).2]; rfl⟩ ⟨2, by omega, by rw [(hz 2).2]; rfl⟩ ⟨3, by omega, by rw [(hz 3).2]; rfl⟩ ⟨8, by omega, by rw [(hz 8).2]; rfl⟩
    · cases h
  | rest a b x' y ha hx =>
    have hz : ∀ n, zAt c s ⟨3, 0, 0, 0, 0, 0, a, b, x', y⟩ n = Gas.rest c (cornP s n) (endN a b (n / 16)) (endN x' y (n / 32)) ∧ gAt c s ⟨3, 0, 0, 0, 0, 0, a, b, x', y⟩ n = ⟨0, 0, 0, 0⟩ := fun n => by
      have h1 := (H n).1
      simp only [one] at h1
      rw [if_neg (by decide), if_neg (by decide)] at h1
      split at h1
      · simp only [Option.some.injEq, Prod.mk.injEq] at h1
        exact ⟨h1.1.symm, h1.2.symm⟩
      · cases h1
    simp only [act] at h
    rw [if_neg (by decide), if_neg (by decide)] at h
    split at h
    · simp only [Option.some.injEq, Prod.mk.injEq] at h
      obtain ⟨rfl, rfl⟩ := h
      refine fold_is (fun n => (H n).2.1) (fun n => (H n).2.2.1) ⟨0, by omega, by rw [(hz 0).1]; rfl⟩ ⟨1, by omega, by rw [(hz 1).1]; rfl⟩ ⟨0, by omega, by rw [(hz 0).1]; rfl⟩ ⟨2, by omega, by rw [(hz 2).1]; rfl⟩ ?_ ?_ ⟨0, by omega, by rw [(hz 0).1]; rfl⟩ ⟨40, by omega, by rw [(hz 40).1]; rfl⟩
        ⟨0, by omega, by rw [(hz 0).2]⟩ ⟨0, by omega, by rw [(hz 0).2]⟩ ⟨0, by omega, by rw [(hz 0).2]⟩ ⟨0, by omega, by rw [(hz 0).2]⟩ ⟨0, by omega, by rw [(hz 0).2]⟩ ⟨0, by omega, by rw [(hz 0).2]⟩
      · rcases min_or (near c.rock s.tlo a) (near c.rock s.tlo b) with e | e
        · exact ⟨0, by omega, by rw [(hz 0).1]; exact e.symm⟩
        · exact ⟨16, by omega, by rw [(hz 16).1]; exact e.symm⟩
      · rcases max_or (near c.rock s.thi a) (near c.rock s.thi b) with e | e
        · exact ⟨4, by omega, by rw [(hz 4).1]; exact e.symm⟩
        · exact ⟨20, by omega, by rw [(hz 20).1]; exact e.symm⟩
    · cases h
end Gas
