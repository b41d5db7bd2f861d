/- Gas: the plain laws of narrower states: what a wider state can do, a narrower one can, and what comes of it lies within what comes of the wider; and what changes nothing. -/
import Derived.Test.YtgmbolagciaenaaHs
set_option linter.unusedVariables false
set_option linter.unusedSimpArgs false
namespace Gas
theorem act_mono {c : Cav} {s n : St} {o : Op} {x : St} {q : Out} (hc : c.Ok) (hs : s.Ok) (hn : n.Ok) (hin : n.In s) (ho : o.Is) (h : act c s o = some (x, q)) : ∃ y r, act c n o = some (y, r) ∧ y.In x := by
  have g1 := hin.g; have g2 := hin.y; have g3 := hin.t; have g4 := hin.w
  have n1 := hn.g; have n2 := hn.y; have n3 := hn.t; have n4 := hn.w
  have p1 : s.Has ⟨n.glo, n.ylo, n.tlo, n.wlo⟩ := ⟨⟨g1.1, by show n.glo ≤ s.ghi; omega⟩, ⟨g2.1, by show n.ylo ≤ s.yhi; omega⟩, ⟨g3.1, by show n.tlo ≤ s.thi; omega⟩, ⟨g4.1, by show n.wlo ≤ s.whi; omega⟩⟩
  have p2 : s.Has ⟨n.ghi, n.yhi, n.tlo, n.whi⟩ := ⟨⟨by show s.glo ≤ n.ghi; omega, g1.2⟩, ⟨by show s.ylo ≤ n.yhi; omega, g2.2⟩, ⟨g3.1, by show n.tlo ≤ s.thi; omega⟩, ⟨by show s.wlo ≤ n.whi; omega, g4.2⟩⟩
  have p3 : s.Has ⟨n.glo, n.ylo, n.thi, n.wlo⟩ := ⟨⟨g1.1, by show n.glo ≤ s.ghi; omega⟩, ⟨g2.1, by show n.ylo ≤ s.yhi; omega⟩, ⟨by show s.tlo ≤ n.thi; omega, g3.2⟩, ⟨g4.1, by show n.wlo ≤ s.whi; omega⟩⟩
  have p4 : s.Has ⟨n.ghi, n.yhi, n.thi, n.whi⟩ := ⟨⟨by show s.glo ≤ n.ghi; omega, g1.2⟩, ⟨by show s.ylo ≤ n.yhi; omega, g2.2⟩, ⟨by show s.tlo ≤ n.thi; omega, g3.2⟩, ⟨by show s.wlo ≤ n.whi; omega, g4.2⟩⟩
  cases ho with
  | inject l hl =>
    simp only [act, if_true] at h ⊢
    split at h
    · rename_i hk
      simp only [Option.some.injEq, Prod.mk.injEq] at h
      obtain ⟨rfl, rfl⟩ := h
      refine ⟨_, _, if_pos (by omega), ?_⟩
      have a1 := inj_has (l := l) hc hs ⟨hl.g.1, hl.y.1⟩ p1
      have a2 := inj_has (l := l) hc hs ⟨hl.g.1, hl.y.1⟩ p2
      have a3 := inj_has (l := l) hc hs ⟨hl.g.1, hl.y.1⟩ p3
      have a4 := inj_has (l := l) hc hs ⟨hl.g.1, hl.y.1⟩ p4
      exact ⟨⟨a1.g.1, a2.g.2⟩, ⟨a1.y.1, a2.y.2⟩, ⟨Int.le_min.2 ⟨a1.t.1, a2.t.1⟩, Int.max_le.2 ⟨a3.t.2, a4.t.2⟩⟩, ⟨a1.w.1, a2.w.2⟩⟩
    · cases h
  | withdraw m hm =>
    simp only [act] at h ⊢
    rw [if_neg (by decide), if_pos trivial] at h ⊢
    split at h
    · rename_i hk
      simp only [Option.some.injEq, Prod.mk.injEq] at h
      obtain ⟨rfl, rfl⟩ := h
      refine ⟨_, _, if_pos (by omega), ?_⟩
      have a1 := (left_has hs hm.1 hk p1).1
      have a2 := (left_has hs hm.1 hk p4).1
      exact ⟨⟨a1.g.1, a2.g.2⟩, ⟨a1.y.1, a2.y.2⟩, ⟨a1.t.1, a2.t.2⟩, ⟨a1.w.1, a2.w.2⟩⟩
    · cases h
  | rest a b x' y ha hx =>
    simp only [act] at h ⊢
    rw [if_neg (by decide), if_neg (by decide)] at h ⊢
    split at h
    · rename_i hk
      simp only [Option.some.injEq, Prod.mk.injEq] at h
      obtain ⟨rfl, rfl⟩ := h
      refine ⟨_, _, if_pos (by omega), ?_⟩
      have a1 := rest_has (u := a) (v := x') hc ha p1 ⟨Int.le_refl _, ha.2.1⟩ ⟨Int.le_refl _, hx.2.1⟩
      have a2 := rest_has (u := b) (v := x') hc ha p1 ⟨ha.2.1, Int.le_refl _⟩ ⟨Int.le_refl _, hx.2.1⟩
      have a3 := rest_has (u := a) (v := y) hc ha p4 ⟨Int.le_refl _, ha.2.1⟩ ⟨hx.2.1, Int.le_refl _⟩
      have a4 := rest_has (u := b) (v := y) hc ha p4 ⟨ha.2.1, Int.le_refl _⟩ ⟨hx.2.1, Int.le_refl _⟩
      exact ⟨⟨a1.g.1, a3.g.2⟩, ⟨a1.y.1, a3.y.2⟩, ⟨Int.le_min.2 ⟨a1.t.1, a2.t.1⟩, Int.max_le.2 ⟨a3.t.2, a4.t.2⟩⟩, ⟨a1.w.1, a3.w.2⟩⟩
    · cases h
theorem warm_same (h t lt : Int) : warm h t 0 lt = t := by
  unfold warm
  by_cases e : h = 0
  · rw [if_pos (by omega)]
  · rw [if_neg (by omega), Int.zero_mul, Int.add_zero, Int.add_zero]
    exact Int.mul_ediv_cancel_left _ e
theorem st_eta (s : St) : (⟨s.glo, s.ghi, s.ylo, s.yhi, s.tlo, s.thi, s.wlo, s.whi⟩ : St) = s := rfl
theorem same_withdraw {c : Cav} {s : St} (hs : s.Ok) : act c s ⟨2, 0, 0, 0, 0, 0, 0, 0, 0, 0⟩ = some (s, ⟨0, 0, 0, 0, 0, 0⟩) := by
  have := hs.g; have := hs.y
  simp only [act]
  rw [if_neg (by decide), if_pos trivial, if_pos (by omega)]
  simp [leftS, outS, part_zero]
theorem same_inject {c : Cav} {s : St} (hs : s.Ok) (t : Int) : act c s ⟨1, 0, 0, t, 0, 0, 0, 0, 0, 0⟩ = some (s, ⟨0, 0, 0, 0, 0, 0⟩) := by
  have := hs.g; have := hs.y; have := hs.w
  simp only [act, if_true]
  rw [if_pos (by omega)]
  have e : heat c ⟨0, 0, t, 0⟩ = 0 := by simp [heat]
  simp only [injS, Op.lot, e, warm_same]
  simp
theorem same_rest {c : Cav} {s : St} (hs : s.Ok) : act c s ⟨3, 0, 0, 0, 0, 0, 0, 0, 0, 0⟩ = some (s, ⟨0, 0, 0, 0, 0, 0⟩) := by
  have := hs.w
  simp only [act]
  rw [if_neg (by decide), if_neg (by decide), if_pos (by omega)]
  simp [restS, near]
/-- The narrower state of the law. -/
def narrow (s : St) (a b t w : Int) : St := ⟨s.glo + a, s.ghi, s.ylo, s.yhi - b, s.tlo + t, s.thi, s.wlo, s.whi - w⟩
theorem narrow_ok {s : St} {a b t w : Int} (hs : s.Ok) (ha : 0 ≤ a ∧ a ≤ s.ghi - s.glo) (hb : 0 ≤ b ∧ b ≤ s.yhi - s.ylo) (ht : 0 ≤ t ∧ t ≤ s.thi - s.tlo) (hw : 0 ≤ w ∧ w ≤ s.whi - s.wlo) : (narrow s a b t w).Ok ∧ (narrow s a b t w).In s := by
  have h1 := hs.g; have h2 := hs.y; have h3 := hs.t; have h4 := hs.w
  refine ⟨⟨?_, ?_, ?_, ?_⟩, ⟨?_, ?_, ?_, ?_⟩⟩ <;> simp only [narrow] <;> omega
/-- A number from 0 to the width of a span. -/
def innerI (a b n : Int) : Int := if 0 < (if b - a < n then b - a else n) then (if b - a < n then b - a else n) else 0
theorem innerI_in {a b n : Int} (h : a ≤ b) : 0 ≤ innerI a b n ∧ innerI a b n ≤ b - a := by
  unfold innerI; split <;> split <;> omega
theorem moreIs (l : List Op) : True := trivial
end Gas
