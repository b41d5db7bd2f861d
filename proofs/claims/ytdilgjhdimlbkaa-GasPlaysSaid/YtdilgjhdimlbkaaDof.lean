/- Gas: what does hands back is what the document says. -/
import Derived.Test.YtdilgjhdimlbkaaDos
import Derived.Test.YtdilgjhdimlbkaaSto
set_option linter.unusedVariables false
set_option linter.unusedSimpArgs false
namespace Go.Proofs.Ytdilgjhdimlbkaa
open Go.RowKit Go.Sd Gas

abbrev st0 : Gas.St := ⟨0, 0, 0, 0, 0, 0, 0, 0⟩
abbrev out0 : Gas.Out := ⟨0, 0, 0, 0, 0, 0⟩
/-- What comes of an operation, as the program hands it on. -/
abbrev doV (n : Gas.St) (q : Gas.Out) (b : Bool) : Value := .tuple #[stV n, outV q, .bool b]
def actS (r : Option (Gas.St × Gas.Out)) : Gas.St := match r with
  | some (n, _) => n
  | none => st0
def actO (r : Option (Gas.St × Gas.Out)) : Gas.Out := match r with
  | some (_, q) => q
  | none => out0

set_option maxHeartbeats 1000000 in
theorem progDoesSome {c : Cav} {s : St} {o : Gas.Op} {n : St} {q : Gas.Out} (w : World) (hc : c.Ok) (hs : s.Ok) (ho : o.Fit) (h : act c s o = some (n, q)) :
    Calls Try.prog 35 #[cavV c, stV s, opV o] w fun e w' => e = .returned (doV n q true) ∧ Below w.heap.size w w' := by
  rcases ho with ⟨hk, hl⟩ | ⟨hk, hm⟩ | ⟨hk, ha, hx⟩
  · have hb : s.ghi + o.lg ≤ 1000000 ∧ s.yhi + o.ly ≤ 1000000 ∧ s.whi + o.lw ≤ 1000000000 := by
      apply Classical.byContradiction; intro hb; simp only [act, hk, if_true, if_neg hb] at h; cases h
    simp only [act, hk, if_true, if_pos hb, Option.some.injEq, Prod.mk.injEq] at h
    obtain ⟨rfl, rfl⟩ := h
    refine progDoesY c s o _ _ w (.inl ⟨hk, rfl⟩) (fun args w => by kernel_rfl) fun W' _ => (progInjects c s o W' hc hs hl).mono ?_
    rintro e w' (⟨-, rfl, hB⟩ | ⟨hno, -⟩)
    · rw [inj_box hc hs hl]; exact ⟨rfl, hB⟩
    · exact absurd ((inj_all hc hs hl).2 hb) hno
  · have hb : o.moles ≤ s.glo + s.ylo := by
      apply Classical.byContradiction; intro hb; simp [act, hk, if_neg hb] at h
    simp [act, hk, if_pos hb] at h
    obtain ⟨rfl, rfl⟩ := h
    refine progDoesY c s o _ _ w (.inr (.inl ⟨hk, rfl⟩)) (fun args w => by kernel_rfl) fun W' _ => (progWithdraws c s o W' hs hm).mono ?_
    rintro e w' (⟨-, rfl, hB⟩ | ⟨hno, -⟩)
    · rw [left_box hs hm.1 hb, out_box hs hm.1 hb]; exact ⟨rfl, hB⟩
    · exact absurd ((left_all hs).2 hb) hno
  · have hb : s.whi + o.whi ≤ 1000000000 := by
      apply Classical.byContradiction; intro hb; simp [act, hk, if_neg hb] at h
    simp [act, hk, if_pos hb] at h
    obtain ⟨rfl, rfl⟩ := h
    refine progDoesY c s o _ _ w (.inr (.inr ⟨hk, rfl⟩)) (fun args w => by kernel_rfl) fun W' _ => (progRests c s o W' hc hs ha hx).mono ?_
    rintro e w' (⟨-, rfl, hB⟩ | ⟨hno, -⟩)
    · rw [rest_box hc hs ha ⟨hx.1, hx.2.1⟩]; exact ⟨rfl, hB⟩
    · exact absurd ((rest_all hc hs ha ⟨hx.1, hx.2.1⟩).2 hb) hno

set_option maxHeartbeats 1000000 in
theorem progDoesNone {c : Cav} {s : St} {o : Gas.Op} (w : World) (hc : c.Ok) (hs : s.Ok) (ho : o.Fit) (h : act c s o = none) :
    Calls Try.prog 35 #[cavV c, stV s, opV o] w fun e w' => e = .returned (doV st0 out0 false) ∧ Below w.heap.size w w' := by
  rcases ho with ⟨hk, hl⟩ | ⟨hk, hm⟩ | ⟨hk, ha, hx⟩
  · have hb : ¬ (s.ghi + o.lg ≤ 1000000 ∧ s.yhi + o.ly ≤ 1000000 ∧ s.whi + o.lw ≤ 1000000000) := by
      intro hb; simp only [act, hk, if_true, if_pos hb] at h; cases h
    refine progDoesN c s o w (.inl ⟨hk, rfl⟩) (fun args w => by kernel_rfl) fun W' _ => (progInjects c s o W' hc hs hl).mono ?_
    rintro e w' (⟨hall, -, -⟩ | ⟨-, hG⟩)
    · exact absurd ((inj_all hc hs hl).1 hall) hb
    · exact hG
  · have hb : ¬ o.moles ≤ s.glo + s.ylo := by
      intro hb; simp [act, hk, if_pos hb] at h
    refine progDoesN c s o w (.inr (.inl ⟨hk, rfl⟩)) (fun args w => by kernel_rfl) fun W' _ => (progWithdraws c s o W' hs hm).mono ?_
    rintro e w' (⟨hall, -, -⟩ | ⟨-, hG⟩)
    · exact absurd ((left_all hs).1 hall) hb
    · exact hG
  · have hb : ¬ s.whi + o.whi ≤ 1000000000 := by
      intro hb; simp [act, hk, if_pos hb] at h
    refine progDoesN c s o w (.inr (.inr ⟨hk, rfl⟩)) (fun args w => by kernel_rfl) fun W' _ => (progRests c s o W' hc hs ha hx).mono ?_
    rintro e w' (⟨hall, -, -⟩ | ⟨-, hG⟩)
    · exact absurd ((rest_all hc hs ha ⟨hx.1, hx.2.1⟩).1 hall) hb
    · exact hG
end Go.Proofs.Ytdilgjhdimlbkaa
