/- Laws and walks: GGpl, GA1, GA4, GA7, GGcd, GA2, GRul, GOwn. -/
import Derived.IntWalk
import Derived.Test.YtpcamocnlnlgiaaGreatChecked
import Derived.Lib.Hide
import Derived.BigRegion
import Derived.Laws.EntriesVeiled
import Derived.Maps.AppendAt
import Derived.OwnWalk
import Derived.Laws.MakeOwn
import Derived.Test.YtpcamocnlnlgiaaGreatK02
set_option maxRecDepth 100000
set_option maxHeartbeats 16000000
set_option linter.unusedVariables false
set_option linter.unusedSimpArgs false
namespace Gas
structure Cav where
 (vlo vhi least most f0 f1 h0 h1 rock plo phi : Int)
structure St where
 (glo ghi ylo yhi tlo thi wlo whi : Int)
structure Pt where
 (g y t w : Int)
structure Op where
 (kind lg ly lt lw moles slo shi wlo whi : Int)
structure Out where
 (glo ghi ylo yhi wlo whi : Int)
def inB (n a b : Int) : Bool := decide (a ≤ n) && decide (n ≤ b)
def spanB (lo hi a b : Int) : Bool := decide (a ≤ lo) && decide (lo ≤ hi) && decide (hi ≤ b)
theorem inB_iff {n a b : Int} : inB n a b = true ↔ a ≤ n ∧ n ≤ b := by simp [inB]
theorem spanB_iff {lo hi a b : Int} : spanB lo hi a b = true ↔ a ≤ lo ∧ lo ≤ hi ∧ hi ≤ b := by simp [spanB, and_assoc]
def Cav.ok (c : Cav) : Bool :=
 (inB c.f0 500 2000 && inB c.h0 1 100) && (inB c.f1 500 2000 && inB c.h1 1 100) && spanB c.vlo c.vhi 1 1000000 && spanB c.least c.most 0 100000 && inB c.rock 2000 5000 && spanB c.plo c.phi 0 1000
def Pt.ok (p : Pt) : Bool := inB p.g 0 1000000 && inB p.y 0 1000000 && inB p.t 2000 5000 && inB p.w 0 1000000000
def St.ok (s : St) : Bool := spanB s.glo s.ghi 0 1000000 && spanB s.ylo s.yhi 0 1000000 && spanB s.tlo s.thi 2000 5000 && spanB s.wlo s.whi 0 1000000000
def Op.lot (o : Op) : Pt := ⟨o.lg, o.ly, o.lt, o.lw⟩
def Op.ok (o : Op) : Bool :=
 if o.kind = 1 then o.lot.ok && decide (o.moles = 0 ∧ o.slo = 0 ∧ o.shi = 0 ∧ o.wlo = 0 ∧ o.whi = 0)
 else if o.kind = 2 then inB o.moles 0 2000000 && decide (o.lg = 0 ∧ o.ly = 0 ∧ o.lt = 0 ∧ o.lw = 0 ∧ o.slo = 0 ∧ o.shi = 0 ∧ o.wlo = 0 ∧ o.whi = 0)
 else if o.kind = 3 then spanB o.slo o.shi 0 1000 && spanB o.wlo o.whi 0 1000000 && decide (o.lg = 0 ∧ o.ly = 0 ∧ o.lt = 0 ∧ o.lw = 0 ∧ o.moles = 0)
 else false
structure Cav.Ok (c : Cav) : Prop where
 f0 : 500 ≤ c.f0 ∧ c.f0 ≤ 2000
 h0 : 1 ≤ c.h0 ∧ c.h0 ≤ 100
 f1 : 500 ≤ c.f1 ∧ c.f1 ≤ 2000
 h1 : 1 ≤ c.h1 ∧ c.h1 ≤ 100
 v : 1 ≤ c.vlo ∧ c.vlo ≤ c.vhi ∧ c.vhi ≤ 1000000
 p : 0 ≤ c.least ∧ c.least ≤ c.most ∧ c.most ≤ 100000
 rock : 2000 ≤ c.rock ∧ c.rock ≤ 5000
 pur : 0 ≤ c.plo ∧ c.plo ≤ c.phi ∧ c.phi ≤ 1000
theorem Cav.ok_iff {c : Cav} : c.ok = true ↔ c.Ok := by
 simp only [Cav.ok, Bool.and_eq_true, inB_iff, spanB_iff]
 constructor
 · rintro ⟨⟨⟨⟨⟨⟨a, b⟩, c, d⟩, e⟩, f⟩, g⟩, h⟩; exact ⟨a, b, c, d, e, f, g, h⟩
 · rintro ⟨a, b, c, d, e, f, g, h⟩; exact ⟨⟨⟨⟨⟨⟨a, b⟩, c, d⟩, e⟩, f⟩, g⟩, h⟩
structure Pt.Ok (p : Pt) : Prop where
 g : 0 ≤ p.g ∧ p.g ≤ 1000000
 y : 0 ≤ p.y ∧ p.y ≤ 1000000
 t : 2000 ≤ p.t ∧ p.t ≤ 5000
 w : 0 ≤ p.w ∧ p.w ≤ 1000000000
theorem Pt.ok_iff {p : Pt} : p.ok = true ↔ p.Ok := by
 simp only [Pt.ok, Bool.and_eq_true, inB_iff]
 constructor
 · rintro ⟨⟨⟨a, b⟩, c⟩, d⟩; exact ⟨a, b, c, d⟩
 · rintro ⟨a, b, c, d⟩; exact ⟨⟨⟨a, b⟩, c⟩, d⟩
structure Pt.Wide (p : Pt) : Prop where
 g : 0 ≤ p.g ∧ p.g ≤ 100000000
 y : 0 ≤ p.y ∧ p.y ≤ 100000000
 t : 2000 ≤ p.t ∧ p.t ≤ 5000
 w : 0 ≤ p.w ∧ p.w ≤ 100000000000
theorem Pt.Ok.wide {p : Pt} (h : p.Ok) : p.Wide := ⟨⟨h.g.1, by have := h.g; omega⟩, ⟨h.y.1, by have := h.y; omega⟩, h.t, ⟨h.w.1, by have := h.w; omega⟩⟩
structure St.Ok (s : St) : Prop where
 g : 0 ≤ s.glo ∧ s.glo ≤ s.ghi ∧ s.ghi ≤ 1000000
 y : 0 ≤ s.ylo ∧ s.ylo ≤ s.yhi ∧ s.yhi ≤ 1000000
 t : 2000 ≤ s.tlo ∧ s.tlo ≤ s.thi ∧ s.thi ≤ 5000
 w : 0 ≤ s.wlo ∧ s.wlo ≤ s.whi ∧ s.whi ≤ 1000000000
theorem St.ok_iff {s : St} : s.ok = true ↔ s.Ok := by
 simp only [St.ok, Bool.and_eq_true, spanB_iff]
 constructor
 · rintro ⟨⟨⟨a, b⟩, c⟩, d⟩; exact ⟨a, b, c, d⟩
 · rintro ⟨a, b, c, d⟩; exact ⟨⟨⟨a, b⟩, c⟩, d⟩
inductive Op.Is : Op → Prop
 | inject (p : Pt) (h : p.Ok) : Op.Is ⟨1, p.g, p.y, p.t, p.w, 0, 0, 0, 0, 0⟩
 | withdraw (m : Int) (h : 0 ≤ m ∧ m ≤ 2000000) : Op.Is ⟨2, 0, 0, 0, 0, m, 0, 0, 0, 0⟩
 | rest (a b x y : Int) (h : 0 ≤ a ∧ a ≤ b ∧ b ≤ 1000) (k : 0 ≤ x ∧ x ≤ y ∧ y ≤ 1000000) : Op.Is ⟨3, 0, 0, 0, 0, 0, a, b, x, y⟩
theorem Op.ok_is {o : Op} (h : o.ok = true) : o.Is := by
 obtain ⟨k, lg, ly, lt, lw, m, a, b, x, y⟩ := o
 unfold Op.ok at h
 simp only [Op.lot] at h
 split at h
 · rename_i e
   simp only [Bool.and_eq_true, decide_eq_true_eq, Pt.ok_iff] at h
   obtain ⟨hp, rfl, rfl, rfl, rfl, rfl⟩ := h
   subst e
   exact .inject _ hp
 · split at h
   · rename_i e
     simp only [Bool.and_eq_true, decide_eq_true_eq, inB_iff] at h
     obtain ⟨hp, rfl, rfl, rfl, rfl, rfl, rfl, rfl, rfl⟩ := h
     subst e
     exact .withdraw _ hp
   · split at h
     · rename_i e
       simp only [Bool.and_eq_true, decide_eq_true_eq, spanB_iff] at h
       obtain ⟨⟨hp, hq⟩, rfl, rfl, rfl, rfl, rfl⟩ := h
       subst e
       exact .rest _ _ _ _ hp hq
     · cases h
theorem Op.is_ok {o : Op} (h : o.Is) : o.ok = true := by
 cases h with
 | inject p h => simpa [Op.ok, Op.lot, Pt.ok_iff] using h
 | withdraw m h => simpa [Op.ok, inB_iff] using h
 | rest a b x y h k => simpa [Op.ok, spanB_iff] using ⟨h, k⟩
theorem Op.ok_iff {o : Op} : o.ok = true ↔ o.Is := ⟨Op.ok_is, Op.is_ok⟩
def force (c : Cav) (p : Pt) : Int := (p.g * c.f0 + p.y * c.f1) * p.t * 8314
def St.low (s : St) : Pt := ⟨s.glo, s.ylo, s.tlo, s.wlo⟩
def St.high (s : St) : Pt := ⟨s.ghi, s.yhi, s.thi, s.whi⟩
def thin (c : Cav) (s : St) : Bool := decide (1000 * s.ylo < c.plo * (s.ghi + s.ylo))
def rich (c : Cav) (s : St) : Bool := decide (1000 * s.yhi > c.phi * (s.glo + s.yhi))
def heat (c : Cav) (p : Pt) : Int := p.g * c.h0 + p.y * c.h1
def warm (h t l lt : Int) : Int := if h + l = 0 then t else (h * t + l * lt) / (h + l)
def near (rock t s : Int) : Int := t + ((rock - t) * s).tdiv 1000
def part (m n all : Int) : Int := if all = 0 then 0 else m * n / all
def inject (c : Cav) (p l : Pt) : Pt := ⟨p.g + l.g, p.y + l.y, warm (heat c p) p.t (heat c l) l.t, p.w + l.w⟩
def left (p : Pt) (m : Int) : Pt := ⟨p.g - (m - part m p.y (p.g + p.y)), p.y - part m p.y (p.g + p.y), p.t, p.w - part m p.w (p.g + p.y)⟩
def out (p : Pt) (m : Int) : Pt := ⟨m - part m p.y (p.g + p.y), part m p.y (p.g + p.y), 0, part m p.w (p.g + p.y)⟩
def rest (c : Cav) (p : Pt) (s w : Int) : Pt := ⟨p.g, p.y, near c.rock p.t s, p.w + w⟩
def one (c : Cav) (p : Pt) (o : Op) (s w : Int) : Option (Pt × Pt) :=
 if o.kind = 1 then if (inject c p o.lot).ok = true then some (inject c p o.lot, ⟨0, 0, 0, 0⟩) else none
 else if o.kind = 2 then if o.moles ≤ p.g + p.y then some (left p o.moles, out p o.moles) else none
 else if (rest c p s w).ok = true then some (rest c p s w, ⟨0, 0, 0, 0⟩) else none
end Gas
namespace Gas
end Gas
namespace Gas
structure St.Has (s : St) (p : Pt) : Prop where
 g : s.glo ≤ p.g ∧ p.g ≤ s.ghi
 y : s.ylo ≤ p.y ∧ p.y ≤ s.yhi
 t : s.tlo ≤ p.t ∧ p.t ≤ s.thi
 w : s.wlo ≤ p.w ∧ p.w ≤ s.whi
structure Out.Has (s : Out) (p : Pt) : Prop where
 g : s.glo ≤ p.g ∧ p.g ≤ s.ghi
 y : s.ylo ≤ p.y ∧ p.y ≤ s.yhi
 w : s.wlo ≤ p.w ∧ p.w ≤ s.whi
 t : p.t = 0
theorem St.Has.ok {s : St} {p : Pt} (h : s.Has p) (hs : s.Ok) : p.Ok := by
 obtain ⟨a, b, c, d⟩ := h
 obtain ⟨e, f, g, k⟩ := hs
 exact ⟨by omega, by omega, by omega, by omega⟩
def injS (c : Cav) (s : St) (l : Pt) : St :=
 ⟨s.glo + l.g, s.ghi + l.g, s.ylo + l.y, s.yhi + l.y, min (warm (heat c s.low) s.tlo (heat c l) l.t) (warm (heat c s.high) s.tlo (heat c l) l.t), max (warm (heat c s.low) s.thi (heat c l) l.t) (warm (heat c s.high) s.thi (heat c l) l.t), s.wlo + l.w, s.whi + l.w⟩
def leftS (s : St) (m : Int) : St :=
 ⟨s.glo - (m - part m s.ylo (s.glo + s.ylo)), s.ghi - (m - part m s.yhi (s.ghi + s.yhi)), s.ylo - part m s.ylo (s.glo + s.ylo), s.yhi - part m s.yhi (s.ghi + s.yhi), s.tlo, s.thi, s.wlo - part m s.wlo (s.glo + s.ylo), s.whi - part m s.whi (s.ghi + s.yhi)⟩
def outS (s : St) (m : Int) : Out :=
 ⟨m - part m s.yhi (s.glo + s.yhi), m - part m s.ylo (s.ghi + s.ylo), part m s.ylo (s.ghi + s.ylo), part m s.yhi (s.glo + s.yhi), part m s.wlo (s.ghi + s.yhi), part m s.whi (s.glo + s.ylo)⟩
def restS (c : Cav) (s : St) (a b x y : Int) : St :=
 ⟨s.glo, s.ghi, s.ylo, s.yhi, min (near c.rock s.tlo a) (near c.rock s.tlo b), max (near c.rock s.thi a) (near c.rock s.thi b), s.wlo + x, s.whi + y⟩
def act (c : Cav) (s : St) (o : Op) : Option (St × Out) :=
 if o.kind = 1 then if s.ghi + o.lg ≤ 1000000 ∧ s.yhi + o.ly ≤ 1000000 ∧ s.whi + o.lw ≤ 1000000000 then some (injS c s o.lot, ⟨0, 0, 0, 0, 0, 0⟩) else none
 else if o.kind = 2 then if o.moles ≤ s.glo + s.ylo then some (leftS s o.moles, outS s o.moles) else none
 else if s.whi + o.whi ≤ 1000000000 then some (restS c s o.slo o.shi o.wlo o.whi, ⟨0, 0, 0, 0, 0, 0⟩) else none
end Gas
set_option linter.unusedVariables false
set_option linter.unusedSimpArgs false
namespace Go.Proofs.YtpcamocnlnlgiaaGreat.G
open Go.RowKit Go.Sd Gas
abbrev ptV (p : Pt) : Value := .agg #[.int .i64 p.g, .int .i64 p.y, .int .i64 p.t, .int .i64 p.w]
abbrev stV (s : St) : Value := .agg #[.int .i64 s.glo, .int .i64 s.ghi, .int .i64 s.ylo, .int .i64 s.yhi, .int .i64 s.tlo, .int .i64 s.thi, .int .i64 s.wlo, .int .i64 s.whi]
abbrev cavV (c : Cav) : Value := .agg #[.int .i64 c.vlo, .int .i64 c.vhi, .int .i64 c.least, .int .i64 c.most, .int .i64 c.f0, .int .i64 c.f1, .int .i64 c.h0, .int .i64 c.h1, .int .i64 c.rock, .int .i64 c.plo, .int .i64 c.phi]
def BoolB (b : Bool) (w : World) (e : Ending) (w' : World) : Prop := ∃ t : Bool, e = .returned (.bool t) ∧ Hid (b = t) ∧ Below w.heap.size w w'
def BoolS (b : Bool) (w : World) (e : Ending) (w' : World) : Prop := ∃ t : Bool, e = .returned (.bool t) ∧ Hid (b = t) ∧ w = w'
theorem BoolB.mk {b t : Bool} {w w' : World} (h : b = t) (hb : Below w.heap.size w w') : BoolB b w (.returned (.bool t)) w' := ⟨t, rfl, h, hb⟩
theorem BoolS.mk {b t : Bool} {w : World} (h : b = t) : BoolS b w (.returned (.bool t)) w := ⟨t, rfl, h, rfl⟩
theorem boxed {w W : World} {c : Array Value} {t : TypeId} (h : w.alloc (.cells c t) = W) : W.heap[w.heap.size]? = some (.cells c t) ∧ Below w.heap.size w W ∧ W.heap.size = w.heap.size + 1 := by
 subst h
 exact ⟨World.alloc_heap_new w _, (Below.refl _ _).alloc (Nat.le_refl _) _, by simp⟩
theorem below_al {B : Nat} {W w : World} (h : Below B W w) (o : Obj) (hb : B ≤ w.heap.size := by simp <;> omega) : Below B W (w.alloc o) := h.alloc hb o
theorem progIn (a b c : Int) (w : World) :
    Calls Tryz.prog 91 #[.int .i64 a, .int .i64 b, .int .i64 c] w (BoolS (inB a b c) w) := by
 by_cases h : b ≤ a
 · go_enter Tryz.func91, Tryz.ntmps91
   go_wp2
   go_ret
   exact BoolS.mk (by unfold inB; simp [h] <;> omega)
 · go_enter Tryz.func91, Tryz.ntmps91
   go_wp2
   go_ret
   exact BoolS.mk (by unfold inB; simp [h] <;> omega)
theorem progSpan (a b c d : Int) (w : World) :
    Calls Tryz.prog 92 #[.agg #[.int .i64 a, .int .i64 b], .int .i64 c, .int .i64 d] w (BoolB (spanB a b c d) w) := by
 by_cases h : c ≤ a
 · by_cases h2 : a ≤ b
   · go_enter Tryz.func92, Tryz.ntmps92
     go_wp2
     go_ret
     exact BoolB.mk (by unfold spanB; simp [h, h2] <;> omega) (below_al (Below.refl _ _) _)
   · go_enter Tryz.func92, Tryz.ntmps92
     go_wp2
     go_ret
     exact BoolB.mk (by unfold spanB; simp [h2] <;> omega) (below_al (Below.refl _ _) _)
 · go_enter Tryz.func92, Tryz.ntmps92
   go_wp2
   go_ret
   exact BoolB.mk (by unfold spanB; simp [h] <;> omega) (below_al (Below.refl _ _) _)
theorem progState (s : St) (w : World) : Calls Tryz.prog 51 #[stV s] w (BoolB s.ok w) := by
 obtain ⟨W, hW⟩ : ∃ W, w.alloc (.cells #[.int .i64 s.glo, .int .i64 s.ghi, .int .i64 s.ylo, .int .i64 s.yhi, .int .i64 s.tlo, .int .i64 s.thi, .int .i64 s.wlo, .int .i64 s.whi] 84) = W := ⟨_, rfl⟩
 obtain ⟨eW0, bW0, sW0⟩ := boxed hW
 have hBw : Below w.heap.size w W := bW0
 obtain ⟨zW0, rW0, tW0⟩ := row_cells eW0
 obtain ⟨qW0_0, qW0_1, qW0_2, qW0_3, qW0_4, qW0_5, qW0_6, qW0_7⟩ := rc8 eW0
 clear rW0 tW0 eW0
 have xW0 : w.heap.size ≤ w.heap.size := by omega
 clear bW0 sW0
 have hg := grow_cell W
 go_enter Tryz.func51, Tryz.ntmps51
 go_wp2_with (go_at_call 92; refine Calls.mono (progSpan _ _ _ _ _) ?_; rintro e w1 ⟨(_ | _), rfl, ht, hB⟩ <;> ((first | (obtain ⟨g, rfl⟩ := g.next hB) | (obtain ⟨g, rfl⟩ : ∃ g : Grow W, w1 = g.x := ⟨⟨w1, hB⟩, rfl⟩)); clear hB))
 all_goals
  go_ret
  exact BoolB.mk (by unfold Hid at *; simp [St.ok, *]) (hBw.trans (g.h.mono hBw.size))
end Go.Proofs.YtpcamocnlnlgiaaGreat.G
set_option linter.unusedVariables false
set_option linter.unusedSimpArgs false
namespace Go.Proofs.YtpcamocnlnlgiaaGreat.G
open Go.RowKit Go.Sd Gas
theorem int_ret {k : IntKind} {a b : Int} (h : a = b) : Ending.returned (.int k a) = .returned (.int k b) := by rw [h]
theorem bd_mul {a b A B : Int} (ha : 0 ≤ a ∧ a ≤ A) (hb : 0 ≤ b ∧ b ≤ B) : 0 ≤ a * b ∧ a * b ≤ A * B :=
 ⟨Int.mul_nonneg ha.1 hb.1, Int.mul_le_mul ha.2 hb.2 hb.1 (by omega)⟩
theorem force_bd {c : Cav} {p : Pt} (hc : c.Ok) (hg : 0 ≤ p.g ∧ p.g ≤ 1000000) (hy : 0 ≤ p.y ∧ p.y ≤ 1000000) (ht : 0 ≤ p.t ∧ p.t ≤ 5000) :
    (0 ≤ p.g * c.f0 ∧ p.g * c.f0 ≤ 2000000000) ∧ (0 ≤ p.y * c.f1 ∧ p.y * c.f1 ≤ 2000000000) ∧ (0 ≤ (p.g * c.f0 + p.y * c.f1) * p.t ∧ (p.g * c.f0 + p.y * c.f1) * p.t ≤ 20000000000000) := by
 have a := bd_mul (B := 2000) hg ⟨by have := hc.f0; omega, hc.f0.2⟩
 have b := bd_mul (B := 2000) hy ⟨by have := hc.f1; omega, hc.f1.2⟩
 have d := bd_mul (A := 4000000000) (B := 5000) (a := p.g * c.f0 + p.y * c.f1) ⟨by omega, by omega⟩ ht
 exact ⟨⟨a.1, by omega⟩, ⟨b.1, by omega⟩, ⟨d.1, by omega⟩⟩
theorem progPress (c : Cav) (p : Pt) (v : Int) (w : World) (hc : c.Ok) (hg : 0 ≤ p.g ∧ p.g ≤ 1000000) (hy : 0 ≤ p.y ∧ p.y ≤ 1000000) (ht : 0 ≤ p.t ∧ p.t ≤ 5000) (hv : 0 ≤ v ∧ v ≤ 1000000) :
    Calls Tryz.prog 52 #[cavV c, ptV p, .int .i64 v] w fun e w' => e = .returned (.tuple #[.int .i64 (force c p), .int .i64 (v * 10000000)]) ∧ Below w.heap.size w w' := by
 obtain ⟨b1, b2, b3⟩ := force_bd hc hg hy ht
 obtain ⟨W1, hW1⟩ : ∃ W1, w.alloc (.cells #[.int .i64 c.vlo, .int .i64 c.vhi, .int .i64 c.least, .int .i64 c.most, .int .i64 c.f0, .int .i64 c.f1, .int .i64 c.h0, .int .i64 c.h1, .int .i64 c.rock, .int .i64 c.plo, .int .i64 c.phi] 122) = W1 := ⟨_, rfl⟩
 obtain ⟨eW0, bW0, sW0⟩ := boxed hW1
 obtain ⟨W, hW⟩ : ∃ W, W1.alloc (.cells #[.int .i64 p.g, .int .i64 p.y, .int .i64 p.t, .int .i64 p.w] 127) = W := ⟨_, rfl⟩
 obtain ⟨eW1, bW1, sW1⟩ := boxed hW
 replace eW0 := (bW1.block _ (zqo eW0)).trans eW0
 have hBw : Below w.heap.size w W := (by have := sW0; have := sW1; exact (bW0.trans (bW1.mono (by omega))))
 obtain ⟨zW0, rW0, tW0⟩ := row_cells eW0
 obtain ⟨qW0_0, qW0_1, qW0_2, qW0_3, qW0_4, qW0_5, qW0_6, qW0_7, qW0_8, qW0_9, qW0_10⟩ := rc11 eW0
 clear rW0 tW0 eW0
 obtain ⟨zW1, rW1, tW1⟩ := row_cells eW1
 obtain ⟨qW1_0, qW1_1, qW1_2, qW1_3⟩ := rc4 eW1
 clear rW1 tW1 eW1
 have xW0 : w.heap.size ≤ w.heap.size := by omega
 have xW1 : w.heap.size ≤ W1.heap.size := by omega
 clear bW0 sW0 bW1 sW1
 go_enter Tryz.func52, Tryz.ntmps52
 go_wp2
 go_ret2
 exact ⟨rfl, hBw⟩
theorem gas_bd {s : St} (hs : s.Ok) : (0 ≤ s.glo ∧ s.glo ≤ 1000000) ∧ (0 ≤ s.ghi ∧ s.ghi ≤ 1000000) ∧ (0 ≤ s.ylo ∧ s.ylo ≤ 1000000) ∧ (0 ≤ s.yhi ∧ s.yhi ≤ 1000000) := by
 have := hs.g; have := hs.y
 exact ⟨⟨by omega, by omega⟩, ⟨by omega, by omega⟩, ⟨by omega, by omega⟩, ⟨by omega, by omega⟩⟩
end Go.Proofs.YtpcamocnlnlgiaaGreat.G
set_option linter.unusedVariables false
set_option linter.unusedSimpArgs false
namespace Go.Proofs.YtpcamocnlnlgiaaGreat.G
open Go.RowKit Go.Sd Gas
theorem progLowest (s : St) (w : World) : Calls Tryz.prog 53 #[stV s] w fun e w' => e = .returned (ptV s.low) ∧ Below w.heap.size w w' := by
 obtain ⟨W1, hW1⟩ : ∃ W1, w.alloc (.cells #[.int .i64 s.glo, .int .i64 s.ghi, .int .i64 s.ylo, .int .i64 s.yhi, .int .i64 s.tlo, .int .i64 s.thi, .int .i64 s.wlo, .int .i64 s.whi] 84) = W1 := ⟨_, rfl⟩
 obtain ⟨eW0, bW0, sW0⟩ := boxed hW1
 obtain ⟨W, hW⟩ : ∃ W, W1.alloc (.cells #[.int .i64 0, .int .i64 0, .int .i64 0, .int .i64 0] 127) = W := ⟨_, rfl⟩
 obtain ⟨eW1, bW1, sW1⟩ := boxed hW
 replace eW0 := (bW1.block _ (zqo eW0)).trans eW0
 have hBw : Below w.heap.size w W := (by have := sW0; have := sW1; exact (bW0.trans (bW1.mono (by omega))))
 obtain ⟨zW0, rW0, tW0⟩ := row_cells eW0
 obtain ⟨qW0_0, qW0_1, qW0_2, qW0_3, qW0_4, qW0_5, qW0_6, qW0_7⟩ := rc8 eW0
 obtain ⟨fW0_0, fW0_1, fW0_2, fW0_3, fW0_4, fW0_5, fW0_6, fW0_7⟩ := rf8 eW0
 clear rW0 tW0 eW0
 obtain ⟨zW1, rW1, tW1⟩ := row_cells eW1
 obtain ⟨qW1_0, qW1_1, qW1_2, qW1_3⟩ := rc4 eW1
 obtain ⟨fW1_0, fW1_1, fW1_2, fW1_3⟩ := rf4 eW1
 clear rW1 tW1 eW1
 have xW0 : w.heap.size ≤ w.heap.size := by omega
 have xW1 : w.heap.size ≤ W1.heap.size := by omega
 clear bW0 sW0 bW1 sW1
 go_enter Tryz.func53, Tryz.ntmps53
 go_wp2
 refine bodyPost_ret (v := ptV s.low) (by simp [results, Tryz.results53, go_sem, St.low, *]) rfl ⟨rfl, ?_⟩
 repeat' (first | exact hBw | exact xW1 | refine Below.setCell ?_ ?_ _)
theorem progHighest (s : St) (w : World) : Calls Tryz.prog 54 #[stV s] w fun e w' => e = .returned (ptV s.high) ∧ Below w.heap.size w w' := by
 obtain ⟨W1, hW1⟩ : ∃ W1, w.alloc (.cells #[.int .i64 s.glo, .int .i64 s.ghi, .int .i64 s.ylo, .int .i64 s.yhi, .int .i64 s.tlo, .int .i64 s.thi, .int .i64 s.wlo, .int .i64 s.whi] 84) = W1 := ⟨_, rfl⟩
 obtain ⟨eW0, bW0, sW0⟩ := boxed hW1
 obtain ⟨W, hW⟩ : ∃ W, W1.alloc (.cells #[.int .i64 0, .int .i64 0, .int .i64 0, .int .i64 0] 127) = W := ⟨_, rfl⟩
 obtain ⟨eW1, bW1, sW1⟩ := boxed hW
 replace eW0 := (bW1.block _ (zqo eW0)).trans eW0
 have hBw : Below w.heap.size w W := (by have := sW0; have := sW1; exact (bW0.trans (bW1.mono (by omega))))
 obtain ⟨zW0, rW0, tW0⟩ := row_cells eW0
 obtain ⟨qW0_0, qW0_1, qW0_2, qW0_3, qW0_4, qW0_5, qW0_6, qW0_7⟩ := rc8 eW0
 obtain ⟨fW0_0, fW0_1, fW0_2, fW0_3, fW0_4, fW0_5, fW0_6, fW0_7⟩ := rf8 eW0
 clear rW0 tW0 eW0
 obtain ⟨zW1, rW1, tW1⟩ := row_cells eW1
 obtain ⟨qW1_0, qW1_1, qW1_2, qW1_3⟩ := rc4 eW1
 obtain ⟨fW1_0, fW1_1, fW1_2, fW1_3⟩ := rf4 eW1
 clear rW1 tW1 eW1
 have xW0 : w.heap.size ≤ w.heap.size := by omega
 have xW1 : w.heap.size ≤ W1.heap.size := by omega
 clear bW0 sW0 bW1 sW1
 go_enter Tryz.func54, Tryz.ntmps54
 go_wp2
 refine bodyPost_ret (v := ptV s.high) (by simp [results, Tryz.results54, go_sem, St.high, *]) rfl ⟨rfl, ?_⟩
 repeat' (first | exact hBw | exact xW1 | refine Below.setCell ?_ ?_ _)
end Go.Proofs.YtpcamocnlnlgiaaGreat.G
set_option linter.unusedVariables false
set_option linter.unusedSimpArgs false
namespace Gas
def gcdI (a b : Int) : Int := (Nat.gcd a.toNat b.toNat : Nat)
theorem gcdI_zero {a : Int} (h : 0 ≤ a) : gcdI a 0 = a := by simp [gcdI]; omega
theorem toNat_mod {a b : Int} (ha : 0 ≤ a) (hb : 0 < b) : (a % b).toNat = a.toNat % b.toNat := by
 obtain ⟨m, rfl⟩ := Int.eq_ofNat_of_zero_le ha
 obtain ⟨n, rfl⟩ := Int.eq_ofNat_of_zero_le (show 0 ≤ b by omega)
 simp only [Int.toNat_natCast]; omega
theorem gcdI_step {a b : Int} (ha : 0 ≤ a) (hb : 0 < b) : gcdI b (a % b) = gcdI a b := by
 unfold gcdI
 rw [toNat_mod ha hb, Nat.gcd_comm b.toNat, ← Nat.gcd_rec, Nat.gcd_comm]
theorem gcdI_comm (a b : Int) : gcdI a b = gcdI b a := by unfold gcdI; rw [Nat.gcd_comm]
structure Fr where
 (n d : Int)
def frac (a b : Int) : Fr := ⟨a / gcdI a b, b / gcdI a b⟩
end Gas
namespace Go.Proofs.YtpcamocnlnlgiaaGreat.G
open Go.RowKit Go.Sd Gas
abbrev frV (f : Fr) : Value := .agg #[.int .i64 f.n, .int .i64 f.d]
theorem progReduced (a b : Int) (w : World) (ha : 0 ≤ a ∧ a ≤ 4000000000000000000) (hb : 0 < b ∧ b ≤ 4000000000000000000) :
    Calls Tryz.prog 55 #[.int .i64 a, .int .i64 b] w fun e w' => e = .returned (frV (frac a b)) ∧ Below w.heap.size w w' := by
 obtain ⟨W, hW⟩ : ∃ W, w.alloc (.cells #[.int .i64 0, .int .i64 0] 76) = W := ⟨_, rfl⟩
 obtain ⟨eW0, bW0, sW0⟩ := boxed hW
 have hBw : Below w.heap.size w W := bW0
 obtain ⟨zW0, rW0, tW0⟩ := row_cells eW0
 obtain ⟨qW0_0, qW0_1⟩ := rc2 eW0
 obtain ⟨fW0_0, fW0_1⟩ := rf2 eW0
 clear rW0 tW0 eW0
 have xW0 : w.heap.size ≤ w.heap.size := by omega
 clear bW0 sW0
 go_enter Tryz.func55, Tryz.ntmps55
 go_wp2
 go_loopw [5, 6] (fun x y wr => ∃ g : Grow W, wr = g.x ∧ ∃ p q : Int, x = .int .i64 p ∧ y = .int .i64 q ∧ (0 < p ∧ p ≤ 4000000000000000000) ∧ (0 ≤ q ∧ q ≤ 4000000000000000000) ∧ Hid (gcdI p q = gcdI a b)) (fun x y _ => (intOf y).toNat)
 case atStart => exact ⟨Grow.self W, rfl, b, a, rfl, rfl, hb, ha, gcdI_comm b a⟩
 case round =>
  obtain ⟨g, rfl, p, q, rfl, rfl, hp, hq, hpq⟩ := hrel
  have hg := grow_cell W
  have hgf := grow_frozen W
  by_cases h0 : q = 0
  · subst h0
    have hz := gcdI_zero (a := p) (by omega)
    rw [hz] at hpq
    have hf : Hid (frac a b = ⟨a / p, b / p⟩) := Lib.hid (by unfold frac; rw [← hpq.out])
    have hq1 : 0 ≤ a / p := Int.ediv_nonneg ha.1 (by omega)
    have hq2 : a / p ≤ a := Int.ediv_le_self _ ha.1
    have hq3 : 0 ≤ b / p := Int.ediv_nonneg (by omega) (by omega)
    have hq4 : b / p ≤ b := Int.ediv_le_self _ (by omega)
    clear hz hpq
    go_wp2
    go_region
    go_wp2
    refine bodyPost_ret (v := frV ⟨a / p, b / p⟩) (by simp [results, Tryz.results55, go_sem, *]) rfl ⟨by rw [hf.out], ?_⟩
    exact (((hBw.trans (g.h.mono hBw.size)).setCell (p := ⟨w.heap.size, 0, none⟩) (Nat.le_refl _) _).setCell (p := ⟨w.heap.size, 1, none⟩) (Nat.le_refl _) _).drew
  · have hm0 := Int.emod_nonneg p h0
    have hm1 := Int.emod_lt_of_pos p (show 0 < q by omega)
    have hs := gcdI_step (a := p) (b := q) (by omega) (by omega)
    have hs2 : Hid (gcdI q (p % q) = gcdI a b) := Lib.hid (hs.trans hpq.out)
    clear hs hpq
    go_wp2
    go_region
    go_wp2
    obtain ⟨g2, hg2⟩ := g.next (Below.refl g.x.heap.size g.x).drew
    exact ⟨⟨g2, hg2, q, p % q, rfl, rfl, by omega, by omega, hs2⟩, by simp [intOf]; omega⟩
end Go.Proofs.YtpcamocnlnlgiaaGreat.G
set_option linter.unusedVariables false
set_option linter.unusedSimpArgs false
namespace Go.Proofs.YtpcamocnlnlgiaaGreat.G
open Go.RowKit Go.Sd Gas
def rndB (c : Cav) (k : Nat) : Bool := match k with
 | 0 => true
 | 1 => inB c.f0 500 2000 && inB c.h0 1 100
 | _ => (inB c.f0 500 2000 && inB c.h0 1 100) && (inB c.f1 500 2000 && inB c.h1 1 100)
theorem ok_rnd {c : Cav} {k : Nat} (h : rndB c k = false) : c.ok = false := by
 match k with
 | 0 => cases h
 | 1 => simp only [rndB] at h; simp [Cav.ok, h]
 | k + 2 => simp only [rndB] at h; simp [Cav.ok, h]
theorem progValid (c : Cav) (w : World) : Calls Tryz.prog 50 #[cavV c] w (BoolB c.ok w) := by
 obtain ⟨W, hW⟩ : ∃ W, w.alloc (.cells #[.int .i64 c.vlo, .int .i64 c.vhi, .int .i64 c.least, .int .i64 c.most, .int .i64 c.f0, .int .i64 c.f1, .int .i64 c.h0, .int .i64 c.h1, .int .i64 c.rock, .int .i64 c.plo, .int .i64 c.phi] 122) = W := ⟨_, rfl⟩
 obtain ⟨eW0, bW0, sW0⟩ := boxed hW
 have hBw : Below w.heap.size w W := bW0
 obtain ⟨zW0, rW0, tW0⟩ := row_cells eW0
 obtain ⟨qW0_0, qW0_1, qW0_2, qW0_3, qW0_4, qW0_5, qW0_6, qW0_7, qW0_8, qW0_9, qW0_10⟩ := rc11 eW0
 clear rW0 tW0 eW0
 have xW0 : w.heap.size ≤ w.heap.size := by omega
 clear bW0 sW0
 have hg := grow_cell W
 go_enter Tryz.func50, Tryz.ntmps50
 go_wp2
 go_loopw [3, 4] (fun _ i wr => ∃ g : Grow W, wr = g.x ∧ ((i = .int .i64 0 ∧ Hid True) ∨ (i = .int .i64 1 ∧ Hid (rndB c 1 = true)) ∨ (i = .int .i64 2 ∧ Hid (rndB c 2 = true)))) (fun _ i _ => (2 - intOf i).toNat)
 case atStart => exact ⟨Grow.self W, rfl, .inl ⟨rfl, trivial⟩⟩
 case round =>
  obtain ⟨g, rfl, (⟨rfl, hH⟩ | ⟨rfl, hH⟩ | ⟨rfl, hH⟩)⟩ := hrel
  · go_wp2_with (go_at_call 91; refine Calls.mono (progIn _ _ _ _) ?_; rintro e w1 ⟨(_ | _), rfl, ht, rfl⟩)
    · go_ret
      exact BoolB.mk (ok_rnd (k := 1) (by unfold Hid at *; simp [rndB, *])) (hBw.trans (g.h.mono hBw.size))
    · go_ret
      exact BoolB.mk (ok_rnd (k := 1) (by unfold Hid at *; simp [rndB, *])) (hBw.trans (g.h.mono hBw.size))
    · exact ⟨⟨g, rfl, .inr (.inl ⟨rfl, by unfold Hid at *; simp [rndB, *]⟩)⟩, by simp [intOf]⟩
  · go_wp2_with (go_at_call 91; refine Calls.mono (progIn _ _ _ _) ?_; rintro e w1 ⟨(_ | _), rfl, ht, rfl⟩)
    · go_ret
      exact BoolB.mk (ok_rnd (k := 2) (by unfold Hid at *; simp [rndB, *])) (hBw.trans (g.h.mono hBw.size))
    · go_ret
      exact BoolB.mk (ok_rnd (k := 2) (by unfold Hid at *; simp [rndB, *])) (hBw.trans (g.h.mono hBw.size))
    · exact ⟨⟨g, rfl, .inr (.inr ⟨rfl, by unfold Hid at *; simp only [rndB] at *; simp [*]⟩)⟩, by simp [intOf]⟩
  · go_wp2_with (first | (go_at_call 91; refine Calls.mono (progIn _ _ _ _) ?_; rintro e w1 ⟨(_ | _), rfl, ht, rfl⟩) | (go_at_call 92; refine Calls.mono (progSpan _ _ _ _ _) ?_; rintro e w1 ⟨(_ | _), rfl, ht, hB⟩ <;> ((first | (obtain ⟨g, rfl⟩ := g.next hB) | (obtain ⟨g, rfl⟩ : ∃ g : Grow W, w1 = g.x := ⟨⟨w1, hB⟩, rfl⟩)); clear hB)))
    all_goals
     go_ret
     exact BoolB.mk (by unfold Hid at *; simp only [rndB] at *; simp [Cav.ok, *]) (hBw.trans (g.h.mono hBw.size))
end Go.Proofs.YtpcamocnlnlgiaaGreat.G
set_option linter.unusedVariables false
set_option linter.unusedSimpArgs false
namespace Go.Proofs.YtpcamocnlnlgiaaGreat.G
open Go.RowKit Go.Sd Gas
def rul1 (c : Cav) (s : St) : Bool := decide (force c s.low < c.least * c.vhi * 10000000)
def rul2 (c : Cav) (s : St) : Bool := decide (force c s.high > c.most * c.vlo * 10000000)
theorem BoolB.lit {b t : Bool} {w w' : World} {e : Ending} (h : BoolB b w e w') (hb : b = t) : e = .returned (.bool t) ∧ Below w.heap.size w w' := by
 obtain ⟨t', rfl, ht, hB⟩ := h
 exact ⟨by rw [← hb, ← ht.out], hB⟩
def rulAt (c : Cav) (s : St) (k : Nat) : Bool := match k with
 | 0 => rul1 c s
 | 1 => rul2 c s
 | 2 => thin c s
 | _ => rich c s
def rulTo (c : Cav) (s : St) (k : Nat) : Prop := ∀ j, j < k → rulAt c s j = false
theorem rulTo.next {c : Cav} {s : St} {k : Nat} (h : rulTo c s k) (h1 : rulAt c s k = false) : rulTo c s (k + 1) := by
 intro j hj
 by_cases e : j = k
 · rw [e]; exact h1
 · exact h j (by omega)
end Go.Proofs.YtpcamocnlnlgiaaGreat.G
set_option linter.unusedVariables false
set_option linter.unusedSimpArgs false
namespace Gas
def at0 (l : List Int) (k : Nat) : Int := l.getD k 0
end Gas
namespace Go.Proofs.YtpcamocnlnlgiaaGreat.G
open Go.RowKit Go.Sd
def IntsAt (w : World) (v : Value) (xs : List Int) : Prop :=
 ∃ a cap, v = .slice a xs.length cap ∧ xs.length ≤ maxLen ∧
  (0 < xs.length → ∃ b off, a = some ⟨b, off, none⟩ ∧ b < w.heap.size ∧ ∀ k, k < xs.length → w.cell? ⟨b, off + k, none⟩ = some (.int .i64 (Gas.at0 xs k)))
theorem kept_cell {w w' : World} (hb : Below w.heap.size w w') {b o : Nat} {v : Value} (h : w.cell? ⟨b, o, none⟩ = some v) : w'.cell? ⟨b, o, none⟩ = some v :=
 (hb.cell (p := ⟨b, o, none⟩) (World.block_lt_of_cell? w ⟨b, o, none⟩ h)).trans h
theorem IntsAt.mono {w w' : World} {v : Value} {xs : List Int} (h : IntsAt w v xs) (hb : Below w.heap.size w w') : IntsAt w' v xs := by
 obtain ⟨a, cap, rfl, hm, hc⟩ := h
 refine ⟨a, cap, rfl, hm, fun h0 => ?_⟩
 obtain ⟨b, off, rfl, hlt, hk⟩ := hc h0
 exact ⟨b, off, rfl, Nat.lt_of_lt_of_le hlt hb.size, fun k hk' => kept_cell hb (hk k hk')⟩
theorem infoInt : (Tryz.prog.info? 3).map (fun i => (i.zero, i.size, i.bytes)) = some (some (.int .i64 0), 1, 8) := by kernel_rfl
def OwnInts (B : Nat) (w : World) (v : Value) (xs : List Int) : Prop := w.ownsRow B 3 1 v xs.length (xs.map (Value.int .i64))
theorem OwnInts.nil (B : Nat) (w : World) : OwnInts B w (.slice none 0 0) [] := World.ownsRow_nil w B _ 1
theorem OwnInts.lt {B : Nat} {w : World} {v : Value} {xs : List Int} (h : OwnInts B w v xs) : ∀ k, v.ownBlock = some k → B ≤ k ∧ k < w.heap.size := World.ownsRow.lt h
theorem OwnInts.kept {B : Nat} {w w' : World} {row : Option Nat} {v : Value} {xs : List Int} (h : OwnInts B w v xs) (hg : w.grownBy w' row) (hne : v.ownBlock = none ∨ v.ownBlock ≠ row) : OwnInts B w' v xs := World.ownsRow.kept h hg hne
theorem grown_of_below {w w' : World} (h : Below w.heap.size w w') : w.grownBy w' none :=
 ⟨h.os, h.tape, h.output, h.size, fun k hk _ => h.block k hk⟩
theorem OwnInts.mono {B : Nat} {w w' : World} {v : Value} {xs : List Int} (h : OwnInts B w v xs) (hb : Below w.heap.size w w') : OwnInts B w' v xs :=
 h.kept (grown_of_below hb) (by cases v.ownBlock <;> simp)
theorem OwnInts.from {B B' : Nat} {w : World} {v : Value} {xs : List Int} (h : OwnInts B w v xs) (hB : B' ≤ B) : OwnInts B' w v xs := by
 obtain ⟨h1, h2⟩ := h
 refine ⟨h1, ?_⟩
 rcases h2 with h2 | ⟨g, cap, cur, hv, hg, r⟩
 · exact .inl h2
 · exact .inr ⟨g, cap, cur, hv, by omega, r⟩
theorem OwnInts.at {B : Nat} {w : World} {v : Value} {xs : List Int} (h : OwnInts B w v xs) : IntsAt w v xs := by
 obtain ⟨_, h2⟩ := h
 rcases h2 with ⟨rfl, h0⟩ | ⟨g, cap, cur, rfl, hB, hg, hn, hm, hs, ht⟩
 · refine ⟨none, 0, by rw [h0], by simp [h0], fun h => by omega⟩
 · refine ⟨some ⟨g, 0, none⟩, cap, rfl, by omega, fun _ => ⟨g, 0, rfl, (zqo hg), fun k hk => ?_⟩⟩
   rw [Nat.zero_add, cell_of_row w g k cur _ (0, 0) hg]
   have h1 : (cur.toList.take (xs.length * 1))[k]? = (xs.map (Value.int .i64))[k]? := by rw [ht]
   rw [List.getElem?_take, if_pos (by omega)] at h1
   simp only [List.getElem?_map, List.getElem?_eq_getElem hk, Option.map_some] at h1
   rw [← Array.getElem?_toList, h1]
   simp [Gas.at0, hk]
theorem own_more {B : Nat} {w : World} {v : Value} {xs : List Int} {y : Int} (h : w.ownsRow B 3 1 v (xs.length + 1) (xs.map (Value.int .i64) ++ [.int .i64 y])) : OwnInts B w v (xs ++ [y]) := by
 unfold OwnInts
 simpa using h
theorem below_append {B : Nat} {W w w' : World} {v : Value} {xs : List Int} (hb : Below B W w) (hB : B ≤ w.heap.size) (ho : OwnInts B w v xs) (hg : w.grownBy w' v.ownBlock) : Below B W w' :=
 hb.grown hg hB fun k hk => (ho.lt k hk).1
theorem grownBy_trans {a b c : World} {row : Option Nat} (h : a.grownBy b row) (k : b.grownBy c row) : a.grownBy c row :=
 ⟨k.os.trans h.os, k.tape.trans h.tape, k.output.trans h.output, Nat.le_trans h.size k.size, fun i hi hne => (k.block i (Nat.lt_of_lt_of_le hi h.size) hne).trans (h.block i hi hne)⟩
theorem wpList_app_int {ops : Array Oper} {rest : List Oper} {o : Oper} {a : Act} {Q : Exit → Act → World → Prop} (hgd : o.guard = none) (s x : Operand)
    (ho : o.op = .call { callee := .builtin .append, args := #[s, x], argTypes := #[41, 41] })
    (B : Nat) (w : World) (v : Value) (xs : List Int) (y : Int) (hs : a.eval s = v) (hown : OwnInts B w v xs) (hx : a.eval x = .slice (some ⟨w.heap.size, 0, none⟩) 1 1)
    (hn : xs.length ≤ 1000000) (hB : B ≤ w.heap.size)
    (h : ∀ v' w', OwnInts B w' v' (xs ++ [y]) → w.grownBy w' v.ownBlock → v' ≠ .slice none 0 0 → (v'.ownBlock = v.ownBlock ∨ ∃ m, v'.ownBlock = some m ∧ w.heap.size ≤ m) → wpList Tryz.prog ops Q rest (a.put o.dst v') w') :
    wpList Tryz.prog ops Q (o :: rest) a (w.alloc (.cells #[.int .i64 y] 3)) := by
 obtain ⟨i0, hi, hz0, hz1, hz2⟩ := info_parts infoInt
 refine wpList_append_own_at _ hgd s x 41 ho B 3 i0 (.int .i64 0) 1 8 Tryz.underlying41 hi hz0 hz1 hz2 rfl (by decide) v xs.length _ hs (World.ownsRow.alloc hown _) ⟨w.heap.size, 0, none⟩ 1 1 [.int .i64 y] hx rfl ?_ ?_ ?_ ?_ ?_ ?_
 · exact cell_one_new _ _ _
 · simp [Value.oneCell']
 · unfold maxLen; omega
 · omega
 · simp; omega
 · intro v' w' h1 h2 h3 h4
   refine h v' w' (own_more h1) (grownBy_trans (World.grownBy_alloc w _ _) h2) (fun e => by have := h3.1 e; omega) ?_
   rcases h4 with h4 | h4
   · exact .inl h4
   · exact .inr ⟨_, h4, by simp⟩
end Go.Proofs.YtpcamocnlnlgiaaGreat.G
namespace Gas
end Gas
namespace Go.Proofs.YtpcamocnlnlgiaaGreat.G
open Go.RowKit Go.Sd Gas
end Go.Proofs.YtpcamocnlnlgiaaGreat.G
