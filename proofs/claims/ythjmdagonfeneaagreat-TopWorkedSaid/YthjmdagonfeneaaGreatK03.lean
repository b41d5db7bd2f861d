/- Laws and walks: GGpl. -/
import Derived.Test.YthjmdagonfeneaaGreatK00
import Derived.IntWalk
set_option maxRecDepth 100000
set_option maxHeartbeats 16000000
set_option linter.unusedVariables false
set_option linter.unusedSimpArgs false
namespace Gas
structure Cav where
 (vlo vhi least most f0 f1 h0 h1 rock plo phi : Int)
structure St where
 (glo ghi ylo yhi tlo thi wlo whi : Int)
structure Pt where
 (g y t w : Int)
structure Op where
 (kind lg ly lt lw moles slo shi wlo whi : Int)
structure Out where
 (glo ghi ylo yhi wlo whi : Int)
def inB (n a b : Int) : Bool := decide (a ≤ n) && decide (n ≤ b)
def spanB (lo hi a b : Int) : Bool := decide (a ≤ lo) && decide (lo ≤ hi) && decide (hi ≤ b)
theorem inB_iff {n a b : Int} : inB n a b = true ↔ a ≤ n ∧ n ≤ b := by simp [inB]
theorem spanB_iff {lo hi a b : Int} : spanB lo hi a b = true ↔ a ≤ lo ∧ lo ≤ hi ∧ hi ≤ b := by simp [spanB, and_assoc]
def Cav.ok (c : Cav) : Bool :=
 (inB c.f0 500 2000 && inB c.h0 1 100) && (inB c.f1 500 2000 && inB c.h1 1 100) && spanB c.vlo c.vhi 1 1000000 && spanB c.least c.most 0 100000 && inB c.rock 2000 5000 && spanB c.plo c.phi 0 1000
def Pt.ok (p : Pt) : Bool := inB p.g 0 1000000 && inB p.y 0 1000000 && inB p.t 2000 5000 && inB p.w 0 1000000000
def St.ok (s : St) : Bool := spanB s.glo s.ghi 0 1000000 && spanB s.ylo s.yhi 0 1000000 && spanB s.tlo s.thi 2000 5000 && spanB s.wlo s.whi 0 1000000000
def Op.lot (o : Op) : Pt := ⟨o.lg, o.ly, o.lt, o.lw⟩
def Op.ok (o : Op) : Bool :=
 if o.kind = 1 then o.lot.ok && decide (o.moles = 0 ∧ o.slo = 0 ∧ o.shi = 0 ∧ o.wlo = 0 ∧ o.whi = 0)
 else if o.kind = 2 then inB o.moles 0 2000000 && decide (o.lg = 0 ∧ o.ly = 0 ∧ o.lt = 0 ∧ o.lw = 0 ∧ o.slo = 0 ∧ o.shi = 0 ∧ o.wlo = 0 ∧ o.whi = 0)
 else if o.kind = 3 then spanB o.slo o.shi 0 1000 && spanB o.wlo o.whi 0 1000000 && decide (o.lg = 0 ∧ o.ly = 0 ∧ o.lt = 0 ∧ o.lw = 0 ∧ o.moles = 0)
 else false
structure Cav.Ok (c : Cav) : Prop where
 f0 : 500 ≤ c.f0 ∧ c.f0 ≤ 2000
 h0 : 1 ≤ c.h0 ∧ c.h0 ≤ 100
 f1 : 500 ≤ c.f1 ∧ c.f1 ≤ 2000
 h1 : 1 ≤ c.h1 ∧ c.h1 ≤ 100
 v : 1 ≤ c.vlo ∧ c.vlo ≤ c.vhi ∧ c.vhi ≤ 1000000
 p : 0 ≤ c.least ∧ c.least ≤ c.most ∧ c.most ≤ 100000
 rock : 2000 ≤ c.rock ∧ c.rock ≤ 5000
 pur : 0 ≤ c.plo ∧ c.plo ≤ c.phi ∧ c.phi ≤ 1000
theorem Cav.ok_iff {c : Cav} : c.ok = true ↔ c.Ok := by
 simp only [Cav.ok, Bool.and_eq_true, inB_iff, spanB_iff]
 constructor
 · rintro ⟨⟨⟨⟨⟨⟨a, b⟩, c, d⟩, e⟩, f⟩, g⟩, h⟩; exact ⟨a, b, c, d, e, f, g, h⟩
 · rintro ⟨a, b, c, d, e, f, g, h⟩; exact ⟨⟨⟨⟨⟨⟨a, b⟩, c, d⟩, e⟩, f⟩, g⟩, h⟩
structure Pt.Ok (p : Pt) : Prop where
 g : 0 ≤ p.g ∧ p.g ≤ 1000000
 y : 0 ≤ p.y ∧ p.y ≤ 1000000
 t : 2000 ≤ p.t ∧ p.t ≤ 5000
 w : 0 ≤ p.w ∧ p.w ≤ 1000000000
theorem Pt.ok_iff {p : Pt} : p.ok = true ↔ p.Ok := by
 simp only [Pt.ok, Bool.and_eq_true, inB_iff]
 constructor
 · rintro ⟨⟨⟨a, b⟩, c⟩, d⟩; exact ⟨a, b, c, d⟩
 · rintro ⟨a, b, c, d⟩; exact ⟨⟨⟨a, b⟩, c⟩, d⟩
structure Pt.Wide (p : Pt) : Prop where
 g : 0 ≤ p.g ∧ p.g ≤ 100000000
 y : 0 ≤ p.y ∧ p.y ≤ 100000000
 t : 2000 ≤ p.t ∧ p.t ≤ 5000
 w : 0 ≤ p.w ∧ p.w ≤ 100000000000
theorem Pt.Ok.wide {p : Pt} (h : p.Ok) : p.Wide := ⟨⟨h.g.1, by have := h.g; omega⟩, ⟨h.y.1, by have := h.y; omega⟩, h.t, ⟨h.w.1, by have := h.w; omega⟩⟩
structure St.Ok (s : St) : Prop where
 g : 0 ≤ s.glo ∧ s.glo ≤ s.ghi ∧ s.ghi ≤ 1000000
 y : 0 ≤ s.ylo ∧ s.ylo ≤ s.yhi ∧ s.yhi ≤ 1000000
 t : 2000 ≤ s.tlo ∧ s.tlo ≤ s.thi ∧ s.thi ≤ 5000
 w : 0 ≤ s.wlo ∧ s.wlo ≤ s.whi ∧ s.whi ≤ 1000000000
theorem St.ok_iff {s : St} : s.ok = true ↔ s.Ok := by
 simp only [St.ok, Bool.and_eq_true, spanB_iff]
 constructor
 · rintro ⟨⟨⟨a, b⟩, c⟩, d⟩; exact ⟨a, b, c, d⟩
 · rintro ⟨a, b, c, d⟩; exact ⟨⟨⟨a, b⟩, c⟩, d⟩
inductive Op.Is : Op → Prop
 | inject (p : Pt) (h : p.Ok) : Op.Is ⟨1, p.g, p.y, p.t, p.w, 0, 0, 0, 0, 0⟩
 | withdraw (m : Int) (h : 0 ≤ m ∧ m ≤ 2000000) : Op.Is ⟨2, 0, 0, 0, 0, m, 0, 0, 0, 0⟩
 | rest (a b x y : Int) (h : 0 ≤ a ∧ a ≤ b ∧ b ≤ 1000) (k : 0 ≤ x ∧ x ≤ y ∧ y ≤ 1000000) : Op.Is ⟨3, 0, 0, 0, 0, 0, a, b, x, y⟩
theorem Op.ok_is {o : Op} (h : o.ok = true) : o.Is := by
 obtain ⟨k, lg, ly, lt, lw, m, a, b, x, y⟩ := o
 unfold Op.ok at h
 simp only [Op.lot] at h
 split at h
 · rename_i e
   simp only [Bool.and_eq_true, decide_eq_true_eq, Pt.ok_iff] at h
   obtain ⟨hp, rfl, rfl, rfl, rfl, rfl⟩ := h
   subst e
   exact .inject _ hp
 · split at h
   · rename_i e
     simp only [Bool.and_eq_true, decide_eq_true_eq, inB_iff] at h
     obtain ⟨hp, rfl, rfl, rfl, rfl, rfl, rfl, rfl, rfl⟩ := h
     subst e
     exact .withdraw _ hp
   · split at h
     · rename_i e
       simp only [Bool.and_eq_true, decide_eq_true_eq, spanB_iff] at h
       obtain ⟨⟨hp, hq⟩, rfl, rfl, rfl, rfl, rfl⟩ := h
       subst e
       exact .rest _ _ _ _ hp hq
     · cases h
theorem Op.is_ok {o : Op} (h : o.Is) : o.ok = true := by
 cases h with
 | inject p h => simpa [Op.ok, Op.lot, Pt.ok_iff] using h
 | withdraw m h => simpa [Op.ok, inB_iff] using h
 | rest a b x y h k => simpa [Op.ok, spanB_iff] using ⟨h, k⟩
def force (c : Cav) (p : Pt) : Int := (p.g * c.f0 + p.y * c.f1) * p.t * 8314
def St.low (s : St) : Pt := ⟨s.glo, s.ylo, s.tlo, s.wlo⟩
def St.high (s : St) : Pt := ⟨s.ghi, s.yhi, s.thi, s.whi⟩
def thin (c : Cav) (s : St) : Bool := decide (1000 * s.ylo < c.plo * (s.ghi + s.ylo))
def rich (c : Cav) (s : St) : Bool := decide (1000 * s.yhi > c.phi * (s.glo + s.yhi))
def sure (c : Cav) (s : St) : Int :=
 if force c s.low < c.least * c.vhi * 10000000 then 2 else if force c s.high > c.most * c.vlo * 10000000 then 3 else if thin c s = true then 4 else if rich c s = true then 5 else 1
def keeps (c : Cav) (p : Pt) (v : Int) : Int :=
 if force c p < c.least * v * 10000000 then 2 else if force c p > c.most * v * 10000000 then 3 else if 1000 * p.y < c.plo * (p.g + p.y) then 4 else if 1000 * p.y > c.phi * (p.g + p.y) then 5 else 1
def heat (c : Cav) (p : Pt) : Int := p.g * c.h0 + p.y * c.h1
def warm (h t l lt : Int) : Int := if h + l = 0 then t else (h * t + l * lt) / (h + l)
def near (rock t s : Int) : Int := t + ((rock - t) * s).tdiv 1000
def part (m n all : Int) : Int := if all = 0 then 0 else m * n / all
def inject (c : Cav) (p l : Pt) : Pt := ⟨p.g + l.g, p.y + l.y, warm (heat c p) p.t (heat c l) l.t, p.w + l.w⟩
def left (p : Pt) (m : Int) : Pt := ⟨p.g - (m - part m p.y (p.g + p.y)), p.y - part m p.y (p.g + p.y), p.t, p.w - part m p.w (p.g + p.y)⟩
def out (p : Pt) (m : Int) : Pt := ⟨m - part m p.y (p.g + p.y), part m p.y (p.g + p.y), 0, part m p.w (p.g + p.y)⟩
def rest (c : Cav) (p : Pt) (s w : Int) : Pt := ⟨p.g, p.y, near c.rock p.t s, p.w + w⟩
def one (c : Cav) (p : Pt) (o : Op) (s w : Int) : Option (Pt × Pt) :=
 if o.kind = 1 then if (inject c p o.lot).ok = true then some (inject c p o.lot, ⟨0, 0, 0, 0⟩) else none
 else if o.kind = 2 then if o.moles ≤ p.g + p.y then some (left p o.moles, out p o.moles) else none
 else if (rest c p s w).ok = true then some (rest c p s w, ⟨0, 0, 0, 0⟩) else none
end Gas
namespace Gas
theorem mul_nn {a b : Int} (ha : 0 ≤ a) (hb : 0 ≤ b) : 0 ≤ a * b := Int.mul_nonneg ha hb
theorem mul_up {a b c : Int} (h : a ≤ b) (hc : 0 ≤ c) : a * c ≤ b * c := Int.mul_le_mul_of_nonneg_right h hc
theorem mul_up2 {a b c : Int} (h : a ≤ b) (hc : 0 ≤ c) : c * a ≤ c * b := Int.mul_le_mul_of_nonneg_left h hc
theorem part_zero (n all : Int) : part 0 n all = 0 := by unfold part; split <;> simp
theorem le_part {q m n all : Int} (h : 0 < all) (hq : q * all ≤ m * n) : q ≤ part m n all := by
 unfold part; rw [if_neg (by omega)]; exact (Int.le_ediv_iff_mul_le h).2 hq
theorem part_mul {m n all : Int} (h : 0 < all) : part m n all * all ≤ m * n := by
 unfold part; rw [if_neg (by omega)]; exact Int.ediv_mul_le _ (by omega)
theorem part_nn {m n all : Int} (hm : 0 ≤ m) (hn : 0 ≤ n) (h : 0 ≤ all) : 0 ≤ part m n all := by
 by_cases e : all = 0
 · simp [part, e]
 · exact le_part (by omega) (by rw [Int.zero_mul]; exact mul_nn hm hn)
theorem part_le_n {m n all : Int} (hm : 0 ≤ m) (hn : 0 ≤ n) (h : m ≤ all) : part m n all ≤ n := by
 unfold part; split
 · exact hn
 · have h1 : m * n / all ≤ all * n / all := Int.ediv_le_ediv (by omega) (mul_up h hn)
   rwa [Int.mul_comm all n, Int.mul_ediv_cancel _ (by omega)] at h1
theorem part_le_m {m n all : Int} (hm : 0 ≤ m) (hn : 0 ≤ n) (h : n ≤ all) : part m n all ≤ m := by
 unfold part; split
 · exact hm
 · have h1 : m * n / all ≤ m * all / all := Int.ediv_le_ediv (by omega) (mul_up2 h hm)
   rwa [Int.mul_ediv_cancel _ (by omega)] at h1
theorem part_all {m n d e : Int} (hm : 0 ≤ m) (hn : 0 ≤ n) (h0 : 0 ≤ d) (h : d ≤ e) (hmd : m ≤ d) : part m n e ≤ part m n d := by
 by_cases z : d = 0
 · obtain rfl : m = 0 := by omega
   simp [part_zero]
 · have hq := part_nn (m := m) (n := n) (all := e) hm hn (by omega)
   have := part_mul (m := m) (n := n) (all := e) (by omega)
   exact le_part (by omega) (Int.le_trans (mul_up2 h hq) this)
theorem part_up {m n k d : Int} (hm : 0 ≤ m) (h0 : 0 ≤ d) (h : n ≤ k) : part m n d ≤ part m k d := by
 unfold part; split
 · omega
 · exact Int.ediv_le_ediv (by omega) (mul_up2 h hm)
theorem part_stay {m n k d : Int} (hm : 0 ≤ m) (h : n ≤ k) (hmd : m ≤ d) : n - part m n d ≤ k - part m k d := by
 by_cases z : d = 0
 · obtain rfl : m = 0 := by omega
   simpa [part_zero] using h
 · have h1 := part_mul (m := m) (n := k) (all := d) (by omega)
   have h2 : part m k d - (k - n) ≤ part m n d := by
    refine le_part (by omega) ?_
    have h3 : m * (k - n) ≤ d * (k - n) := mul_up hmd (by omega)
    have e1 : m * (k - n) = m * k - m * n := Int.mul_sub _ _ _
    have e2 : (part m k d - (k - n)) * d = part m k d * d - (k - n) * d := Int.sub_mul _ _ _
    have e3 : (k - n) * d = d * (k - n) := Int.mul_comm _ _
    omega
   omega
theorem share_up {m g y z : Int} (hm : 0 ≤ m) (hg : 0 ≤ g) (hy : 0 ≤ y) (h : y ≤ z) (hmd : m ≤ g + y) : part m y (g + y) ≤ part m z (g + z) := by
 by_cases e : g + y = 0
 · obtain rfl : m = 0 := by omega
   simp [part_zero]
 · have h1 := part_mul (m := m) (n := y) (all := g + y) (by omega)
   have h2 := part_le_m (m := m) (n := y) (all := g + y) hm hy (by omega)
   refine le_part (by omega) ?_
   generalize part m y (g + y) = q at *
   have h3 : q * (z - y) ≤ m * (z - y) := mul_up h2 (by omega)
   have e1 : m * (z - y) = m * z - m * y := Int.mul_sub _ _ _
   have e2 : q * (g + z) = q * (g + y) + q * (z - y) := by rw [← Int.mul_add]; congr 1; omega
   omega
theorem share_stay {m g y z : Int} (hm : 0 ≤ m) (hg : 0 ≤ g) (hy : 0 ≤ y) (h : y ≤ z) (hmd : m ≤ g + y) : y - part m y (g + y) ≤ z - part m z (g + z) := by
 by_cases e : g + y = 0
 · obtain rfl : m = 0 := by omega
   simpa [part_zero] using h
 · have h1 := part_mul (m := m) (n := z) (all := g + z) (by omega)
   have h0 := part_nn (m := m) (n := z) (all := g + z) hm (by omega) (by omega)
   have h2 : part m z (g + z) - (z - y) ≤ part m y (g + y) := by
    refine le_part (by omega) ?_
    generalize part m z (g + z) = q at *
    have e1 : q * (g + z) = q * (g + y) + q * (z - y) := by rw [← Int.mul_add]; congr 1; omega
    have e2 : m * (z - y) = m * z - m * y := Int.mul_sub _ _ _
    have e3 : (q - (z - y)) * (g + y) = q * (g + y) - (z - y) * (g + y) := Int.sub_mul _ _ _
    have e4 : (m - (g + y)) * (z - y) = m * (z - y) - (z - y) * (g + y) := by rw [Int.sub_mul]; congr 1; exact Int.mul_comm _ _
    have h3 : (m - (g + y)) * (z - y) ≤ 0 := Int.mul_nonpos_of_nonpos_of_nonneg (by omega) (by omega)
    have h4 := mul_nn h0 (show 0 ≤ z - y by omega)
    omega
   omega
theorem other_stay {m g k y : Int} (hm : 0 ≤ m) (hg : 0 ≤ g) (hy : 0 ≤ y) (h : g ≤ k) (hmd : m ≤ g + y) : g + part m y (g + y) ≤ k + part m y (k + y) := by
 by_cases e : g + y = 0
 · obtain rfl : m = 0 := by omega
   simpa [part_zero] using h
 · have h1 := part_mul (m := m) (n := y) (all := g + y) (by omega)
   have h2 := part_le_m (m := m) (n := y) (all := g + y) hm hy (by omega)
   have h3 : part m y (g + y) - (k - g) ≤ part m y (k + y) := by
    refine le_part (by omega) ?_
    generalize part m y (g + y) = q at *
    have e1 : (q - (k - g)) * (k + y) = q * (g + y) + q * (k - g) - (k - g) * (k + y) := by
     rw [Int.sub_mul, ← Int.mul_add]; congr 2; omega
    have e2 : (q - (k + y)) * (k - g) = q * (k - g) - (k - g) * (k + y) := by rw [Int.sub_mul]; congr 1; exact Int.mul_comm _ _
    have h3 : (q - (k + y)) * (k - g) ≤ 0 := Int.mul_nonpos_of_nonpos_of_nonneg (by omega) (by omega)
    omega
   omega
theorem le_warm {q h t l lt : Int} (h0 : 0 < h + l) (hq : q * (h + l) ≤ h * t + l * lt) : q ≤ warm h t l lt := by
 unfold warm; rw [if_neg (by omega)]; exact (Int.le_ediv_iff_mul_le h0).2 hq
theorem warm_mul {h t l lt : Int} (h0 : 0 < h + l) : warm h t l lt * (h + l) ≤ h * t + l * lt := by
 unfold warm; rw [if_neg (by omega)]; exact Int.ediv_mul_le _ (by omega)
theorem warm_up {h t u l lt : Int} (hh : 0 ≤ h) (hl : 0 ≤ l) (htu : t ≤ u) : warm h t l lt ≤ warm h u l lt := by
 unfold warm; split
 · exact htu
 · exact Int.ediv_le_ediv (by omega) (Int.add_le_add_right (mul_up2 htu hh) _)
theorem warm_ge {h t l lt a : Int} (hh : 0 ≤ h) (hl : 0 ≤ l) (ht : a ≤ t) (hlt : a ≤ lt) : a ≤ warm h t l lt := by
 by_cases e : h + l = 0
 · simpa [warm, e] using ht
 · refine le_warm (by omega) ?_
   have e1 : a * (h + l) = h * a + l * a := by rw [Int.mul_add, Int.mul_comm a h, Int.mul_comm a l]
   have h1 := mul_up2 ht hh
   have h2 := mul_up2 hlt hl
   omega
theorem warm_le {h t l lt b : Int} (hh : 0 ≤ h) (hl : 0 ≤ l) (ht : t ≤ b) (hlt : lt ≤ b) : warm h t l lt ≤ b := by
 by_cases e : h + l = 0
 · simpa [warm, e] using ht
 · have h1 := mul_up2 ht hh
   have h2 := mul_up2 hlt hl
   have h3 : h * t + l * lt ≤ b * (h + l) := by
    have e1 : b * (h + l) = h * b + l * b := by rw [Int.mul_add, Int.mul_comm b h, Int.mul_comm b l]
    omega
   unfold warm; rw [if_neg e]
   have := Int.ediv_le_ediv (c := h + l) (by omega) h3
   rwa [Int.mul_ediv_cancel _ (by omega)] at this
theorem warm_more {h k t l lt : Int} (hh : 0 ≤ h) (hl : 0 ≤ l) (hk : h ≤ k) (ht : lt ≤ t) : warm h t l lt ≤ warm k t l lt := by
 by_cases e : h + l = 0
 · obtain rfl : h = 0 := by omega
   obtain rfl : l = 0 := by omega
   by_cases z : k = 0
   · subst z; exact Int.le_refl _
   · simp [warm, z, Int.mul_ediv_cancel_left]
 · have h1 := warm_mul (h := h) (t := t) (l := l) (lt := lt) (by omega)
   have h2 := warm_le (h := h) (t := t) (l := l) (lt := lt) (b := t) hh hl (Int.le_refl _) ht
   refine le_warm (by omega) ?_
   generalize warm h t l lt = q at *
   have e1 : q * (k + l) = q * (h + l) + q * (k - h) := by rw [← Int.mul_add]; congr 1; omega
   have e2 : k * t = h * t + t * (k - h) := by rw [Int.mul_sub, Int.mul_comm t k, Int.mul_comm t h]; omega
   have h3 := mul_up h2 (show 0 ≤ k - h by omega)
   omega
theorem warm_less {h k t l lt : Int} (hh : 0 ≤ h) (hl : 0 ≤ l) (hk : h ≤ k) (ht : t ≤ lt) : warm k t l lt ≤ warm h t l lt := by
 by_cases e : h + l = 0
 · obtain rfl : h = 0 := by omega
   obtain rfl : l = 0 := by omega
   by_cases z : k = 0
   · subst z; exact Int.le_refl _
   · simp [warm, z, Int.mul_ediv_cancel_left]
 · have h1 := warm_mul (h := k) (t := t) (l := l) (lt := lt) (by omega)
   have h2 := warm_ge (h := k) (t := t) (l := l) (lt := lt) (a := t) (by omega) hl (Int.le_refl _) ht
   refine le_warm (by omega) ?_
   generalize warm k t l lt = q at *
   have e1 : q * (k + l) = q * (h + l) + q * (k - h) := by rw [← Int.mul_add]; congr 1; omega
   have e2 : k * t = h * t + t * (k - h) := by rw [Int.mul_sub, Int.mul_comm t k, Int.mul_comm t h]; omega
   have h3 := mul_up h2 (show 0 ≤ k - h by omega)
   omega
theorem warm_between {a h b t l lt : Int} (ha : 0 ≤ a) (hl : 0 ≤ l) (h1 : a ≤ h) (h2 : h ≤ b) :
    min (warm a t l lt) (warm b t l lt) ≤ warm h t l lt ∧ warm h t l lt ≤ max (warm a t l lt) (warm b t l lt) := by
 by_cases e : t ≤ lt
 · have x := warm_less ha hl h1 e
   have y := warm_less (show 0 ≤ h by omega) hl h2 e
   omega
 · have x := warm_more ha hl h1 (show lt ≤ t by omega)
   have y := warm_more (show 0 ≤ h by omega) hl h2 (show lt ≤ t by omega)
   omega
theorem tdiv_k (a : Int) : a.tdiv 1000 = if 0 ≤ a then a / 1000 else -((-a) / 1000) := by
 split
 · rename_i h; rw [Int.tdiv_eq_ediv_of_nonneg h]
 · rename_i h
   have := Int.neg_tdiv (a := -a) (b := 1000)
   rw [Int.neg_neg] at this
   rw [this, Int.tdiv_eq_ediv_of_nonneg (by omega)]
theorem near_up {rock t u s : Int} (h0 : 0 ≤ s ∧ s ≤ 1000) (h : t ≤ u) : near rock t s ≤ near rock u s := by
 unfold near
 rw [tdiv_k, tdiv_k]
 have e : (rock - t) * s = (rock - u) * s + (u - t) * s := by rw [← Int.add_mul]; congr 1; omega
 have h1 : (u - t) * s ≤ (u - t) * 1000 := mul_up2 h0.2 (by omega)
 have h2 := mul_nn (show 0 ≤ u - t by omega) h0.1
 rw [e]
 generalize (rock - u) * s = A at *
 generalize (u - t) * s = B at *
 split <;> split <;> omega
theorem near_between {rock t a s b : Int} (h0 : 0 ≤ a) (h1 : a ≤ s) (h2 : s ≤ b) :
    min (near rock t a) (near rock t b) ≤ near rock t s ∧ near rock t s ≤ max (near rock t a) (near rock t b) := by
 unfold near
 rw [tdiv_k, tdiv_k, tdiv_k]
 by_cases e : 0 ≤ rock - t
 · have i0 := mul_nn e h0
   have i1 := mul_up2 h1 e
   have i2 := mul_up2 h2 e
   rw [if_pos (by omega), if_pos (by omega), if_pos (by omega)]
   omega
 · have f0 := mul_nn (show 0 ≤ -(rock - t) by omega) h0
   have f1 := mul_up2 h1 (show 0 ≤ -(rock - t) by omega)
   have f2 := mul_up2 h2 (show 0 ≤ -(rock - t) by omega)
   simp only [Int.neg_mul] at f0 f1 f2
   split <;> split <;> split <;> omega
theorem near_in {rock t s lo hi : Int} (h0 : 0 ≤ s ∧ s ≤ 1000) (ht : lo ≤ t ∧ t ≤ hi) (hr : lo ≤ rock ∧ rock ≤ hi) : lo ≤ near rock t s ∧ near rock t s ≤ hi := by
 have h := near_between (rock := rock) (t := t) (a := 0) (s := s) (b := 1000) (by omega) h0.1 h0.2
 have e0 : near rock t 0 = t := by simp [near]
 have e1 : near rock t 1000 = rock := by unfold near; rw [Int.mul_tdiv_cancel _ (by omega)]; omega
 rw [e0, e1] at h
 omega
theorem heat_up {c : Cav} {p q : Pt} (hc : c.Ok) (hg : p.g ≤ q.g) (hy : p.y ≤ q.y) : heat c p ≤ heat c q := by
 have a := mul_up hg (show 0 ≤ c.h0 by have := hc.h0; omega)
 have b := mul_up hy (show 0 ≤ c.h1 by have := hc.h1; omega)
 unfold heat; omega
theorem heat_nn {c : Cav} {p : Pt} (hc : c.Ok) (hg : 0 ≤ p.g) (hy : 0 ≤ p.y) : 0 ≤ heat c p := by
 have a := mul_nn hg (show 0 ≤ c.h0 by have := hc.h0; omega)
 have b := mul_nn hy (show 0 ≤ c.h1 by have := hc.h1; omega)
 unfold heat; omega
end Gas
namespace Gas
structure St.Has (s : St) (p : Pt) : Prop where
 g : s.glo ≤ p.g ∧ p.g ≤ s.ghi
 y : s.ylo ≤ p.y ∧ p.y ≤ s.yhi
 t : s.tlo ≤ p.t ∧ p.t ≤ s.thi
 w : s.wlo ≤ p.w ∧ p.w ≤ s.whi
structure Out.Has (s : Out) (p : Pt) : Prop where
 g : s.glo ≤ p.g ∧ p.g ≤ s.ghi
 y : s.ylo ≤ p.y ∧ p.y ≤ s.yhi
 w : s.wlo ≤ p.w ∧ p.w ≤ s.whi
 t : p.t = 0
theorem St.Has.ok {s : St} {p : Pt} (h : s.Has p) (hs : s.Ok) : p.Ok := by
 obtain ⟨a, b, c, d⟩ := h
 obtain ⟨e, f, g, k⟩ := hs
 exact ⟨by omega, by omega, by omega, by omega⟩
def injS (c : Cav) (s : St) (l : Pt) : St :=
 ⟨s.glo + l.g, s.ghi + l.g, s.ylo + l.y, s.yhi + l.y, min (warm (heat c s.low) s.tlo (heat c l) l.t) (warm (heat c s.high) s.tlo (heat c l) l.t), max (warm (heat c s.low) s.thi (heat c l) l.t) (warm (heat c s.high) s.thi (heat c l) l.t), s.wlo + l.w, s.whi + l.w⟩
def leftS (s : St) (m : Int) : St :=
 ⟨s.glo - (m - part m s.ylo (s.glo + s.ylo)), s.ghi - (m - part m s.yhi (s.ghi + s.yhi)), s.ylo - part m s.ylo (s.glo + s.ylo), s.yhi - part m s.yhi (s.ghi + s.yhi), s.tlo, s.thi, s.wlo - part m s.wlo (s.glo + s.ylo), s.whi - part m s.whi (s.ghi + s.yhi)⟩
def outS (s : St) (m : Int) : Out :=
 ⟨m - part m s.yhi (s.glo + s.yhi), m - part m s.ylo (s.ghi + s.ylo), part m s.ylo (s.ghi + s.ylo), part m s.yhi (s.glo + s.yhi), part m s.wlo (s.ghi + s.yhi), part m s.whi (s.glo + s.ylo)⟩
def restS (c : Cav) (s : St) (a b x y : Int) : St :=
 ⟨s.glo, s.ghi, s.ylo, s.yhi, min (near c.rock s.tlo a) (near c.rock s.tlo b), max (near c.rock s.thi a) (near c.rock s.thi b), s.wlo + x, s.whi + y⟩
def act (c : Cav) (s : St) (o : Op) : Option (St × Out) :=
 if o.kind = 1 then if s.ghi + o.lg ≤ 1000000 ∧ s.yhi + o.ly ≤ 1000000 ∧ s.whi + o.lw ≤ 1000000000 then some (injS c s o.lot, ⟨0, 0, 0, 0, 0, 0⟩) else none
 else if o.kind = 2 then if o.moles ≤ s.glo + s.ylo then some (leftS s o.moles, outS s o.moles) else none
 else if s.whi + o.whi ≤ 1000000000 then some (restS c s o.slo o.shi o.wlo o.whi, ⟨0, 0, 0, 0, 0, 0⟩) else none
theorem low_up {s : St} {p : Pt} (h : s.Has p) : s.low.g ≤ p.g ∧ s.low.y ≤ p.y ∧ p.g ≤ s.high.g ∧ p.y ≤ s.high.y := ⟨h.g.1, h.y.1, h.g.2, h.y.2⟩
theorem inj_has {c : Cav} {s : St} {p l : Pt} (hc : c.Ok) (hs : s.Ok) (hl : 0 ≤ l.g ∧ 0 ≤ l.y) (hp : s.Has p) : (injS c s l).Has (inject c p l) := by
 obtain ⟨u1, u2, u3, u4⟩ := low_up hp
 have hg := hs.g
 have hy := hs.y
 have n0 := heat_nn hc (p := l) hl.1 hl.2
 have n1 := heat_nn hc (p := s.low) (by show 0 ≤ s.glo; omega) (by show 0 ≤ s.ylo; omega)
 have n2 := heat_up hc u1 u2
 have n3 := heat_up hc u3 u4
 have a := warm_between (t := s.tlo) (lt := l.t) n1 n0 n2 n3
 have b := warm_between (t := s.thi) (lt := l.t) n1 n0 n2 n3
 have x := warm_up (lt := l.t) (Int.le_trans n1 n2) n0 hp.t.1
 have y := warm_up (lt := l.t) (Int.le_trans n1 n2) n0 hp.t.2
 have := hp.g; have := hp.y; have := hp.w
 refine ⟨⟨?_, ?_⟩, ⟨?_, ?_⟩, ⟨?_, ?_⟩, ⟨?_, ?_⟩⟩ <;> simp only [injS, inject] <;> omega
theorem inj_ok {c : Cav} {s : St} {l : Pt} (hc : c.Ok) (hs : s.Ok) (hl : 0 ≤ l.g ∧ 0 ≤ l.y ∧ 0 ≤ l.w ∧ 2000 ≤ l.t ∧ l.t ≤ 5000) (h : s.ghi + l.g ≤ 1000000 ∧ s.yhi + l.y ≤ 1000000 ∧ s.whi + l.w ≤ 1000000000) : (injS c s l).Ok := by
 have hg := hs.g
 have hy := hs.y
 have ht := hs.t
 have hw := hs.w
 have n0 := heat_nn hc (p := l) hl.1 hl.2.1
 have n1 := heat_nn hc (p := s.low) (by show 0 ≤ s.glo; omega) (by show 0 ≤ s.ylo; omega)
 have n2 := heat_nn hc (p := s.high) (by show 0 ≤ s.ghi; omega) (by show 0 ≤ s.yhi; omega)
 have a1 := warm_ge (a := 2000) n1 n0 ht.1 hl.2.2.2.1
 have a2 := warm_ge (a := 2000) n2 n0 ht.1 hl.2.2.2.1
 have b1 := warm_le (b := 5000) n1 n0 ht.2.2 hl.2.2.2.2
 have b2 := warm_le (b := 5000) n2 n0 ht.2.2 hl.2.2.2.2
 have c1 := warm_up (lt := l.t) n1 n0 ht.2.1
 refine ⟨⟨?_, ?_, ?_⟩, ⟨?_, ?_, ?_⟩, ⟨?_, ?_, ?_⟩, ⟨?_, ?_, ?_⟩⟩ <;> simp only [injS] <;> omega
theorem left_has {s : St} {p : Pt} {m : Int} (hs : s.Ok) (hm : 0 ≤ m) (h : m ≤ s.glo + s.ylo) (hp : s.Has p) : (leftS s m).Has (left p m) ∧ (outS s m).Has (out p m) := by
 obtain ⟨g0, g1, -⟩ := hs.g
 obtain ⟨y0, y1, -⟩ := hs.y
 obtain ⟨w0, w1, -⟩ := hs.w
 have := hp.g; have := hp.y; have := hp.w; have := hp.t
 -- what stays of the gas
 have a1 := other_stay (m := m) (g := s.glo) (k := p.g) (y := s.ylo) hm g0 y0 (by omega) h
 have a2 := share_up (m := m) (g := p.g) (y := s.ylo) (z := p.y) hm (by omega) y0 (by omega) (by omega)
 have a3 := other_stay (m := m) (g := p.g) (k := s.ghi) (y := p.y) hm (by omega) (by omega) (by omega) (by omega)
 have a4 := share_up (m := m) (g := s.ghi) (y := p.y) (z := s.yhi) hm (by omega) (by omega) (by omega) (by omega)
 -- what stays of the hydrogen
 have b1 := share_stay (m := m) (g := s.glo) (y := s.ylo) (z := p.y) hm g0 y0 (by omega) h
 have b2 := part_all (m := m) (n := p.y) (d := s.glo + p.y) (e := p.g + p.y) hm (by omega) (by omega) (by omega) (by omega)
 have b3 := part_all (m := m) (n := p.y) (d := p.g + p.y) (e := s.ghi + p.y) hm (by omega) (by omega) (by omega) (by omega)
 have b4 := share_stay (m := m) (g := s.ghi) (y := p.y) (z := s.yhi) hm (by omega) (by omega) (by omega) (by omega)
 -- what goes out
 have c1 := part_all (m := m) (n := s.ylo) (d := p.g + s.ylo) (e := s.ghi + s.ylo) hm (by omega) (by omega) (by omega) (by omega)
 have c2 := share_up (m := m) (g := p.g) (y := s.ylo) (z := p.y) hm (by omega) y0 (by omega) (by omega)
 have c3 := share_up (m := m) (g := s.glo) (y := p.y) (z := s.yhi) hm g0 (by omega) (by omega) (by omega)
 -- water
 have d1 := part_stay (m := m) (n := s.wlo) (k := p.w) (d := p.g + p.y) hm (by omega) (by omega)
 have d2 := part_all (m := m) (n := s.wlo) (d := s.glo + s.ylo) (e := p.g + p.y) hm (by omega) (by omega) (by omega) h
 have d3 := part_stay (m := m) (n := p.w) (k := s.whi) (d := p.g + p.y) hm (by omega) (by omega)
 have d4 := part_all (m := m) (n := s.whi) (d := p.g + p.y) (e := s.ghi + s.yhi) hm (by omega) (by omega) (by omega) (by omega)
 have d5 := part_all (m := m) (n := s.wlo) (d := p.g + p.y) (e := s.ghi + s.yhi) hm (by omega) (by omega) (by omega) (by omega)
 have d6 := part_up (m := m) (n := s.wlo) (k := p.w) (d := p.g + p.y) hm (by omega) (by omega)
 have d7 := part_up (m := m) (n := p.w) (k := s.whi) (d := p.g + p.y) hm (by omega) (by omega)
 have d8 := part_all (m := m) (n := s.whi) (d := s.glo + s.ylo) (e := p.g + p.y) hm (by omega) (by omega) (by omega) h
 constructor
 · refine ⟨⟨?_, ?_⟩, ⟨?_, ?_⟩, ⟨?_, ?_⟩, ⟨?_, ?_⟩⟩ <;> simp only [leftS, left] <;> omega
 · refine ⟨⟨?_, ?_⟩, ⟨?_, ?_⟩, ⟨?_, ?_⟩, rfl⟩ <;> simp only [outS, out] <;> omega
theorem left_ok {s : St} {m : Int} (hs : s.Ok) (hm : 0 ≤ m) (h : m ≤ s.glo + s.ylo) : (leftS s m).Ok := by
 obtain ⟨g0, g1, g2⟩ := hs.g
 obtain ⟨y0, y1, y2⟩ := hs.y
 obtain ⟨w0, w1, w2⟩ := hs.w
 have lo : s.Has s.low := ⟨⟨Int.le_refl _, g1⟩, ⟨Int.le_refl _, y1⟩, ⟨Int.le_refl _, hs.t.2.1⟩, ⟨Int.le_refl _, w1⟩⟩
 obtain ⟨a, b, -, d⟩ := (left_has hs hm h lo).1
 simp only [leftS, left, St.low] at a b d
 have p1 := part_le_n (m := m) (n := s.ylo) (all := s.glo + s.ylo) hm y0 h
 have p2 := part_nn (m := m) (n := s.yhi) (all := s.ghi + s.yhi) hm (by omega) (by omega)
 have p3 := part_le_n (m := m) (n := s.wlo) (all := s.glo + s.ylo) hm w0 h
 have p4 := part_nn (m := m) (n := s.whi) (all := s.ghi + s.yhi) hm (by omega) (by omega)
 have p5 := part_le_m (m := m) (n := s.yhi) (all := s.ghi + s.yhi) hm (by omega) (by omega)
 have p6 := other_stay (m := m) (g := 0) (k := s.glo) (y := s.ylo) hm (by omega) y0 g0
 have p7 : 0 ≤ s.glo - (m - part m s.ylo (s.glo + s.ylo)) := by
  by_cases e : s.glo + s.ylo = 0
  · have : m = 0 := by omega
    subst this; simp [part_zero]; exact g0
  · have : m - s.glo ≤ part m s.ylo (s.glo + s.ylo) := by
     refine le_part (by omega) ?_
     have e1 : (m - s.glo) * (s.glo + s.ylo) = m * s.ylo + (m - (s.glo + s.ylo)) * s.glo := by
      rw [Int.sub_mul, Int.sub_mul, Int.mul_add, Int.mul_add, Int.add_mul, Int.mul_comm s.ylo s.glo]; omega
     have := Int.mul_nonpos_of_nonpos_of_nonneg (show m - (s.glo + s.ylo) ≤ 0 by omega) g0
     omega
    omega
 refine ⟨⟨?_, ?_, ?_⟩, ⟨?_, ?_, ?_⟩, hs.t, ⟨?_, ?_, ?_⟩⟩ <;> simp only [leftS] <;> omega
theorem rest_has {c : Cav} {s : St} {p : Pt} {a b x y u v : Int} (hc : c.Ok) (h : 0 ≤ a ∧ a ≤ b ∧ b ≤ 1000) (hp : s.Has p) (hu : a ≤ u ∧ u ≤ b) (hv : x ≤ v ∧ v ≤ y) : (restS c s a b x y).Has (rest c p u v) := by
 have := hp.g; have := hp.y; have := hp.w; have := hp.t
 have n1 := near_between (rock := c.rock) (t := s.tlo) h.1 hu.1 hu.2
 have n2 := near_between (rock := c.rock) (t := s.thi) h.1 hu.1 hu.2
 have n3 := near_up (rock := c.rock) (t := s.tlo) (u := p.t) (s := u) (by omega) (by omega)
 have n4 := near_up (rock := c.rock) (t := p.t) (u := s.thi) (s := u) (by omega) (by omega)
 refine ⟨⟨?_, ?_⟩, ⟨?_, ?_⟩, ⟨?_, ?_⟩, ⟨?_, ?_⟩⟩ <;> simp only [restS, rest] <;> omega
theorem rest_ok {c : Cav} {s : St} {a b x y : Int} (hc : c.Ok) (hs : s.Ok) (h : 0 ≤ a ∧ a ≤ b ∧ b ≤ 1000) (k : 0 ≤ x ∧ x ≤ y) (hw : s.whi + y ≤ 1000000000) : (restS c s a b x y).Ok := by
 have ht := hs.t
 have n1 := near_in (rock := c.rock) (t := s.tlo) (s := a) (lo := 2000) (hi := 5000) (by omega) (by omega) hc.rock
 have n2 := near_in (rock := c.rock) (t := s.tlo) (s := b) (lo := 2000) (hi := 5000) (by omega) (by omega) hc.rock
 have n3 := near_in (rock := c.rock) (t := s.thi) (s := a) (lo := 2000) (hi := 5000) (by omega) (by omega) hc.rock
 have n4 := near_in (rock := c.rock) (t := s.thi) (s := b) (lo := 2000) (hi := 5000) (by omega) (by omega) hc.rock
 have n5 := near_up (rock := c.rock) (s := a) (by omega) ht.2.1
 have hww := hs.w
 refine ⟨hs.g, hs.y, ⟨?_, ?_, ?_⟩, ⟨?_, ?_, ?_⟩⟩ <;> simp only [restS] <;> omega
theorem act_sound {c : Cav} {s : St} {o : Op} {p : Pt} {u v : Int} {n : St} {q : Out} (hc : c.Ok) (hs : s.Ok) (ho : o.Is) (hp : s.Has p) (hu : o.slo ≤ u ∧ u ≤ o.shi) (hv : o.wlo ≤ v ∧ v ≤ o.whi)
    (h : act c s o = some (n, q)) : ∃ x g, one c p o u v = some (x, g) ∧ n.Has x ∧ q.Has g ∧ n.Ok := by
 have pk := hp.ok hs
 cases ho with
 | inject l hl =>
  simp only [act, if_true, Op.lot] at h
  split at h
  · rename_i hb
    simp only [Option.some.injEq, Prod.mk.injEq] at h
    obtain ⟨rfl, rfl⟩ := h
    have hh := inj_has (l := l) hc hs ⟨hl.g.1, hl.y.1⟩ hp
    have hk := inj_ok (l := l) hc hs ⟨hl.g.1, hl.y.1, hl.w.1, hl.t⟩ hb
    have hx := hh.ok hk
    refine ⟨inject c p l, ⟨0, 0, 0, 0⟩, ?_, hh, ⟨by decide, by decide, by decide, rfl⟩, hk⟩
    show (if (inject c p l).ok = true then some (inject c p l, (⟨0, 0, 0, 0⟩ : Pt)) else none) = _
    rw [if_pos (Pt.ok_iff.2 hx)]
  · cases h
 | withdraw m hm =>
  simp only [act] at h
  rw [if_neg (by decide), if_pos trivial] at h
  split at h
  · rename_i hb
    simp only [Option.some.injEq, Prod.mk.injEq] at h
    obtain ⟨rfl, rfl⟩ := h
    obtain ⟨h1, h2⟩ := left_has hs hm.1 hb hp
    refine ⟨_, _, ?_, h1, h2, left_ok hs hm.1 hb⟩
    have := hp.g; have := hp.y
    simp only [one]
    rw [if_neg (by decide), if_pos trivial, if_pos (by omega)]
  · cases h
 | rest a b x y ha hx =>
  simp only [act] at h
  rw [if_neg (by decide), if_neg (by decide)] at h
  split at h
  · rename_i hb
    simp only [Option.some.injEq, Prod.mk.injEq] at h
    obtain ⟨rfl, rfl⟩ := h
    have h1 := rest_has hc ha hp hu hv
    have h2 := rest_ok hc hs ha ⟨hx.1, hx.2.1⟩ hb
    refine ⟨_, ⟨0, 0, 0, 0⟩, ?_, h1, ⟨by decide, by decide, by decide, rfl⟩, h2⟩
    simp only [one]
    rw [if_neg (by decide), if_neg (by decide), if_pos (Pt.ok_iff.2 (h1.ok h2))]
  · cases h
end Gas
