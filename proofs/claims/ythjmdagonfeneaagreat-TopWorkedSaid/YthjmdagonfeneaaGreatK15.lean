/- Laws and walks: GSto, GDof, GPrs, GOps. -/
import Derived.BigRegion
import Derived.Test.YthjmdagonfeneaaGreatK14
set_option maxRecDepth 100000
set_option maxHeartbeats 16000000
set_option linter.unusedVariables false
set_option linter.unusedSimpArgs false
namespace Go.Proofs.YthjmdagonfeneaaGreat.G
open Go.RowKit Go.Sd Gas
theorem set_far {w : World} {n m : Nat} {c : Option Obj} (o : Nat) (v : Value) (hne : m ≠ n) (h : w.heap[m]? = c) : (w.setCell ⟨n, o, none⟩ v).heap[m]? = c :=
 (Below.heap_setCell _ _ _ _ hne).trans h
theorem cells6_ex {w : World} {n : Nat} {e : TypeId} (h : ∃ a0 a1 a2 a3 a4 a5 : Value, w.heap[n]? = some (.cells #[a0, a1, a2, a3, a4, a5] e (0, 0))) (b0 b1 b2 b3 b4 b5 : Value) : ∃ a0 a1 a2 a3 a4 a5 : Value, ((((((w.setCell ⟨n, 0, none⟩ b0).setCell ⟨n, 1, none⟩ b1).setCell ⟨n, 2, none⟩ b2).setCell ⟨n, 3, none⟩ b3).setCell ⟨n, 4, none⟩ b4).setCell ⟨n, 5, none⟩ b5).heap[n]? = some (.cells #[a0, a1, a2, a3, a4, a5] e (0, 0)) := by
 obtain ⟨a0, a1, a2, a3, a4, a5, h⟩ := h; exact ⟨_, _, _, _, _, _, set_cells6 h _ _ _ _ _ _⟩
theorem cells8_ex {w : World} {n : Nat} {e : TypeId} (h : ∃ a0 a1 a2 a3 a4 a5 a6 a7 : Value, w.heap[n]? = some (.cells #[a0, a1, a2, a3, a4, a5, a6, a7] e (0, 0))) (b0 b1 b2 b3 b4 b5 b6 b7 : Value) : ∃ a0 a1 a2 a3 a4 a5 a6 a7 : Value, ((((((((w.setCell ⟨n, 0, none⟩ b0).setCell ⟨n, 1, none⟩ b1).setCell ⟨n, 2, none⟩ b2).setCell ⟨n, 3, none⟩ b3).setCell ⟨n, 4, none⟩ b4).setCell ⟨n, 5, none⟩ b5).setCell ⟨n, 6, none⟩ b6).setCell ⟨n, 7, none⟩ b7).heap[n]? = some (.cells #[a0, a1, a2, a3, a4, a5, a6, a7] e (0, 0)) := by
 obtain ⟨a0, a1, a2, a3, a4, a5, a6, a7, h⟩ := h; exact ⟨_, _, _, _, _, _, _, _, set_cells8 h _ _ _ _ _ _ _ _⟩
theorem other6_ex8 {w : World} {n k : Nat} {e : TypeId} (h : ∃ a0 a1 a2 a3 a4 a5 a6 a7 : Value, w.heap[k]? = some (.cells #[a0, a1, a2, a3, a4, a5, a6, a7] e (0, 0))) (b0 b1 b2 b3 b4 b5 : Value) (hne : k ≠ n) : ∃ a0 a1 a2 a3 a4 a5 a6 a7 : Value, ((((((w.setCell ⟨n, 0, none⟩ b0).setCell ⟨n, 1, none⟩ b1).setCell ⟨n, 2, none⟩ b2).setCell ⟨n, 3, none⟩ b3).setCell ⟨n, 4, none⟩ b4).setCell ⟨n, 5, none⟩ b5).heap[k]? = some (.cells #[a0, a1, a2, a3, a4, a5, a6, a7] e (0, 0)) := by
 obtain ⟨a0, a1, a2, a3, a4, a5, a6, a7, h⟩ := h; exact ⟨_, _, _, _, _, _, _, _, (set_other6 _ _ _ _ _ _ hne).trans h⟩
theorem other8_ex6 {w : World} {n k : Nat} {e : TypeId} (h : ∃ a0 a1 a2 a3 a4 a5 : Value, w.heap[k]? = some (.cells #[a0, a1, a2, a3, a4, a5] e (0, 0))) (b0 b1 b2 b3 b4 b5 b6 b7 : Value) (hne : k ≠ n) : ∃ a0 a1 a2 a3 a4 a5 : Value, ((((((((w.setCell ⟨n, 0, none⟩ b0).setCell ⟨n, 1, none⟩ b1).setCell ⟨n, 2, none⟩ b2).setCell ⟨n, 3, none⟩ b3).setCell ⟨n, 4, none⟩ b4).setCell ⟨n, 5, none⟩ b5).setCell ⟨n, 6, none⟩ b6).setCell ⟨n, 7, none⟩ b7).heap[k]? = some (.cells #[a0, a1, a2, a3, a4, a5] e (0, 0)) := by
 obtain ⟨a0, a1, a2, a3, a4, a5, h⟩ := h; exact ⟨_, _, _, _, _, _, (set_other8 _ _ _ _ _ _ _ _ hne).trans h⟩
end Go.Proofs.YthjmdagonfeneaaGreat.G
namespace Gas
theorem corner_mem (s : St) (a b c d : Bool) : (⟨endOf s.glo s.ghi a, endOf s.ylo s.yhi b, endOf s.tlo s.thi c, endOf s.wlo s.whi d⟩ : Pt) ∈ corners s := by
 refine List.mem_map.2 ⟨a.toNat + 2 * b.toNat + 4 * c.toNat + 8 * d.toNat, ?_, ?_⟩
 · cases a <;> cases b <;> cases c <;> cases d <;> simp
 · cases a <;> cases b <;> cases c <;> cases d <;> rfl
theorem corners_has {s : St} (hs : s.Ok) {p : Pt} (h : p ∈ corners s) : s.Has p := by
 unfold corners cornersTo at h
 rw [List.mem_map] at h
 obtain ⟨k, -, rfl⟩ := h
 have := hs.g; have := hs.y; have := hs.t; have := hs.w
 refine ⟨⟨?_, ?_⟩, ⟨?_, ?_⟩, ⟨?_, ?_⟩, ⟨?_, ?_⟩⟩ <;> simp only [cornerAt, endOf] <;> split <;> omega
theorem box_eq {l : List Pt} {T : St} (h : ∀ p ∈ l, T.Has p) (a1 : ∃ p ∈ l, p.g = T.glo) (a2 : ∃ p ∈ l, p.g = T.ghi) (b1 : ∃ p ∈ l, p.y = T.ylo) (b2 : ∃ p ∈ l, p.y = T.yhi)
    (c1 : ∃ p ∈ l, p.t = T.tlo) (c2 : ∃ p ∈ l, p.t = T.thi) (d1 : ∃ p ∈ l, p.w = T.wlo) (d2 : ∃ p ∈ l, p.w = T.whi) : boxOf l = T := by
 have e (f : Pt → Int) (lo hi : Int) (h1 : ∃ p ∈ l, f p = lo) (h2 : ∃ p ∈ l, f p = hi) (h3 : ∀ p ∈ l, lo ≤ f p ∧ f p ≤ hi) : wideL (l.map f) = (lo, hi) := by
  refine wide_eq (List.mem_map.2 h1) (List.mem_map.2 h2) fun x hx => ?_
  obtain ⟨p, hp, rfl⟩ := List.mem_map.1 hx
  exact h3 p hp
 have e1 := e (·.g) T.glo T.ghi a1 a2 fun p hp => (h p hp).g
 have e2 := e (·.y) T.ylo T.yhi b1 b2 fun p hp => (h p hp).y
 have e3 := e (·.t) T.tlo T.thi c1 c2 fun p hp => (h p hp).t
 have e4 := e (·.w) T.wlo T.whi d1 d2 fun p hp => (h p hp).w
 unfold boxOf
 rw [e1, e2, e3, e4]
theorem at_corner {s : St} {f : Pt → Pt} (a b c d : Bool) {r : Pt → Int} {v : Int} (h : r (f ⟨endOf s.glo s.ghi a, endOf s.ylo s.yhi b, endOf s.tlo s.thi c, endOf s.wlo s.whi d⟩) = v) : ∃ p ∈ (corners s).map f, r p = v :=
 ⟨_, List.mem_map.2 ⟨_, corner_mem s a b c d, rfl⟩, h⟩
theorem min_cases {a b : Int} : min a b = a ∨ min a b = b := by omega
theorem max_cases {a b : Int} : max a b = a ∨ max a b = b := by omega
theorem inj_all {c : Cav} {s : St} {l : Pt} (hc : c.Ok) (hs : s.Ok) (hl : l.Wide) :
    (∀ p ∈ corners s, (inject c p l).ok = true) ↔ (s.ghi + l.g ≤ 1000000 ∧ s.yhi + l.y ≤ 1000000 ∧ s.whi + l.w ≤ 1000000000) := by
 constructor
 · intro h
   have := Pt.ok_iff.1 (h _ (corner_mem s true true true true))
   exact ⟨this.g.2, this.y.2, this.w.2⟩
 · intro h p hp
   exact Pt.ok_iff.2 ((inj_has hc hs ⟨hl.g.1, hl.y.1⟩ (corners_has hs hp)).ok (inj_ok hc hs ⟨hl.g.1, hl.y.1, hl.w.1, hl.t.1, hl.t.2⟩ h))
theorem inj_box {c : Cav} {s : St} {l : Pt} (hc : c.Ok) (hs : s.Ok) (hl : l.Wide) : boxOf ((corners s).map fun p => inject c p l) = injS c s l := by
 refine box_eq ?_ (at_corner false false false false rfl) (at_corner true true true true rfl) (at_corner false false false false rfl) (at_corner true true true true rfl) ?_ ?_ (at_corner false false false false rfl) (at_corner true true true true rfl)
 · intro q hq
   obtain ⟨p, hp, rfl⟩ := List.mem_map.1 hq
   exact inj_has hc hs ⟨hl.g.1, hl.y.1⟩ (corners_has hs hp)
 · rcases min_cases (a := warm (heat c s.low) s.tlo (heat c l) l.t) (b := warm (heat c s.high) s.tlo (heat c l) l.t) with e | e
   · exact at_corner false false false false e.symm
   · exact at_corner true true false false e.symm
 · rcases max_cases (a := warm (heat c s.low) s.thi (heat c l) l.t) (b := warm (heat c s.high) s.thi (heat c l) l.t) with e | e
   · exact at_corner false false true false e.symm
   · exact at_corner true true true false e.symm
theorem left_all {s : St} {m : Int} (hs : s.Ok) : (∀ p ∈ corners s, m ≤ p.g + p.y) ↔ m ≤ s.glo + s.ylo := by
 constructor
 · intro h
   exact h _ (corner_mem s false false false false)
 · intro h p hp
   have := corners_has hs hp
   have := this.g; have := ‹s.Has p›.y
   omega
theorem left_box {s : St} {m : Int} (hs : s.Ok) (hm : 0 ≤ m) (h : m ≤ s.glo + s.ylo) : boxOf ((corners s).map fun p => left p m) = leftS s m := by
 refine box_eq ?_ (at_corner false false false false rfl) (at_corner true true true true rfl) (at_corner false false false false rfl) (at_corner true true true true rfl) (at_corner false false false false rfl) (at_corner true true true true rfl) (at_corner false false false false rfl) (at_corner true true true true rfl)
 intro q hq
 obtain ⟨p, hp, rfl⟩ := List.mem_map.1 hq
 exact (left_has hs hm h (corners_has hs hp)).1
def Out.st (o : Out) : St := ⟨o.glo, o.ghi, o.ylo, o.yhi, 0, 0, o.wlo, o.whi⟩
theorem out_box {s : St} {m : Int} (hs : s.Ok) (hm : 0 ≤ m) (h : m ≤ s.glo + s.ylo) : boxOf ((corners s).map fun p => out p m) = (outS s m).st := by
 refine box_eq ?_ (at_corner false true true true rfl) (at_corner true false true true rfl) (at_corner true false true true rfl) (at_corner false true true true rfl) (at_corner false false false false rfl) (at_corner true true true true rfl) (at_corner true true false false rfl) (at_corner false false true true rfl)
 intro q hq
 obtain ⟨p, hp, rfl⟩ := List.mem_map.1 hq
 have := (left_has hs hm h (corners_has hs hp)).2
 exact ⟨this.g, this.y, ⟨by have := this.t; simp only [Out.st]; omega, by have := this.t; simp only [Out.st]; omega⟩, this.w⟩
theorem rest_all {c : Cav} {s : St} {a b x y : Int} (hc : c.Ok) (hs : s.Ok) (h : 0 ≤ a ∧ a ≤ b ∧ b ≤ 1000) (k : 0 ≤ x ∧ x ≤ y) :
    (∀ p ∈ corners s, ((rest c p a x).ok && (rest c p b y).ok) = true) ↔ s.whi + y ≤ 1000000000 := by
 constructor
 · intro g
   have := g _ (corner_mem s true true true true)
   rw [Bool.and_eq_true] at this
   exact (Pt.ok_iff.1 this.2).w.2
 · intro g p hp
   have e := rest_ok hc hs h k g
   rw [Bool.and_eq_true]
   exact ⟨Pt.ok_iff.2 ((rest_has hc h (corners_has hs hp) ⟨Int.le_refl _, h.2.1⟩ ⟨Int.le_refl _, k.2⟩).ok e), Pt.ok_iff.2 ((rest_has hc h (corners_has hs hp) ⟨h.2.1, Int.le_refl _⟩ ⟨k.2, Int.le_refl _⟩).ok e)⟩
theorem at_corner2 {s : St} {f g : Pt → Pt} (a b c d : Bool) {r : Pt → Int} {v : Int} (h : r (f ⟨endOf s.glo s.ghi a, endOf s.ylo s.yhi b, endOf s.tlo s.thi c, endOf s.wlo s.whi d⟩) = v ∨ r (g ⟨endOf s.glo s.ghi a, endOf s.ylo s.yhi b, endOf s.tlo s.thi c, endOf s.wlo s.whi d⟩) = v) :
    ∃ p ∈ (corners s).flatMap fun p => [f p, g p], r p = v := by
 rcases h with h | h
 · exact ⟨_, List.mem_flatMap.2 ⟨_, corner_mem s a b c d, List.Mem.head _⟩, h⟩
 · exact ⟨_, List.mem_flatMap.2 ⟨_, corner_mem s a b c d, List.Mem.tail _ (List.Mem.head _)⟩, h⟩
theorem rest_box {c : Cav} {s : St} {a b x y : Int} (hc : c.Ok) (hs : s.Ok) (h : 0 ≤ a ∧ a ≤ b ∧ b ≤ 1000) (k : 0 ≤ x ∧ x ≤ y) :
    boxOf ((corners s).flatMap fun p => [rest c p a x, rest c p b y]) = restS c s a b x y := by
 refine box_eq ?_ (at_corner2 false false false false (.inl rfl)) (at_corner2 true true true true (.inl rfl)) (at_corner2 false false false false (.inl rfl)) (at_corner2 true true true true (.inl rfl)) (at_corner2 false false false false ?_) (at_corner2 true true true true ?_) (at_corner2 false false false false (.inl rfl)) (at_corner2 true true true true (.inr rfl))
 · intro q hq
   obtain ⟨p, hp, hq⟩ := List.mem_flatMap.1 hq
   simp only [List.mem_cons, List.not_mem_nil, or_false] at hq
   rcases hq with rfl | rfl
   · exact rest_has hc h (corners_has hs hp) ⟨Int.le_refl _, h.2.1⟩ ⟨Int.le_refl _, k.2⟩
   · exact rest_has hc h (corners_has hs hp) ⟨h.2.1, Int.le_refl _⟩ ⟨k.2, Int.le_refl _⟩
 · rcases min_cases (a := near c.rock s.tlo a) (b := near c.rock s.tlo b) with e | e
   · exact .inl e.symm
   · exact .inr e.symm
 · rcases max_cases (a := near c.rock s.thi a) (b := near c.rock s.thi b) with e | e
   · exact .inl e.symm
   · exact .inr e.symm
def Op.Fit (o : Op) : Prop := (o.kind = 1 ∧ o.lot.Wide) ∨ (o.kind = 2 ∧ 0 ≤ o.moles ∧ o.moles ≤ 100000000) ∨ (o.kind = 3 ∧ (0 ≤ o.slo ∧ o.slo ≤ o.shi ∧ o.shi ≤ 1000) ∧ (0 ≤ o.wlo ∧ o.wlo ≤ o.whi ∧ o.whi ≤ 1000000))
theorem Op.Is.fit {o : Op} (h : o.Is) : o.Fit := by
 cases h with
 | inject p h => exact .inl ⟨rfl, h.wide⟩
 | withdraw m h => exact .inr (.inl ⟨rfl, h.1, by show m ≤ _; omega⟩)
 | rest a b x y h k => exact .inr (.inr ⟨rfl, h, k⟩)
end Gas
set_option linter.unusedVariables false
set_option linter.unusedSimpArgs false
namespace Go.Proofs.YthjmdagonfeneaaGreat.G
open Go.RowKit Go.Sd Gas
abbrev st0 : Gas.St := ⟨0, 0, 0, 0, 0, 0, 0, 0⟩
abbrev out0 : Gas.Out := ⟨0, 0, 0, 0, 0, 0⟩
abbrev doV (n : Gas.St) (q : Gas.Out) (b : Bool) : Value := .tuple #[stV n, outV q, .bool b]
theorem progDoesSome {c : Cav} {s : St} {o : Gas.Op} {n : St} {q : Gas.Out} (w : World) (hc : c.Ok) (hs : s.Ok) (ho : o.Fit) (h : act c s o = some (n, q)) :
    Calls Tryz.prog 60 #[cavV c, stV s, opV o] w fun e w' => e = .returned (doV n q true) ∧ Below w.heap.size w w' := by
 rcases ho with ⟨hk, hl⟩ | ⟨hk, hm⟩ | ⟨hk, ha, hx⟩
 · have hb : s.ghi + o.lg ≤ 1000000 ∧ s.yhi + o.ly ≤ 1000000 ∧ s.whi + o.lw ≤ 1000000000 := by
    apply Classical.byContradiction; intro hb; simp only [act, hk, if_true, if_neg hb] at h; cases h
   simp only [act, hk, if_true, if_pos hb, Option.some.injEq, Prod.mk.injEq] at h
   obtain ⟨rfl, rfl⟩ := h
   refine progDoesY c s o _ _ w (.inl ⟨hk, rfl⟩) (fun args w => by kernel_rfl) fun W' _ => (progInjects c s o W' hc hs hl).mono ?_
   rintro e w' (⟨-, rfl, hB⟩ | ⟨hno, -⟩)
   · rw [inj_box hc hs hl]; exact ⟨rfl, hB⟩
   · exact absurd ((inj_all hc hs hl).2 hb) hno
 · have hb : o.moles ≤ s.glo + s.ylo := by
    apply Classical.byContradiction; intro hb; simp [act, hk, if_neg hb] at h
   simp [act, hk, if_pos hb] at h
   obtain ⟨rfl, rfl⟩ := h
   refine progDoesY c s o _ _ w (.inr (.inl ⟨hk, rfl⟩)) (fun args w => by kernel_rfl) fun W' _ => (progWithdraws c s o W' hs hm).mono ?_
   rintro e w' (⟨-, rfl, hB⟩ | ⟨hno, -⟩)
   · rw [left_box hs hm.1 hb, out_box hs hm.1 hb]; exact ⟨rfl, hB⟩
   · exact absurd ((left_all hs).2 hb) hno
 · have hb : s.whi + o.whi ≤ 1000000000 := by
    apply Classical.byContradiction; intro hb; simp [act, hk, if_neg hb] at h
   simp [act, hk, if_pos hb] at h
   obtain ⟨rfl, rfl⟩ := h
   refine progDoesY c s o _ _ w (.inr (.inr ⟨hk, rfl⟩)) (fun args w => by kernel_rfl) fun W' _ => (progRests c s o W' hc hs ha hx).mono ?_
   rintro e w' (⟨-, rfl, hB⟩ | ⟨hno, -⟩)
   · rw [rest_box hc hs ha ⟨hx.1, hx.2.1⟩]; exact ⟨rfl, hB⟩
   · exact absurd ((rest_all hc hs ha ⟨hx.1, hx.2.1⟩).2 hb) hno
theorem progDoesNone {c : Cav} {s : St} {o : Gas.Op} (w : World) (hc : c.Ok) (hs : s.Ok) (ho : o.Fit) (h : act c s o = none) :
    Calls Tryz.prog 60 #[cavV c, stV s, opV o] w fun e w' => e = .returned (doV st0 out0 false) ∧ Below w.heap.size w w' := by
 rcases ho with ⟨hk, hl⟩ | ⟨hk, hm⟩ | ⟨hk, ha, hx⟩
 · have hb : ¬ (s.ghi + o.lg ≤ 1000000 ∧ s.yhi + o.ly ≤ 1000000 ∧ s.whi + o.lw ≤ 1000000000) := by
    intro hb; simp only [act, hk, if_true, if_pos hb] at h; cases h
   refine progDoesN c s o w (.inl ⟨hk, rfl⟩) (fun args w => by kernel_rfl) fun W' _ => (progInjects c s o W' hc hs hl).mono ?_
   rintro e w' (⟨hall, -, -⟩ | ⟨-, hG⟩)
   · exact absurd ((inj_all hc hs hl).1 hall) hb
   · exact hG
 · have hb : ¬ o.moles ≤ s.glo + s.ylo := by
    intro hb; simp [act, hk, if_pos hb] at h
   refine progDoesN c s o w (.inr (.inl ⟨hk, rfl⟩)) (fun args w => by kernel_rfl) fun W' _ => (progWithdraws c s o W' hs hm).mono ?_
   rintro e w' (⟨hall, -, -⟩ | ⟨-, hG⟩)
   · exact absurd ((left_all hs).1 hall) hb
   · exact hG
 · have hb : ¬ s.whi + o.whi ≤ 1000000000 := by
    intro hb; simp [act, hk, if_pos hb] at h
   refine progDoesN c s o w (.inr (.inr ⟨hk, rfl⟩)) (fun args w => by kernel_rfl) fun W' _ => (progRests c s o W' hc hs ha hx).mono ?_
   rintro e w' (⟨hall, -, -⟩ | ⟨-, hG⟩)
   · exact absurd ((rest_all hc hs ha ⟨hx.1, hx.2.1⟩).1 hall) hb
   · exact hG
end Go.Proofs.YthjmdagonfeneaaGreat.G
set_option linter.unusedVariables false
set_option linter.unusedSimpArgs false
namespace Go.Proofs.YthjmdagonfeneaaGreat.G
open Go.RowKit Go.Sd Gas
theorem mul_bd {c : Cav} (hc : c.Ok) {v : Int} (hv : 1 ≤ v ∧ v ≤ 1000000) : (0 ≤ c.least * v ∧ c.least * v ≤ 100000000000) ∧ (0 ≤ c.most * v ∧ c.most * v ≤ 100000000000) := by
 have := hc.p
 have a := bd_mul (A := 100000) (B := 1000000) (a := c.least) (b := v) ⟨by omega, by omega⟩ ⟨by omega, hv.2⟩
 have b := bd_mul (A := 100000) (B := 1000000) (a := c.most) (b := v) ⟨by omega, by omega⟩ ⟨by omega, hv.2⟩
 exact ⟨⟨a.1, by omega⟩, ⟨b.1, by omega⟩⟩
theorem force_nn {c : Cav} {p : Pt} (hc : c.Ok) (hg : 0 ≤ p.g ∧ p.g ≤ 1000000) (hy : 0 ≤ p.y ∧ p.y ≤ 1000000) (ht : 0 ≤ p.t ∧ p.t ≤ 5000) : 0 ≤ force c p ∧ force c p ≤ 400000000000000000 := by
 have := force_bd hc hg hy ht; unfold force; omega
end Go.Proofs.YthjmdagonfeneaaGreat.G
set_option linter.unusedVariables false
set_option linter.unusedSimpArgs false
namespace Gas
def theOp (l : List Op) (k : Nat) : Op := l.getD k ⟨0, 0, 0, 0, 0, 0, 0, 0, 0, 0⟩
theorem theOp_lt {l : List Op} {k : Nat} (h : k < l.length) : theOp l k = l[k] := by simp [theOp, h]
theorem theOp_mem {l : List Op} {k : Nat} (h : k < l.length) : theOp l k ∈ l := by rw [theOp_lt h]; exact List.getElem_mem h
def opsB (l : List Op) : Bool := l.all Op.ok
theorem opsB_iff {l : List Op} : opsB l = true ↔ ∀ k, k < l.length → (theOp l k).ok = true := by
 unfold opsB
 rw [List.all_eq_true]
 constructor
 · intro h k hk; exact h _ (theOp_mem hk)
 · intro h x hx
   obtain ⟨k, hk, rfl⟩ := List.getElem_of_mem hx
   rw [← theOp_lt hk]; exact h k hk
theorem opsB_not {l : List Op} {k : Nat} (hk : k < l.length) (h : (theOp l k).ok = false) : opsB l = false := by
 cases hb : opsB l
 · rfl
 · rw [opsB_iff.1 hb k hk] at h; cases h
def truthB (l : List Op) (a b : List Int) : Bool := decide (a.length = l.length) && decide (b.length = l.length) && (List.range l.length).all fun k => inB (at0 a k) (theOp l k).slo (theOp l k).shi && inB (at0 b k) (theOp l k).wlo (theOp l k).whi
end Gas
namespace Go.Proofs.YthjmdagonfeneaaGreat.G
open Go.RowKit Go.Sd Gas
def OpCells (w : World) (b o : Nat) (x : Gas.Op) : Prop :=
 w.cell? ⟨b, o, none⟩ = some (.int .i64 x.kind) ∧ w.cell? ⟨b, o + 1, none⟩ = some (.int .i64 x.lg) ∧ w.cell? ⟨b, o + 2, none⟩ = some (.int .i64 x.ly) ∧ w.cell? ⟨b, o + 3, none⟩ = some (.int .i64 x.lt) ∧ w.cell? ⟨b, o + 4, none⟩ = some (.int .i64 x.lw) ∧ w.cell? ⟨b, o + 5, none⟩ = some (.int .i64 x.moles) ∧ w.cell? ⟨b, o + 6, none⟩ = some (.int .i64 x.slo) ∧ w.cell? ⟨b, o + 7, none⟩ = some (.int .i64 x.shi) ∧ w.cell? ⟨b, o + 8, none⟩ = some (.int .i64 x.wlo) ∧ w.cell? ⟨b, o + 9, none⟩ = some (.int .i64 x.whi)
theorem OpCells.mono {w w' : World} {b o : Nat} {x : Gas.Op} (h : OpCells w b o x) (hb : Below w.heap.size w w') : OpCells w' b o x := by
 obtain ⟨h0, h1, h2, h3, h4, h5, h6, h7, h8, h9⟩ := h
 exact ⟨kept_cell hb h0, kept_cell hb h1, kept_cell hb h2, kept_cell hb h3, kept_cell hb h4, kept_cell hb h5, kept_cell hb h6, kept_cell hb h7, kept_cell hb h8, kept_cell hb h9⟩
def OpsAt (w : World) (v : Value) (xs : List Gas.Op) : Prop :=
 ∃ a cap, v = .slice a xs.length cap ∧ xs.length ≤ maxLen ∧
  (0 < xs.length → ∃ b off, a = some ⟨b, off, none⟩ ∧ b < w.heap.size ∧ ∀ k, k < xs.length → OpCells w b (off + k * 10) (theOp xs k))
theorem OpsAt.mono {w w' : World} {v : Value} {xs : List Gas.Op} (h : OpsAt w v xs) (hb : Below w.heap.size w w') : OpsAt w' v xs := by
 obtain ⟨a, cap, rfl, hm, hc⟩ := h
 refine ⟨a, cap, rfl, hm, fun h0 => ?_⟩
 obtain ⟨b, off, rfl, hlt, hk⟩ := hc h0
 exact ⟨b, off, rfl, Nat.lt_of_lt_of_le hlt hb.size, fun k hk' => (hk k hk').mono hb⟩
def opsErr (l : List Gas.Op) : Int := if 20 < l.length then 3 else if opsB l = true then 0 else 2
theorem progOps (lv : Value) (xs : List Gas.Op) (w : World) (hx : OpsAt w lv xs) :
    Calls Tryz.prog 77 #[lv] w fun e w' => e = .returned (.int .i64 (opsErr xs)) ∧ Below w.heap.size w w' := by
 obtain ⟨a, cap, rfl, hm, hc⟩ := hx
 unfold maxLen at hm
 have hm' : xs.length ≤ 9223372036854775807 := by omega
 have hcW := Lib.hid hc
 clear hc
 by_cases hlong : 20 < xs.length
 · have he : Hid (opsErr xs = 3) := Lib.hid (by unfold opsErr; rw [if_pos hlong])
   rw [he.out]
   have h1 : (20 : Int) < (xs.length : Int) := by omega
   clear he hlong
   go_enter Tryz.func77, Tryz.ntmps77
   go_wp2
   go_ret
   exact ⟨rfl, Below.refl _ _⟩
 have hsh : (xs.length : Int) ≤ 20 := by omega
 obtain ⟨r, hr⟩ : ∃ r, opsErr xs = r := ⟨_, rfl⟩
 rw [hr]
 replace hr : Hid ((if opsB xs = true then 0 else 2) = r) := Lib.hid (by rw [← hr]; unfold opsErr; rw [if_neg hlong])
 clear hlong
 go_enter Tryz.func77, Tryz.ntmps77
 go_wp2
 go_loopw [10] (fun i wr => ∃ g : Grow w, wr = g.x ∧ ∃ k : Nat, k ≤ xs.length ∧ i = .int .i64 k ∧ Hid (∀ j, j < k → (theOp xs j).ok = true)) (fun i _ => xs.length - (intOf i).toNat)
 case atStart => exact ⟨Grow.self w, rfl, 0, Nat.zero_le _, rfl, fun j hj => absurd hj (by omega)⟩
 case round =>
  obtain ⟨g, rfl, k, hk, rfl, hH⟩ := hrel
  by_cases hlt : k < xs.length
  · obtain ⟨b, off, rfl, hb, hcell⟩ := hcW.out (by omega)
    obtain ⟨c0, c1, c2, c3, c4, c5, c6, c7, c8, c9⟩ := (hcell k hlt).mono g.h
    clear hcell
    have hki : (k : Int) < (xs.length : Int) := by omega
    obtain ⟨x, hxe⟩ : ∃ x, theOp xs k = x := ⟨_, rfl⟩
    simp only [hxe] at c0 c1 c2 c3 c4 c5 c6 c7 c8 c9
    obtain ⟨g2, hg2⟩ := g.alloc (.cells #[.int .i64 x.kind, .int .i64 x.lg, .int .i64 x.ly, .int .i64 x.lt, .int .i64 x.lw, .int .i64 x.moles, .int .i64 x.slo, .int .i64 x.shi, .int .i64 x.wlo, .int .i64 x.whi] 83)
    have e2 := World.alloc_heap_new g.x (.cells #[.int .i64 x.kind, .int .i64 x.lg, .int .i64 x.ly, .int .i64 x.lt, .int .i64 x.lw, .int .i64 x.moles, .int .i64 x.slo, .int .i64 x.shi, .int .i64 x.wlo, .int .i64 x.whi] 83)
    rw [hg2] at e2
    obtain ⟨z2, r2, -⟩ := row_cells e2
    have q0 := r2 0
    have q1 := r2 1
    have q2 := r2 2
    have q3 := r2 3
    have q4 := r2 4
    have q5 := r2 5
    have q6 := r2 6
    have q7 := r2 7
    have q8 := r2 8
    have q9 := r2 9
    simp only [List.getElem?_toArray, List.getElem?_cons_zero, List.getElem?_cons_succ] at q0 q1 q2 q3 q4 q5 q6 q7 q8 q9
    clear r2 e2
    cases hok : x.ok
    · have kO := Lib.hid (fun w => (progOp x w).mono fun e w' hb => BoolB.lit hb hok)
      have hres : Hid (opsB xs = false) := Lib.hid (opsB_not hlt (by rw [hxe]; exact hok))
      replace hxe := Lib.hid hxe
      clear hok
      go_wp2_with (go_at_call 59; refine Calls.mono (kO.out _) ?_; rintro e w1 ⟨rfl, hB⟩; obtain ⟨g3, rfl⟩ := g2.next hB; clear hB)
      go_ret
      exact ⟨by rw [← hr.out, hres.out]; rfl, g3.h⟩
    · have kO := Lib.hid (fun w => (progOp x w).mono fun e w' hb => BoolB.lit hb hok)
      replace hH : Hid (∀ j, j < k + 1 → (theOp xs j).ok = true) := Lib.hid (fun j hj => by
       by_cases e : j = k
       · rw [e, hxe]; exact hok
       · exact hH.out j (by omega))
      replace hxe := Lib.hid hxe
      clear hok
      go_wp2_with (go_at_call 59; refine Calls.mono (kO.out _) ?_; rintro e w1 ⟨rfl, hB⟩; obtain ⟨g3, rfl⟩ := g2.next hB; clear hB)
      exact ⟨⟨g3, rfl, k + 1, by omega, by go_num, hH⟩, by simp [intOf]; omega⟩
  · obtain rfl : k = xs.length := by omega
    have hres : Hid (opsB xs = true) := Lib.hid (opsB_iff.2 hH.out)
    go_wp2
    go_ret
    exact ⟨by rw [← hr.out, hres.out]; rfl, g.h⟩
end Go.Proofs.YthjmdagonfeneaaGreat.G
