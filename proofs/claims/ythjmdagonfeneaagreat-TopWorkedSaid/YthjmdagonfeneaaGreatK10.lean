/- Laws and walks: GInj. -/
import Derived.Test.YthjmdagonfeneaaGreatK07
import Derived.Test.YthjmdagonfeneaaGreatK09
set_option maxRecDepth 100000
set_option maxHeartbeats 16000000
set_option linter.unusedVariables false
set_option linter.unusedSimpArgs false
namespace Go.Proofs.YthjmdagonfeneaaGreat.G
open Go.RowKit Go.Sd Gas
attribute [local go_sem] Oper.semAt_some
theorem progCorners (s : St) (w : World) : Calls Tryz.prog 131 #[stV s] w fun e w' => e = .returned (.func (.func 135) #[] #[.pointer (some ⟨w.heap.size, 0, none⟩)]) ∧ w.alloc (.cells #[.int .i64 s.glo, .int .i64 s.ghi, .int .i64 s.ylo, .int .i64 s.yhi, .int .i64 s.tlo, .int .i64 s.thi, .int .i64 s.wlo, .int .i64 s.whi] 33) = w' := by
 go_enter Tryz.func131, Tryz.ntmps131
 go_wp2
 go_ret
 exact ⟨rfl, rfl⟩
theorem BoxV.kept {B bb : Nat} {w w' : World} {v : Nat → Value} {l : List Pt} {S : Nat → Prop} (h : BoxV B bb w v l) (hk : Kept S w w') (hb : S bb) (ho : ∀ k, k < 4 → ∀ b, (v k).ownBlock = some b → S b) : BoxV B bb w' v l :=
 ⟨(hk.block _ (zqo h.at') hb).trans h.at', fun k hk' => OwnInts.block (h.own k hk') fun b e => hk.block b ((h.own k hk').lt b e).2 (ho k hk' b e), h.dis, h.self⟩
theorem leaves_one {fn : Func} {tmps : Array Value} {R : Ending → World → Prop} {D : Nat} {u : FrameMode} {w : World} (hu : u ≠ .run) (hd : w.heap[D]? = some (.deferred (some []))) (h : LeavesInM Fence.wide 0 Tryz.prog fn tmps R [] u (w.putObj D (.deferred none))) :
    LeavesInM Fence.wide 0 Tryz.prog fn tmps R [{ target := .collected D, args := #[] }] u w :=
 ⟨hu, .inl ⟨D, _, rfl, run_takeDeferred hd, h⟩⟩
def RunPost (all : Prop) (v : Value) (w : World) (e : Ending) (w' : World) : Prop := (all ∧ e = .returned v ∧ Below w.heap.size w w') ∨ (¬ all ∧ GaveUp w e w')
def RunI (B bb : Nat) (f : Pt → Pt) (ok : Pt → Bool) (pre : List Pt) (W : World) : Prop := (∃ v, BoxV B bb W v (pre.map f)) ∧ ∀ q ∈ pre, ok q = true
def RunP (all : Prop) (c : List PanicEntry) (_ : World) : Prop := ¬ all ∧ ∃ s : ByteArray, c = [{ v := .iface 165 (.agg #[.string s]), recovered := false }]
theorem RunI.kept {B bb : Nat} {f : Pt → Pt} {ok : Pt → Bool} {pre : List Pt} {W W' : World} {S : Nat → Prop} (h : RunI B bb f ok pre W) (hk : Kept S W W') (hb : S bb) (ho : ∀ b, B ≤ b → S b) : RunI B bb f ok pre W' := by
 obtain ⟨⟨v, hv⟩, h2⟩ := h
 exact ⟨⟨v, hv.kept hk hb fun k hk' b e => ho b ((hv.own k hk').lt b e).1⟩, h2⟩
theorem injectY {c : Cav} {p l : Pt} (w : World) (hc : c.Ok) (hp : p.Ok) (hl : l.Wide) (hok : (inject c p l).ok = true) :
    Calls Tryz.prog 81 #[cavV c, ptV p, ptV l] w fun e w' => e = .returned (ptV (inject c p l)) ∧ Below w.heap.size w w' := by
 by_cases hz : p.g * c.h0 + p.y * c.h1 + (l.g * c.h0 + l.y * c.h1) = 0
 · have e : inject c p l = ⟨p.g + l.g, p.y + l.y, p.t, p.w + l.w⟩ := by simp [inject, warm, heat, hz]
   rw [e] at hok ⊢
   exact progInjectZY c p l w hc hp hl hz hok
 · have e : inject c p l = ⟨p.g + l.g, p.y + l.y, ((p.g * c.h0 + p.y * c.h1) * p.t + (l.g * c.h0 + l.y * c.h1) * l.t) / (p.g * c.h0 + p.y * c.h1 + (l.g * c.h0 + l.y * c.h1)), p.w + l.w⟩ := by simp [inject, warm, heat, hz]
   rw [e] at hok ⊢
   obtain ⟨b1, b2, b3, b4, -⟩ := inject_nums hc hp hl
   exact progInjectPY c p l w hc hp hl (by omega) hok
theorem injectN {c : Cav} {p l : Pt} (w : World) (hc : c.Ok) (hp : p.Ok) (hl : l.Wide) (hok : (inject c p l).ok = false) :
    Calls Tryz.prog 81 #[cavV c, ptV p, ptV l] w (GaveUp w) := by
 by_cases hz : p.g * c.h0 + p.y * c.h1 + (l.g * c.h0 + l.y * c.h1) = 0
 · have e : inject c p l = ⟨p.g + l.g, p.y + l.y, p.t, p.w + l.w⟩ := by simp [inject, warm, heat, hz]
   rw [e] at hok
   exact progInjectZN c p l w hc hp hl hz hok
 · have e : inject c p l = ⟨p.g + l.g, p.y + l.y, ((p.g * c.h0 + p.y * c.h1) * p.t + (l.g * c.h0 + l.y * c.h1) * l.t) / (p.g * c.h0 + p.y * c.h1 + (l.g * c.h0 + l.y * c.h1)), p.w + l.w⟩ := by simp [inject, warm, heat, hz]
   rw [e] at hok
   obtain ⟨b1, b2, b3, b4, -⟩ := inject_nums hc hp hl
   exact progInjectPN c p l w hc hp hl (by omega) hok
theorem corner_has {s : St} (hs : s.Ok) (k : Nat) : s.Has (cornerAt s k) := by
 have := hs.g; have := hs.y; have := hs.t; have := hs.w
 refine ⟨⟨?_, ?_⟩, ⟨?_, ?_⟩, ⟨?_, ?_⟩, ⟨?_, ?_⟩⟩ <;> simp only [cornerAt, endOf] <;> split <;> omega
theorem mem_corners {s : St} {p : Pt} (h : p ∈ corners s) : ∃ k, k < 16 ∧ p = cornerAt s k := by
 unfold corners cornersTo at h
 rw [List.mem_map] at h
 obtain ⟨k, hk, rfl⟩ := h
 exact ⟨k, List.mem_range.1 hk, rfl⟩
theorem corner_ok {s : St} (hs : s.Ok) {p : Pt} (h : p ∈ corners s) : p.Ok := by
 obtain ⟨k, -, rfl⟩ := mem_corners h
 exact (corner_has hs k).ok hs
theorem set_one {w : World} {n : Nat} {c : Array Value} {e : TypeId} (h : w.heap[n]? = some (.cells c e (0, 0))) (i : Nat) (v : Value) : (w.setCell ⟨n, i, none⟩ v).heap[n]? = some (.cells (c.setIfInBounds i v) e (0, 0)) := by
 simp only [World.setCell, Array.getElem?_modify, if_true, h]
 rfl
theorem set_cells8 {w : World} {n : Nat} {a0 a1 a2 a3 a4 a5 a6 a7 : Value} {e : TypeId} (h : w.heap[n]? = some (.cells #[a0, a1, a2, a3, a4, a5, a6, a7] e (0, 0))) (b0 b1 b2 b3 b4 b5 b6 b7 : Value) :
    ((((((((w.setCell ⟨n, 0, none⟩ b0).setCell ⟨n, 1, none⟩ b1).setCell ⟨n, 2, none⟩ b2).setCell ⟨n, 3, none⟩ b3).setCell ⟨n, 4, none⟩ b4).setCell ⟨n, 5, none⟩ b5).setCell ⟨n, 6, none⟩ b6).setCell ⟨n, 7, none⟩ b7).heap[n]? = some (.cells #[b0, b1, b2, b3, b4, b5, b6, b7] e (0, 0)) := by
 have h2 := (set_one (set_one (set_one (set_one (set_one (set_one (set_one (set_one h 0 b0) 1 b1) 2 b2) 3 b3) 4 b4) 5 b5) 6 b6) 7 b7)
 simp only [List.setIfInBounds_toArray, List.set_cons_zero, List.set_cons_succ] at h2
 exact h2
theorem set_other8 {w : World} {n m : Nat} (b0 b1 b2 b3 b4 b5 b6 b7 : Value) (h : m ≠ n) : ((((((((w.setCell ⟨n, 0, none⟩ b0).setCell ⟨n, 1, none⟩ b1).setCell ⟨n, 2, none⟩ b2).setCell ⟨n, 3, none⟩ b3).setCell ⟨n, 4, none⟩ b4).setCell ⟨n, 5, none⟩ b5).setCell ⟨n, 6, none⟩ b6).setCell ⟨n, 7, none⟩ b7).heap[m]? = w.heap[m]? := by
 repeat' (first | (with_reducible rfl) | refine (Below.heap_setCell _ _ _ _ (show m ≠ n from h)).trans ?_)
theorem set_below8 {B : Nat} {v w : World} {n : Nat} (hk : Below B v w) (h : B ≤ n) (b0 b1 b2 b3 b4 b5 b6 b7 : Value) : Below B v ((((((((w.setCell ⟨n, 0, none⟩ b0).setCell ⟨n, 1, none⟩ b1).setCell ⟨n, 2, none⟩ b2).setCell ⟨n, 3, none⟩ b3).setCell ⟨n, 4, none⟩ b4).setCell ⟨n, 5, none⟩ b5).setCell ⟨n, 6, none⟩ b6).setCell ⟨n, 7, none⟩ b7) := by
 repeat' (first | (with_reducible exact hk) | (exact h) | refine Below.setCell ?_ ?_ _)
theorem set_cells6 {w : World} {n : Nat} {a0 a1 a2 a3 a4 a5 : Value} {e : TypeId} (h : w.heap[n]? = some (.cells #[a0, a1, a2, a3, a4, a5] e (0, 0))) (b0 b1 b2 b3 b4 b5 : Value) :
    ((((((w.setCell ⟨n, 0, none⟩ b0).setCell ⟨n, 1, none⟩ b1).setCell ⟨n, 2, none⟩ b2).setCell ⟨n, 3, none⟩ b3).setCell ⟨n, 4, none⟩ b4).setCell ⟨n, 5, none⟩ b5).heap[n]? = some (.cells #[b0, b1, b2, b3, b4, b5] e (0, 0)) := by
 have h2 := (set_one (set_one (set_one (set_one (set_one (set_one h 0 b0) 1 b1) 2 b2) 3 b3) 4 b4) 5 b5)
 simp only [List.setIfInBounds_toArray, List.set_cons_zero, List.set_cons_succ] at h2
 exact h2
theorem set_other6 {w : World} {n m : Nat} (b0 b1 b2 b3 b4 b5 : Value) (h : m ≠ n) : ((((((w.setCell ⟨n, 0, none⟩ b0).setCell ⟨n, 1, none⟩ b1).setCell ⟨n, 2, none⟩ b2).setCell ⟨n, 3, none⟩ b3).setCell ⟨n, 4, none⟩ b4).setCell ⟨n, 5, none⟩ b5).heap[m]? = w.heap[m]? := by
 repeat' (first | (with_reducible rfl) | refine (Below.heap_setCell _ _ _ _ (show m ≠ n from h)).trans ?_)
theorem set_below6 {B : Nat} {v w : World} {n : Nat} (hk : Below B v w) (h : B ≤ n) (b0 b1 b2 b3 b4 b5 : Value) : Below B v ((((((w.setCell ⟨n, 0, none⟩ b0).setCell ⟨n, 1, none⟩ b1).setCell ⟨n, 2, none⟩ b2).setCell ⟨n, 3, none⟩ b3).setCell ⟨n, 4, none⟩ b4).setCell ⟨n, 5, none⟩ b5) := by
 repeat' (first | (with_reducible exact hk) | (exact h) | refine Below.setCell ?_ ?_ _)
theorem progInjects (c : Cav) (s : St) (o : Gas.Op) (w : World) (hc : c.Ok) (hs : s.Ok) (hl : o.lot.Wide) :
    Calls Tryz.prog 119 #[cavV c, stV s, opV o] w (RunPost (∀ p ∈ corners s, (inject c p o.lot).ok = true) (.tuple #[stV (boxOf ((corners s).map fun p => inject c p o.lot)), outV ⟨0, 0, 0, 0, 0, 0⟩]) w) := by
 obtain ⟨X1, hX1⟩ : ∃ X1, w.alloc (.cells #[.int .i64 c.vlo, .int .i64 c.vhi, .int .i64 c.least, .int .i64 c.most, .int .i64 c.f0, .int .i64 c.f1, .int .i64 c.h0, .int .i64 c.h1, .int .i64 c.rock, .int .i64 c.plo, .int .i64 c.phi] 89) = X1 := ⟨_, rfl⟩
 obtain ⟨eX0, bX0, sX0⟩ := boxed hX1
 have yX0_0 : w.heap.size < X1.heap.size := by omega
 obtain ⟨mX0_0_0, mX0_0_1, mX0_0_2, mX0_0_3, mX0_0_4, mX0_0_5, mX0_0_6, mX0_0_7, mX0_0_8, mX0_0_9, mX0_0_10⟩ := rc11 eX0
 obtain ⟨X2, hX2⟩ : ∃ X2, X1.alloc (.cells #[.int .i64 s.glo, .int .i64 s.ghi, .int .i64 s.ylo, .int .i64 s.yhi, .int .i64 s.tlo, .int .i64 s.thi, .int .i64 s.wlo, .int .i64 s.whi] 33) = X2 := ⟨_, rfl⟩
 obtain ⟨eX1, bX1, sX1⟩ := boxed hX2
 have yX1_0 : w.heap.size < X2.heap.size := by omega
 replace eX0 := (bX1.block _ (zqo eX0)).trans eX0
 obtain ⟨mX1_0_0, mX1_0_1, mX1_0_2, mX1_0_3, mX1_0_4, mX1_0_5, mX1_0_6, mX1_0_7, mX1_0_8, mX1_0_9, mX1_0_10⟩ := rc11 eX0
 have yX1_1 : X1.heap.size < X2.heap.size := by omega
 obtain ⟨mX1_1_0, mX1_1_1, mX1_1_2, mX1_1_3, mX1_1_4, mX1_1_5, mX1_1_6, mX1_1_7⟩ := rc8 eX1
 obtain ⟨X3, hX3⟩ : ∃ X3, X2.alloc (.cells #[.int .i64 o.kind, .int .i64 o.lg, .int .i64 o.ly, .int .i64 o.lt, .int .i64 o.lw, .int .i64 o.moles, .int .i64 o.slo, .int .i64 o.shi, .int .i64 o.wlo, .int .i64 o.whi] 83) = X3 := ⟨_, rfl⟩
 obtain ⟨eX2, bX2, sX2⟩ := boxed hX3
 have yX2_0 : w.heap.size < X3.heap.size := by omega
 replace eX0 := (bX2.block _ (zqo eX0)).trans eX0
 obtain ⟨mX2_0_0, mX2_0_1, mX2_0_2, mX2_0_3, mX2_0_4, mX2_0_5, mX2_0_6, mX2_0_7, mX2_0_8, mX2_0_9, mX2_0_10⟩ := rc11 eX0
 have yX2_1 : X1.heap.size < X3.heap.size := by omega
 replace eX1 := (bX2.block _ (zqo eX1)).trans eX1
 obtain ⟨mX2_1_0, mX2_1_1, mX2_1_2, mX2_1_3, mX2_1_4, mX2_1_5, mX2_1_6, mX2_1_7⟩ := rc8 eX1
 have yX2_2 : X2.heap.size < X3.heap.size := by omega
 obtain ⟨mX2_2_0, mX2_2_1, mX2_2_2, mX2_2_3, mX2_2_4, mX2_2_5, mX2_2_6, mX2_2_7, mX2_2_8, mX2_2_9⟩ := rc10 eX2
 obtain ⟨X4, hX4⟩ : ∃ X4, X3.alloc (.cells #[.int .i64 0, .int .i64 0, .int .i64 0, .int .i64 0, .int .i64 0, .int .i64 0, .int .i64 0, .int .i64 0] 33) = X4 := ⟨_, rfl⟩
 obtain ⟨eX3, bX3, sX3⟩ := boxed hX4
 have yX3_0 : w.heap.size < X4.heap.size := by omega
 replace eX0 := (bX3.block _ (zqo eX0)).trans eX0
 obtain ⟨mX3_0_0, mX3_0_1, mX3_0_2, mX3_0_3, mX3_0_4, mX3_0_5, mX3_0_6, mX3_0_7, mX3_0_8, mX3_0_9, mX3_0_10⟩ := rc11 eX0
 have yX3_1 : X1.heap.size < X4.heap.size := by omega
 replace eX1 := (bX3.block _ (zqo eX1)).trans eX1
 obtain ⟨mX3_1_0, mX3_1_1, mX3_1_2, mX3_1_3, mX3_1_4, mX3_1_5, mX3_1_6, mX3_1_7⟩ := rc8 eX1
 have yX3_2 : X2.heap.size < X4.heap.size := by omega
 replace eX2 := (bX3.block _ (zqo eX2)).trans eX2
 obtain ⟨mX3_2_0, mX3_2_1, mX3_2_2, mX3_2_3, mX3_2_4, mX3_2_5, mX3_2_6, mX3_2_7, mX3_2_8, mX3_2_9⟩ := rc10 eX2
 have yX3_3 : X3.heap.size < X4.heap.size := by omega
 obtain ⟨mX3_3_0, mX3_3_1, mX3_3_2, mX3_3_3, mX3_3_4, mX3_3_5, mX3_3_6, mX3_3_7⟩ := rc8 eX3
 obtain ⟨X5, hX5⟩ : ∃ X5, X4.alloc (.cells #[.int .i64 0, .int .i64 0, .int .i64 0, .int .i64 0, .int .i64 0, .int .i64 0] 76) = X5 := ⟨_, rfl⟩
 obtain ⟨eX4, bX4, sX4⟩ := boxed hX5
 have yX4_0 : w.heap.size < X5.heap.size := by omega
 replace eX0 := (bX4.block _ (zqo eX0)).trans eX0
 obtain ⟨mX4_0_0, mX4_0_1, mX4_0_2, mX4_0_3, mX4_0_4, mX4_0_5, mX4_0_6, mX4_0_7, mX4_0_8, mX4_0_9, mX4_0_10⟩ := rc11 eX0
 have yX4_1 : X1.heap.size < X5.heap.size := by omega
 replace eX1 := (bX4.block _ (zqo eX1)).trans eX1
 obtain ⟨mX4_1_0, mX4_1_1, mX4_1_2, mX4_1_3, mX4_1_4, mX4_1_5, mX4_1_6, mX4_1_7⟩ := rc8 eX1
 have yX4_2 : X2.heap.size < X5.heap.size := by omega
 replace eX2 := (bX4.block _ (zqo eX2)).trans eX2
 obtain ⟨mX4_2_0, mX4_2_1, mX4_2_2, mX4_2_3, mX4_2_4, mX4_2_5, mX4_2_6, mX4_2_7, mX4_2_8, mX4_2_9⟩ := rc10 eX2
 have yX4_3 : X3.heap.size < X5.heap.size := by omega
 replace eX3 := (bX4.block _ (zqo eX3)).trans eX3
 obtain ⟨mX4_3_0, mX4_3_1, mX4_3_2, mX4_3_3, mX4_3_4, mX4_3_5, mX4_3_6, mX4_3_7⟩ := rc8 eX3
 have yX4_4 : X4.heap.size < X5.heap.size := by omega
 obtain ⟨mX4_4_0, mX4_4_1, mX4_4_2, mX4_4_3, mX4_4_4, mX4_4_5⟩ := rc6 eX4
 obtain ⟨X6, hX6⟩ : ∃ X6, X5.alloc (.cells #[.slice none 0 0, .slice none 0 0, .slice none 0 0, .slice none 0 0] 187) = X6 := ⟨_, rfl⟩
 obtain ⟨eX5, bX5, sX5⟩ := boxed hX6
 have yX5_0 : w.heap.size < X6.heap.size := by omega
 replace eX0 := (bX5.block _ (zqo eX0)).trans eX0
 obtain ⟨mX5_0_0, mX5_0_1, mX5_0_2, mX5_0_3, mX5_0_4, mX5_0_5, mX5_0_6, mX5_0_7, mX5_0_8, mX5_0_9, mX5_0_10⟩ := rc11 eX0
 have yX5_1 : X1.heap.size < X6.heap.size := by omega
 replace eX1 := (bX5.block _ (zqo eX1)).trans eX1
 obtain ⟨mX5_1_0, mX5_1_1, mX5_1_2, mX5_1_3, mX5_1_4, mX5_1_5, mX5_1_6, mX5_1_7⟩ := rc8 eX1
 have yX5_2 : X2.heap.size < X6.heap.size := by omega
 replace eX2 := (bX5.block _ (zqo eX2)).trans eX2
 obtain ⟨mX5_2_0, mX5_2_1, mX5_2_2, mX5_2_3, mX5_2_4, mX5_2_5, mX5_2_6, mX5_2_7, mX5_2_8, mX5_2_9⟩ := rc10 eX2
 have yX5_3 : X3.heap.size < X6.heap.size := by omega
 replace eX3 := (bX5.block _ (zqo eX3)).trans eX3
 obtain ⟨mX5_3_0, mX5_3_1, mX5_3_2, mX5_3_3, mX5_3_4, mX5_3_5, mX5_3_6, mX5_3_7⟩ := rc8 eX3
 have yX5_4 : X4.heap.size < X6.heap.size := by omega
 replace eX4 := (bX5.block _ (zqo eX4)).trans eX4
 obtain ⟨mX5_4_0, mX5_4_1, mX5_4_2, mX5_4_3, mX5_4_4, mX5_4_5⟩ := rc6 eX4
 have yX5_5 : X5.heap.size < X6.heap.size := by omega
 obtain ⟨mX5_5_0, mX5_5_1, mX5_5_2, mX5_5_3⟩ := rc4 eX5
 obtain ⟨X, hX⟩ : ∃ X, X6.alloc (.cells #[.int .i64 s.glo, .int .i64 s.ghi, .int .i64 s.ylo, .int .i64 s.yhi, .int .i64 s.tlo, .int .i64 s.thi, .int .i64 s.wlo, .int .i64 s.whi] 33) = X := ⟨_, rfl⟩
 obtain ⟨eX6, bX6, sX6⟩ := boxed hX
 replace eX0 := (bX6.block _ (zqo eX0)).trans eX0
 replace eX1 := (bX6.block _ (zqo eX1)).trans eX1
 replace eX2 := (bX6.block _ (zqo eX2)).trans eX2
 replace eX3 := (bX6.block _ (zqo eX3)).trans eX3
 replace eX4 := (bX6.block _ (zqo eX4)).trans eX4
 replace eX5 := (bX6.block _ (zqo eX5)).trans eX5
 have hBX : Below w.heap.size w X := (by have := sX0; have := sX1; have := sX2; have := sX3; have := sX4; have := sX5; have := sX6; exact ((((((bX0.trans (bX1.mono (by omega))).trans (bX2.mono (by omega))).trans (bX3.mono (by omega))).trans (bX4.mono (by omega))).trans (bX5.mono (by omega))).trans (bX6.mono (by omega))))
 obtain ⟨zX0, rX0, tX0⟩ := row_cells eX0
 obtain ⟨qX0_0, qX0_1, qX0_2, qX0_3, qX0_4, qX0_5, qX0_6, qX0_7, qX0_8, qX0_9, qX0_10⟩ := rc11 eX0
 obtain ⟨fX0_0, fX0_1, fX0_2, fX0_3, fX0_4, fX0_5, fX0_6, fX0_7, fX0_8, fX0_9, fX0_10⟩ := rf11 eX0
 have EX0 := Lib.hid eX0
 clear rX0 tX0 eX0
 obtain ⟨zX1, rX1, tX1⟩ := row_cells eX1
 obtain ⟨qX1_0, qX1_1, qX1_2, qX1_3, qX1_4, qX1_5, qX1_6, qX1_7⟩ := rc8 eX1
 obtain ⟨fX1_0, fX1_1, fX1_2, fX1_3, fX1_4, fX1_5, fX1_6, fX1_7⟩ := rf8 eX1
 have EX1 := Lib.hid eX1
 clear rX1 tX1 eX1
 obtain ⟨zX2, rX2, tX2⟩ := row_cells eX2
 obtain ⟨qX2_0, qX2_1, qX2_2, qX2_3, qX2_4, qX2_5, qX2_6, qX2_7, qX2_8, qX2_9⟩ := rc10 eX2
 obtain ⟨fX2_0, fX2_1, fX2_2, fX2_3, fX2_4, fX2_5, fX2_6, fX2_7, fX2_8, fX2_9⟩ := rf10 eX2
 have EX2 := Lib.hid eX2
 clear rX2 tX2 eX2
 obtain ⟨zX3, rX3, tX3⟩ := row_cells eX3
 obtain ⟨qX3_0, qX3_1, qX3_2, qX3_3, qX3_4, qX3_5, qX3_6, qX3_7⟩ := rc8 eX3
 obtain ⟨fX3_0, fX3_1, fX3_2, fX3_3, fX3_4, fX3_5, fX3_6, fX3_7⟩ := rf8 eX3
 have EX3 := Lib.hid eX3
 clear rX3 tX3 eX3
 obtain ⟨zX4, rX4, tX4⟩ := row_cells eX4
 obtain ⟨qX4_0, qX4_1, qX4_2, qX4_3, qX4_4, qX4_5⟩ := rc6 eX4
 obtain ⟨fX4_0, fX4_1, fX4_2, fX4_3, fX4_4, fX4_5⟩ := rf6 eX4
 have EX4 := Lib.hid eX4
 clear rX4 tX4 eX4
 obtain ⟨zX5, rX5, tX5⟩ := row_cells eX5
 obtain ⟨qX5_0, qX5_1, qX5_2, qX5_3⟩ := rc4 eX5
 obtain ⟨fX5_0, fX5_1, fX5_2, fX5_3⟩ := rf4 eX5
 have EX5 := Lib.hid eX5
 clear rX5 tX5 eX5
 obtain ⟨zX6, rX6, tX6⟩ := row_cells eX6
 obtain ⟨qX6_0, qX6_1, qX6_2, qX6_3, qX6_4, qX6_5, qX6_6, qX6_7⟩ := rc8 eX6
 obtain ⟨fX6_0, fX6_1, fX6_2, fX6_3, fX6_4, fX6_5, fX6_6, fX6_7⟩ := rf8 eX6
 have EX6 := Lib.hid eX6
 clear rX6 tX6 eX6
 have xX0 : w.heap.size ≤ w.heap.size := by omega
 have xX1 : w.heap.size ≤ X1.heap.size := by omega
 have xX2 : w.heap.size ≤ X2.heap.size := by omega
 have xX3 : w.heap.size ≤ X3.heap.size := by omega
 have xX4 : w.heap.size ≤ X4.heap.size := by omega
 have xX5 : w.heap.size ≤ X5.heap.size := by omega
 have xX6 : w.heap.size ≤ X6.heap.size := by omega
 clear bX0 sX0 bX1 sX1 bX2 sX2 bX3 sX3 bX4 sX4 bX5 sX5 bX6 sX6
 refine (callsIn_wide (n := 0)).1 ?_
 refine calls_of_wpAt Tryz.func119 rfl ?_
 simp only [Tryz.ntmps119, List.size_toArray, List.length_cons, List.length_nil, Nat.reduceAdd, Nat.reduceSub, Array.replicate_succ, Array.replicate_zero, List.push_toArray, List.append_toArray, List.nil_append, List.cons_append]
 refine WpAt.seq_k fun K hK => ?_
 go_wp2
 refine WpAt.seq_k fun K hK => ?_
 go_wp2
 refine WpAt.seq ?_
 refine WpAt.seq_k fun K hK => ?_
 go_wp2_with (go_at_call 131; refine (progCorners _ _).mono ?_; rintro e w1 ⟨rfl, rfl⟩)
 refine WpAt.block ?_
 refine WpAt.rangeG (S := fun k => k < X.heap.size ∧ k ≠ X5.heap.size) ⟨_, rfl⟩ rfl (fun args w => by kernel_rfl) (corners_yields s X _ X6.heap.size ?hcs ?hSs) (fun k h => h.1) (fun _ => rfl)
  (RunI (X.heap.size + 2) X5.heap.size (fun p => inject c p o.lot) (fun p => (inject c p o.lot).ok)) (fun _ _ => False) (RunP (∀ p ∈ corners s, (inject c p o.lot).ok = true)) ?hI ?hIx ?h0 ?hround ?hdone ?hpanic ?hstop
 case hcs => exact fun i v h => ((row_cells EX6.out).2.1 i).trans h
 case hSs => exact ⟨zX6, by omega⟩
 case hI => exact fun pre X' Y h hk => h.kept hk ⟨by omega, by omega⟩ fun b hb => ⟨by omega, by omega⟩
 case hIx => exact fun _ _ _ h _ => h
 case h0 => exact ⟨⟨fun _ => .slice none 0 0, ⟨EX5.out, fun k _ => (by unfold coord; split <;> exact OwnInts.nil _ _), fun _ _ _ _ _ b h => (by cases h), fun _ _ h => (by cases h)⟩⟩, fun _ h => (by cases h)⟩
 case hstop => exact fun _ _ _ _ h => h.elim
 case hround =>
  rintro l pre x W hl1 hlt hpre hKS hI
  have hx : x ∈ corners s := hpre.subset (by simp)
  have hxo := corner_ok hs hx
  have hKX := hKS.size
  gi_wp2
  refine ⟨(Kept.refl _ _).alloc _, ?_⟩
  intro W2 hk2 hs2
  rw [World.size_alloc] at hs2
  -- what the round sees
  have hW12 : Kept (fun k => k ≠ l) W W2 := ((Kept.refl _ W).alloc _).trans hk2
  have hXW2 : Kept (fun k => k < X.heap.size ∧ k ≠ X5.heap.size) X W2 := hKS.trans (hW12.mono fun k _ h => by omega)
  have gx : W2.heap[W.heap.size]? = some (.cells #[.int .i64 x.g, .int .i64 x.y, .int .i64 x.t, .int .i64 x.w] 35) := (hk2.block _ (by rw [World.size_alloc]; omega) (by omega)).trans (World.alloc_heap_new W _)
  have gI : RunI (X.heap.size + 2) X5.heap.size (fun p => inject c p o.lot) (fun p => (inject c p o.lot).ok) pre W2 := hI.kept hW12 (by omega) fun b hb => by omega
  obtain ⟨zx, dx, -⟩ := row_cells gx
  clear hI hW12 hk2 gx
  have x0 := dx 0
  have x1 := dx 1
  have x2 := dx 2
  have x3 := dx 3
  simp only [List.getElem?_toArray, List.getElem?_cons_zero, List.getElem?_cons_succ] at x0 x1 x2 x3
  clear dx
  have g0_0 := hXW2.cell (b := w.heap.size) ⟨zX0, by omega⟩ qX0_0
  have g0_1 := hXW2.cell (b := w.heap.size) ⟨zX0, by omega⟩ qX0_1
  have g0_2 := hXW2.cell (b := w.heap.size) ⟨zX0, by omega⟩ qX0_2
  have g0_3 := hXW2.cell (b := w.heap.size) ⟨zX0, by omega⟩ qX0_3
  have g0_4 := hXW2.cell (b := w.heap.size) ⟨zX0, by omega⟩ qX0_4
  have g0_5 := hXW2.cell (b := w.heap.size) ⟨zX0, by omega⟩ qX0_5
  have g0_6 := hXW2.cell (b := w.heap.size) ⟨zX0, by omega⟩ qX0_6
  have g0_7 := hXW2.cell (b := w.heap.size) ⟨zX0, by omega⟩ qX0_7
  have g0_8 := hXW2.cell (b := w.heap.size) ⟨zX0, by omega⟩ qX0_8
  have g0_9 := hXW2.cell (b := w.heap.size) ⟨zX0, by omega⟩ qX0_9
  have g0_10 := hXW2.cell (b := w.heap.size) ⟨zX0, by omega⟩ qX0_10
  have g2_0 := hXW2.cell (b := X2.heap.size) ⟨zX2, by omega⟩ qX2_0
  have g2_1 := hXW2.cell (b := X2.heap.size) ⟨zX2, by omega⟩ qX2_1
  have g2_2 := hXW2.cell (b := X2.heap.size) ⟨zX2, by omega⟩ qX2_2
  have g2_3 := hXW2.cell (b := X2.heap.size) ⟨zX2, by omega⟩ qX2_3
  have g2_4 := hXW2.cell (b := X2.heap.size) ⟨zX2, by omega⟩ qX2_4
  have g2_5 := hXW2.cell (b := X2.heap.size) ⟨zX2, by omega⟩ qX2_5
  have g2_6 := hXW2.cell (b := X2.heap.size) ⟨zX2, by omega⟩ qX2_6
  have g2_7 := hXW2.cell (b := X2.heap.size) ⟨zX2, by omega⟩ qX2_7
  have g2_8 := hXW2.cell (b := X2.heap.size) ⟨zX2, by omega⟩ qX2_8
  have g2_9 := hXW2.cell (b := X2.heap.size) ⟨zX2, by omega⟩ qX2_9
  clear mX0_0_0 mX0_0_1 mX0_0_2 mX0_0_3 mX0_0_4 mX0_0_5 mX0_0_6 mX0_0_7 mX0_0_8 mX0_0_9 mX0_0_10 mX1_0_0 mX1_0_1 mX1_0_2 mX1_0_3 mX1_0_4 mX1_0_5 mX1_0_6 mX1_0_7 mX1_0_8 mX1_0_9 mX1_0_10 mX1_1_0 mX1_1_1 mX1_1_2 mX1_1_3 mX1_1_4 mX1_1_5 mX1_1_6 mX1_1_7 mX2_0_0 mX2_0_1 mX2_0_2 mX2_0_3 mX2_0_4 mX2_0_5 mX2_0_6 mX2_0_7 mX2_0_8 mX2_0_9 mX2_0_10 mX2_1_0 mX2_1_1 mX2_1_2 mX2_1_3 mX2_1_4 mX2_1_5 mX2_1_6 mX2_1_7 mX2_2_0 mX2_2_1 mX2_2_2 mX2_2_3 mX2_2_4 mX2_2_5 mX2_2_6 mX2_2_7 mX2_2_8 mX2_2_9 mX3_0_0 mX3_0_1 mX3_0_2 mX3_0_3 mX3_0_4 mX3_0_5 mX3_0_6 mX3_0_7 mX3_0_8 mX3_0_9 mX3_0_10 mX3_1_0 mX3_1_1 mX3_1_2 mX3_1_3 mX3_1_4 mX3_1_5 mX3_1_6 mX3_1_7 mX3_2_0 mX3_2_1 mX3_2_2 mX3_2_3 mX3_2_4 mX3_2_5 mX3_2_6 mX3_2_7 mX3_2_8 mX3_2_9 mX3_3_0 mX3_3_1 mX3_3_2 mX3_3_3 mX3_3_4 mX3_3_5 mX3_3_6 mX3_3_7 mX4_0_0 mX4_0_1 mX4_0_2 mX4_0_3 mX4_0_4 mX4_0_5 mX4_0_6 mX4_0_7 mX4_0_8 mX4_0_9 mX4_0_10 mX4_1_0 mX4_1_1 mX4_1_2 mX4_1_3 mX4_1_4 mX4_1_5 mX4_1_6 mX4_1_7 mX4_2_0 mX4_2_1 mX4_2_2 mX4_2_3 mX4_2_4 mX4_2_5 mX4_2_6 mX4_2_7 mX4_2_8 mX4_2_9 mX4_3_0 mX4_3_1 mX4_3_2 mX4_3_3 mX4_3_4 mX4_3_5 mX4_3_6 mX4_3_7 mX4_4_0 mX4_4_1 mX4_4_2 mX4_4_3 mX4_4_4 mX4_4_5 mX5_0_0 mX5_0_1 mX5_0_2 mX5_0_3 mX5_0_4 mX5_0_5 mX5_0_6 mX5_0_7 mX5_0_8 mX5_0_9 mX5_0_10 mX5_1_0 mX5_1_1 mX5_1_2 mX5_1_3 mX5_1_4 mX5_1_5 mX5_1_6 mX5_1_7 mX5_2_0 mX5_2_1 mX5_2_2 mX5_2_3 mX5_2_4 mX5_2_5 mX5_2_6 mX5_2_7 mX5_2_8 mX5_2_9 mX5_3_0 mX5_3_1 mX5_3_2 mX5_3_3 mX5_3_4 mX5_3_5 mX5_3_6 mX5_3_7 mX5_4_0 mX5_4_1 mX5_4_2 mX5_4_3 mX5_4_4 mX5_4_5 mX5_5_0 mX5_5_1 mX5_5_2 mX5_5_3 qX0_0 qX0_1 qX0_2 qX0_3 qX0_4 qX0_5 qX0_6 qX0_7 qX0_8 qX0_9 qX0_10 fX0_0 fX0_1 fX0_2 fX0_3 fX0_4 fX0_5 fX0_6 fX0_7 fX0_8 fX0_9 fX0_10 qX1_0 qX1_1 qX1_2 qX1_3 qX1_4 qX1_5 qX1_6 qX1_7 fX1_0 fX1_1 fX1_2 fX1_3 fX1_4 fX1_5 fX1_6 fX1_7 qX2_0 qX2_1 qX2_2 qX2_3 qX2_4 qX2_5 qX2_6 qX2_7 qX2_8 qX2_9 fX2_0 fX2_1 fX2_2 fX2_3 fX2_4 fX2_5 fX2_6 fX2_7 fX2_8 fX2_9 qX3_0 qX3_1 qX3_2 qX3_3 qX3_4 qX3_5 qX3_6 qX3_7 fX3_0 fX3_1 fX3_2 fX3_3 fX3_4 fX3_5 fX3_6 fX3_7 qX4_0 qX4_1 qX4_2 qX4_3 qX4_4 qX4_5 fX4_0 fX4_1 fX4_2 fX4_3 fX4_4 fX4_5 qX5_0 qX5_1 qX5_2 qX5_3 fX5_0 fX5_1 fX5_2 fX5_3 qX6_0 qX6_1 qX6_2 qX6_3 qX6_4 qX6_5 qX6_6 qX6_7 fX6_0 fX6_1 fX6_2 fX6_3 fX6_4 fX6_5 fX6_6 fX6_7 hX1 hX2 hX3 hX4 hX5 hX6 hX
  by_cases hok : (inject c x o.lot).ok = true
  · have hC := Lib.hid (injectY W2 hc hxo hl hok)
    have hlen : pre.length ≤ 16 := by have := hpre.length_le; simp [corners, cornersTo] at this; omega
    gi_wp2
    refine ⟨trivial, rfl, (CallsIn.inRound _ (callsIn_wide.2 hC.out)).mono ?_⟩
    rintro e W3 ⟨rfl, hB3⟩
    have hs3 := hB3.size
    obtain ⟨⟨v, hv⟩, hpo⟩ := gI.kept (S := fun _ => True) (.all hB3) trivial fun _ _ => trivial
    have hP := Lib.hid (progPut (inject c x o.lot) W3 hv (by omega) (by simp; omega))
    clear hC gI hXW2
    gi_wp2
    refine ⟨trivial, rfl, (CallsIn.inRound _ (callsIn_wide.2 hP.out)).mono ?_⟩
    rintro e W4 ⟨rfl, v', hv', -, hk4⟩
    have hk24 : Kept (fun k => (k < X.heap.size ∧ k ≠ X5.heap.size) ∨ k = X.heap.size ∨ k = X.heap.size + 1) W2 W4 := (Kept.all hB3).trans (hk4.mono fun k _ h => ⟨by omega, fun j hj e => by have := ((hv.own j hj).lt k e).1; omega⟩)
    have hR : RunI (X.heap.size + 2) X5.heap.size (fun p => inject c p o.lot) (fun p => (inject c p o.lot).ok) (pre ++ [x]) W4 := ⟨⟨v', by rw [List.map_append]; exact hv'⟩, fun q hq => by
     rcases List.mem_append.1 hq with h | h
     · exact hpo q h
     · have : q = x := by simpa using h
       rw [this]; exact hok⟩
    clear hP hv hpo hv' hk4
    gi_wp2
    exact ⟨hk24, hR⟩
  · have hC := Lib.hid (injectN W2 hc hxo hl (by simpa using hok))
    replace hok := Lib.hid hok
    gi_wp2
    refine ⟨trivial, rfl, (CallsIn.inRound _ (callsIn_wide.2 hC.out)).mono ?_⟩
    rintro e W3 ⟨str, rfl, hB3⟩
    exact ⟨rfl, .all hB3, fun h => hok.out (h x hx), str, rfl⟩
 case hpanic =>
  rintro D ch W hD ⟨hno, str, rfl⟩ hk hd
  exact leaves_one (by simp) hd (.inr ⟨hno, str, rfl, hBX.trans ((hk.below (B := w.heap.size) (by omega) fun k hk' => ⟨by omega, by omega⟩).trans (below_putObj (Below.refl _ _) (by omega) _))⟩)
 case hdone =>
  rintro D W hD ⟨⟨v, hv⟩, hall⟩ hk hd
  have hSt := Lib.hid (progBoxState W hv)
  have h3 := (hk.block _ zX3 ⟨zX3, by omega⟩).trans EX3.out
  have h4 := (hk.block _ zX4 ⟨zX4, by omega⟩).trans EX4.out
  have hXW : Below w.heap.size w W := hBX.trans (hk.below (B := w.heap.size) (by omega) fun k hk' => ⟨by omega, by omega⟩)
  have hDW := (zqo hd)
  have hRes : ∀ W2 : World, Below W.heap.size W W2 → W2.heap[X3.heap.size]? = some (.cells #[.int .i64 0, .int .i64 0, .int .i64 0, .int .i64 0, .int .i64 0, .int .i64 0, .int .i64 0, .int .i64 0] 33 (0, 0)) ∧ W2.heap[X4.heap.size]? = some (.cells #[.int .i64 0, .int .i64 0, .int .i64 0, .int .i64 0, .int .i64 0, .int .i64 0] 76 (0, 0)) ∧ W2.heap[D]? = some (.deferred (some [])) := fun W2 hb => ⟨(hb.block _ (zqo h3)).trans h3, (hb.block _ (zqo h4)).trans h4, (hb.block _ hDW).trans hd⟩
  clear h3 h4 hd hv
  refine (?_ : WpAt _ _ _ _ _ _)
  refine WpAt.of_wp ?_
  go_wp2_with (go_at_call 133; refine Calls.mono hSt.out ?_; rintro e W2 ⟨rfl, hB2⟩; obtain ⟨g3, g4, gD⟩ := hRes W2 hB2; obtain ⟨-, i3, j3⟩ := row_cells g3; obtain ⟨-, i4, j4⟩ := row_cells g4; have r3_0 := i3 0; have u3_0 := j3 0; have r3_1 := i3 1; have u3_1 := j3 1; have r3_2 := i3 2; have u3_2 := j3 2; have r3_3 := i3 3; have u3_3 := j3 3; have r3_4 := i3 4; have u3_4 := j3 4; have r3_5 := i3 5; have u3_5 := j3 5; have r3_6 := i3 6; have u3_6 := j3 6; have r3_7 := i3 7; have u3_7 := j3 7; have r4_0 := i4 0; have u4_0 := j4 0; have r4_1 := i4 1; have u4_1 := j4 1; have r4_2 := i4 2; have u4_2 := j4 2; have r4_3 := i4 3; have u4_3 := j4 3; have r4_4 := i4 4; have u4_4 := j4 4; have r4_5 := i4 5; have u4_5 := j4 5; simp only [List.getElem?_toArray, List.getElem?_cons_zero, List.getElem?_cons_succ] at r3_0 r3_1 r3_2 r3_3 r3_4 r3_5 r3_6 r3_7 r4_0 r4_1 r4_2 r4_3 r4_4 r4_5; clear i3 i4 j3 j4)
  have hfin : Below w.heap.size w W2 := hXW.trans (hB2.mono hXW.size)
  refine leaves_one (by simp) ((set_other6 _ _ _ _ _ _ (by omega)).trans ((set_other8 _ _ _ _ _ _ _ _ (by omega)).trans gD)) ?_
  generalize hV : World.putObj _ D (.deferred none) = V
  have G3 : V.heap[X3.heap.size]? = some (.cells #[.int .i64 (boxOf ((corners s).map fun p => inject c p o.lot)).glo, .int .i64 (boxOf ((corners s).map fun p => inject c p o.lot)).ghi, .int .i64 (boxOf ((corners s).map fun p => inject c p o.lot)).ylo, .int .i64 (boxOf ((corners s).map fun p => inject c p o.lot)).yhi, .int .i64 (boxOf ((corners s).map fun p => inject c p o.lot)).tlo, .int .i64 (boxOf ((corners s).map fun p => inject c p o.lot)).thi, .int .i64 (boxOf ((corners s).map fun p => inject c p o.lot)).wlo, .int .i64 (boxOf ((corners s).map fun p => inject c p o.lot)).whi] 33 (0, 0)) := by rw [← hV]; exact (World.putObj_heap_other (by omega)).trans ((set_other6 _ _ _ _ _ _ (by omega)).trans (set_cells8 g3 _ _ _ _ _ _ _ _))
  have G4 : V.heap[X4.heap.size]? = some (.cells #[.int .i64 0, .int .i64 0, .int .i64 0, .int .i64 0, .int .i64 0, .int .i64 0] 76 (0, 0)) := by rw [← hV]; exact (World.putObj_heap_other (by omega)).trans (set_cells6 ((set_other8 _ _ _ _ _ _ _ _ (by omega)).trans g4) _ _ _ _ _ _)
  have hb : Below w.heap.size w V := by rw [← hV]; exact (set_below6 (set_below8 hfin xX3 _ _ _ _ _ _ _ _) xX4 _ _ _ _ _ _).trans (below_putObj (Below.refl _ _) (by omega) _)
  clear hV
  have k3 := (row_cells G3).2.1
  have k4 := (row_cells G4).2.1
  refine ⟨.tuple #[stV (boxOf ((corners s).map fun p => inject c p o.lot)), outV ⟨0, 0, 0, 0, 0, 0⟩], ?_, .inl ⟨fun p hp => hall p hp, rfl, hb⟩⟩
  have k3_0 := k3 0
  have k3_1 := k3 1
  have k3_2 := k3 2
  have k3_3 := k3 3
  have k3_4 := k3 4
  have k3_5 := k3 5
  have k3_6 := k3 6
  have k3_7 := k3 7
  have k4_0 := k4 0
  have k4_1 := k4 1
  have k4_2 := k4 2
  have k4_3 := k4 3
  have k4_4 := k4 4
  have k4_5 := k4 5
  simp only [List.getElem?_toArray, List.getElem?_cons_zero, List.getElem?_cons_succ] at k3_0 k3_1 k3_2 k3_3 k3_4 k3_5 k3_6 k3_7 k4_0 k4_1 k4_2 k4_3 k4_4 k4_5
  simp only [results, Tryz.results119]
  simp [go_sem, k3_0, k3_1, k3_2, k3_3, k3_4, k3_5, k3_6, k3_7, k4_0, k4_1, k4_2, k4_3, k4_4, k4_5]
end Go.Proofs.YthjmdagonfeneaaGreat.G
