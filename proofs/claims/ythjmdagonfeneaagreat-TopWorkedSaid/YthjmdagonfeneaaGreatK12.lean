/- Laws and walks: GWdr. -/
import Derived.Test.YthjmdagonfeneaaGreatK10
set_option maxRecDepth 100000
set_option maxHeartbeats 16000000
set_option linter.unusedVariables false
set_option linter.unusedSimpArgs false
namespace Go.Proofs.YthjmdagonfeneaaGreat.G
open Go.RowKit Go.Sd Gas
attribute [local go_sem] Oper.semAt_some
def RunW (B b1 b2 : Nat) (m : Int) (pre : List Pt) (W : World) : Prop :=
 (∃ v u, BoxV B b1 W v (pre.map fun p => left p m) ∧ BoxV B b2 W u (pre.map fun p => Gas.out p m) ∧ ∀ i j, i < 4 → j < 4 → ∀ b, (v i).ownBlock = some b → (u j).ownBlock ≠ some b) ∧ ∀ q ∈ pre, m ≤ q.g + q.y
theorem RunW.kept {B b1 b2 : Nat} {m : Int} {pre : List Pt} {W W' : World} {S : Nat → Prop} (h : RunW B b1 b2 m pre W) (hk : Kept S W W') (h1 : S b1) (h2 : S b2) (ho : ∀ b, B ≤ b → S b) : RunW B b1 b2 m pre W' := by
 obtain ⟨⟨v, u, hv, hu, hd⟩, h3⟩ := h
 exact ⟨⟨v, u, hv.kept hk h1 fun k hk' b e => ho b ((hv.own k hk').lt b e).1, hu.kept hk h2 fun k hk' b e => ho b ((hu.own k hk').lt b e).1, hd⟩, h3⟩
theorem far8 {w : World} {n b o : Nat} {v b0 b1 b2 b3 b4 b5 b6 b7 : Value} (h : w.cell? ⟨b, o, none⟩ = some v) (hne : n ≠ b) : ((((((((w.setCell ⟨n, 0, none⟩ b0).setCell ⟨n, 1, none⟩ b1).setCell ⟨n, 2, none⟩ b2).setCell ⟨n, 3, none⟩ b3).setCell ⟨n, 4, none⟩ b4).setCell ⟨n, 5, none⟩ b5).setCell ⟨n, 6, none⟩ b6).setCell ⟨n, 7, none⟩ b7).cell? ⟨b, o, none⟩ = some v :=
 (World.cell?_of_block (a := ⟨b, o, none⟩) (set_other8 b0 b1 b2 b3 b4 b5 b6 b7 (Ne.symm hne))).trans h
theorem far6 {w : World} {n b o : Nat} {v b0 b1 b2 b3 b4 b5 : Value} (h : w.cell? ⟨b, o, none⟩ = some v) (hne : n ≠ b) : ((((((w.setCell ⟨n, 0, none⟩ b0).setCell ⟨n, 1, none⟩ b1).setCell ⟨n, 2, none⟩ b2).setCell ⟨n, 3, none⟩ b3).setCell ⟨n, 4, none⟩ b4).setCell ⟨n, 5, none⟩ b5).cell? ⟨b, o, none⟩ = some v :=
 (World.cell?_of_block (a := ⟨b, o, none⟩) (set_other6 b0 b1 b2 b3 b4 b5 (Ne.symm hne))).trans h
theorem two_new {w W : World} {a b : Obj} (h : (w.alloc a).alloc b = W) : W.heap[w.heap.size]? = some a ∧ W.heap[w.heap.size + 1]? = some b ∧ W.heap.size = w.heap.size + 2 ∧ Below w.heap.size w W := by
 subst h
 have e1 := World.alloc_heap_new (w.alloc a) b
 simp only [World.size_alloc] at e1
 exact ⟨(Below.heap_alloc _ _ _ (by simp)).trans (World.alloc_heap_new w a), e1, by simp, ((Below.refl _ _).alloc (Nat.le_refl _) _).alloc (by simp) _⟩
theorem progWithdraws (c : Cav) (s : St) (o : Gas.Op) (w : World) (hs : s.Ok) (hm : 0 ≤ o.moles ∧ o.moles ≤ 100000000) :
    Calls Tryz.prog 120 #[cavV c, stV s, opV o] w (RunPost (∀ p ∈ corners s, o.moles ≤ p.g + p.y) (.tuple #[stV (boxOf ((corners s).map (fun p => left p o.moles))), outV ⟨(boxOf ((corners s).map (fun p => Gas.out p o.moles))).glo, (boxOf ((corners s).map (fun p => Gas.out p o.moles))).ghi, (boxOf ((corners s).map (fun p => Gas.out p o.moles))).ylo, (boxOf ((corners s).map (fun p => Gas.out p o.moles))).yhi, (boxOf ((corners s).map (fun p => Gas.out p o.moles))).wlo, (boxOf ((corners s).map (fun p => Gas.out p o.moles))).whi⟩]) w) := by
 obtain ⟨X1, hX1⟩ : ∃ X1, w.alloc (.cells #[.int .i64 c.vlo, .int .i64 c.vhi, .int .i64 c.least, .int .i64 c.most, .int .i64 c.f0, .int .i64 c.f1, .int .i64 c.h0, .int .i64 c.h1, .int .i64 c.rock, .int .i64 c.plo, .int .i64 c.phi] 89) = X1 := ⟨_, rfl⟩
 obtain ⟨eX0, bX0, sX0⟩ := boxed hX1
 have yX0_0 : w.heap.size < X1.heap.size := by omega
 obtain ⟨mX0_0_0, mX0_0_1, mX0_0_2, mX0_0_3, mX0_0_4, mX0_0_5, mX0_0_6, mX0_0_7, mX0_0_8, mX0_0_9, mX0_0_10⟩ := rc11 eX0
 obtain ⟨X2, hX2⟩ : ∃ X2, X1.alloc (.cells #[.int .i64 s.glo, .int .i64 s.ghi, .int .i64 s.ylo, .int .i64 s.yhi, .int .i64 s.tlo, .int .i64 s.thi, .int .i64 s.wlo, .int .i64 s.whi] 33) = X2 := ⟨_, rfl⟩
 obtain ⟨eX1, bX1, sX1⟩ := boxed hX2
 have yX1_0 : w.heap.size < X2.heap.size := by omega
 replace eX0 := (bX1.block _ (zqo eX0)).trans eX0
 obtain ⟨mX1_0_0, mX1_0_1, mX1_0_2, mX1_0_3, mX1_0_4, mX1_0_5, mX1_0_6, mX1_0_7, mX1_0_8, mX1_0_9, mX1_0_10⟩ := rc11 eX0
 have yX1_1 : X1.heap.size < X2.heap.size := by omega
 obtain ⟨mX1_1_0, mX1_1_1, mX1_1_2, mX1_1_3, mX1_1_4, mX1_1_5, mX1_1_6, mX1_1_7⟩ := rc8 eX1
 obtain ⟨X3, hX3⟩ : ∃ X3, X2.alloc (.cells #[.int .i64 o.kind, .int .i64 o.lg, .int .i64 o.ly, .int .i64 o.lt, .int .i64 o.lw, .int .i64 o.moles, .int .i64 o.slo, .int .i64 o.shi, .int .i64 o.wlo, .int .i64 o.whi] 83) = X3 := ⟨_, rfl⟩
 obtain ⟨eX2, bX2, sX2⟩ := boxed hX3
 have yX2_0 : w.heap.size < X3.heap.size := by omega
 replace eX0 := (bX2.block _ (zqo eX0)).trans eX0
 obtain ⟨mX2_0_0, mX2_0_1, mX2_0_2, mX2_0_3, mX2_0_4, mX2_0_5, mX2_0_6, mX2_0_7, mX2_0_8, mX2_0_9, mX2_0_10⟩ := rc11 eX0
 have yX2_1 : X1.heap.size < X3.heap.size := by omega
 replace eX1 := (bX2.block _ (zqo eX1)).trans eX1
 obtain ⟨mX2_1_0, mX2_1_1, mX2_1_2, mX2_1_3, mX2_1_4, mX2_1_5, mX2_1_6, mX2_1_7⟩ := rc8 eX1
 have yX2_2 : X2.heap.size < X3.heap.size := by omega
 obtain ⟨mX2_2_0, mX2_2_1, mX2_2_2, mX2_2_3, mX2_2_4, mX2_2_5, mX2_2_6, mX2_2_7, mX2_2_8, mX2_2_9⟩ := rc10 eX2
 obtain ⟨X4, hX4⟩ : ∃ X4, X3.alloc (.cells #[.int .i64 0, .int .i64 0, .int .i64 0, .int .i64 0, .int .i64 0, .int .i64 0, .int .i64 0, .int .i64 0] 33) = X4 := ⟨_, rfl⟩
 obtain ⟨eX3, bX3, sX3⟩ := boxed hX4
 have yX3_0 : w.heap.size < X4.heap.size := by omega
 replace eX0 := (bX3.block _ (zqo eX0)).trans eX0
 obtain ⟨mX3_0_0, mX3_0_1, mX3_0_2, mX3_0_3, mX3_0_4, mX3_0_5, mX3_0_6, mX3_0_7, mX3_0_8, mX3_0_9, mX3_0_10⟩ := rc11 eX0
 have yX3_1 : X1.heap.size < X4.heap.size := by omega
 replace eX1 := (bX3.block _ (zqo eX1)).trans eX1
 obtain ⟨mX3_1_0, mX3_1_1, mX3_1_2, mX3_1_3, mX3_1_4, mX3_1_5, mX3_1_6, mX3_1_7⟩ := rc8 eX1
 have yX3_2 : X2.heap.size < X4.heap.size := by omega
 replace eX2 := (bX3.block _ (zqo eX2)).trans eX2
 obtain ⟨mX3_2_0, mX3_2_1, mX3_2_2, mX3_2_3, mX3_2_4, mX3_2_5, mX3_2_6, mX3_2_7, mX3_2_8, mX3_2_9⟩ := rc10 eX2
 have yX3_3 : X3.heap.size < X4.heap.size := by omega
 obtain ⟨mX3_3_0, mX3_3_1, mX3_3_2, mX3_3_3, mX3_3_4, mX3_3_5, mX3_3_6, mX3_3_7⟩ := rc8 eX3
 obtain ⟨X5, hX5⟩ : ∃ X5, X4.alloc (.cells #[.int .i64 0, .int .i64 0, .int .i64 0, .int .i64 0, .int .i64 0, .int .i64 0] 76) = X5 := ⟨_, rfl⟩
 obtain ⟨eX4, bX4, sX4⟩ := boxed hX5
 have yX4_0 : w.heap.size < X5.heap.size := by omega
 replace eX0 := (bX4.block _ (zqo eX0)).trans eX0
 obtain ⟨mX4_0_0, mX4_0_1, mX4_0_2, mX4_0_3, mX4_0_4, mX4_0_5, mX4_0_6, mX4_0_7, mX4_0_8, mX4_0_9, mX4_0_10⟩ := rc11 eX0
 have yX4_1 : X1.heap.size < X5.heap.size := by omega
 replace eX1 := (bX4.block _ (zqo eX1)).trans eX1
 obtain ⟨mX4_1_0, mX4_1_1, mX4_1_2, mX4_1_3, mX4_1_4, mX4_1_5, mX4_1_6, mX4_1_7⟩ := rc8 eX1
 have yX4_2 : X2.heap.size < X5.heap.size := by omega
 replace eX2 := (bX4.block _ (zqo eX2)).trans eX2
 obtain ⟨mX4_2_0, mX4_2_1, mX4_2_2, mX4_2_3, mX4_2_4, mX4_2_5, mX4_2_6, mX4_2_7, mX4_2_8, mX4_2_9⟩ := rc10 eX2
 have yX4_3 : X3.heap.size < X5.heap.size := by omega
 replace eX3 := (bX4.block _ (zqo eX3)).trans eX3
 obtain ⟨mX4_3_0, mX4_3_1, mX4_3_2, mX4_3_3, mX4_3_4, mX4_3_5, mX4_3_6, mX4_3_7⟩ := rc8 eX3
 have yX4_4 : X4.heap.size < X5.heap.size := by omega
 obtain ⟨mX4_4_0, mX4_4_1, mX4_4_2, mX4_4_3, mX4_4_4, mX4_4_5⟩ := rc6 eX4
 obtain ⟨X6, hX6⟩ : ∃ X6, X5.alloc (.cells #[.slice none 0 0, .slice none 0 0, .slice none 0 0, .slice none 0 0] 187) = X6 := ⟨_, rfl⟩
 obtain ⟨eX5, bX5, sX5⟩ := boxed hX6
 have yX5_0 : w.heap.size < X6.heap.size := by omega
 replace eX0 := (bX5.block _ (zqo eX0)).trans eX0
 obtain ⟨mX5_0_0, mX5_0_1, mX5_0_2, mX5_0_3, mX5_0_4, mX5_0_5, mX5_0_6, mX5_0_7, mX5_0_8, mX5_0_9, mX5_0_10⟩ := rc11 eX0
 have yX5_1 : X1.heap.size < X6.heap.size := by omega
 replace eX1 := (bX5.block _ (zqo eX1)).trans eX1
 obtain ⟨mX5_1_0, mX5_1_1, mX5_1_2, mX5_1_3, mX5_1_4, mX5_1_5, mX5_1_6, mX5_1_7⟩ := rc8 eX1
 have yX5_2 : X2.heap.size < X6.heap.size := by omega
 replace eX2 := (bX5.block _ (zqo eX2)).trans eX2
 obtain ⟨mX5_2_0, mX5_2_1, mX5_2_2, mX5_2_3, mX5_2_4, mX5_2_5, mX5_2_6, mX5_2_7, mX5_2_8, mX5_2_9⟩ := rc10 eX2
 have yX5_3 : X3.heap.size < X6.heap.size := by omega
 replace eX3 := (bX5.block _ (zqo eX3)).trans eX3
 obtain ⟨mX5_3_0, mX5_3_1, mX5_3_2, mX5_3_3, mX5_3_4, mX5_3_5, mX5_3_6, mX5_3_7⟩ := rc8 eX3
 have yX5_4 : X4.heap.size < X6.heap.size := by omega
 replace eX4 := (bX5.block _ (zqo eX4)).trans eX4
 obtain ⟨mX5_4_0, mX5_4_1, mX5_4_2, mX5_4_3, mX5_4_4, mX5_4_5⟩ := rc6 eX4
 have yX5_5 : X5.heap.size < X6.heap.size := by omega
 obtain ⟨mX5_5_0, mX5_5_1, mX5_5_2, mX5_5_3⟩ := rc4 eX5
 obtain ⟨X7, hX7⟩ : ∃ X7, X6.alloc (.cells #[.slice none 0 0, .slice none 0 0, .slice none 0 0, .slice none 0 0] 187) = X7 := ⟨_, rfl⟩
 obtain ⟨eX6, bX6, sX6⟩ := boxed hX7
 have yX6_0 : w.heap.size < X7.heap.size := by omega
 replace eX0 := (bX6.block _ (zqo eX0)).trans eX0
 obtain ⟨mX6_0_0, mX6_0_1, mX6_0_2, mX6_0_3, mX6_0_4, mX6_0_5, mX6_0_6, mX6_0_7, mX6_0_8, mX6_0_9, mX6_0_10⟩ := rc11 eX0
 have yX6_1 : X1.heap.size < X7.heap.size := by omega
 replace eX1 := (bX6.block _ (zqo eX1)).trans eX1
 obtain ⟨mX6_1_0, mX6_1_1, mX6_1_2, mX6_1_3, mX6_1_4, mX6_1_5, mX6_1_6, mX6_1_7⟩ := rc8 eX1
 have yX6_2 : X2.heap.size < X7.heap.size := by omega
 replace eX2 := (bX6.block _ (zqo eX2)).trans eX2
 obtain ⟨mX6_2_0, mX6_2_1, mX6_2_2, mX6_2_3, mX6_2_4, mX6_2_5, mX6_2_6, mX6_2_7, mX6_2_8, mX6_2_9⟩ := rc10 eX2
 have yX6_3 : X3.heap.size < X7.heap.size := by omega
 replace eX3 := (bX6.block _ (zqo eX3)).trans eX3
 obtain ⟨mX6_3_0, mX6_3_1, mX6_3_2, mX6_3_3, mX6_3_4, mX6_3_5, mX6_3_6, mX6_3_7⟩ := rc8 eX3
 have yX6_4 : X4.heap.size < X7.heap.size := by omega
 replace eX4 := (bX6.block _ (zqo eX4)).trans eX4
 obtain ⟨mX6_4_0, mX6_4_1, mX6_4_2, mX6_4_3, mX6_4_4, mX6_4_5⟩ := rc6 eX4
 have yX6_5 : X5.heap.size < X7.heap.size := by omega
 replace eX5 := (bX6.block _ (zqo eX5)).trans eX5
 obtain ⟨mX6_5_0, mX6_5_1, mX6_5_2, mX6_5_3⟩ := rc4 eX5
 have yX6_6 : X6.heap.size < X7.heap.size := by omega
 obtain ⟨mX6_6_0, mX6_6_1, mX6_6_2, mX6_6_3⟩ := rc4 eX6
 obtain ⟨X, hX⟩ : ∃ X, X7.alloc (.cells #[.int .i64 s.glo, .int .i64 s.ghi, .int .i64 s.ylo, .int .i64 s.yhi, .int .i64 s.tlo, .int .i64 s.thi, .int .i64 s.wlo, .int .i64 s.whi] 33) = X := ⟨_, rfl⟩
 obtain ⟨eX7, bX7, sX7⟩ := boxed hX
 replace eX0 := (bX7.block _ (zqo eX0)).trans eX0
 replace eX1 := (bX7.block _ (zqo eX1)).trans eX1
 replace eX2 := (bX7.block _ (zqo eX2)).trans eX2
 replace eX3 := (bX7.block _ (zqo eX3)).trans eX3
 replace eX4 := (bX7.block _ (zqo eX4)).trans eX4
 replace eX5 := (bX7.block _ (zqo eX5)).trans eX5
 replace eX6 := (bX7.block _ (zqo eX6)).trans eX6
 have hBX : Below w.heap.size w X := (by have := sX0; have := sX1; have := sX2; have := sX3; have := sX4; have := sX5; have := sX6; have := sX7; exact (((((((bX0.trans (bX1.mono (by omega))).trans (bX2.mono (by omega))).trans (bX3.mono (by omega))).trans (bX4.mono (by omega))).trans (bX5.mono (by omega))).trans (bX6.mono (by omega))).trans (bX7.mono (by omega))))
 obtain ⟨zX0, rX0, tX0⟩ := row_cells eX0
 obtain ⟨qX0_0, qX0_1, qX0_2, qX0_3, qX0_4, qX0_5, qX0_6, qX0_7, qX0_8, qX0_9, qX0_10⟩ := rc11 eX0
 obtain ⟨fX0_0, fX0_1, fX0_2, fX0_3, fX0_4, fX0_5, fX0_6, fX0_7, fX0_8, fX0_9, fX0_10⟩ := rf11 eX0
 have EX0 := Lib.hid eX0
 clear rX0 tX0 eX0
 obtain ⟨zX1, rX1, tX1⟩ := row_cells eX1
 obtain ⟨qX1_0, qX1_1, qX1_2, qX1_3, qX1_4, qX1_5, qX1_6, qX1_7⟩ := rc8 eX1
 obtain ⟨fX1_0, fX1_1, fX1_2, fX1_3, fX1_4, fX1_5, fX1_6, fX1_7⟩ := rf8 eX1
 have EX1 := Lib.hid eX1
 clear rX1 tX1 eX1
 obtain ⟨zX2, rX2, tX2⟩ := row_cells eX2
 obtain ⟨qX2_0, qX2_1, qX2_2, qX2_3, qX2_4, qX2_5, qX2_6, qX2_7, qX2_8, qX2_9⟩ := rc10 eX2
 obtain ⟨fX2_0, fX2_1, fX2_2, fX2_3, fX2_4, fX2_5, fX2_6, fX2_7, fX2_8, fX2_9⟩ := rf10 eX2
 have EX2 := Lib.hid eX2
 clear rX2 tX2 eX2
 obtain ⟨zX3, rX3, tX3⟩ := row_cells eX3
 obtain ⟨qX3_0, qX3_1, qX3_2, qX3_3, qX3_4, qX3_5, qX3_6, qX3_7⟩ := rc8 eX3
 obtain ⟨fX3_0, fX3_1, fX3_2, fX3_3, fX3_4, fX3_5, fX3_6, fX3_7⟩ := rf8 eX3
 have EX3 := Lib.hid eX3
 clear rX3 tX3 eX3
 obtain ⟨zX4, rX4, tX4⟩ := row_cells eX4
 obtain ⟨qX4_0, qX4_1, qX4_2, qX4_3, qX4_4, qX4_5⟩ := rc6 eX4
 obtain ⟨fX4_0, fX4_1, fX4_2, fX4_3, fX4_4, fX4_5⟩ := rf6 eX4
 have EX4 := Lib.hid eX4
 clear rX4 tX4 eX4
 obtain ⟨zX5, rX5, tX5⟩ := row_cells eX5
 obtain ⟨qX5_0, qX5_1, qX5_2, qX5_3⟩ := rc4 eX5
 obtain ⟨fX5_0, fX5_1, fX5_2, fX5_3⟩ := rf4 eX5
 have EX5 := Lib.hid eX5
 clear rX5 tX5 eX5
 obtain ⟨zX6, rX6, tX6⟩ := row_cells eX6
 obtain ⟨qX6_0, qX6_1, qX6_2, qX6_3⟩ := rc4 eX6
 obtain ⟨fX6_0, fX6_1, fX6_2, fX6_3⟩ := rf4 eX6
 have EX6 := Lib.hid eX6
 clear rX6 tX6 eX6
 obtain ⟨zX7, rX7, tX7⟩ := row_cells eX7
 obtain ⟨qX7_0, qX7_1, qX7_2, qX7_3, qX7_4, qX7_5, qX7_6, qX7_7⟩ := rc8 eX7
 obtain ⟨fX7_0, fX7_1, fX7_2, fX7_3, fX7_4, fX7_5, fX7_6, fX7_7⟩ := rf8 eX7
 have EX7 := Lib.hid eX7
 clear rX7 tX7 eX7
 have xX0 : w.heap.size ≤ w.heap.size := by omega
 have xX1 : w.heap.size ≤ X1.heap.size := by omega
 have xX2 : w.heap.size ≤ X2.heap.size := by omega
 have xX3 : w.heap.size ≤ X3.heap.size := by omega
 have xX4 : w.heap.size ≤ X4.heap.size := by omega
 have xX5 : w.heap.size ≤ X5.heap.size := by omega
 have xX6 : w.heap.size ≤ X6.heap.size := by omega
 have xX7 : w.heap.size ≤ X7.heap.size := by omega
 clear bX0 sX0 bX1 sX1 bX2 sX2 bX3 sX3 bX4 sX4 bX5 sX5 bX6 sX6 bX7 sX7
 refine (callsIn_wide (n := 0)).1 ?_
 refine calls_of_wpAt Tryz.func120 rfl ?_
 simp only [Tryz.ntmps120, List.size_toArray, List.length_cons, List.length_nil, Nat.reduceAdd, Nat.reduceSub, Array.replicate_succ, Array.replicate_zero, List.push_toArray, List.append_toArray, List.nil_append, List.cons_append]
 refine WpAt.seq_k fun K hK => ?_
 go_wp2
 refine WpAt.seq_k fun K hK => ?_
 go_wp2
 refine WpAt.seq ?_
 refine WpAt.seq_k fun K hK => ?_
 go_wp2_with (go_at_call 131; refine (progCorners _ _).mono ?_; rintro e w1 ⟨rfl, rfl⟩)
 refine WpAt.block ?_
 refine WpAt.rangeG (S := (fun k => k < X.heap.size ∧ k ≠ X5.heap.size ∧ k ≠ X6.heap.size)) ⟨_, rfl⟩ rfl (fun args w => by kernel_rfl) (corners_yields s X _ X7.heap.size ?hcs ?hSs) (fun k h => h.1) (fun _ => rfl)
  (RunW (X.heap.size + 2) X5.heap.size X6.heap.size o.moles) (fun _ _ => False) (RunP (∀ p ∈ corners s, o.moles ≤ p.g + p.y)) ?hI ?hIx ?h0 ?hround ?hdone ?hpanic ?hstop
 case hcs => exact fun i v h => ((row_cells EX7.out).2.1 i).trans h
 case hSs => exact ⟨zX7, by omega, by omega⟩
 case hI => exact fun pre X' Y h hk => h.kept hk ⟨by omega, by omega⟩ ⟨by omega, by omega⟩ fun b hb => ⟨by omega, by omega⟩
 case hIx => exact fun _ _ _ h _ => h
 case h0 => exact ⟨⟨fun _ => .slice none 0 0, fun _ => .slice none 0 0, ⟨EX5.out, fun k _ => (by unfold coord; split <;> exact OwnInts.nil _ _), fun _ _ _ _ _ b h => (by cases h), fun _ _ h => (by cases h)⟩, ⟨EX6.out, fun k _ => (by unfold coord; split <;> exact OwnInts.nil _ _), fun _ _ _ _ _ b h => (by cases h), fun _ _ h => (by cases h)⟩, fun _ _ _ _ b h => (by cases h)⟩, fun _ h => (by cases h)⟩
 case hstop => exact fun _ _ _ _ h => h.elim
 case hround =>
  rintro l pre x W hl1 hlt hpre hKS hI
  have hx : x ∈ corners s := hpre.subset (by simp)
  have hxo := corner_ok hs hx
  have hKX := hKS.size
  gi_wp2
  refine ⟨(Kept.refl _ _).alloc _, ?_⟩
  intro W2 hk2 hs2
  rw [World.size_alloc] at hs2
  have hW12 : Kept (fun k => k ≠ l) W W2 := ((Kept.refl _ W).alloc _).trans hk2
  have hXW2 : Kept (fun k => k < X.heap.size ∧ k ≠ X5.heap.size ∧ k ≠ X6.heap.size) X W2 := hKS.trans (hW12.mono fun k _ h => by omega)
  have gx : W2.heap[W.heap.size]? = some (.cells #[.int .i64 x.g, .int .i64 x.y, .int .i64 x.t, .int .i64 x.w] 35) := (hk2.block _ (by rw [World.size_alloc]; omega) (by omega)).trans (World.alloc_heap_new W _)
  obtain ⟨⟨v, u, hv0, hu0, hvu⟩, hpo⟩ := hI
  have hvlt : ∀ j, j < 4 → ∀ b, (v j).ownBlock = some b → X.heap.size + 2 ≤ b ∧ b < W.heap.size := fun j hj b h => (hv0.own j hj).lt b h
  have hult : ∀ j, j < 4 → ∀ b, (u j).ownBlock = some b → X.heap.size + 2 ≤ b ∧ b < W.heap.size := fun j hj b h => (hu0.own j hj).lt b h
  have hv : BoxV (X.heap.size + 2) X5.heap.size W2 v (pre.map (fun p => left p o.moles)) := hv0.kept hW12 (by omega) fun j hj b h => by have := hvlt j hj b h; omega
  have hu : BoxV (X.heap.size + 2) X6.heap.size W2 u (pre.map (fun p => Gas.out p o.moles)) := hu0.kept hW12 (by omega) fun j hj b h => by have := hult j hj b h; omega
  have hlen : pre.length ≤ 16 := by have := hpre.length_le; simp [corners, cornersTo] at this; omega
  obtain ⟨zx, dx, -⟩ := row_cells gx
  clear hW12 hk2 hv0 hu0 gx
  have x0 := dx 0
  have x1 := dx 1
  have x2 := dx 2
  have x3 := dx 3
  simp only [List.getElem?_toArray, List.getElem?_cons_zero, List.getElem?_cons_succ] at x0 x1 x2 x3
  clear dx
  have g0_0 := hXW2.cell (b := w.heap.size) ⟨zX0, by omega, by omega⟩ qX0_0
  have g0_1 := hXW2.cell (b := w.heap.size) ⟨zX0, by omega, by omega⟩ qX0_1
  have g0_2 := hXW2.cell (b := w.heap.size) ⟨zX0, by omega, by omega⟩ qX0_2
  have g0_3 := hXW2.cell (b := w.heap.size) ⟨zX0, by omega, by omega⟩ qX0_3
  have g0_4 := hXW2.cell (b := w.heap.size) ⟨zX0, by omega, by omega⟩ qX0_4
  have g0_5 := hXW2.cell (b := w.heap.size) ⟨zX0, by omega, by omega⟩ qX0_5
  have g0_6 := hXW2.cell (b := w.heap.size) ⟨zX0, by omega, by omega⟩ qX0_6
  have g0_7 := hXW2.cell (b := w.heap.size) ⟨zX0, by omega, by omega⟩ qX0_7
  have g0_8 := hXW2.cell (b := w.heap.size) ⟨zX0, by omega, by omega⟩ qX0_8
  have g0_9 := hXW2.cell (b := w.heap.size) ⟨zX0, by omega, by omega⟩ qX0_9
  have g0_10 := hXW2.cell (b := w.heap.size) ⟨zX0, by omega, by omega⟩ qX0_10
  have g2_0 := hXW2.cell (b := X2.heap.size) ⟨zX2, by omega, by omega⟩ qX2_0
  have g2_1 := hXW2.cell (b := X2.heap.size) ⟨zX2, by omega, by omega⟩ qX2_1
  have g2_2 := hXW2.cell (b := X2.heap.size) ⟨zX2, by omega, by omega⟩ qX2_2
  have g2_3 := hXW2.cell (b := X2.heap.size) ⟨zX2, by omega, by omega⟩ qX2_3
  have g2_4 := hXW2.cell (b := X2.heap.size) ⟨zX2, by omega, by omega⟩ qX2_4
  have g2_5 := hXW2.cell (b := X2.heap.size) ⟨zX2, by omega, by omega⟩ qX2_5
  have g2_6 := hXW2.cell (b := X2.heap.size) ⟨zX2, by omega, by omega⟩ qX2_6
  have g2_7 := hXW2.cell (b := X2.heap.size) ⟨zX2, by omega, by omega⟩ qX2_7
  have g2_8 := hXW2.cell (b := X2.heap.size) ⟨zX2, by omega, by omega⟩ qX2_8
  have g2_9 := hXW2.cell (b := X2.heap.size) ⟨zX2, by omega, by omega⟩ qX2_9
  clear mX0_0_0 mX0_0_1 mX0_0_2 mX0_0_3 mX0_0_4 mX0_0_5 mX0_0_6 mX0_0_7 mX0_0_8 mX0_0_9 mX0_0_10 mX1_0_0 mX1_0_1 mX1_0_2 mX1_0_3 mX1_0_4 mX1_0_5 mX1_0_6 mX1_0_7 mX1_0_8 mX1_0_9 mX1_0_10 mX1_1_0 mX1_1_1 mX1_1_2 mX1_1_3 mX1_1_4 mX1_1_5 mX1_1_6 mX1_1_7 mX2_0_0 mX2_0_1 mX2_0_2 mX2_0_3 mX2_0_4 mX2_0_5 mX2_0_6 mX2_0_7 mX2_0_8 mX2_0_9 mX2_0_10 mX2_1_0 mX2_1_1 mX2_1_2 mX2_1_3 mX2_1_4 mX2_1_5 mX2_1_6 mX2_1_7 mX2_2_0 mX2_2_1 mX2_2_2 mX2_2_3 mX2_2_4 mX2_2_5 mX2_2_6 mX2_2_7 mX2_2_8 mX2_2_9 mX3_0_0 mX3_0_1 mX3_0_2 mX3_0_3 mX3_0_4 mX3_0_5 mX3_0_6 mX3_0_7 mX3_0_8 mX3_0_9 mX3_0_10 mX3_1_0 mX3_1_1 mX3_1_2 mX3_1_3 mX3_1_4 mX3_1_5 mX3_1_6 mX3_1_7 mX3_2_0 mX3_2_1 mX3_2_2 mX3_2_3 mX3_2_4 mX3_2_5 mX3_2_6 mX3_2_7 mX3_2_8 mX3_2_9 mX3_3_0 mX3_3_1 mX3_3_2 mX3_3_3 mX3_3_4 mX3_3_5 mX3_3_6 mX3_3_7 mX4_0_0 mX4_0_1 mX4_0_2 mX4_0_3 mX4_0_4 mX4_0_5 mX4_0_6 mX4_0_7 mX4_0_8 mX4_0_9 mX4_0_10 mX4_1_0 mX4_1_1 mX4_1_2 mX4_1_3 mX4_1_4 mX4_1_5 mX4_1_6 mX4_1_7 mX4_2_0 mX4_2_1 mX4_2_2 mX4_2_3 mX4_2_4 mX4_2_5 mX4_2_6 mX4_2_7 mX4_2_8 mX4_2_9 mX4_3_0 mX4_3_1 mX4_3_2 mX4_3_3 mX4_3_4 mX4_3_5 mX4_3_6 mX4_3_7 mX4_4_0 mX4_4_1 mX4_4_2 mX4_4_3 mX4_4_4 mX4_4_5 mX5_0_0 mX5_0_1 mX5_0_2 mX5_0_3 mX5_0_4 mX5_0_5 mX5_0_6 mX5_0_7 mX5_0_8 mX5_0_9 mX5_0_10 mX5_1_0 mX5_1_1 mX5_1_2 mX5_1_3 mX5_1_4 mX5_1_5 mX5_1_6 mX5_1_7 mX5_2_0 mX5_2_1 mX5_2_2 mX5_2_3 mX5_2_4 mX5_2_5 mX5_2_6 mX5_2_7 mX5_2_8 mX5_2_9 mX5_3_0 mX5_3_1 mX5_3_2 mX5_3_3 mX5_3_4 mX5_3_5 mX5_3_6 mX5_3_7 mX5_4_0 mX5_4_1 mX5_4_2 mX5_4_3 mX5_4_4 mX5_4_5 mX5_5_0 mX5_5_1 mX5_5_2 mX5_5_3 mX6_0_0 mX6_0_1 mX6_0_2 mX6_0_3 mX6_0_4 mX6_0_5 mX6_0_6 mX6_0_7 mX6_0_8 mX6_0_9 mX6_0_10 mX6_1_0 mX6_1_1 mX6_1_2 mX6_1_3 mX6_1_4 mX6_1_5 mX6_1_6 mX6_1_7 mX6_2_0 mX6_2_1 mX6_2_2 mX6_2_3 mX6_2_4 mX6_2_5 mX6_2_6 mX6_2_7 mX6_2_8 mX6_2_9 mX6_3_0 mX6_3_1 mX6_3_2 mX6_3_3 mX6_3_4 mX6_3_5 mX6_3_6 mX6_3_7 mX6_4_0 mX6_4_1 mX6_4_2 mX6_4_3 mX6_4_4 mX6_4_5 mX6_5_0 mX6_5_1 mX6_5_2 mX6_5_3 mX6_6_0 mX6_6_1 mX6_6_2 mX6_6_3 qX0_0 qX0_1 qX0_2 qX0_3 qX0_4 qX0_5 qX0_6 qX0_7 qX0_8 qX0_9 qX0_10 fX0_0 fX0_1 fX0_2 fX0_3 fX0_4 fX0_5 fX0_6 fX0_7 fX0_8 fX0_9 fX0_10 qX1_0 qX1_1 qX1_2 qX1_3 qX1_4 qX1_5 qX1_6 qX1_7 fX1_0 fX1_1 fX1_2 fX1_3 fX1_4 fX1_5 fX1_6 fX1_7 qX2_0 qX2_1 qX2_2 qX2_3 qX2_4 qX2_5 qX2_6 qX2_7 qX2_8 qX2_9 fX2_0 fX2_1 fX2_2 fX2_3 fX2_4 fX2_5 fX2_6 fX2_7 fX2_8 fX2_9 qX3_0 qX3_1 qX3_2 qX3_3 qX3_4 qX3_5 qX3_6 qX3_7 fX3_0 fX3_1 fX3_2 fX3_3 fX3_4 fX3_5 fX3_6 fX3_7 qX4_0 qX4_1 qX4_2 qX4_3 qX4_4 qX4_5 fX4_0 fX4_1 fX4_2 fX4_3 fX4_4 fX4_5 qX5_0 qX5_1 qX5_2 qX5_3 fX5_0 fX5_1 fX5_2 fX5_3 qX6_0 qX6_1 qX6_2 qX6_3 fX6_0 fX6_1 fX6_2 fX6_3 qX7_0 qX7_1 qX7_2 qX7_3 qX7_4 qX7_5 qX7_6 qX7_7 fX7_0 fX7_1 fX7_2 fX7_3 fX7_4 fX7_5 fX7_6 fX7_7 hX1 hX2 hX3 hX4 hX5 hX6 hX7 hX
  by_cases hok : o.moles ≤ x.g + x.y
  · have hC := Lib.hid (progWithdrawY c x o.moles W2 hxo hm hok)
    replace hok := Lib.hid hok
    gi_wp2
    refine ⟨trivial, rfl, (CallsIn.inRound _ (callsIn_wide.2 hC.out)).mono ?_⟩
    rintro e W3 ⟨rfl, hB3⟩
    have hs3 := hB3.size
    obtain ⟨W4, hW4⟩ : ∃ V, (W3.alloc (.cells #[.int .i64 (left x o.moles).g, .int .i64 (left x o.moles).y, .int .i64 (left x o.moles).t, .int .i64 (left x o.moles).w] 35)).alloc (.cells #[.int .i64 (Gas.out x o.moles).g, .int .i64 (Gas.out x o.moles).y, .int .i64 (Gas.out x o.moles).t, .int .i64 (Gas.out x o.moles).w] 35) = V := ⟨_, rfl⟩
    obtain ⟨e4', e4, hs43, hB34⟩ := two_new hW4
    have hB4 : Below W2.heap.size W2 W4 := hB3.trans (hB34.mono hB3.size)
    obtain ⟨zl, dl, -⟩ := row_cells e4'
    have l0 := dl 0
    have l1 := dl 1
    have l2 := dl 2
    have l3 := dl 3
    simp only [List.getElem?_toArray, List.getElem?_cons_zero, List.getElem?_cons_succ] at l0 l1 l2 l3
    clear dl hC e4'
    replace e4 := Lib.hid e4
    have hv4 := hv.kept (S := fun _ => True) (.all hB4) trivial fun _ _ _ _ => trivial
    have hu4 := hu.kept (S := fun _ => True) (.all hB4) trivial fun _ _ _ _ => trivial
    have hP := Lib.hid (progPut (left x o.moles) W4 hv4 (by omega) (by simp; omega))
    clear hv hu
    replace hs43 := Lib.hid hs43
    gi_wp2
    refine ⟨trivial, rfl, (CallsIn.inRound _ (callsIn_wide.2 hP.out)).mono ?_⟩
    rintro e W5 ⟨rfl, v1, hv5, horg, hk5⟩
    have hs5 := hk5.size
    have h43 := hs43.out
    have e5 := (hk5.block (W3.heap.size + 1) (by omega) ⟨by omega, fun j hj e => by have := hvlt j hj _ e; omega⟩).trans e4.out
    have hu5 := hu4.kept hk5 ⟨by omega, fun j hj e => by have := hvlt j hj _ e; omega⟩ fun k hk b e => ⟨by have := hult k hk b e; omega, fun j hj e2 => hvu j k hj hk b e2 e⟩
    have hP2 := Lib.hid (progPut (Gas.out x o.moles) W5 hu5 (by omega) (by simp; omega))
    obtain ⟨zl5, dl5, -⟩ := row_cells e5
    have n0 := dl5 0
    have n1 := dl5 1
    have n2 := dl5 2
    have n3 := dl5 3
    simp only [List.getElem?_toArray, List.getElem?_cons_zero, List.getElem?_cons_succ] at n0 n1 n2 n3
    clear dl5 e5 h43 hu4 hv4 hP l0 l1 l2 l3
    gi_wp2
    refine ⟨trivial, rfl, (CallsIn.inRound _ (callsIn_wide.2 hP2.out)).mono ?_⟩
    rintro e W6 ⟨rfl, u1, hu6, horg2, hk6⟩
    have h43 := hs43.out
    have hv1 : ∀ i, i < 4 → ∀ b, (v1 i).ownBlock = some b → (v i).ownBlock = some b ∨ (W4.heap.size ≤ b ∧ b < W5.heap.size) := fun i hi b e => by
     rcases horg i hi with h | ⟨m, hm', h⟩
     · exact .inl (h ▸ e)
     · rw [h] at e; have : m = b := by simpa using e
       subst this; exact .inr ⟨hm', ((hv5.own i hi).lt m h).2⟩
    have hu1 : ∀ i, i < 4 → ∀ b, (u1 i).ownBlock = some b → (u i).ownBlock = some b ∨ W5.heap.size ≤ b := fun i hi b e => by
     rcases horg2 i hi with h | ⟨m, hm', h⟩
     · exact .inl (h ▸ e)
     · rw [h] at e; have : m = b := by simpa using e
       subst this; exact .inr hm'
    have hv6 := hv5.kept hk6 ⟨by omega, fun j hj e => by have := hult j hj _ e; omega⟩ fun k hk b e => ⟨by have := ((hv5.own k hk).lt b e).1; omega, fun j hj e2 => by
     rcases hv1 k hk b e with h | h
     · exact hvu k j hk hj b h e2
     · have := hult j hj b e2; omega⟩
    have hvu2 : ∀ i j, i < 4 → j < 4 → ∀ b, (v1 i).ownBlock = some b → (u1 j).ownBlock ≠ some b := fun i j hi hj b e e2 => by
     rcases hv1 i hi b e with h | h
     · rcases hu1 j hj b e2 with h2 | h2
       · exact hvu i j hi hj b h h2
       · have := hvlt i hi b h; omega
     · rcases hu1 j hj b e2 with h2 | h2
       · have := hult j hj b h2; omega
       · omega
    have hk26 : Kept (fun k => (k < X.heap.size ∧ k ≠ X5.heap.size ∧ k ≠ X6.heap.size) ∨ k = X.heap.size ∨ k = X.heap.size + 1) W2 W6 := ((Kept.all hB4).trans (hk5.mono fun k _ h => ⟨by omega, fun j hj e => by have := hvlt j hj k e; omega⟩)).trans (hk6.mono fun k _ h => ⟨by omega, fun j hj e => by have := hult j hj k e; omega⟩)
    have hR : RunW (X.heap.size + 2) X5.heap.size X6.heap.size o.moles (pre ++ [x]) W6 := ⟨⟨v1, u1, by rw [List.map_append]; exact hv6, by rw [List.map_append]; exact hu6, hvu2⟩, fun q hq => by
     rcases List.mem_append.1 hq with h | h
     · exact hpo q h
     · have : q = x := by simpa using h
       rw [this]; exact hok.out⟩
    clear hP2 hv6 hpo hu6 hk6 hk5 hv5 hu5 horg horg2 hv1 hu1 hvu2 hvu hvlt hult h43
    gi_wp2
    exact ⟨hk26, hR⟩
  · have hC := Lib.hid (progWithdrawN c x o.moles W2 hxo hm (by omega))
    replace hok := Lib.hid hok
    clear hv hu
    gi_wp2
    refine ⟨trivial, rfl, (CallsIn.inRound _ (callsIn_wide.2 hC.out)).mono ?_⟩
    rintro e W3 ⟨str, rfl, hB3⟩
    exact ⟨rfl, .all hB3, fun h => (by have := h x hx; have := hok.out; omega), str, rfl⟩
 case hpanic =>
  rintro D ch W hD ⟨hno, str, rfl⟩ hk hd
  exact leaves_one (by simp) hd (.inr ⟨hno, str, rfl, hBX.trans ((hk.below (B := w.heap.size) (by omega) fun k hk' => ⟨by omega, by omega, by omega⟩).trans (below_putObj (Below.refl _ _) (by omega) _))⟩)
 case hdone =>
  rintro D W hD ⟨⟨v, u, hv, hu, hvu⟩, hall⟩ hk hd
  have hSt := Lib.hid (progBoxState W hu)
  have hSb := Lib.hid (fun W2 (hb : Below W.heap.size W W2) => progBoxState W2 (hv.kept (S := fun _ => True) (.all hb) trivial fun _ _ _ _ => trivial))
  have h3 := (hk.block _ zX3 ⟨zX3, by omega, by omega⟩).trans EX3.out
  have h4 := (hk.block _ zX4 ⟨zX4, by omega, by omega⟩).trans EX4.out
  have hXW : Below w.heap.size w W := hBX.trans (hk.below (B := w.heap.size) (by omega) fun k hk' => ⟨by omega, by omega, by omega⟩)
  have hWX := hk.size
  have hDW := (zqo hd)
  have hRes : ∀ W2 : World, Below W.heap.size W W2 → W2.heap[X3.heap.size]? = some (.cells #[.int .i64 0, .int .i64 0, .int .i64 0, .int .i64 0, .int .i64 0, .int .i64 0, .int .i64 0, .int .i64 0] 33 (0, 0)) ∧ W2.heap[X4.heap.size]? = some (.cells #[.int .i64 0, .int .i64 0, .int .i64 0, .int .i64 0, .int .i64 0, .int .i64 0] 76 (0, 0)) ∧ W2.heap[D]? = some (.deferred (some [])) := fun W2 hb => ⟨(hb.block _ (zqo h3)).trans h3, (hb.block _ (zqo h4)).trans h4, (hb.block _ hDW).trans hd⟩
  clear h3 h4 hd hv hu hvu
  refine (?_ : WpAt _ _ _ _ _ _)
  refine WpAt.of_wp ?_
  clear mX0_0_0 mX0_0_1 mX0_0_2 mX0_0_3 mX0_0_4 mX0_0_5 mX0_0_6 mX0_0_7 mX0_0_8 mX0_0_9 mX0_0_10 mX1_0_0 mX1_0_1 mX1_0_2 mX1_0_3 mX1_0_4 mX1_0_5 mX1_0_6 mX1_0_7 mX1_0_8 mX1_0_9 mX1_0_10 mX1_1_0 mX1_1_1 mX1_1_2 mX1_1_3 mX1_1_4 mX1_1_5 mX1_1_6 mX1_1_7 mX2_0_0 mX2_0_1 mX2_0_2 mX2_0_3 mX2_0_4 mX2_0_5 mX2_0_6 mX2_0_7 mX2_0_8 mX2_0_9 mX2_0_10 mX2_1_0 mX2_1_1 mX2_1_2 mX2_1_3 mX2_1_4 mX2_1_5 mX2_1_6 mX2_1_7 mX2_2_0 mX2_2_1 mX2_2_2 mX2_2_3 mX2_2_4 mX2_2_5 mX2_2_6 mX2_2_7 mX2_2_8 mX2_2_9 mX3_0_0 mX3_0_1 mX3_0_2 mX3_0_3 mX3_0_4 mX3_0_5 mX3_0_6 mX3_0_7 mX3_0_8 mX3_0_9 mX3_0_10 mX3_1_0 mX3_1_1 mX3_1_2 mX3_1_3 mX3_1_4 mX3_1_5 mX3_1_6 mX3_1_7 mX3_2_0 mX3_2_1 mX3_2_2 mX3_2_3 mX3_2_4 mX3_2_5 mX3_2_6 mX3_2_7 mX3_2_8 mX3_2_9 mX3_3_0 mX3_3_1 mX3_3_2 mX3_3_3 mX3_3_4 mX3_3_5 mX3_3_6 mX3_3_7 mX4_0_0 mX4_0_1 mX4_0_2 mX4_0_3 mX4_0_4 mX4_0_5 mX4_0_6 mX4_0_7 mX4_0_8 mX4_0_9 mX4_0_10 mX4_1_0 mX4_1_1 mX4_1_2 mX4_1_3 mX4_1_4 mX4_1_5 mX4_1_6 mX4_1_7 mX4_2_0 mX4_2_1 mX4_2_2 mX4_2_3 mX4_2_4 mX4_2_5 mX4_2_6 mX4_2_7 mX4_2_8 mX4_2_9 mX4_3_0 mX4_3_1 mX4_3_2 mX4_3_3 mX4_3_4 mX4_3_5 mX4_3_6 mX4_3_7 mX4_4_0 mX4_4_1 mX4_4_2 mX4_4_3 mX4_4_4 mX4_4_5 mX5_0_0 mX5_0_1 mX5_0_2 mX5_0_3 mX5_0_4 mX5_0_5 mX5_0_6 mX5_0_7 mX5_0_8 mX5_0_9 mX5_0_10 mX5_1_0 mX5_1_1 mX5_1_2 mX5_1_3 mX5_1_4 mX5_1_5 mX5_1_6 mX5_1_7 mX5_2_0 mX5_2_1 mX5_2_2 mX5_2_3 mX5_2_4 mX5_2_5 mX5_2_6 mX5_2_7 mX5_2_8 mX5_2_9 mX5_3_0 mX5_3_1 mX5_3_2 mX5_3_3 mX5_3_4 mX5_3_5 mX5_3_6 mX5_3_7 mX5_4_0 mX5_4_1 mX5_4_2 mX5_4_3 mX5_4_4 mX5_4_5 mX5_5_0 mX5_5_1 mX5_5_2 mX5_5_3 mX6_0_0 mX6_0_1 mX6_0_2 mX6_0_3 mX6_0_4 mX6_0_5 mX6_0_6 mX6_0_7 mX6_0_8 mX6_0_9 mX6_0_10 mX6_1_0 mX6_1_1 mX6_1_2 mX6_1_3 mX6_1_4 mX6_1_5 mX6_1_6 mX6_1_7 mX6_2_0 mX6_2_1 mX6_2_2 mX6_2_3 mX6_2_4 mX6_2_5 mX6_2_6 mX6_2_7 mX6_2_8 mX6_2_9 mX6_3_0 mX6_3_1 mX6_3_2 mX6_3_3 mX6_3_4 mX6_3_5 mX6_3_6 mX6_3_7 mX6_4_0 mX6_4_1 mX6_4_2 mX6_4_3 mX6_4_4 mX6_4_5 mX6_5_0 mX6_5_1 mX6_5_2 mX6_5_3 mX6_6_0 mX6_6_1 mX6_6_2 mX6_6_3 qX0_0 qX0_1 qX0_2 qX0_3 qX0_4 qX0_5 qX0_6 qX0_7 qX0_8 qX0_9 qX0_10 fX0_0 fX0_1 fX0_2 fX0_3 fX0_4 fX0_5 fX0_6 fX0_7 fX0_8 fX0_9 fX0_10 qX1_0 qX1_1 qX1_2 qX1_3 qX1_4 qX1_5 qX1_6 qX1_7 fX1_0 fX1_1 fX1_2 fX1_3 fX1_4 fX1_5 fX1_6 fX1_7 qX2_0 qX2_1 qX2_2 qX2_3 qX2_4 qX2_5 qX2_6 qX2_7 qX2_8 qX2_9 fX2_0 fX2_1 fX2_2 fX2_3 fX2_4 fX2_5 fX2_6 fX2_7 fX2_8 fX2_9 qX3_0 qX3_1 qX3_2 qX3_3 qX3_4 qX3_5 qX3_6 qX3_7 fX3_0 fX3_1 fX3_2 fX3_3 fX3_4 fX3_5 fX3_6 fX3_7 qX4_0 qX4_1 qX4_2 qX4_3 qX4_4 qX4_5 fX4_0 fX4_1 fX4_2 fX4_3 fX4_4 fX4_5 qX5_0 qX5_1 qX5_2 qX5_3 fX5_0 fX5_1 fX5_2 fX5_3 qX6_0 qX6_1 qX6_2 qX6_3 fX6_0 fX6_1 fX6_2 fX6_3 qX7_0 qX7_1 qX7_2 qX7_3 qX7_4 qX7_5 qX7_6 qX7_7 fX7_0 fX7_1 fX7_2 fX7_3 fX7_4 fX7_5 fX7_6 fX7_7 hX1 hX2 hX3 hX4 hX5 hX6 hX7 hX
  replace hRes := Lib.hid hRes
  obtain ⟨xs, hxs⟩ : ∃ x, (boxOf ((corners s).map fun p => Gas.out p o.moles)) = x := ⟨_, rfl⟩
  rw [hxs] at hSt
  replace hxs := Lib.hid hxs
  obtain ⟨x0, x1, x2, x3, x4, x5, x6, x7⟩ := xs
  go_wp2_with (go_at_call 133; (with_reducible refine Calls.mono hSt.out ?_); rintro e W2 ⟨rfl, hB2⟩)
  obtain ⟨V, hV⟩ : ∃ V, W2.alloc (.cells #[.int .i64 x0, .int .i64 x1, .int .i64 x2, .int .i64 x3, .int .i64 x4, .int .i64 x5, .int .i64 x6, .int .i64 x7] 33) = V := ⟨_, rfl⟩
  obtain ⟨eV0, bV0, sV0⟩ := boxed hV
  have hBV : Below W2.heap.size W2 V := bV0
  obtain ⟨zV0, rV0, tV0⟩ := row_cells eV0
  obtain ⟨qV0_0, qV0_1, qV0_2, qV0_3, qV0_4, qV0_5, qV0_6, qV0_7⟩ := rc8 eV0
  clear rV0 tV0 eV0
  have xV0 : W2.heap.size ≤ W2.heap.size := by omega
  clear bV0 sV0
  rw [hV]
  clear hV
  have hBVd : Below W.heap.size W V.drew := (hB2.trans (hBV.mono hB2.size)).drew
  have hs2 := hB2.size
  have u3 : X3.heap.size ≠ W2.heap.size := by omega
  have u4 : X4.heap.size ≠ W2.heap.size := by omega
  have hC1 : ((fun w' => w'.cell? ⟨W2.heap.size, 0, none⟩ = some (.int .i64 x0) ∧ w'.cell? ⟨W2.heap.size, 1, none⟩ = some (.int .i64 x1) ∧ w'.cell? ⟨W2.heap.size, 2, none⟩ = some (.int .i64 x2) ∧ w'.cell? ⟨W2.heap.size, 3, none⟩ = some (.int .i64 x3) ∧ w'.cell? ⟨W2.heap.size, 6, none⟩ = some (.int .i64 x6) ∧ w'.cell? ⟨W2.heap.size, 7, none⟩ = some (.int .i64 x7))) V.drew := ⟨qV0_0, qV0_1, qV0_2, qV0_3, qV0_6, qV0_7⟩
  dsimp only at hC1
  replace hRes := hRes.out
  refine wp_region_noPanic ?_
  refine wp_region_held_drew (S := (fun w' => w'.cell? ⟨W2.heap.size, 0, none⟩ = some (.int .i64 x0) ∧ w'.cell? ⟨W2.heap.size, 1, none⟩ = some (.int .i64 x1) ∧ w'.cell? ⟨W2.heap.size, 2, none⟩ = some (.int .i64 x2) ∧ w'.cell? ⟨W2.heap.size, 3, none⟩ = some (.int .i64 x3) ∧ w'.cell? ⟨W2.heap.size, 6, none⟩ = some (.int .i64 x6) ∧ w'.cell? ⟨W2.heap.size, 7, none⟩ = some (.int .i64 x7))) (by kernel_rfl) ?_ (fun hHeld => ?_)
  · first | ((first | (with_reducible exact hC1) | (with_reducible exact ⟨kept_cell hB3 hHeld.1, kept_cell hB3 hHeld.2.1, kept_cell hB3 hHeld.2.2.1, kept_cell hB3 hHeld.2.2.2.1, kept_cell hB3 hHeld.2.2.2.2.1, kept_cell hB3 hHeld.2.2.2.2.2⟩) | (with_reducible exact ⟨far8 hHeld.1 u3, far8 hHeld.2.1 u3, far8 hHeld.2.2.1 u3, far8 hHeld.2.2.2.1 u3, far8 hHeld.2.2.2.2.1 u3, far8 hHeld.2.2.2.2.2 u3⟩) | (with_reducible exact ⟨far6 hHeld.1 u4, far6 hHeld.2.1 u4, far6 hHeld.2.2.1 u4, far6 hHeld.2.2.2.1 u4, far6 hHeld.2.2.2.2.1 u4, far6 hHeld.2.2.2.2.2 u4⟩))) | (dsimp only; ((first | (with_reducible exact hC1) | (with_reducible exact ⟨kept_cell hB3 hHeld.1, kept_cell hB3 hHeld.2.1, kept_cell hB3 hHeld.2.2.1, kept_cell hB3 hHeld.2.2.2.1, kept_cell hB3 hHeld.2.2.2.2.1, kept_cell hB3 hHeld.2.2.2.2.2⟩) | (with_reducible exact ⟨far8 hHeld.1 u3, far8 hHeld.2.1 u3, far8 hHeld.2.2.1 u3, far8 hHeld.2.2.2.1 u3, far8 hHeld.2.2.2.2.1 u3, far8 hHeld.2.2.2.2.2 u3⟩) | (with_reducible exact ⟨far6 hHeld.1 u4, far6 hHeld.2.1 u4, far6 hHeld.2.2.1 u4, far6 hHeld.2.2.2.1 u4, far6 hHeld.2.2.2.2.1 u4, far6 hHeld.2.2.2.2.2 u4⟩))))
  refine wpAnyH_take (i := 1) (v := ?_) rfl (by kernel_rfl) (by kernel_rfl) (by kernel_rfl) (fun _ _ _ h => h) (Or.inl ⟨by rfl, ?_⟩) (by assumption) ?_
  rotate_left
  · intro w hSw; (try dsimp only at hSw); go_simp; (try with_reducible rfl)
  try simp only [Act.put, List.setIfInBounds_toArray, List.set_cons_zero, List.set_cons_succ]
  refine wpAnyH_take (i := 2) (v := ?_) rfl (by kernel_rfl) (by kernel_rfl) (by kernel_rfl) (fun _ _ _ h => h) (Or.inl ⟨by rfl, ?_⟩) (by assumption) ?_
  rotate_left
  · intro w hSw; (try dsimp only at hSw); go_simp; (try with_reducible rfl)
  try simp only [Act.put, List.setIfInBounds_toArray, List.set_cons_zero, List.set_cons_succ]
  refine wpAnyH_take (i := 3) (v := ?_) rfl (by kernel_rfl) (by kernel_rfl) (by kernel_rfl) (fun _ _ _ h => h) (Or.inl ⟨by rfl, ?_⟩) (by assumption) ?_
  rotate_left
  · intro w hSw; (try dsimp only at hSw); go_simp; (try with_reducible rfl)
  try simp only [Act.put, List.setIfInBounds_toArray, List.set_cons_zero, List.set_cons_succ]
  refine wpAnyH_take (i := 4) (v := ?_) rfl (by kernel_rfl) (by kernel_rfl) (by kernel_rfl) (fun _ _ _ h => h) (Or.inl ⟨by rfl, ?_⟩) (by assumption) ?_
  rotate_left
  · intro w hSw; (try dsimp only at hSw); go_simp; (try with_reducible rfl)
  try simp only [Act.put, List.setIfInBounds_toArray, List.set_cons_zero, List.set_cons_succ]
  refine wpAnyH_take (i := 5) (v := ?_) rfl (by kernel_rfl) (by kernel_rfl) (by kernel_rfl) (fun _ _ _ h => h) (Or.inl ⟨by rfl, ?_⟩) (by assumption) ?_
  rotate_left
  · intro w hSw; (try dsimp only at hSw); go_simp; (try with_reducible rfl)
  try simp only [Act.put, List.setIfInBounds_toArray, List.set_cons_zero, List.set_cons_succ]
  refine wpAnyH_take (i := 6) (v := ?_) rfl (by kernel_rfl) (by kernel_rfl) (by kernel_rfl) (fun _ _ _ h => h) (Or.inl ⟨by rfl, ?_⟩) (by assumption) ?_
  rotate_left
  · intro w hSw; (try dsimp only at hSw); go_simp; (try with_reducible rfl)
  try simp only [Act.put, List.setIfInBounds_toArray, List.set_cons_zero, List.set_cons_succ]
  refine wpAnyH_take (i := 7) (v := ?_) rfl (by kernel_rfl) (by kernel_rfl) (by kernel_rfl) (fun _ _ _ h => h) (Or.inl ⟨by rfl, ?_⟩) (by assumption) ?_
  rotate_left
  · intro w hSw; (try dsimp only at hSw); go_simp; (try with_reducible rfl)
  try simp only [Act.put, List.setIfInBounds_toArray, List.set_cons_zero, List.set_cons_succ]
  refine wpAnyH_ready (rs := [0]) (by kernel_rfl) (by simp) ?_
  refine AllReadyH.cons rfl (fun K hK => ?_) AllReadyH.nil
  go_simp
  ((go_at_call 133; refine Calls.mono (hSb.out _ hBVd) ?_; rintro e W3 ⟨rfl, hB3⟩; go_wp2_with (fail); obtain ⟨g3, g4, gD⟩ := hRes W3 (hBVd.trans (hB3.mono hBVd.size)); obtain ⟨-, i3, j3⟩ := row_cells g3; obtain ⟨-, i4, j4⟩ := row_cells g4; have r3_0 := i3 0; have u3_0 := j3 0; have r3_1 := i3 1; have u3_1 := j3 1; have r3_2 := i3 2; have u3_2 := j3 2; have r3_3 := i3 3; have u3_3 := j3 3; have r3_4 := i3 4; have u3_4 := j3 4; have r3_5 := i3 5; have u3_5 := j3 5; have r3_6 := i3 6; have u3_6 := j3 6; have r3_7 := i3 7; have u3_7 := j3 7; have r4_0 := i4 0; have u4_0 := j4 0; have r4_1 := i4 1; have u4_1 := j4 1; have r4_2 := i4 2; have u4_2 := j4 2; have r4_3 := i4 3; have u4_3 := j4 3; have r4_4 := i4 4; have u4_4 := j4 4; have r4_5 := i4 5; have u4_5 := j4 5; simp only [List.getElem?_toArray, List.getElem?_cons_zero, List.getElem?_cons_succ] at r3_0 r3_1 r3_2 r3_3 r3_4 r3_5 r3_6 r3_7 r4_0 r4_1 r4_2 r4_3 r4_4 r4_5; clear i3 i4 j3 j4))
  refine hK.out _ _ ?_ (fun hNow => ?_)
  · first | ((first | (with_reducible exact hC1) | (with_reducible exact ⟨kept_cell hB3 hHeld.1, kept_cell hB3 hHeld.2.1, kept_cell hB3 hHeld.2.2.1, kept_cell hB3 hHeld.2.2.2.1, kept_cell hB3 hHeld.2.2.2.2.1, kept_cell hB3 hHeld.2.2.2.2.2⟩) | (with_reducible exact ⟨far8 hHeld.1 u3, far8 hHeld.2.1 u3, far8 hHeld.2.2.1 u3, far8 hHeld.2.2.2.1 u3, far8 hHeld.2.2.2.2.1 u3, far8 hHeld.2.2.2.2.2 u3⟩) | (with_reducible exact ⟨far6 hHeld.1 u4, far6 hHeld.2.1 u4, far6 hHeld.2.2.1 u4, far6 hHeld.2.2.2.1 u4, far6 hHeld.2.2.2.2.1 u4, far6 hHeld.2.2.2.2.2 u4⟩))) | (dsimp only; ((first | (with_reducible exact hC1) | (with_reducible exact ⟨kept_cell hB3 hHeld.1, kept_cell hB3 hHeld.2.1, kept_cell hB3 hHeld.2.2.1, kept_cell hB3 hHeld.2.2.2.1, kept_cell hB3 hHeld.2.2.2.2.1, kept_cell hB3 hHeld.2.2.2.2.2⟩) | (with_reducible exact ⟨far8 hHeld.1 u3, far8 hHeld.2.1 u3, far8 hHeld.2.2.1 u3, far8 hHeld.2.2.2.1 u3, far8 hHeld.2.2.2.2.1 u3, far8 hHeld.2.2.2.2.2 u3⟩) | (with_reducible exact ⟨far6 hHeld.1 u4, far6 hHeld.2.1 u4, far6 hHeld.2.2.1 u4, far6 hHeld.2.2.2.1 u4, far6 hHeld.2.2.2.2.1 u4, far6 hHeld.2.2.2.2.2 u4⟩))))
  clear hK K hHeld
  have hHeld := hNow
  clear hNow
  try simp only [Act.put, List.setIfInBounds_toArray, List.set_cons_zero, List.set_cons_succ]
  refine wpAnyH_ready (rs := [8]) (by kernel_rfl) (by simp) ?_
  refine AllReadyH.cons rfl (fun K hK => ?_) AllReadyH.nil
  go_simp
  refine hK.out _ _ ?_ (fun hNow => ?_)
  · first | ((first | (with_reducible exact hC1) | (with_reducible exact ⟨kept_cell hB3 hHeld.1, kept_cell hB3 hHeld.2.1, kept_cell hB3 hHeld.2.2.1, kept_cell hB3 hHeld.2.2.2.1, kept_cell hB3 hHeld.2.2.2.2.1, kept_cell hB3 hHeld.2.2.2.2.2⟩) | (with_reducible exact ⟨far8 hHeld.1 u3, far8 hHeld.2.1 u3, far8 hHeld.2.2.1 u3, far8 hHeld.2.2.2.1 u3, far8 hHeld.2.2.2.2.1 u3, far8 hHeld.2.2.2.2.2 u3⟩) | (with_reducible exact ⟨far6 hHeld.1 u4, far6 hHeld.2.1 u4, far6 hHeld.2.2.1 u4, far6 hHeld.2.2.2.1 u4, far6 hHeld.2.2.2.2.1 u4, far6 hHeld.2.2.2.2.2 u4⟩))) | (dsimp only; ((first | (with_reducible exact hC1) | (with_reducible exact ⟨kept_cell hB3 hHeld.1, kept_cell hB3 hHeld.2.1, kept_cell hB3 hHeld.2.2.1, kept_cell hB3 hHeld.2.2.2.1, kept_cell hB3 hHeld.2.2.2.2.1, kept_cell hB3 hHeld.2.2.2.2.2⟩) | (with_reducible exact ⟨far8 hHeld.1 u3, far8 hHeld.2.1 u3, far8 hHeld.2.2.1 u3, far8 hHeld.2.2.2.1 u3, far8 hHeld.2.2.2.2.1 u3, far8 hHeld.2.2.2.2.2 u3⟩) | (with_reducible exact ⟨far6 hHeld.1 u4, far6 hHeld.2.1 u4, far6 hHeld.2.2.1 u4, far6 hHeld.2.2.2.1 u4, far6 hHeld.2.2.2.2.1 u4, far6 hHeld.2.2.2.2.2 u4⟩))))
  clear hK K hHeld
  have hHeld := hNow
  clear hNow
  try simp only [Act.put, List.setIfInBounds_toArray, List.set_cons_zero, List.set_cons_succ]
  refine wpAnyH_ready (rs := [9]) (by kernel_rfl) (by simp) ?_
  refine AllReadyH.cons rfl (fun K hK => ?_) AllReadyH.nil
  go_simp
  refine hK.out _ _ ?_ (fun hNow => ?_)
  · first | ((first | (with_reducible exact hC1) | (with_reducible exact ⟨kept_cell hB3 hHeld.1, kept_cell hB3 hHeld.2.1, kept_cell hB3 hHeld.2.2.1, kept_cell hB3 hHeld.2.2.2.1, kept_cell hB3 hHeld.2.2.2.2.1, kept_cell hB3 hHeld.2.2.2.2.2⟩) | (with_reducible exact ⟨far8 hHeld.1 u3, far8 hHeld.2.1 u3, far8 hHeld.2.2.1 u3, far8 hHeld.2.2.2.1 u3, far8 hHeld.2.2.2.2.1 u3, far8 hHeld.2.2.2.2.2 u3⟩) | (with_reducible exact ⟨far6 hHeld.1 u4, far6 hHeld.2.1 u4, far6 hHeld.2.2.1 u4, far6 hHeld.2.2.2.1 u4, far6 hHeld.2.2.2.2.1 u4, far6 hHeld.2.2.2.2.2 u4⟩))) | (dsimp only; ((first | (with_reducible exact hC1) | (with_reducible exact ⟨kept_cell hB3 hHeld.1, kept_cell hB3 hHeld.2.1, kept_cell hB3 hHeld.2.2.1, kept_cell hB3 hHeld.2.2.2.1, kept_cell hB3 hHeld.2.2.2.2.1, kept_cell hB3 hHeld.2.2.2.2.2⟩) | (with_reducible exact ⟨far8 hHeld.1 u3, far8 hHeld.2.1 u3, far8 hHeld.2.2.1 u3, far8 hHeld.2.2.2.1 u3, far8 hHeld.2.2.2.2.1 u3, far8 hHeld.2.2.2.2.2 u3⟩) | (with_reducible exact ⟨far6 hHeld.1 u4, far6 hHeld.2.1 u4, far6 hHeld.2.2.1 u4, far6 hHeld.2.2.2.1 u4, far6 hHeld.2.2.2.2.1 u4, far6 hHeld.2.2.2.2.2 u4⟩))))
  clear hK K hHeld
  have hHeld := hNow
  clear hNow
  try simp only [Act.put, List.setIfInBounds_toArray, List.set_cons_zero, List.set_cons_succ]
  refine wpAnyH_done (by kernel_rfl) ?_ _
  refine NoPanic.normal ?_
  go_wp2
  have hfin : Below w.heap.size w W3 := hXW.trans ((hBVd.trans (hB3.mono hBVd.size)).mono hXW.size)
  refine leaves_one (by simp) ((set_other6 _ _ _ _ _ _ (by omega)).trans ((set_other8 _ _ _ _ _ _ _ _ (by omega)).trans gD)) ?_
  generalize hV : World.putObj _ D (.deferred none) = V5
  have G3 : V5.heap[X3.heap.size]? = some (.cells #[.int .i64 (boxOf ((corners s).map fun p => left p o.moles)).glo, .int .i64 (boxOf ((corners s).map fun p => left p o.moles)).ghi, .int .i64 (boxOf ((corners s).map fun p => left p o.moles)).ylo, .int .i64 (boxOf ((corners s).map fun p => left p o.moles)).yhi, .int .i64 (boxOf ((corners s).map fun p => left p o.moles)).tlo, .int .i64 (boxOf ((corners s).map fun p => left p o.moles)).thi, .int .i64 (boxOf ((corners s).map fun p => left p o.moles)).wlo, .int .i64 (boxOf ((corners s).map fun p => left p o.moles)).whi] 33 (0, 0)) := by rw [← hV]; exact (World.putObj_heap_other (by omega)).trans ((set_other6 _ _ _ _ _ _ (by omega)).trans (set_cells8 g3 _ _ _ _ _ _ _ _))
  have G4 : V5.heap[X4.heap.size]? = some (.cells #[.int .i64 x0, .int .i64 x1, .int .i64 x2, .int .i64 x3, .int .i64 x6, .int .i64 x7] 76 (0, 0)) := by rw [← hV]; exact (World.putObj_heap_other (by omega)).trans (set_cells6 ((set_other8 _ _ _ _ _ _ _ _ (by omega)).trans g4) _ _ _ _ _ _)
  have hb : Below w.heap.size w V5 := by rw [← hV]; exact (set_below6 (set_below8 hfin xX3 _ _ _ _ _ _ _ _) xX4 _ _ _ _ _ _).trans (below_putObj (Below.refl _ _) (by omega) _)
  clear hV
  have k3 := (row_cells G3).2.1
  have k4 := (row_cells G4).2.1
  refine ⟨.tuple #[stV (boxOf ((corners s).map fun p => left p o.moles)), outV ⟨x0, x1, x2, x3, x6, x7⟩], ?_, .inl ⟨fun p hp => hall p hp, by rw [hxs.out], hb⟩⟩
  have k3_0 := k3 0
  have k3_1 := k3 1
  have k3_2 := k3 2
  have k3_3 := k3 3
  have k3_4 := k3 4
  have k3_5 := k3 5
  have k3_6 := k3 6
  have k3_7 := k3 7
  have k4_0 := k4 0
  have k4_1 := k4 1
  have k4_2 := k4 2
  have k4_3 := k4 3
  have k4_4 := k4 4
  have k4_5 := k4 5
  simp only [List.getElem?_toArray, List.getElem?_cons_zero, List.getElem?_cons_succ] at k3_0 k3_1 k3_2 k3_3 k3_4 k3_5 k3_6 k3_7 k4_0 k4_1 k4_2 k4_3 k4_4 k4_5
  simp only [results, Tryz.results120]
  simp [go_sem, k3_0, k3_1, k3_2, k3_3, k3_4, k3_5, k3_6, k3_7, k4_0, k4_1, k4_2, k4_3, k4_4, k4_5]
end Go.Proofs.YthjmdagonfeneaaGreat.G
