/- Laws and walks: We2, Bk4, Bk5. -/
import Derived.ArgAppend
import Derived.Test.YtpcamocnlnlgiaaGreatK07
set_option maxRecDepth 100000
set_option maxHeartbeats 16000000
set_option linter.unusedVariables false
set_option linter.unusedSimpArgs false
namespace Go.Proofs.YtpcamocnlnlgiaaGreat.B
open Go.RowKit Go.Sd Wl L
theorem add_at (b off n : Nat) : (⟨b, off, none⟩ : Addr).add n = ⟨b, off + n, none⟩ := by
 unfold Addr.add
 by_cases h0 : n = 0 <;> simp [h0]
def QAt (B : Nat) (w : World) (v : Value) (xs : List Int) : Prop :=
 (v = .slice none 0 0 ∧ xs = []) ∨ ∃ g off cap cur, v = .slice (some ⟨g, off, none⟩) xs.length cap ∧ B ≤ g ∧ w.heap[g]? = some (.cells cur 3 (0, 0)) ∧ xs.length ≤ cap ∧ cap ≤ maxLen ∧ off + cap ≤ cur.size ∧
  ∀ k, k < xs.length → cur[off + k]? = some (.int .i64 (xs.getD k 0))
theorem QAt.nil (B : Nat) (w : World) : QAt B w (.slice none 0 0) [] := .inl ⟨rfl, rfl⟩
theorem QAt.slice {B : Nat} {w : World} {v : Value} {xs : List Int} (h : QAt B w v xs) : ∃ a cap, v = .slice a xs.length cap := by
 rcases h with ⟨rfl, rfl⟩ | ⟨g, off, cap, cur, rfl, -⟩
 · exact ⟨none, 0, rfl⟩
 · exact ⟨_, cap, rfl⟩
theorem QAt.lt {B : Nat} {w : World} {v : Value} {xs : List Int} (h : QAt B w v xs) : ∀ k, v.ownBlock = some k → B ≤ k ∧ k < w.heap.size := by
 rcases h with ⟨rfl, rfl⟩ | ⟨g, off, cap, cur, rfl, hB, hg, -⟩
 · intro k h; cases h
 · intro k h
   obtain rfl : g = k := by simpa [Value.ownBlock] using h
   exact ⟨hB, (zqo hg)⟩
theorem QAt.same {B : Nat} {w w' : World} {v : Value} {xs : List Int} (h : QAt B w v xs) (hb : ∀ k, v.ownBlock = some k → w'.heap[k]? = w.heap[k]?) : QAt B w' v xs := by
 rcases h with h | ⟨g, off, cap, cur, rfl, hB, hg, r⟩
 · exact .inl h
 · exact .inr ⟨g, off, cap, cur, rfl, hB, (hb g rfl).trans hg, r⟩
theorem QAt.mono {B : Nat} {w w' : World} {v : Value} {xs : List Int} (h : QAt B w v xs) (hb : Below w.heap.size w w') : QAt B w' v xs := h.same fun k hk => hb.block _ (h.lt k hk).2
theorem QAt.kept {B : Nat} {S : Nat → Prop} {w w' : World} {v : Value} {xs : List Int} (h : QAt B w v xs) (hk : Kept S w w') (hs : ∀ k, v.ownBlock = some k → S k) : QAt B w' v xs := h.same fun k e => hk.block _ (h.lt k e).2 (hs k e)
theorem QAt.of_own {B : Nat} {w : World} {v : Value} {xs : List Int} (h : w.ownsRow B 3 1 v xs.length (xs.map (Value.int .i64))) : QAt B w v xs := by
 obtain ⟨-, h2⟩ := h
 rcases h2 with ⟨rfl, h0⟩ | ⟨g, cap, cur, rfl, hB, hg, hn, hm, hs, ht⟩
 · exact .inl ⟨rfl, List.eq_nil_of_length_eq_zero h0⟩
 · refine .inr ⟨g, 0, cap, cur, rfl, hB, hg, hn, hm, by omega, fun k hk => ?_⟩
   have h1 : (cur.toList.take (xs.length * 1))[k]? = (xs.map (Value.int .i64))[k]? := by rw [ht]
   rw [List.getElem?_take, if_pos (by omega)] at h1
   simp only [List.getElem?_map, List.getElem?_eq_getElem hk, Option.map_some] at h1
   rw [Nat.zero_add, ← Array.getElem?_toList, h1]
   simp [hk]
theorem QAt.not_def {B : Nat} {w : World} {v : Value} {xs : List Int} (h : QAt B w v xs) {j : Nat} {d : Option (List Deferred)} (hj : w.heap[j]? = some (.deferred d)) : v.ownBlock ≠ some j := by
 rcases h with ⟨rfl, rfl⟩ | ⟨g, off, cap, cur, rfl, hB, hg, -⟩
 · intro h; cases h
 · intro h; cases h; rw [hg] at hj; cases hj
theorem QAt.cell {B g off n cap : Nat} {w : World} {xs : List Int} (h : QAt B w (.slice (some ⟨g, off, none⟩) n cap) xs) {k : Nat} (hk : k < xs.length) : w.cell? ⟨g, off + k, none⟩ = some (.int .i64 (xs.getD k 0)) := by
 rcases h with ⟨h, -⟩ | ⟨g', off', cap', cur, e, -, hg, -, -, -, hc⟩
 · cases h
 · simp only [Value.slice.injEq, Option.some.injEq, Addr.mk.injEq] at e
   obtain ⟨⟨rfl, rfl, -⟩, -, -⟩ := e
   rw [cell_of_row w g (off + k) cur _ (0, 0) hg]
   exact hc k hk
theorem QAt.tail {B g off n cap : Nat} {w : World} {x : Int} {xs : List Int} (h : QAt B w (.slice (some ⟨g, off, none⟩) n cap) (x :: xs)) (hc : 1 < cap) : QAt B w (.slice (some ⟨g, off + 1, none⟩) xs.length (cap - 1)) xs := by
 rcases h with ⟨h, -⟩ | ⟨g', off', cap', cur, e, hB, hg, h1, h2, h3, h4⟩
 · cases h
 · simp only [Value.slice.injEq, Option.some.injEq, Addr.mk.injEq] at e
   obtain ⟨⟨rfl, rfl, -⟩, -, rfl⟩ := e
   simp only [List.length_cons] at h1
   refine .inr ⟨g, off + 1, cap - 1, cur, rfl, hB, hg, by omega, by omega, by omega, fun k hk => ?_⟩
   have := h4 (k + 1) (by simp only [List.length_cons]; omega)
   rw [show off + (k + 1) = off + 1 + k by omega] at this
   rw [this]
   simp
theorem QAt.tail1 {B g off n : Nat} {w : World} {x : Int} {xs : List Int} (h : QAt B w (.slice (some ⟨g, off, none⟩) n 1) (x :: xs)) : xs = [] ∧ QAt B w (.slice (some ⟨g, off, none⟩) 0 0) xs := by
 rcases h with ⟨h, -⟩ | ⟨g', off', cap', cur, e, hB, hg, h1, h2, h3, h4⟩
 · cases h
 · simp only [Value.slice.injEq, Option.some.injEq, Addr.mk.injEq] at e
   obtain ⟨⟨rfl, rfl, -⟩, -, rfl⟩ := e
   simp only [List.length_cons] at h1
   obtain rfl : xs = [] := List.eq_nil_of_length_eq_zero (by omega)
   exact ⟨rfl, .inr ⟨g, off, 0, cur, rfl, hB, hg, by simp, by simp, by omega, fun k hk => by simp at hk⟩⟩
theorem QAt.cap {B g off n cap : Nat} {w : World} {x : Int} {xs : List Int} (h : QAt B w (.slice (some ⟨g, off, none⟩) n cap) (x :: xs)) : 1 ≤ cap ∧ n = xs.length + 1 ∧ n ≤ cap ∧ cap ≤ 9223372036854775807 := by
 rcases h with ⟨h, -⟩ | ⟨g', off', cap', cur, e, hB, hg, h1, h2, h3, h4⟩
 · cases h
 · simp only [Value.slice.injEq, Option.some.injEq, Addr.mk.injEq] at e
   obtain ⟨⟨rfl, rfl, -⟩, rfl, rfl⟩ := e
   simp only [List.length_cons] at h1
   unfold maxLen at h2
   exact ⟨by omega, by simp, h1, by omega⟩
theorem infoI : (Tryz.prog.info? 3).map (fun i => (i.zero, i.size, i.bytes)) = some (some (.int .i64 0), 1, 8) := by kernel_rfl
theorem own_block {B : Nat} {w : World} {v : Value} {n : Nat} {ks : List Value} (h : w.ownsRow B 3 1 v (n + 1) ks) : ∃ m, v.ownBlock = some m ∧ B ≤ m := by
 obtain ⟨-, h2⟩ := h
 rcases h2 with ⟨rfl, h0⟩ | ⟨g, cap, cur, rfl, hB, -⟩
 · omega
 · exact ⟨g, rfl, hB⟩
theorem row_set {w : World} {g : Nat} {cur : Array Value} {t : TypeId} (h : w.heap[g]? = some (.cells cur t (0, 0))) (i : Nat) (u : Value) : (w.setCell ⟨g, i, none⟩ u).heap[g]? = some (.cells (cur.setIfInBounds i u) t (0, 0)) := by
 simp only [World.setCell, Array.getElem?_modify, if_true, h]
 rfl
theorem run_q_more (B : Nat) (ty : TypeId) (w : World) (v : Value) (xs : List Int) (y : Int) (vb c : Nat) (hq : QAt B w v xs) (hn : xs.length ≤ 100000000) (hB : B ≤ w.heap.size) (hy : w.cell? ⟨vb, 0, none⟩ = some (.int .i64 y)) :
    ∃ v' w', (Builtin.append_ #[41, 41] ty #[v, .slice (some ⟨vb, 0, none⟩) 1 c]).run Tryz.prog w = .ok v' w' ∧ QAt B w' v' (xs ++ [y]) ∧ Kept (fun k => some k ≠ v.ownBlock) w w' ∧
     (v'.ownBlock = v.ownBlock ∨ ∃ m, v'.ownBlock = some m ∧ w.heap.size ≤ m) := by
 obtain ⟨i0, hi, hz0, hz1, hz2⟩ := info_parts infoI
 have hnews : ∀ (j : Nat) u, [Value.int .i64 y][j]? = some u → w.cell? ((⟨vb, 0, none⟩ : Addr).add j) = some u := by
  intro j u hj
  cases j with
  | zero => simp only [List.getElem?_cons_zero, Option.some.injEq] at hj; subst hj; exact hy
  | succ j => simp at hj
 have h1c : ∀ u ∈ [Value.int .i64 y], u.oneCell' = true := by simp [Value.oneCell']
 rcases hq with ⟨rfl, rfl⟩ | ⟨g, off, cap, cur, rfl, hBg, hg, hle, hmx, hsz, hc⟩
 · obtain ⟨v', w', hrun, r1, r2, r3, r4⟩ := run_append_own_at (P := Tryz.prog) w B 41 ty 3 i0 _ 1 8 Tryz.underlying41 hi hz0 hz1 hz2 rfl (by decide) (.slice none 0 0) 0 [] (World.ownsRow_nil w B _ 1)
    ⟨vb, 0, none⟩ 1 c [.int .i64 y] rfl hnews h1c (by unfold maxLen; omega) (by omega) hB
   refine ⟨v', w', hrun, QAt.of_own (by simpa using r1), .grown r2 fun k _ h => by simp [Value.ownBlock], ?_⟩
   rcases r4 with h | h
   · exact .inl h
   · exact .inr ⟨_, h, Nat.le_refl _⟩
 · have holds : ∀ (j : Nat) u, (xs.map (Value.int .i64))[j]? = some u → w.cell? ((⟨g, off, none⟩ : Addr).add j) = some u := by
    intro j u hj
    have hjl : j < xs.length := by
     rcases Nat.lt_or_ge j xs.length with h | h
     · exact h
     · rw [List.getElem?_eq_none (by simpa using h)] at hj; cases hj
    rw [add_at, cell_of_row w g (off + j) cur _ (0, 0) hg, hc j hjl]
    rw [List.getElem?_map, List.getElem?_eq_getElem hjl] at hj
    simpa [hjl] using hj
   have hbytes : (xs.length + 1) * 8 ≤ 140737488355328 := by omega
   by_cases hr : xs.length + 1 ≤ cap
   · have hrun := run_append_room_cells (P := Tryz.prog) w 41 ty 3 i0 Tryz.underlying41 hi g off xs.length cap ⟨vb, 0, none⟩ 1 c [.int .i64 y] (by rw [hz1]; rfl) hnews h1c hr
      (fun j hj => by
       obtain rfl : j = 0 := by simp at hj; omega
       rw [hz1, Nat.mul_one, Nat.add_zero, cell_of_row w g _ cur _ (0, 0) hg]
       rw [Array.getElem?_eq_getElem (by omega)]; rfl)
      (fun j hj => by
       obtain rfl : j = 0 := by simp at hj; omega
       rw [hz1, Nat.mul_one, Nat.add_zero]
       exact frozen_of_row w g _ cur _ hg)
     rw [hz1, Nat.mul_one] at hrun
     refine ⟨_, _, hrun, ?_, (Kept.refl _ w).setCell (p := ⟨g, off + xs.length, none⟩) (.inl (by simp [Value.ownBlock])) _, .inl rfl⟩
     refine .inr ⟨g, off, cap, cur.setIfInBounds (off + xs.length) (.int .i64 y), by simp, hBg, row_set hg _ _, by simpa using hr, hmx, by simpa using hsz, fun k hk => ?_⟩
     by_cases e : k = xs.length
     · subst e
       rw [Array.getElem?_setIfInBounds_self_of_lt (by omega)]
       simp
     · have hk' : k < xs.length := by simp only [List.length_append, List.length_cons, List.length_nil] at hk; omega
       rw [Array.getElem?_setIfInBounds_ne (by omega), hc k hk']
       simp [hk', List.getElem?_append_left hk']
   · obtain ⟨v', w', hrun, r1, r2⟩ := run_append_arg_grows (P := Tryz.prog) w 41 ty 3 i0 _ 1 8 Tryz.underlying41 hi hz0 hz1 hz2 rfl (by decide) ⟨g, off, none⟩ xs.length cap (xs.map (Value.int .i64)) (by simp) holds
      ⟨vb, 0, none⟩ 1 c [.int .i64 y] rfl hnews (by omega) (by unfold maxLen; omega) hbytes
     refine ⟨v', w', hrun, ?_, .grown r2 fun k _ _ => Option.some_ne_none k, ?_⟩
     · have hq : QAt w.heap.size w' v' (xs ++ [y]) := QAt.of_own (by simpa using r1)
       rcases hq with h | ⟨g', off', cap', cur', e, hB', r⟩
       · exact .inl h
       · exact .inr ⟨g', off', cap', cur', e, by omega, r⟩
     · exact .inr (own_block r1)
theorem run_q_ahead (B : Nat) (ty : TypeId) (w : World) (v : Value) (xs : List Int) (y : Int) (vb : Nat) (hq : QAt B w v xs) (hn : xs.length ≤ 100000000) (hB : B ≤ vb) (hy : w.heap[vb]? = some (.cells #[.int .i64 y] 3 (0, 0))) :
    ∃ v' w', (Builtin.append_ #[41, 41] ty #[.slice (some ⟨vb, 0, none⟩) 1 1, v]).run Tryz.prog w = .ok v' w' ∧ QAt B w' v' (y :: xs) ∧ Below w.heap.size w w' ∧
     (v'.ownBlock = some vb ∨ ∃ m, v'.ownBlock = some m ∧ w.heap.size ≤ m) := by
 obtain ⟨i0, hi, hz0, hz1, hz2⟩ := info_parts infoI
 have hvb := (zqo hy)
 by_cases h0 : xs = []
 · subst h0
   refine ⟨.slice (some ⟨vb, 0, none⟩) 1 1, w, ?_, .inr ⟨vb, 0, 1, _, rfl, hB, hy, by simp, by unfold maxLen; omega, by simp, fun k hk => ?_⟩, Below.refl _ _, .inl rfl⟩
   · obtain ⟨a, cap, rfl⟩ := hq.slice
     cases a <;> simp [Builtin.append_, run_underlying Tryz.underlying41, sizeOf, typeInfo, hi, Builtin.lenOf, Builtin.firstCells, loadCells, loadCellsFrom, storeCells]
   · obtain rfl : k = 0 := by simp only [List.length_cons, List.length_nil] at hk; omega
     rfl
 · have hpos : 0 < xs.length := List.length_pos_iff.2 h0
   rcases hq with ⟨-, rfl⟩ | ⟨g, off, cap, cur, rfl, hBg, hg, hle, hmx, hsz, hc⟩
   · exact absurd rfl h0
   · have hnews : ∀ (j : Nat) u, (xs.map (Value.int .i64))[j]? = some u → w.cell? ((⟨g, off, none⟩ : Addr).add j) = some u := by
      intro j u hj
      have hjl : j < xs.length := by
       rcases Nat.lt_or_ge j xs.length with h | h
       · exact h
       · rw [List.getElem?_eq_none (by simpa using h)] at hj; cases hj
      rw [add_at, cell_of_row w g (off + j) cur _ (0, 0) hg, hc j hjl]
      rw [List.getElem?_map, List.getElem?_eq_getElem hjl] at hj
      simpa [hjl] using hj
     have holds : ∀ (j : Nat) u, [Value.int .i64 y][j]? = some u → w.cell? ((⟨vb, 0, none⟩ : Addr).add j) = some u := by
      intro j u hj
      cases j with
      | zero => simp only [List.getElem?_cons_zero, Option.some.injEq] at hj; subst hj; rw [add_at, cell_of_row w vb _ _ _ (0, 0) hy]; rfl
      | succ j => simp at hj
     obtain ⟨v', w', hrun, r1, r2⟩ := run_append_arg_grows (P := Tryz.prog) w 41 ty 3 i0 _ 1 8 Tryz.underlying41 hi hz0 hz1 hz2 rfl (by decide) ⟨vb, 0, none⟩ 1 1 [.int .i64 y] rfl holds
      ⟨g, off, none⟩ xs.length cap (xs.map (Value.int .i64)) (by simp) hnews (by omega) (by unfold maxLen; omega) (by omega)
     have r1' : w'.ownsRow w.heap.size 3 1 v' (y :: xs).length ((y :: xs).map (Value.int .i64)) := by
      rw [List.length_cons, Nat.add_comm]; exact r1
     refine ⟨v', w', hrun, ?_, ⟨r2.os, r2.tape, r2.output, r2.size, fun k hk => r2.block k hk (Option.some_ne_none k)⟩, .inr (own_block r1')⟩
     rcases QAt.of_own r1' with h | ⟨g', off', cap', cur', e, hB', r⟩
     · exact .inl h
     · exact .inr ⟨g', off', cap', cur', e, by omega, r⟩
theorem wpList_app_run {ops : Array Oper} {rest : List Oper} {o : Oper} {a : Act} {Q : Exit → Act → World → Prop} (hgd : o.guard = none) (s x : Operand) (T : TypeId)
    (ho : o.op = .call { callee := .builtin .append, args := #[s, x], argTypes := #[T, T] }) {w : World} {v u : Value} (hs : a.eval s = v) (hx : a.eval x = u)
    {v' : Value} {w' : World} (hrun : (Builtin.append_ #[T, T] o.type #[v, u]).run Tryz.prog w = .ok v' w') (h : wpList Tryz.prog ops Q rest (a.put o.dst v') w') : wpList Tryz.prog ops Q (o :: rest) a w := by
 refine wpList_plain hgd fun K hK' => ?_
 unfold Oper.wp
 simp [execOp, ho, resolve, invoke, builtin, hs, hx, hrun, Result.andThen]
 exact hK' _ _ h
end Go.Proofs.YtpcamocnlnlgiaaGreat.B
set_option linter.unusedVariables false
set_option linter.unusedSimpArgs false
namespace Bk
def rateTo (l : List Rt) (q : Int) : Nat → Rt
 | 0 => rtAt l 0
 | k + 1 => if (rtAt l k).fill ≤ q then rtAt l k else rateTo l q k
def rateQ (c : Con) (gas : Int) : Int := 1000 * gas / c.space
def rateOf (c : Con) (gas : Int) : Rt := rateTo c.rates (rateQ c gas) c.rates.length
end Bk
namespace Go.Proofs.YtpcamocnlnlgiaaGreat.B
open Go.RowKit Go.Sd Wl Bk L
attribute [local go_sem] Oper.semAt_some
theorem store3 {w : World} {g : Nat} {a0 a1 a2 : Value} {t : TypeId} (h : w.heap[g]? = some (.cells #[a0, a1, a2] t (0, 0))) (u0 u1 u2 : Value) :
    (((w.setCell ⟨g, 0, none⟩ u0).setCell ⟨g, 1, none⟩ u1).setCell ⟨g, 2, none⟩ u2).heap[g]? = some (.cells #[u0, u1, u2] t (0, 0)) ∧ Below g w (((w.setCell ⟨g, 0, none⟩ u0).setCell ⟨g, 1, none⟩ u1).setCell ⟨g, 2, none⟩ u2) := by
 refine ⟨row_set (row_set (row_set h 0 u0) 1 u1) 2 u2, ?_⟩
 have hz := (zqo h)
 exact ((((Kept.refl (fun k => k < g) w).setCell (p := ⟨g, 0, none⟩) (.inl (Nat.lt_irrefl _)) u0).setCell (p := ⟨g, 1, none⟩) (.inl (Nat.lt_irrefl _)) u1).setCell (p := ⟨g, 2, none⟩) (.inl (Nat.lt_irrefl _)) u2).below (by omega) fun k hk => hk
theorem frz3 {w : World} {n : Nat} {c : Array Value} {e : TypeId} (h : w.heap[n]? = some (.cells c e (0, 0))) : w.frozen? ⟨n, 0, none⟩ = false ∧ w.frozen? ⟨n, 1, none⟩ = false ∧ w.frozen? ⟨n, 2, none⟩ = false := by
 have r := (row_cells h).2.2
 exact ⟨r 0, r 1, r 2⟩
theorem Con.ok_head {c : Con} (h : c.ok = true) : 1 ≤ c.space ∧ c.space ≤ 100000000 ∧ 1 ≤ c.rates.length ∧ c.rates.length ≤ 6 ∧ 0 ≤ c.gas ∧ c.gas ≤ c.space ∧ 0 ≤ c.lo ∧ c.lo ≤ c.hi ∧ c.hi ≤ 47 := by
 unfold Con.ok headB hoursB hourB at h
 simp only [Bool.and_eq_true, inB_iff, decide_eq_true_eq] at h
 omega
theorem Con.ok_row {c : Con} (h : c.ok = true) {k : Nat} (hk : k < c.rates.length) : 0 ≤ (rtAt c.rates k).fill ∧ (rtAt c.rates k).fill ≤ 1000 ∧ 0 ≤ (rtAt c.rates k).inn ∧ (rtAt c.rates k).inn ≤ 100000000 ∧ 0 ≤ (rtAt c.rates k).out ∧ (rtAt c.rates k).out ≤ 100000000 := by
 unfold Con.ok at h
 rw [Bool.and_eq_true] at h
 have h2 := List.all_eq_true.1 h.2 k (List.mem_range.2 hk)
 unfold rtB kilosB at h2
 simp only [Bool.and_eq_true, inB_iff] at h2
 omega
theorem progRate0 (c : Con) (ok : c.ok = true) (rv : Value) (gas : Int) (hgas : 0 ≤ gas ∧ gas ≤ c.space) (w : World) (hr : RtsAt w rv c.rates) :
    Calls Tryz.prog 26 #[conV rv c, .int .i64 gas] w fun e w' => e = .returned (rtV (rateOf c gas)) ∧ Below w.heap.size w w' := by
 obtain ⟨s1, s2, s3, s4, -⟩ := Con.ok_head ok
 obtain ⟨W1, hW1⟩ : ∃ W, w.alloc (conO rv c) = W := ⟨_, rfl⟩
 obtain ⟨e1, b1, z1⟩ := boxedB hW1
 obtain ⟨W2, hW2⟩ : ∃ W, W1.alloc (.cells #[.int .i64 0, .int .i64 0, .int .i64 0] 74) = W := ⟨_, rfl⟩
 obtain ⟨e2, b2, z2⟩ := boxedB hW2
 obtain ⟨W3, hW3⟩ : ∃ W, W2.alloc (rtO (rtAt c.rates 0)) = W := ⟨_, rfl⟩
 obtain ⟨e3, b3, z3⟩ := boxedB hW3
 have hr2 := (hr.mono b1).mono b2
 obtain ⟨ra, rcap, rfl, hrm, -⟩ := hr
 unfold maxLen at hrm
 obtain ⟨u0, u1, u2, u3, u4, -⟩ := row11 (kept_block b2 e1)
 obtain ⟨q0, q1, q2, q3, q4, -⟩ := row11 (kept_block b3 (kept_block b2 e1))
 obtain ⟨rb, off, rfl, hbl, hrk⟩ := rts_row hr2 (by omega)
 obtain ⟨x0, x1, x2⟩ := hrk 0 (by omega)
 simp only [Nat.zero_mul, Nat.add_zero] at x0 x1 x2
 have hlen1 : (1 : Int) ≤ c.rates.length := by omega
 have hlen0 : (0 : Int) < c.rates.length := by omega
 have e1h := Lib.hid (kept_block b2 e1)
 have e2h := Lib.hid e2
 have hrkh := Lib.hid hrk
 have hbb := Lib.hid (below_tr b1 b2)
 have hb3 : Hid (Below W2.heap.size W2 W3) := Lib.hid b3
 have e3h : Hid (W3.heap[W2.heap.size]? = some (rtO (rateTo c.rates (rateQ c gas) 0))) := Lib.hid e3
 have hq : rateQ c gas = 1000 * gas / c.space := rfl
 have hq0 : 0 ≤ 1000 * gas / c.space := Int.ediv_nonneg (by omega) (by omega)
 have hq1 : 1000 * gas / c.space ≤ 1000 * gas := Int.ediv_le_self _ (by omega)
 have ht : (1000 * gas).tdiv c.space = 1000 * gas / c.space := Int.tdiv_eq_ediv_of_nonneg (by omega)
 have hz0 : c.space ≠ 0 := by omega
 replace ht := Lib.hid ht
 replace hq := Lib.hid hq
 clear e1 e2 e3 b1 b2 b3 hrk hr2
 go_enter Tryz.func26, Tryz.ntmps26
 go_wp2_with (fail)
 go_loopw [15] (fun i wr => ∃ k : Nat, k ≤ c.rates.length ∧ i = .int .i64 k ∧ Hid (wr.heap[W2.heap.size]? = some (rtO (rateTo c.rates (rateQ c gas) k)) ∧ Below W2.heap.size W2 wr)) (fun i _ => c.rates.length - (intOf i).toNat)
 case atStart => exact ⟨0, by omega, rfl, Lib.hid ⟨e3h.out, hb3.out⟩⟩
 case round =>
  obtain ⟨k, hk, rfl, hH⟩ := hrel
  obtain ⟨hO, hBl⟩ := hH.out
  obtain ⟨o0, o1, o2⟩ := row3b hO
  have zo := (zqo hO)
  have zwr := hBl.size
  obtain ⟨y0, y1, y2, y3, y4, -⟩ := row11 (kept_block hBl e1h.out)
  by_cases hlt : k < c.rates.length
  · obtain ⟨c0, c1, c2⟩ := hrkh.out k hlt
    have d0 := kept_cell hBl c0
    have d1 := kept_cell hBl c1
    have d2 := kept_cell hBl c2
    have hki : (0 : Int) ≤ (k : Int) ∧ (k : Int) < c.rates.length := by omega
    obtain ⟨V, hV⟩ : ∃ V, wr.alloc (rtO (rtAt c.rates k)) = V := ⟨_, rfl⟩
    obtain ⟨eV, bV, zV⟩ := boxedB hV
    obtain ⟨n0, n1, n2⟩ := row3b eV
    obtain ⟨v0, v1, v2, v3, v4, -⟩ := row11 (kept_block bV (kept_block hBl e1h.out))
    clear c0 c1 c2
    have hOV := kept_block bV hO
    obtain ⟨p0, p1, p2⟩ := row3b hOV
    obtain ⟨f0, f1, f2⟩ := frz3 hOV
    have zov := (zqo hOV)
    have hOh := Lib.hid hOV
    have hBV : Hid (Below W2.heap.size W2 V) := Lib.hid (below_tr hBl (bV.mono (by omega)))
    clear hO hOV hBl bV eV hH
    cases d : decide ((rtAt c.rates k).fill ≤ 1000 * gas / c.space)
    · have dx : 1000 * gas / c.space < (rtAt c.rates k).fill := by simpa using d
      have hst : Hid (rateTo c.rates (rateQ c gas) (k + 1) = rateTo c.rates (rateQ c gas) k) := Lib.hid (by
       show (if (rtAt c.rates k).fill ≤ rateQ c gas then _ else _) = _
       rw [if_neg (by rw [hq.out]; omega)])
      go_wp2_with (fail)
      go_quiet (fail)
      go_wp2_with (fail)
      have hfin : Hid ((V.drewN nq).heap[W2.heap.size]? = some (rtO (rateTo c.rates (rateQ c gas) (k + 1))) ∧ Below W2.heap.size W2 (V.drewN nq)) := Lib.hid ⟨by rw [hst.out]; exact kept_block (below_drewN (Below.refl _ _) nq) hOh.out, below_drewN hBV.out nq⟩
      exact ⟨⟨k + 1, by omega, by go_num, hfin⟩, by simp [intOf]; omega⟩
    · have dx : (rtAt c.rates k).fill ≤ 1000 * gas / c.space := by simpa using d
      have hst : Hid (rateTo c.rates (rateQ c gas) (k + 1) = rtAt c.rates k) := Lib.hid (by
       show (if (rtAt c.rates k).fill ≤ rateQ c gas then _ else _) = _
       rw [if_pos (by rw [hq.out]; omega)])
      go_wp2_with (fail)
      go_quiet (fail)
      go_wp2_with (fail)
      have hs3 := store3 (kept_block (below_drewN (Below.refl _ _) nq) hOh.out) (.int .i64 (rtAt c.rates k).fill) (.int .i64 (rtAt c.rates k).inn) (.int .i64 (rtAt c.rates k).out)
      have hBV2 := below_drewN hBV.out nq
      have hfin : Hid ((((V.drewN nq).setCell ⟨W2.heap.size, 0, none⟩ (.int .i64 (rtAt c.rates k).fill)).setCell ⟨W2.heap.size, 1, none⟩ (.int .i64 (rtAt c.rates k).inn)).setCell ⟨W2.heap.size, 2, none⟩ (.int .i64 (rtAt c.rates k).out) |>.heap[W2.heap.size]? = some (rtO (rateTo c.rates (rateQ c gas) (k + 1))) ∧ Below W2.heap.size W2 ((((V.drewN nq).setCell ⟨W2.heap.size, 0, none⟩ (.int .i64 (rtAt c.rates k).fill)).setCell ⟨W2.heap.size, 1, none⟩ (.int .i64 (rtAt c.rates k).inn)).setCell ⟨W2.heap.size, 2, none⟩ (.int .i64 (rtAt c.rates k).out))) := Lib.hid ⟨by rw [hst.out]; exact hs3.1, hBV2.trans hs3.2⟩
      exact ⟨⟨k + 1, by omega, by go_num, hfin⟩, by simp [intOf]; omega⟩
  · obtain rfl : k = c.rates.length := by omega
    have hR := kept_block hBl e2h.out
    obtain ⟨r0, r1, r2⟩ := row3b hR
    obtain ⟨f0, f1, f2⟩ := frz3 hR
    have zr := (zqo hR)
    have hRh := Lib.hid hR
    have hBlh := Lib.hid hBl
    clear hR hBl hO hH
    go_wp2_with (fail)
    obtain ⟨k1, k2⟩ := store3 hRh.out (.int .i64 (rateTo c.rates (rateQ c gas) c.rates.length).fill) (.int .i64 (rateTo c.rates (rateQ c gas) c.rates.length).inn) (.int .i64 (rateTo c.rates (rateQ c gas) c.rates.length).out)
    obtain ⟨m0, m1, m2⟩ := row3b k1
    refine bodyPost_ret (v := rtV (rateOf c gas)) (by simp [results, Tryz.results26, go_sem, m0, m1, m2]; exact ⟨rfl, rfl, rfl⟩) rfl ⟨rfl, ?_⟩
    exact hbb.out.trans ((hBlh.out.mono (by omega)).trans (k2.mono (by omega)))
theorem progRate (c : Con) (ok : c.ok = true) (rv : Value) (gas : Int) (hgas : 0 ≤ gas ∧ gas ≤ c.space) (w : World) (hr : RtsAt w rv c.rates) :
    Calls Tryz.prog 6 #[conV rv c, .int .i64 gas] w fun e w' => e = .returned (.tuple #[.int .i64 (rateOf c gas).inn, .int .i64 (rateOf c gas).out, .int .i64 0]) ∧ Below w.heap.size w w' := by
 obtain ⟨W, hW⟩ : ∃ W, w.alloc (conO rv c) = W := ⟨_, rfl⟩
 obtain ⟨e, bW, z⟩ := boxedB hW
 have hrW := hr.mono bW
 have eh := Lib.hid e
 have hBw := Lib.hid bW
 have hG : inB gas 0 c.space = true := inB_iff.2 hgas
 have kC : Hid (Calls Tryz.prog 24 #[conV rv c] W fun e w' => e = .returned (.bool true) ∧ Below W.heap.size W w') := Lib.hid ((bookContract c rv W hrW).mono fun e w' h => h.lit ok)
 have kR : Hid (∀ X, Below W.heap.size W X → Calls Tryz.prog 26 #[conV rv c, .int .i64 gas] X fun e w' => e = .returned (rtV (rateOf c gas)) ∧ Below X.heap.size X w') := Lib.hid fun X hX => progRate0 c ok rv gas hgas X (hrW.mono hX)
 obtain ⟨c0, c1, c2, c3, c4, c5, c6, c7, c8, c9, c10⟩ := row11 e
 obtain ⟨ra, rcap, rfl, -, -⟩ := hr
 clear e bW hrW
 go_enter Tryz.func6, Tryz.ntmps6
 go_wp2_with (first | (go_at_call 24; (with_reducible refine Calls.mono kC.out ?_); rintro e w1 ⟨rfl, hB1⟩; obtain ⟨c0, c1, c2, c3, c4, c5, c6, c7, c8, c9, c10⟩ := row11 (kept_block hB1 eh.out); have z1 := hB1.size) | (go_at_call 25; (with_reducible refine Calls.mono (bookInT hG _) ?_); rintro e w' ⟨rfl, rfl⟩) | (go_at_call 26; (with_reducible refine Calls.mono (kR.out _ hB1) ?_); rintro e w2 ⟨rfl, hB2⟩))
 obtain ⟨V, hV⟩ : ∃ V, w2.alloc (rtO (rateOf c gas)) = V := ⟨_, rfl⟩
 obtain ⟨eV, bV, zV⟩ := boxedB hV
 obtain ⟨n0, n1, n2⟩ := row3b eV
 have hbV := Lib.hid bV
 clear eV bV
 rw [hV]
 go_quiet (fail)
 go_wp2_with (fail)
 go_ret3
 exact ⟨rfl, below_tr hBw.out (below_tr hB1 (below_tr hB2 (below_drewN hbV.out _)))⟩
end Go.Proofs.YtpcamocnlnlgiaaGreat.B
set_option linter.unusedVariables false
set_option linter.unusedSimpArgs false
namespace Bk
abbrev CV := Go.Value × Con
def cvAt (l : List CV) (k : Nat) : CV := l.getD k (.slice none 0 0, ⟨false, 0, 0, 0, [], 0, 0, 0, 0, 0, 0⟩)
def soldI (l : List CV) (h : Int) : Nat → Int
 | 0 => 0
 | k + 1 => soldI l h k + if ((cvAt l k).2.firm && activeB (cvAt l k).2 h) = true then (rtAt (cvAt l k).2.rates 0).inn else 0
def soldO (l : List CV) (h : Int) : Nat → Int
 | 0 => 0
 | k + 1 => soldO l h k + if ((cvAt l k).2.firm && activeB (cvAt l k).2 h) = true then (rtAt (cvAt l k).2.rates ((cvAt l k).2.rates.length - 1)).out else 0
def spacesTo (l : List CV) : Nat → Int
 | 0 => 0
 | k + 1 => spacesTo l k + (cvAt l k).2.space
end Bk
namespace Go.Proofs.YtpcamocnlnlgiaaGreat.B
open Go.RowKit Go.Sd Wl Bk L
attribute [local go_sem] Oper.semAt_some
abbrev cvEn (p : CV) : List Value := [.bool p.2.firm, .int .i64 p.2.space, .int .i64 p.2.lo, .int .i64 p.2.hi, p.1, .int .i64 p.2.gas, .int .i64 p.2.fixed, .int .i64 p.2.inn, .int .i64 p.2.out, .int .i64 p.2.cut, .int .i64 p.2.lack]
structure ConsAt (w : World) (v : Value) (xs : List CV) : Prop where
 els : ElsAt 11 cvEn (.slice none 0 0, ⟨false, 0, 0, 0, [], 0, 0, 0, 0, 0, 0⟩) w v xs
 rts : ∀ k, k < xs.length → RtsAt w (cvAt xs k).1 (cvAt xs k).2.rates
theorem ConsAt.mono {w w' : World} {v : Value} {xs : List CV} (h : ConsAt w v xs) (hb : Below w.heap.size w w') : ConsAt w' v xs := ⟨h.els.mono hb, fun k hk => (h.rts k hk).mono hb⟩
theorem cons_row {w : World} {a : Option Addr} {cap : Nat} {xs : List CV} (h : ConsAt w (.slice a xs.length cap) xs) (h0 : 0 < xs.length) : ∃ b off, a = some ⟨b, off, none⟩ ∧ b < w.heap.size ∧
    ∀ k, k < xs.length → w.cell? ⟨b, off + k * 11, none⟩ = some (.bool (cvAt xs k).2.firm) ∧ w.cell? ⟨b, off + k * 11 + 1, none⟩ = some (.int .i64 (cvAt xs k).2.space) ∧ w.cell? ⟨b, off + k * 11 + 2, none⟩ = some (.int .i64 (cvAt xs k).2.lo) ∧ w.cell? ⟨b, off + k * 11 + 3, none⟩ = some (.int .i64 (cvAt xs k).2.hi) ∧ w.cell? ⟨b, off + k * 11 + 4, none⟩ = some (cvAt xs k).1 ∧ w.cell? ⟨b, off + k * 11 + 5, none⟩ = some (.int .i64 (cvAt xs k).2.gas) ∧ w.cell? ⟨b, off + k * 11 + 6, none⟩ = some (.int .i64 (cvAt xs k).2.fixed) ∧ w.cell? ⟨b, off + k * 11 + 7, none⟩ = some (.int .i64 (cvAt xs k).2.inn) ∧ w.cell? ⟨b, off + k * 11 + 8, none⟩ = some (.int .i64 (cvAt xs k).2.out) ∧ w.cell? ⟨b, off + k * 11 + 9, none⟩ = some (.int .i64 (cvAt xs k).2.cut) ∧ w.cell? ⟨b, off + k * 11 + 10, none⟩ = some (.int .i64 (cvAt xs k).2.lack) := by
 obtain ⟨a', cap', he, hm, hc⟩ := h.els
 cases he
 obtain ⟨b, off, rfl, hlt, hx⟩ := hc h0
 exact ⟨b, off, rfl, hlt, fun k hk => ⟨hx k 0 _ hk rfl, hx k 1 _ hk rfl, hx k 2 _ hk rfl, hx k 3 _ hk rfl, hx k 4 _ hk rfl, hx k 5 _ hk rfl, hx k 6 _ hk rfl, hx k 7 _ hk rfl, hx k 8 _ hk rfl, hx k 9 _ hk rfl, hx k 10 _ hk rfl⟩⟩
def allOk (l : List CV) : Prop := ∀ k, k < l.length → (cvAt l k).2.ok = true
theorem sold_bd {l : List CV} (h : allOk l) (t : Int) : ∀ k, k ≤ l.length → (0 ≤ soldI l t k ∧ soldI l t k ≤ k * 100000000) ∧ (0 ≤ soldO l t k ∧ soldO l t k ≤ k * 100000000) ∧ (0 ≤ spacesTo l k ∧ spacesTo l k ≤ k * 100000000)
 | 0, _ => by simp [soldI, soldO, spacesTo]
 | k + 1, hk => by
  have ih := sold_bd h t k (by omega)
  have h1 := Con.ok_head (h k (by omega))
  have h2 := Con.ok_row (h k (by omega)) (k := 0) (by omega)
  have h3 := Con.ok_row (h k (by omega)) (k := (cvAt l k).2.rates.length - 1) (by omega)
  simp only [soldI, soldO, spacesTo]
  refine ⟨?_, ?_, by omega⟩
  · split <;> omega
  · split <;> omega
theorem bookActive (c : Con) (rv : Value) (h : Int) (w : World) (hr : RtsAt w rv c.rates) : Calls Tryz.prog 133 #[conV rv c, .int .i64 h] w (BoolB (activeB c h) w) := by
 obtain ⟨W, hW⟩ : ∃ W, w.alloc (conO rv c) = W := ⟨_, rfl⟩
 obtain ⟨e, bW, z⟩ := boxedB hW
 obtain ⟨c0, c1, c2, c3, -⟩ := row11 e
 have k := Lib.hid (bookIn h c.lo c.hi W)
 have hB := Lib.hid bW
 obtain ⟨ra, rcap, rfl, -, -⟩ := hr
 clear e bW
 go_enter Tryz.func133, Tryz.ntmps133
 go_wp2_with (go_at_call 25; (with_reducible refine Calls.mono k.out ?_); rintro e w' ⟨t, rfl, ht, rfl⟩)
 go_ret
 exact ⟨_, rfl, ht, hB.out⟩
theorem bookSpaces (l : List CV) (v : Value) (ok : allOk l) (hl : l.length ≤ 8) (w : World) (hc : ConsAt w v l) : Calls Tryz.prog 103 #[v] w fun e w' => e = .returned (.int .i64 (spacesTo l l.length)) ∧ Below w.heap.size w w' := by
 have hc0 := hc.els
 obtain ⟨a, cap, rfl, hm, -⟩ := hc0
 unfold maxLen at hm
 have hrow : Hid (0 < l.length → _) := Lib.hid (cons_row hc)
 have hg := grow_cell w
 have hrt := Lib.hid hc.rts
 clear hc
 go_enter Tryz.func103, Tryz.ntmps103
 go_wp2_with (fail)
 go_loopw [8, 3] (fun i s wr => ∃ k : Nat, k ≤ l.length ∧ i = .int .i64 k ∧ s = .int .i64 (spacesTo l k) ∧ ∃ g : Grow w, wr = g.x) (fun i _ _ => l.length - (intOf i).toNat)
 case atStart => exact ⟨0, by omega, rfl, rfl, Grow.self w, rfl⟩
 case round =>
  obtain ⟨k, hk, rfl, rfl, g, rfl⟩ := hrel
  by_cases hlt : k < l.length
  · obtain ⟨b, off, rfl, hbl, hx⟩ := hrow.out (by omega)
    obtain ⟨c0, c1, c2, c3, c4, c5, c6, c7, c8, c9, c10⟩ := hx k hlt
    obtain ⟨ra, rcap, hra, -, -⟩ := hrt.out k hlt
    rw [hra] at c4
    have hki : (0 : Int) ≤ (k : Int) ∧ (k : Int) < l.length := by omega
    have bd := (sold_bd ok 0 k hk).2.2
    have bd2 := (sold_bd ok 0 (k + 1) hlt).2.2
    have hs : Hid (spacesTo l (k + 1) = spacesTo l k + (cvAt l k).2.space) := rfl
    rw [hs.out] at bd2
    have hw : IntKind.i64.wrap (spacesTo l k + (cvAt l k).2.space) = spacesTo l k + (cvAt l k).2.space := IntWalk.i64_in _ (by omega)
    obtain ⟨g2, hg2⟩ := g.alloc (conO (.slice ra (cvAt l k).2.rates.length rcap) (cvAt l k).2)
    have hn := World.alloc_heap_new g.x (conO (.slice ra (cvAt l k).2.rates.length rcap) (cvAt l k).2)
    rw [hg2] at hn
    obtain ⟨n0, n1, -⟩ := row11 hn
    have zn := (zqo hn)
    clear hn hx bd bd2 hra
    go_wp2_with (fail)
    exact ⟨⟨k + 1, by omega, by go_num, by rw [hs.out], g2, rfl⟩, by simp [intOf]; omega⟩
  · obtain rfl : k = l.length := by omega
    go_wp2_with (fail)
    go_ret
    exact ⟨rfl, g.h⟩
end Go.Proofs.YtpcamocnlnlgiaaGreat.B
