/- Readings of somebody else are copied into a slice of one's own, and one more is appended: in a region that draws its order, too. -/
import Derived.Test.YtddmfkhmhdddeaaApl
set_option linter.unusedVariables false
set_option linter.unusedSimpArgs false
namespace Go.Proofs.Ytddmfkhmhdddeaa
open Go.RowKit Go.Sd Lk

theorem add_off (b off n : Nat) : (⟨b, off, none⟩ : Addr).add n = ⟨b, off + n, none⟩ := by
  unfold Addr.add
  by_cases h0 : n = 0 <;> simp [h0]
theorem run_app_rds (base : Nat) (ty : TypeId) (w : World) (rv : Value) (L : List Rd) (hr : RdsAt w rv L) (hn : L.length * 32 ≤ 140737488351232) (hb : base ≤ w.heap.size) :
    ∃ v' w', (Builtin.append_ #[24, 24] ty #[.slice none 0 0, rv]).run Try.prog w = .ok v' w' ∧ OwnRds base w' v' L ∧ w.grownBy w' none ∧ (v'.ownBlock = none ∨ v'.ownBlock = some w.heap.size) := by
  obtain ⟨a, cap, rfl, hmx, hc⟩ := hr
  obtain ⟨i0, hi, hz0, hz1, hz2⟩ := info_parts infoRd
  by_cases h0 : 0 < L.length
  · obtain ⟨b, off, rfl, hlt, hcell⟩ := hc h0
    obtain ⟨v', w', hrun, hown, hg, -, hat⟩ := run_append_own_at (P := Try.prog) w base 24 ty 57 i0 _ 4 32 Try.underlying24 hi hz0 hz1 hz2 rfl (by decide)
      (.slice none 0 0) 0 [] (World.ownsRow_nil w base _ 4) ⟨b, off, none⟩ L.length cap (L.flatMap rdEnc) (fl_len rdEnc_len L) (fun j u hj => by
        obtain ⟨k, i, rfl, hk, hi', hu⟩ := fl_at rdEnc_len (by decide) ⟨0, 0, ⟨0, 0⟩⟩ L hj
        rw [add_off, ← Nat.add_assoc]
        exact hcell k i u hk hu) (fun u hu => by
        obtain ⟨y, -, hy'⟩ := List.mem_flatMap.1 hu
        exact rdEnc_one y u hy') (by unfold maxLen; omega) (by omega) hb
    refine ⟨v', w', hrun, ?_, hg, hat⟩
    unfold OwnRds OwnSt
    simpa using hown
  · have hl : L = [] := List.eq_nil_of_length_eq_zero (by omega)
    subst hl
    refine ⟨.slice none 0 0, w, ?_, World.ownsRow_nil w base _ 4, ⟨rfl, rfl, rfl, Nat.le_refl _, fun _ _ _ => rfl⟩, .inl rfl⟩
    cases a <;> simp [Builtin.append_, run_underlying Try.underlying24, sizeOf, typeInfo, hi, Builtin.lenOf, Builtin.firstCells, loadCells, loadCellsFrom]
theorem run_app_rd (base : Nat) (ty : TypeId) (w : World) (v : Value) (L : List Rd) (y : Rd) (vb : Nat) (hown : OwnRds base w v L) (hn : L.length * 32 ≤ 140737488351232) (hb : base ≤ w.heap.size) (hy : w.heap[vb]? = some (.cells (rdEnc y).toArray 57)) :
    ∃ v' w', (Builtin.append_ #[24, 24] ty #[v, .slice (some ⟨vb, 0, none⟩) 1 1]).run Try.prog w = .ok v' w' ∧ OwnRds base w' v' (L ++ [y]) ∧ w.grownBy w' v.ownBlock ∧ (v'.ownBlock = v.ownBlock ∨ v'.ownBlock = some w.heap.size) := by
  obtain ⟨i0, hi, hz0, hz1, hz2⟩ := info_parts infoRd
  obtain ⟨v', w', hrun, hown', hg, -, hat⟩ := run_append_own_at (P := Try.prog) w base 24 ty 57 i0 _ 4 32 Try.underlying24 hi hz0 hz1 hz2 rfl (by decide)
    v L.length _ hown ⟨vb, 0, none⟩ 1 1 (rdEnc y) rfl (World.news_of_block (cs := (rdEnc y).toArray) (t := 57) (fr := (0, 0)) hy) (rdEnc_one y) (by unfold maxLen; omega) (by omega) hb
  refine ⟨v', w', hrun, ?_, hg, hat⟩
  unfold OwnRds OwnSt
  rw [List.length_append, List.flatMap_append]
  simpa using hown'

section
variable {ops : Array Oper} {o : Oper} {a : Act} {K : Act → World → Prop} {Q : Exit → Act → World → Prop} {E : Prop}
theorem step_app_rds (hgd : o.guard = none) (s x : Operand) (ho : o.op = .call { callee := .builtin .append, args := #[s, x], argTypes := #[24, 24] })
    (base : Nat) (w : World) (rv : Value) (L : List Rd) (hs : a.eval s = .slice none 0 0) (hx : a.eval x = rv) (hr : RdsAt w rv L) (hn : L.length * 32 ≤ 140737488351232) (hb : base ≤ w.heap.size)
    (h : ∀ v' w', OwnRds base w' v' L → w.grownBy w' none → (v'.ownBlock = none ∨ v'.ownBlock = some w.heap.size) → K (a.put o.dst v') w') :
    if Region.wanted o (yielded ops a.tmps) = true then Oper.wp Try.prog o a w K Q else E := by
  have hw : Region.wanted o (yielded ops a.tmps) = true := by simp [Region.wanted, hgd]
  rw [if_pos hw]
  obtain ⟨v', w', hrun, h2, h3, h4⟩ := run_app_rds base o.type w rv L hr hn hb
  unfold Oper.wp execOp
  simp only [ho, resolve, invoke, builtin, Sem.run_bind, Sem.run_pure, Result.andThen_ok, List.map_toArray, List.map_cons, List.map_nil, hs, hx, hrun]
  exact h v' w' h2 h3 h4
theorem step_app_rd (hgd : o.guard = none) (s x : Operand) (ho : o.op = .call { callee := .builtin .append, args := #[s, x], argTypes := #[24, 24] })
    (base : Nat) (w : World) (v : Value) (L : List Rd) (y : Rd) (vb : Nat) (hs : a.eval s = v) (hx : a.eval x = .slice (some ⟨vb, 0, none⟩) 1 1) (hown : OwnRds base w v L) (hn : L.length * 32 ≤ 140737488351232) (hb : base ≤ w.heap.size) (hy : w.heap[vb]? = some (.cells (rdEnc y).toArray 57))
    (h : ∀ v' w', OwnRds base w' v' (L ++ [y]) → w.grownBy w' v.ownBlock → (v'.ownBlock = v.ownBlock ∨ v'.ownBlock = some w.heap.size) → K (a.put o.dst v') w') :
    if Region.wanted o (yielded ops a.tmps) = true then Oper.wp Try.prog o a w K Q else E := by
  have hw : Region.wanted o (yielded ops a.tmps) = true := by simp [Region.wanted, hgd]
  rw [if_pos hw]
  obtain ⟨v', w', hrun, h2, h3, h4⟩ := run_app_rd base o.type w v L y vb hown hn hb hy
  unfold Oper.wp execOp
  simp only [ho, resolve, invoke, builtin, Sem.run_bind, Sem.run_pure, Result.andThen_ok, List.map_toArray, List.map_cons, List.map_nil, hs, hx, hrun]
  exact h v' w' h2 h3 h4
theorem wpList_app_rds {rest : List Oper} (hgd : o.guard = none) (s x : Operand) (ho : o.op = .call { callee := .builtin .append, args := #[s, x], argTypes := #[24, 24] })
    (base : Nat) (w : World) (rv : Value) (L : List Rd) (hs : a.eval s = .slice none 0 0) (hx : a.eval x = rv) (hr : RdsAt w rv L) (hn : L.length * 32 ≤ 140737488351232) (hb : base ≤ w.heap.size)
    (h : ∀ v' w', OwnRds base w' v' L → w.grownBy w' none → (v'.ownBlock = none ∨ v'.ownBlock = some w.heap.size) → wpList Try.prog ops Q rest (a.put o.dst v') w') :
    wpList Try.prog ops Q (o :: rest) a w := by
  refine wpList_plain hgd fun K hK => ?_
  obtain ⟨v', w', hrun, h2, h3, h4⟩ := run_app_rds base o.type w rv L hr hn hb
  unfold Oper.wp execOp
  simp only [ho, resolve, invoke, builtin, Sem.run_bind, Sem.run_pure, Result.andThen_ok, List.map_toArray, List.map_cons, List.map_nil, hs, hx, hrun]
  exact hK _ _ (h v' w' h2 h3 h4)
theorem wpList_app_rd {rest : List Oper} (hgd : o.guard = none) (s x : Operand) (ho : o.op = .call { callee := .builtin .append, args := #[s, x], argTypes := #[24, 24] })
    (base : Nat) (w : World) (v : Value) (L : List Rd) (y : Rd) (vb : Nat) (hs : a.eval s = v) (hx : a.eval x = .slice (some ⟨vb, 0, none⟩) 1 1) (hown : OwnRds base w v L) (hn : L.length * 32 ≤ 140737488351232) (hb : base ≤ w.heap.size) (hy : w.heap[vb]? = some (.cells (rdEnc y).toArray 57))
    (h : ∀ v' w', OwnRds base w' v' (L ++ [y]) → w.grownBy w' v.ownBlock → (v'.ownBlock = v.ownBlock ∨ v'.ownBlock = some w.heap.size) → wpList Try.prog ops Q rest (a.put o.dst v') w') :
    wpList Try.prog ops Q (o :: rest) a w := by
  refine wpList_plain hgd fun K hK => ?_
  obtain ⟨v', w', hrun, h2, h3, h4⟩ := run_app_rd base o.type w v L y vb hown hn hb hy
  unfold Oper.wp execOp
  simp only [ho, resolve, invoke, builtin, Sem.run_bind, Sem.run_pure, Result.andThen_ok, List.map_toArray, List.map_cons, List.map_nil, hs, hx, hrun]
  exact hK _ _ (h v' w' h2 h3 h4)
end
end Go.Proofs.Ytddmfkhmhdddeaa
