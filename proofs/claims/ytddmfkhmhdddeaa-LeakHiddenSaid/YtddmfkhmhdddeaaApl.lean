/- Slices of one's own to which a whole slice is appended (append(xs, ys...)). -/
import Derived.Test.YtddmfkhmhdddeaaOwn
set_option linter.unusedVariables false
set_option linter.unusedSimpArgs false
namespace Go.Proofs.Ytddmfkhmhdddeaa
open Go.RowKit Go.Sd Lk

section
variable {α : Type} {enc : α → List Value} {m : Nat}
theorem fl_len (hm : ∀ x, (enc x).length = m) : ∀ xs : List α, (xs.flatMap enc).length = xs.length * m
  | [] => by simp
  | x :: xs => by rw [List.flatMap_cons, List.length_append, hm x, fl_len hm xs, List.length_cons, Nat.add_mul]; omega
theorem fl_at (hm : ∀ x, (enc x).length = m) (hm0 : 0 < m) (d : α) (xs : List α) {j : Nat} {u : Value} (h : (xs.flatMap enc)[j]? = some u) : ∃ k i, j = k * m + i ∧ k < xs.length ∧ i < m ∧ (enc (xs.getD k d))[i]? = some u := by
  have hj := (List.getElem?_eq_some_iff.1 h).1
  rw [fl_len hm] at hj
  have hk : j / m < xs.length := (Nat.div_lt_iff_lt_mul hm0).2 hj
  have hi : j % m < m := Nat.mod_lt _ hm0
  have e : j = j / m * m + j % m := by rw [Nat.mul_comm]; exact (Nat.div_add_mod j m).symm
  refine ⟨j / m, j % m, e, hk, hi, ?_⟩
  rw [← fl_get hm d xs (j / m) (j % m) hk hi, ← e]
  exact h
/-- 'xs = append(xs, ys...)', ys a slice of somebody else that is not empty. -/
theorem wpList_app_all (hm : ∀ x, (enc x).length = m) (dd : α) (T E : TypeId) (z : Value) (bytes : Nat) (hT : Try.prog.underlying T = some (.slice E)) (hinfo : (Try.prog.info? E).map (fun i => (i.zero, i.size, i.bytes)) = some (some z, m, bytes))
    (hzc : z.cells.size = m) (hm0 : 0 < m) (hby : bytes ≤ 1000) (hone : ∀ x, ∀ u ∈ enc x, u.oneCell' = true)
    {ops : Array Oper} {rest : List Oper} {o : Oper} {a : Act} {Q : Exit → Act → World → Prop} (hgd : o.guard = none) (s x : Operand)
    (ho : o.op = .call { callee := .builtin .append, args := #[s, x], argTypes := #[T, T] })
    (B : Nat) (w : World) (v : Value) (xs ys : List α) (hs : a.eval s = v) (hown : OwnSt E m enc B w v xs) (b off c : Nat) (hx : a.eval x = .slice (some ⟨b, off, none⟩) ys.length c)
    (hy : ∀ k i u, k < ys.length → (enc (ys.getD k dd))[i]? = some u → w.cell? ⟨b, off + k * m + i, none⟩ = some u)
    (hn : xs.length ≤ 1000000) (hn2 : ys.length ≤ 1000000) (hB : B ≤ w.heap.size)
    (h : ∀ v' w', OwnSt E m enc B w' v' (xs ++ ys) → w.grownBy w' v.ownBlock → (v'.ownBlock = v.ownBlock ∨ v'.ownBlock = some w.heap.size) → wpList Try.prog ops Q rest (a.put o.dst v') w') :
    wpList Try.prog ops Q (o :: rest) a w := by
  obtain ⟨i0, hi, hz0, hz1, hz2⟩ := info_parts hinfo
  refine wpList_append_own_at _ hgd s x T ho B E i0 _ m bytes hT hi hz0 hz1 hz2 hzc hm0 v xs.length _ hs hown ⟨b, off, none⟩ ys.length c (ys.flatMap enc) hx (fl_len hm ys) ?_ ?_ ?_ ?_ hB ?_
  · intro j u hj
    obtain ⟨k, i, rfl, hk, hi', hu⟩ := fl_at hm hm0 dd ys hj
    have e : ∀ n, (⟨b, off, none⟩ : Addr).add n = ⟨b, off + n, none⟩ := by
      intro n
      unfold Addr.add
      by_cases h0 : n = 0 <;> simp [h0]
    rw [e, ← Nat.add_assoc]
    exact hy k i u hk hu
  · intro u hu
    obtain ⟨y, -, hy'⟩ := List.mem_flatMap.1 hu
    exact hone y u hy'
  · unfold maxLen; omega
  · have : (xs.length + ys.length) * bytes ≤ 2000000 * 1000 := Nat.mul_le_mul (by omega) hby
    omega
  · intro v' w' h1 h2 h3 h4
    refine h v' w' ?_ h2 h4
    unfold OwnSt
    rw [List.length_append, List.flatMap_append]
    exact h1
end
end Go.Proofs.Ytddmfkhmhdddeaa
