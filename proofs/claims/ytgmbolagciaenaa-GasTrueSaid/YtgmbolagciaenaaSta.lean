/- Gas: lists of states appended to one's own; sub-slices of operations; steps in two parts. -/
import Derived.Test.YtgmbolagciaenaaStm
import Derived.Test.YtgmbolagciaenaaGln
set_option linter.unusedVariables false
set_option linter.unusedSimpArgs false
namespace Gas
/-- Steps told in two parts. -/
theorem stepsFrom_split (c : Cav) : ∀ (l : List Op) (s : St) (acc : List St) (k f : Nat), f ≤ l.length →
    ∃ (r : List St) (n : Int), stepsFrom c (l.take f) s acc k = (acc ++ r, n) ∧ ((0 ≤ n ∧ stepsFrom c l s acc k = (acc ++ r, n)) ∨
      (n = -1 ∧ r.length = f ∧ stepsFrom c l s acc k = stepsFrom c (l.drop f) (r.getLastD s) (acc ++ r) (k + f)))
  | l, s, acc, k, 0, _ => ⟨[], -1, by simp [stepsFrom], .inr ⟨rfl, rfl, by simp⟩⟩
  | [], s, acc, k, f + 1, h => by simp at h
  | o :: l, s, acc, k, f + 1, h => by
    simp only [List.take_succ_cons, List.drop_succ_cons, stepsFrom]
    cases ha : act c s o with
    | none => exact ⟨[], (k : Int), by simp, .inl ⟨by omega, by simp⟩⟩
    | some x =>
      obtain ⟨y, q⟩ := x
      obtain ⟨r, n, h1, h2⟩ := stepsFrom_split c l y (acc ++ [y]) (k + 1) f (by simpa using h)
      refine ⟨y :: r, n, by simpa using h1, ?_⟩
      rcases h2 with ⟨h2, h3⟩ | ⟨h2, h3, h4⟩
      · exact .inl ⟨h2, by simpa using h3⟩
      · refine .inr ⟨h2, by simpa using h3, ?_⟩
        have e : (y :: r).getLastD s = r.getLastD y := by rw [List.getLastD_cons]
        rw [e]
        simpa [Nat.add_assoc, Nat.add_comm 1 f] using h4
theorem stepsFrom_shift (c : Cav) : ∀ (l : List Op) (s : St) (acc : List St) (k : Nat), ∃ (r : List St) (n : Int), stepsFrom c l s [] 0 = (r, n) ∧ r.length ≤ l.length ∧ ((n = -1 ∧ stepsFrom c l s acc k = (acc ++ r, -1)) ∨ (0 ≤ n ∧ n < l.length ∧ stepsFrom c l s acc k = (acc ++ r, k + n)))
  | [], s, acc, k => ⟨[], -1, rfl, by simp, .inl ⟨rfl, by simp [stepsFrom]⟩⟩
  | o :: l, s, acc, k => by
    simp only [stepsFrom]
    cases ha : act c s o with
    | none => exact ⟨[], 0, rfl, by simp, .inr ⟨by omega, by simp, by simp⟩⟩
    | some x =>
      obtain ⟨y, q⟩ := x
      obtain ⟨r, n, h1, h0, h2⟩ := stepsFrom_shift c l y (acc ++ [y]) (k + 1)
      obtain ⟨r', n', h1', h0', h2'⟩ := stepsFrom_shift c l y [y] 1
      have : (r, n) = (r', n') := h1.symm.trans h1'
      simp only [Prod.mk.injEq] at this
      obtain ⟨rfl, rfl⟩ := this
      rcases h2 with ⟨h2, h3⟩ | ⟨h2, h2b, h3⟩
      · rcases h2' with ⟨-, h3'⟩ | ⟨h4, -, -⟩
        · exact ⟨y :: r, -1, by simpa using h3', by simpa using h0, .inl ⟨rfl, by simpa using h3⟩⟩
        · omega
      · rcases h2' with ⟨h4, -⟩ | ⟨-, -, h3'⟩
        · omega
        · refine ⟨y :: r, n + 1, ?_, by simpa using h0, .inr ⟨by omega, by simp; omega, ?_⟩⟩
          · simp only [List.nil_append]; rw [h3']; simp; omega
          · simp only [h3]; simp; omega
/-- What the law asks of steps in two parts. -/
theorem steps_parts (c : Cav) (l : List Op) (s : St) (f : Nat) (hf : f ≤ l.length) : ∃ (r : List St) (n : Int), steps c s (l.take f) = (r, n) ∧ ((0 ≤ n ∧ steps c s l = (r, n)) ∨
      (n = -1 ∧ r.length = f ∧ ∃ (q : List St) (m : Int), steps c (r.getLastD s) (l.drop f) = (q, m) ∧ q.length ≤ l.length ∧ ((m = -1 ∧ steps c s l = (r ++ q, -1)) ∨ (0 ≤ m ∧ m ≤ l.length ∧ steps c s l = (r ++ q, f + m))))) := by
  obtain ⟨r, n, h1, h2⟩ := stepsFrom_split c l s [] 0 f hf
  simp only [List.nil_append, Nat.zero_add] at h1 h2
  refine ⟨r, n, h1, ?_⟩
  rcases h2 with h2 | ⟨h2, h3, h4⟩
  · exact .inl h2
  · refine .inr ⟨h2, h3, ?_⟩
    obtain ⟨q, m, h5, h6, h7⟩ := stepsFrom_shift c (l.drop f) (r.getLastD s) r f
    rw [List.length_drop] at h6 h7
    refine ⟨q, m, h5, by omega, ?_⟩
    rcases h7 with ⟨h7, h8⟩ | ⟨h7, h7b, h8⟩
    · exact .inl ⟨h7, h4.trans h8⟩
    · exact .inr ⟨h7, by omega, h4.trans h8⟩
theorem last_at {r : List St} {s : St} {f : Nat} (h : r.length = f) (h0 : 0 < f) : r.getLastD s = theSt r (f - 1) := by
  cases r with
  | nil => simp at h; omega
  | cons x r =>
    simp only [List.getLastD_cons, theSt]
    subst h
    rw [List.getLastD_eq_getLast?, List.getD_eq_getElem?_getD]
    simp [List.getLast?_eq_getElem?]
    cases r with
    | nil => simp
    | cons y r => simp
theorem stepsFrom_ok {c : Cav} (hc : c.Ok) : ∀ (l : List Op) (s : St) (acc : List St) (k : Nat) {r : List St} {n : Int}, stepsFrom c l s acc k = (r, n) → s.Ok → opsB l = true → (∀ x ∈ acc, x.Ok) → ∀ x ∈ r, x.Ok
  | [], s, acc, k, r, n, h, hs, ho, ha => by
    simp only [stepsFrom, Prod.mk.injEq] at h
    rw [← h.1]; exact ha
  | o :: l, s, acc, k, r, n, h, hs, ho, ha => by
    simp only [stepsFrom] at h
    have ho' : o.ok = true ∧ opsB l = true := by simpa [opsB] using ho
    cases hx : act c s o with
    | none =>
      rw [hx] at h
      simp only [Prod.mk.injEq] at h
      rw [← h.1]; exact ha
    | some y =>
      obtain ⟨y, q⟩ := y
      rw [hx] at h
      have hy := act_ok hc hs (Op.ok_is ho'.1) hx
      refine stepsFrom_ok hc l y _ _ h hy ho'.2 fun x hm => ?_
      rcases List.mem_append.1 hm with hm | hm
      · exact ha x hm
      · obtain rfl : x = y := by simpa using hm
        exact hy
theorem steps_lastOk {c : Cav} {l : List Op} {s : St} {r : List St} {n : Int} (h : steps c s l = (r, n)) (hc : c.Ok) (hs : s.Ok) (ho : opsB l = true) : (r.getLastD s).Ok := by
  have := stepsFrom_ok hc l s [] 0 h hs ho (fun x hx => by cases hx)
  cases r with
  | nil => simpa using hs
  | cons x r =>
    refine this _ ?_
    rw [List.getLastD_cons, List.getLastD_eq_getLast?]
    cases hr : r.getLast? with
    | none => simp
    | some y =>
      simp only [Option.getD_some]
      exact List.mem_cons_of_mem _ (List.mem_of_getLast? hr)
end Gas
namespace Go.Proofs.Ytgmbolagciaenaa
open Go.RowKit Go.Sd Gas
/-- A slice as Go makes them: no longer than its capacity. -/
def Fits (v : Value) : Prop := ∃ a n c, v = .slice a n c ∧ n ≤ c ∧ c ≤ maxLen
section
variable {α : Type} {enc : α → List Value} {m : Nat}
theorem fl_len (hm : ∀ x, (enc x).length = m) : ∀ xs : List α, (xs.flatMap enc).length = xs.length * m
  | [] => by simp
  | x :: xs => by simp [fl_len hm xs, hm x]; rw [Nat.add_mul]; omega
end
theorem sts_cells {w : World} {b off : Nat} {ys : List St} (h : ∀ k, k < ys.length → StCells w b (off + k * 8) (theSt ys k)) : ∀ j u, (ys.flatMap stEnc)[j]? = some u → w.cell? ((⟨b, off, none⟩ : Addr).add j) = some u := by
  intro j u hj
  have hlt : j < ys.length * 8 := by
    have := (List.getElem?_eq_some_iff.1 hj).1
    rw [fl_len stEnc_len] at this; exact this
  obtain ⟨k, i, hi, rfl⟩ : ∃ k i, i < 8 ∧ j = k * 8 + i := ⟨j / 8, j % 8, by omega, by omega⟩
  have hk : k < ys.length := by omega
  rw [fl_get stEnc_len ⟨0, 0, 0, 0, 0, 0, 0, 0⟩ ys k i hk hi] at hj
  obtain ⟨h0, h1, h2, h3, h4, h5, h6, h7⟩ := h k hk
  have e : (⟨b, off, none⟩ : Addr).add (k * 8 + i) = ⟨b, off + k * 8 + i, none⟩ := by simp [Addr.add, Nat.add_assoc]
  rw [e]
  change (stEnc (theSt ys k))[i]? = some u at hj
  match i, hi with
  | 0, _ => exact h0.trans hj
  | 1, _ => exact h1.trans hj
  | 2, _ => exact h2.trans hj
  | 3, _ => exact h3.trans hj
  | 4, _ => exact h4.trans hj
  | 5, _ => exact h5.trans hj
  | 6, _ => exact h6.trans hj
  | 7, _ => exact h7.trans hj

/-- 'append(xs, ys...)', xs one's own. -/
theorem wpList_app_sts {ops : Array Oper} {rest : List Oper} {o : Oper} {a : Act} {Q : Exit → Act → World → Prop} (hgd : o.guard = none) (s x : Operand)
    (ho : o.op = .call { callee := .builtin .append, args := #[s, x], argTypes := #[60, 60] })
    (B : Nat) (w : World) (v y : Value) (xs ys : List St) (hs : a.eval s = v) (hown : OwnSts B w v xs) (hx : a.eval x = y) (hy : StsAt w y ys)
    (hn : xs.length + ys.length ≤ 1000000) (hB : B ≤ w.heap.size)
    (h : ∀ v' w', OwnSts B w' v' (xs ++ ys) → w.grownBy w' v.ownBlock → wpList Try.prog ops Q rest (a.put o.dst v') w') :
    wpList Try.prog ops Q (o :: rest) a w := by
  obtain ⟨i0, hi, hz0, hz1, hz2⟩ := info_parts infoSt
  obtain ⟨ao, cap, rfl, hm, hc⟩ := hy
  have fin : ∀ v' w', w'.ownsRow B 28 8 v' (xs.length + ys.length) (xs.flatMap stEnc ++ ys.flatMap stEnc) → OwnSts B w' v' (xs ++ ys) := fun v' w' h1 => by
    unfold OwnSts OwnSt
    rw [List.length_append, List.flatMap_append]
    exact h1
  by_cases hy0 : 0 < ys.length
  · obtain ⟨b, off, rfl, hlt, hk⟩ := hc hy0
    refine wpList_append_own_at _ hgd s x 60 ho B 28 i0 _ 8 64 Try.underlying60 hi hz0 hz1 hz2 rfl (by decide) v xs.length _ hs hown ⟨b, off, none⟩ ys.length cap (ys.flatMap stEnc) hx (fl_len stEnc_len ys) (sts_cells hk) ?_ ?_ ?_ hB ?_
    · intro u hu
      obtain ⟨z, _, hz⟩ := List.mem_flatMap.1 hu
      exact stEnc_one z u hz
    · unfold maxLen; omega
    · omega
    · intro v' w' h1 h2 h3 h4
      exact h v' w' (fin v' w' h1) h2
  · have hy1 : ys = [] := List.eq_nil_of_length_eq_zero (by omega)
    subst hy1
    cases ao with
    | some ad =>
      refine wpList_append_own_at _ hgd s x 60 ho B 28 i0 _ 8 64 Try.underlying60 hi hz0 hz1 hz2 rfl (by decide) v xs.length _ hs hown ad 0 cap [] hx rfl (fun j u hj => by simp at hj) (fun u hu => by cases hu) ?_ ?_ hB ?_
      · unfold maxLen; simp at hn; omega
      · simp at hn; omega
      · intro v' w' h1 h2 h3 h4
        exact h v' w' (fin v' w' (by simpa using h1)) h2
    | none =>
      refine wpList_plain hgd fun K hK => ?_
      have hrun : (Builtin.append_ #[60, 60] o.type #[v, .slice none 0 cap]).run Try.prog w = .ok v w := by
        rcases hown.2 with ⟨rfl, h0⟩ | ⟨g, cp, cur, rfl, _, _, hnc, _⟩
        · simp [Builtin.append_, run_underlying Try.underlying60, sizeOf, typeInfo, hi, Builtin.lenOf, Builtin.firstCells]
        · simp [Builtin.append_, run_underlying Try.underlying60, sizeOf, typeInfo, hi, Builtin.lenOf, Builtin.firstCells, hnc, storeCells]
      have hx' : a.eval x = .slice none 0 cap := hx
      unfold Oper.wp execOp
      simp only [ho, resolve, invoke, builtin, Sem.run_bind, Sem.run_pure, Result.andThen_ok, List.map_toArray, List.map_cons, List.map_nil, hs, hx', hrun]
      exact hK _ _ (h v w (by simpa using hown) (World.grownBy.refl _ _))
end Go.Proofs.Ytgmbolagciaenaa
