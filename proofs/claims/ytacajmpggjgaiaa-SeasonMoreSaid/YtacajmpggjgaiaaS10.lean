/- Walks: a wider season. -/
import Derived.Test.YtacajmpggjgaiaaS8
import Derived.Test.YtacajmpggjgaiaaMor
import Derived.WalkLawsBesides
set_option linter.unusedVariables false
set_option linter.unusedSimpArgs false
namespace Go.Proofs.Ytacajmpggjgaiaa
open Go.RowKit Go.Sd

section
variable {α : Type} {enc : α → List Value} {m : Nat}
theorem fl_len (hm : ∀ x, (enc x).length = m) : ∀ xs : List α, (xs.flatMap enc).length = xs.length * m
  | [] => by simp
  | x :: xs => by simp [fl_len hm xs, hm x]; rw [Nat.add_mul]; omega
theorem fl_get (hm : ∀ x, (enc x).length = m) (d : α) : ∀ (xs : List α) (k i : Nat), k < xs.length → i < m → (xs.flatMap enc)[k * m + i]? = (enc (xs.getD k d))[i]?
  | [], k, i, h, _ => by simp at h
  | x :: xs, 0, i, _, hi => by
    rw [List.flatMap_cons, List.getElem?_append_left (by rw [hm x]; omega)]
    simp
  | x :: xs, k + 1, i, h, hi => by
    have ih := fl_get hm d xs k i (by simpa using h) hi
    rw [List.flatMap_cons, List.getElem?_append_right (by rw [hm x, Nat.add_mul]; omega), hm x, show (k + 1) * m + i - m = k * m + i by rw [Nat.add_mul]; omega, ih]
    simp

/-- A slice of structs of one's own. -/
def OwnSt (E : TypeId) (m : Nat) (enc : α → List Value) (B : Nat) (w : World) (v : Value) (xs : List α) : Prop := w.ownsRow B E m v xs.length (xs.flatMap enc)
theorem OwnSt.nil (E : TypeId) (m : Nat) (enc : α → List Value) (B : Nat) (w : World) : OwnSt E m enc B w (.slice none 0 0) [] := World.ownsRow_nil w B _ m
theorem OwnSt.kept {E : TypeId} {B : Nat} {w w' : World} {row : Option Nat} {v : Value} {xs : List α} (h : OwnSt E m enc B w v xs) (hg : w.grownBy w' row) (hne : v.ownBlock = none ∨ v.ownBlock ≠ row) : OwnSt E m enc B w' v xs := World.ownsRow.kept h hg hne
theorem OwnSt.mono {E : TypeId} {B : Nat} {w w' : World} {v : Value} {xs : List α} (h : OwnSt E m enc B w v xs) (hb : Below w.heap.size w w') : OwnSt E m enc B w' v xs := h.kept (grown_of_below hb) (by cases v.ownBlock <;> simp)
theorem OwnSt.lt {E : TypeId} {B : Nat} {w : World} {v : Value} {xs : List α} (h : OwnSt E m enc B w v xs) : ∀ k, v.ownBlock = some k → B ≤ k ∧ k < w.heap.size := World.ownsRow.lt h
theorem OwnSt.cellset {E : TypeId} {B : Nat} {w : World} {v : Value} {xs : List α} (h : OwnSt E m enc B w v xs) {p : Addr} (hp : p.block < B) (u : Value) : OwnSt E m enc B (w.setCell p u) v xs :=
  h.kept (row := some p.block) ⟨rfl, rfl, rfl, by simp [World.setCell], fun k _ hk => Below.heap_setCell _ _ _ _ (fun e => hk (by rw [e]))⟩ (.inr fun e => by have := (h.lt _ e).1; omega)
theorem OwnSt.slice {E : TypeId} {B : Nat} {w : World} {v : Value} {xs : List α} (h : OwnSt E m enc B w v xs) : ∃ a cap, v = .slice a xs.length cap := by
  obtain ⟨_, h2⟩ := h
  rcases h2 with ⟨rfl, h0⟩ | ⟨g, cap, cur, rfl, _⟩
  · exact ⟨none, 0, by rw [h0]⟩
  · exact ⟨_, cap, rfl⟩
theorem OwnSt.cells {E : TypeId} {B : Nat} {w : World} {v : Value} {xs : List α} (hm : ∀ x, (enc x).length = m) (d : α) (h : OwnSt E m enc B w v xs) : ∃ a cap, v = .slice a xs.length cap ∧ xs.length ≤ maxLen ∧
    (0 < xs.length → ∃ b, a = some ⟨b, 0, none⟩ ∧ b < w.heap.size ∧ ∀ k i, k < xs.length → i < m → w.cell? ⟨b, k * m + i, none⟩ = (enc (xs.getD k d))[i]?) := by
  have h0 := h
  obtain ⟨_, h2⟩ := h
  rcases h2 with ⟨rfl, hn⟩ | ⟨g, cap, cur, rfl, hB, hg, hn, hmx, hs, ht⟩
  · exact ⟨none, 0, by rw [hn], by simp [hn], fun h => by omega⟩
  · refine ⟨_, cap, rfl, by omega, fun hp => ⟨g, rfl, (Array.getElem?_eq_some_iff.1 hg).1, fun k i hk hi => ?_⟩⟩
    have hlt : k * m + i < xs.length * m := by
      have : (k + 1) * m ≤ xs.length * m := Nat.mul_le_mul_right m (by omega)
      rw [Nat.add_mul] at this; omega
    rw [h0.cellAt (k * m + i) hlt, fl_get hm d xs k i hk hi]

/-- 'xs = append(xs, y)', y a struct. -/
theorem wpList_app_st (hm : ∀ x, (enc x).length = m) (T E : TypeId) (z : Value) (bytes : Nat) (hT : Try.prog.underlying T = some (.slice E)) (hinfo : (Try.prog.info? E).map (fun i => (i.zero, i.size, i.bytes)) = some (some z, m, bytes))
    (hzc : z.cells.size = m) (hm0 : 0 < m) (hby : bytes ≤ 1000) (hone : ∀ x, ∀ u ∈ enc x, u.oneCell' = true)
    {ops : Array Oper} {rest : List Oper} {o : Oper} {a : Act} {Q : Exit → Act → World → Prop} (hgd : o.guard = none) (s x : Operand)
    (ho : o.op = .call { callee := .builtin .append, args := #[s, x], argTypes := #[T, T] })
    (B : Nat) (w : World) (v : Value) (xs : List α) (y : α) (hs : a.eval s = v) (hown : OwnSt E m enc B w v xs) (hx : a.eval x = .slice (some ⟨w.heap.size, 0, none⟩) 1 1)
    (hn : xs.length ≤ 1000000) (hB : B ≤ w.heap.size)
    (h : ∀ v' w', OwnSt E m enc B w' v' (xs ++ [y]) → w.grownBy w' v.ownBlock → (v'.ownBlock = v.ownBlock ∨ ∃ k, v'.ownBlock = some k ∧ w.heap.size ≤ k) → wpList Try.prog ops Q rest (a.put o.dst v') w') :
    wpList Try.prog ops Q (o :: rest) a (w.alloc (.cells (enc y).toArray E)) := by
  obtain ⟨i0, hi, hz0, hz1, hz2⟩ := info_parts hinfo
  have hnw := World.alloc_heap_new w (.cells (enc y).toArray E)
  refine wpList_append_own_at _ hgd s x T ho B E i0 _ m bytes hT hi hz0 hz1 hz2 hzc hm0 v xs.length _ hs (World.ownsRow.alloc hown _) ⟨w.heap.size, 0, none⟩ 1 1 (enc y) hx (by rw [hm y]; omega) ?_ (hone y) ?_ ?_ ?_ ?_
  · exact World.news_of_block (cs := (enc y).toArray) (t := E) (fr := (0, 0)) hnw
  · unfold maxLen; omega
  · have : (xs.length + 1) * bytes ≤ 1000001 * 1000 := Nat.mul_le_mul (by omega) hby
    omega
  · simp; omega
  · intro v' w' h1 h2 h3 h4
    refine h v' w' ?_ (grownBy_trans (World.grownBy_alloc w _ _) h2) ?_
    · unfold OwnSt
      rw [List.length_append, List.flatMap_append]
      simpa using h1
    · rcases h4 with h4 | h4
      · exact .inl h4
      · exact .inr ⟨_, h4, by simp⟩
end

abbrev rowEnc (r : Sea.Row) : List Value := [.int .i64 r.fill, .int .i64 r.inn, .int .i64 r.out]
abbrev dayEnc (d : Sea.Day) : List Value := [.int .i64 d.buy, .int .i64 d.sell, .int .i64 d.offer, .int .i64 d.take, .int .i64 d.glo, .int .i64 d.ghi, .int .i64 d.nlo, .int .i64 d.nhi]
theorem rowEnc_len (x : Sea.Row) : (rowEnc x).length = 3 := rfl
theorem dayEnc_len (x : Sea.Day) : (dayEnc x).length = 8 := rfl
theorem rowEnc_one (x : Sea.Row) : ∀ u ∈ rowEnc x, u.oneCell' = true := by simp [rowEnc, Value.oneCell']
theorem dayEnc_one (x : Sea.Day) : ∀ u ∈ dayEnc x, u.oneCell' = true := by simp [dayEnc, Value.oneCell']
theorem infoSRow : (Try.prog.info? 65).map (fun i => (i.zero, i.size, i.bytes)) = some (some (.agg #[.int .i64 0, .int .i64 0, .int .i64 0]), 3, 24) := by kernel_rfl
theorem infoSDay : (Try.prog.info? 82).map (fun i => (i.zero, i.size, i.bytes)) = some (some (.agg #[.int .i64 0, .int .i64 0, .int .i64 0, .int .i64 0, .int .i64 0, .int .i64 0, .int .i64 0, .int .i64 0]), 8, 64) := by kernel_rfl

theorem own_rows {B : Nat} {w : World} {v : Value} {xs : List Sea.Row} (h : OwnSt 65 3 rowEnc B w v xs) : RowsAt w v xs := by
  obtain ⟨a, cap, rfl, hm, hk⟩ := h.cells rowEnc_len ⟨0, 0, 0⟩
  refine ⟨a, cap, rfl, hm, fun hp => ?_⟩
  obtain ⟨b, rfl, hlt, hc⟩ := hk hp
  refine ⟨b, 0, rfl, hlt, fun k hk => ?_⟩
  simp only [Nat.zero_add]
  exact ⟨hc k 0 hk (by omega), hc k 1 hk (by omega), hc k 2 hk (by omega)⟩
theorem own_days {B : Nat} {w : World} {v : Value} {xs : List Sea.Day} (h : OwnSt 82 8 dayEnc B w v xs) : DaysAt w v xs := by
  obtain ⟨a, cap, rfl, hm, hk⟩ := h.cells dayEnc_len ⟨0, 0, 0, 0, 0, 0, 0, 0⟩
  refine ⟨a, cap, rfl, hm, fun hp => ?_⟩
  obtain ⟨b, rfl, hlt, hc⟩ := hk hp
  refine ⟨b, 0, rfl, hlt, fun k hk => ?_⟩
  simp only [Nat.zero_add]
  exact ⟨hc k 0 hk (by omega), hc k 1 hk (by omega), hc k 2 hk (by omega), hc k 3 hk (by omega), hc k 4 hk (by omega), hc k 5 hk (by omega), hc k 6 hk (by omega), hc k 7 hk (by omega)⟩

theorem OwnSt.cellne {α : Type} {enc : α → List Value} {m : Nat} {E : TypeId} {B : Nat} {w : World} {v : Value} {xs : List α} (h : OwnSt E m enc B w v xs) {p : Addr} (hp : v.ownBlock ≠ some p.block) (u : Value) : OwnSt E m enc B (w.setCell p u) v xs :=
  h.kept (row := some p.block) ⟨rfl, rfl, rfl, by simp [World.setCell], fun k _ hk => Below.heap_setCell _ _ _ _ (fun e => hk (by rw [e]))⟩ (.inr hp)
theorem set64 {w : World} {n : Nat} {a b c d e f : Value} {t : TypeId} (h : w.heap[n]? = some (.cells #[a, b, c, d, e, f] t)) (v : Value) : (w.setCell ⟨n, 4, none⟩ v).heap[n]? = some (.cells #[a, b, c, d, v, f] t) := by
  simp only [World.setCell, Array.getElem?_modify, if_true, h]
  simp
theorem set65 {w : World} {n : Nat} {a b c d e f : Value} {t : TypeId} (h : w.heap[n]? = some (.cells #[a, b, c, d, e, f] t)) (v : Value) : (w.setCell ⟨n, 5, none⟩ v).heap[n]? = some (.cells #[a, b, c, d, e, v] t) := by
  simp only [World.setCell, Array.getElem?_modify, if_true, h]
  simp
theorem set_far {w : World} {p : Addr} {n : Nat} (h : n ≠ p.block) (v : Value) : (w.setCell p v).heap[n]? = w.heap[n]? := Below.heap_setCell _ _ _ _ h

set_option maxRecDepth 100000 in
set_option maxHeartbeats 16000000 in
theorem lawWider (sv : Value) (s : Sea.S) (byN less : Int) (w : World) (hs : SeasonAt w sv s) (ok : Sea.Ok s) (hb : 0 ≤ byN ∧ byN ≤ 10) (hl : 0 ≤ less ∧ less ≤ 20) :
    Calls Try.prog 35 #[sv, .int .i64 byN, .int .i64 less] w fun e w' => (∃ v, e = .returned v ∧ SeasonAt w' v (wid s byN less)) ∧ Below w.heap.size w w' := by
  have hs' := hs
  obtain ⟨rv, dv, rfl, hr, hd⟩ := hs'
  obtain ⟨ra, rcap, rfl, hrm, hrk⟩ := hr
  obtain ⟨da, dcap, rfl, hdm, hdk⟩ := hd
  unfold maxLen at hrm hdm
  obtain ⟨W, hW⟩ : ∃ W, w.alloc (sBox s (.slice ra s.rows.length rcap) (.slice da s.days.length dcap)) = W := ⟨_, rfl⟩
  obtain ⟨hsz, hBw, q0, q1, q2, q3, q4, q5⟩ := box_season hW
  obtain ⟨X1, hX1⟩ : ∃ X1, W.alloc (.cells #[.int .i64 0, .int .i64 0, .int .i64 0, .int .i64 0, .slice none 0 0, .slice none 0 0] 27) = X1 := ⟨_, rfl⟩
  have hBX : Below W.heap.size W X1 := by rw [← hX1]; exact below_al (Below.refl _ _) _
  have hZ1 := World.alloc_heap_new W (.cells #[.int .i64 0, .int .i64 0, .int .i64 0, .int .i64 0, .slice none 0 0, .slice none 0 0] 27)
  rw [hX1] at hZ1
  have hZl := (Array.getElem?_eq_some_iff.1 hZ1).1
  obtain ⟨X2, hX2⟩ : ∃ X2, X1.alloc (.cells #[.int .i64 s.space, .int .i64 s.start, .int .i64 s.elo, .int .i64 s.ehi, .slice none 0 0, .slice none 0 0] 27) = X2 := ⟨_, rfl⟩
  have hB12 : Below X1.heap.size X1 X2 := by rw [← hX2]; exact below_al (Below.refl _ _) _
  have hO2 := World.alloc_heap_new X1 (.cells #[.int .i64 s.space, .int .i64 s.start, .int .i64 s.elo, .int .i64 s.ehi, .slice none 0 0, .slice none 0 0] 27)
  rw [hX2] at hO2
  have hOl := (Array.getElem?_eq_some_iff.1 hO2).1
  have hwX : Below w.heap.size w X1 := hBw.trans (hBX.mono (Nat.le_of_lt hsz))
  have p0 := kept_cell hBX q0
  have p4 := kept_cell hBX q4
  have p5 := kept_cell hBX q5
  have hrX : Hid (∀ k, k < s.rows.length → ∃ b off, ra = some ⟨b, off, none⟩ ∧ RowCells X1 b (off + k * 3) (Sea.rowAt s.rows k) ∧ b < X1.heap.size) := fun k hk => by
    obtain ⟨b, off, e, hlt, h⟩ := hrk (by omega)
    exact ⟨b, off, e, (h k hk).mono hwX, Nat.lt_of_lt_of_le hlt hwX.size⟩
  have hdX : Hid (∀ k, k < s.days.length → ∃ b off, da = some ⟨b, off, none⟩ ∧ DayCells X1 b (off + k * 8) (Sea.dayAt s.days k) ∧ b < X1.heap.size) := fun k hk => by
    obtain ⟨b, off, e, hlt, h⟩ := hdk (by omega)
    exact ⟨b, off, e, (h k hk).mono hwX, Nat.lt_of_lt_of_le hlt hwX.size⟩
  have hrb := Lib.hid ok.rows
  have hdb := Lib.hid ok.days
  have hsp := ok.space
  have hnr := ok.nrows
  have hnd := ok.ndays
  have hstart : Hid (X2.heap[X1.heap.size]? = some (.cells #[.int .i64 s.space, .int .i64 s.start, .int .i64 s.elo, .int .i64 s.ehi, .slice none 0 0, .slice none 0 0] 27) ∧ OwnSt 65 3 rowEnc X2.heap.size X2 (.slice none 0 0) ((s.rows.take 0).map (widRow byN)) ∧ Below X1.heap.size X1 X2 ∧ X2.heap.size ≤ X2.heap.size) := ⟨hO2, OwnSt.nil _ _ _ _ _, hB12, Nat.le_refl _⟩
  clear hs hrk hdk ok hO2 hB12
  replace hZ1 := Lib.hid hZ1
  have hz : Hid (W.heap.size + 1 = X1.heap.size) := by show _ = _; rw [← hX1, World.size_alloc]
  replace hX1 := Lib.hid hX1
  replace hX2 := Lib.hid hX2
  go_enter Try.func35, Try.ntmps35
  go_wp2_with (fail)
  rw [hX1.out, hX2.out]
  simp only [hz.out]
  clear hX2 hX1 hW hz q0 q1 q2 q3 q4 q5
  go_loopw [8] (fun i wr => ∃ (k : Nat) (v : Value), k ≤ s.rows.length ∧ i = .int .i64 k ∧ Hid (wr.heap[X1.heap.size]? = some (.cells #[.int .i64 s.space, .int .i64 s.start, .int .i64 s.elo, .int .i64 s.ehi, v, .slice none 0 0] 27) ∧ OwnSt 65 3 rowEnc X2.heap.size wr v ((s.rows.take k).map (widRow byN)) ∧ Below X1.heap.size X1 wr ∧ X2.heap.size ≤ wr.heap.size)) (fun i _ => s.rows.length - (intOf i).toNat)
  case atStart => exact ⟨0, _, by omega, rfl, hstart⟩
  case round =>
    clear hstart
    obtain ⟨k, v, hk, rfl, hI⟩ := hrel
    obtain ⟨hO, ho, hB, hXs⟩ := hI.out
    have m4 := kept_cell hB p4
    by_cases hlt : k < s.rows.length
    · obtain ⟨b, off, rfl, hrc, hbl⟩ := hrX.out k hlt
      obtain ⟨c0, c1, c2⟩ := hrc.mono hB
      have hrw := hrb.out k hlt
      have hnext : Hid ((s.rows.take (k + 1)).map (widRow byN) = (s.rows.take k).map (widRow byN) ++ [widRow byN (Sea.rowAt s.rows k)]) := by
        show _ = _
        rw [List.take_succ_eq_append_getElem hlt, List.map_append, List.map_cons, List.map_nil]
        simp [Sea.rowAt, hlt]
      have hlen : ((s.rows.take k).map (widRow byN)).length ≤ 1000000 := by rw [List.length_map, List.length_take]; have := hnr; omega
      generalize (s.rows.take k).map (widRow byN) = xs at *
      generalize hrr : Sea.rowAt s.rows k = r at *
      obtain ⟨m1, hm1⟩ : ∃ m, min 100 (r.inn + byN) = m := ⟨_, rfl⟩
      obtain ⟨m2, hm2⟩ : ∃ m, min 100 (r.out + byN) = m := ⟨_, rfl⟩
      have hi1 : (if r.inn + byN < 100 then r.inn + byN else 100) = m1 := by rw [← hm1]; split <;> omega
      have hi2 : (if r.out + byN < 100 then r.out + byN else 100) = m2 := by rw [← hm2]; split <;> omega
      have hwr : widRow byN r = ⟨r.fill, m1, m2⟩ := by unfold widRow; rw [hm1, hm2]
      rw [hwr] at hnext
      replace hm1 := Lib.hid hm1
      replace hm2 := Lib.hid hm2
      replace hwr := Lib.hid hwr
      replace hrr := Lib.hid hrr
      obtain ⟨N, hN⟩ : ∃ N, wr.alloc (.cells #[.int .i64 r.fill, .int .i64 r.inn, .int .i64 r.out] 65) = N := ⟨_, rfl⟩
      have hBN : Below wr.heap.size wr N := by rw [← hN]; exact below_al (Below.refl _ _) _
      have hNn := World.alloc_heap_new wr (.cells #[.int .i64 r.fill, .int .i64 r.inn, .int .i64 r.out] 65)
      rw [hN] at hNn
      obtain ⟨hNl, dn, fn⟩ := row_cells hNn
      have n0 := dn 0
      have n1 := dn 1
      have n2 := dn 2
      simp only [List.getElem?_toArray, List.getElem?_cons_zero, List.getElem?_cons_succ] at n0 n1 n2
      have hON := (hBN.block _ (Array.getElem?_eq_some_iff.1 hO).1).trans hO
      obtain ⟨hOl2, do_, fo⟩ := row_cells hON
      have o4 := do_ 4
      have f4 := fo 4
      simp only [List.getElem?_toArray, List.getElem?_cons_zero, List.getElem?_cons_succ] at o4
      have hki : (0 : Int) ≤ (k : Int) ∧ (k : Int) < s.rows.length := by omega
      have hoN := Lib.hid (ho.mono hBN)
      have hlt' := Lib.hid hoN.out.lt
      have hXN : X2.heap.size ≤ N.heap.size := Nat.le_trans hXs hBN.size
      have hne : v.ownBlock ≠ some X1.heap.size := fun e => by have := (hlt'.out _ e).1; omega
      have hB1N : Below X1.heap.size X1 N := hB.trans (hBN.mono hB.size)
      have hONH := Lib.hid hON
      clear dn fn do_ fo hI ho hO hB hON hNn hrc
      go_wp2_with (at_builtin; refine wpList_app_st (enc := rowEnc) rowEnc_len 24 65 _ 24 Try.underlying24 infoSRow rfl (by omega) (by omega) rowEnc_one (by rfl) _ _ (by rfl) X2.heap.size N v xs ⟨r.fill, m1, m2⟩ (by rfl) hoN.out (by rfl) hlen hXN ?_; intro v1 w1 ho1 hg1 hat1; obtain ⟨a1, c1', he1⟩ := ho1.slice; subst he1; have z4 := (hg1.cell_far ⟨X1.heap.size, 4, none⟩ (by show X1.heap.size < _; omega) (Ne.symm hne)).trans o4; have z5 := (hg1.frozen_far ⟨X1.heap.size, 4, none⟩ (by show X1.heap.size < _; omega) (Ne.symm hne)).trans f4)
      have h1 := set64 ((hg1.block _ hOl2 (Ne.symm hne)).trans hONH.out) (.slice a1 (xs.length + 1) c1')
      have hB2 : Below X1.heap.size X1 (w1.setCell ⟨X1.heap.size, 4, none⟩ (.slice a1 (xs.length + 1) c1')) := (hB1N.grown hg1 (Nat.le_of_lt hOl2) (fun k e => by have := (hlt'.out k e).1; omega)).setCell (Nat.le_refl _) _
      rw [List.length_append, List.length_singleton] at ho1
      refine ⟨⟨k + 1, _, by omega, by go_num, h1, ?_, hB2, ?_⟩, by simp [intOf]; omega⟩
      · rw [hnext.out]
        exact ho1.cellset (p := ⟨X1.heap.size, 4, none⟩) hOl _
      · have := hg1.size
        simp [World.setCell]; omega
    · have hke : k = s.rows.length := by omega
      have hki : ¬ ((k : Int) < s.rows.length) := by omega
      obtain ⟨ra1, rc1, hrv⟩ := ho.slice
      rw [hke, List.take_length, List.length_map] at hrv
      rw [hke, List.take_length] at ho
      subst hrv
      have hbU := ho.lt
      have hD0 : Hid (wr.heap[X1.heap.size]? = some (.cells #[.int .i64 s.space, .int .i64 s.start, .int .i64 s.elo, .int .i64 s.ehi, .slice ra1 s.rows.length rc1, .slice none 0 0] 27) ∧ OwnSt 65 3 rowEnc X2.heap.size wr (.slice ra1 s.rows.length rc1) (s.rows.map (widRow byN)) ∧
        OwnSt 82 8 dayEnc wr.heap.size wr (.slice none 0 0) ((s.days.take 0).map (widDay s.space byN less)) ∧ Below X1.heap.size X1 wr ∧ wr.heap.size ≤ wr.heap.size) := ⟨hO, ho, OwnSt.nil _ _ _ _ _, hB, Nat.le_refl _⟩
      have hXU : X1.heap.size < wr.heap.size := (Array.getElem?_eq_some_iff.1 hO).1
      have hZ2 : W.heap.size < X2.heap.size := by omega
      have hZU : W.heap.size < wr.heap.size := by omega
      have hZw : w.heap.size ≤ W.heap.size := by omega
      replace hbU := Lib.hid hbU
      replace hke := Lib.hid hke
      have m0 := kept_cell hB p0
      clear hI hO ho hB
      obtain ⟨U, rfl⟩ : ∃ U : World, U = wr := ⟨_, rfl⟩
      go_wp2_with (fail)
      go_loopw [10] (fun i wr => ∃ (t : Nat) (v : Value), t ≤ s.days.length ∧ i = .int .i64 t ∧ Hid (wr.heap[X1.heap.size]? = some (.cells #[.int .i64 s.space, .int .i64 s.start, .int .i64 s.elo, .int .i64 s.ehi, .slice ra1 s.rows.length rc1, v] 27) ∧ OwnSt 65 3 rowEnc X2.heap.size wr (.slice ra1 s.rows.length rc1) (s.rows.map (widRow byN)) ∧
        OwnSt 82 8 dayEnc U.heap.size wr v ((s.days.take t).map (widDay s.space byN less)) ∧ Below X1.heap.size X1 wr ∧ U.heap.size ≤ wr.heap.size)) (fun i _ => s.days.length - (intOf i).toNat)
      case atStart => exact ⟨0, _, by omega, rfl, hD0⟩
      case round =>
        clear hD0 m4 m0
        obtain ⟨t, v, ht, rfl, hI⟩ := hrel
        obtain ⟨hO, hor, ho, hB, hUs⟩ := hI.out
        have m0 := kept_cell hB p0
        have m5 := kept_cell hB p5
        by_cases hlt : t < s.days.length
        · obtain ⟨b, off, rfl, hdc, hbl⟩ := hdX.out t hlt
          obtain ⟨c0, c1, c2, c3, c4, c5, c6, c7⟩ := hdc.mono hB
          have hdw := hdb.out t hlt
          have hnext : Hid ((s.days.take (t + 1)).map (widDay s.space byN less) = (s.days.take t).map (widDay s.space byN less) ++ [widDay s.space byN less (Sea.dayAt s.days t)]) := by
            show _ = _
            rw [List.take_succ_eq_append_getElem hlt, List.map_append, List.map_cons, List.map_nil]
            simp [Sea.dayAt, hlt]
          have hlen : ((s.days.take t).map (widDay s.space byN less)).length ≤ 1000000 := by rw [List.length_map, List.length_take]; have := hnd; omega
          generalize (s.days.take t).map (widDay s.space byN less) = xs at *
          generalize hdd : Sea.dayAt s.days t = d at *
          obtain ⟨m1, hm1⟩ : ∃ m, min 100 (d.offer + byN) = m := ⟨_, rfl⟩
          obtain ⟨m2, hm2⟩ : ∃ m, min 100 (d.take + byN) = m := ⟨_, rfl⟩
          obtain ⟨m3, hm3⟩ : ∃ m, max 0 (d.glo - byN) = m := ⟨_, rfl⟩
          obtain ⟨m4, hm4⟩ : ∃ m, min s.space (d.ghi + byN) = m := ⟨_, rfl⟩
          obtain ⟨mm, hm5⟩ : ∃ m, max d.nlo (d.nhi - less) = m := ⟨_, rfl⟩
          have hi1 : (if d.offer + byN < 100 then d.offer + byN else 100) = m1 := by rw [← hm1]; split <;> omega
          have hi2 : (if d.take + byN < 100 then d.take + byN else 100) = m2 := by rw [← hm2]; split <;> omega
          have hi3 : (if byN < d.glo then d.glo - byN else 0) = m3 := by rw [← hm3]; split <;> omega
          have hi4 : (if d.ghi + byN < s.space then d.ghi + byN else s.space) = m4 := by rw [← hm4]; split <;> omega
          have hi5 : (if d.nlo < d.nhi - less then d.nhi - less else d.nlo) = mm := by rw [← hm5]; split <;> omega
          have hwr : widDay s.space byN less d = ⟨d.buy, d.sell, m1, m2, m3, m4, d.nlo, mm⟩ := by unfold widDay; rw [hm1, hm2, hm3, hm4, hm5]
          rw [hwr] at hnext
          replace hm1 := Lib.hid hm1
          replace hm2 := Lib.hid hm2
          replace hm3 := Lib.hid hm3
          replace hm4 := Lib.hid hm4
          replace hm5 := Lib.hid hm5
          replace hwr := Lib.hid hwr
          replace hdd := Lib.hid hdd
          have hold : ∀ (o : Obj) (b off : Nat), b < wr.heap.size → (wr.alloc o).cell? ⟨b, off, none⟩ = wr.cell? ⟨b, off, none⟩ := fun o b off h => (below_al (Below.refl _ _) o).cell (p := ⟨b, off, none⟩) h
          have hNB : Below wr.heap.size wr (wr.alloc (dayO ⟨d.buy, d.sell, m1, m2, m3, m4, d.nlo, mm⟩)) := below_al (Below.refl _ _) _
          have hON := (hNB.block _ (Array.getElem?_eq_some_iff.1 hO).1).trans hO
          obtain ⟨hOl2, do_, fo⟩ := row_cells hO
          have o5 := do_ 5
          simp only [List.getElem?_toArray, List.getElem?_cons_zero, List.getElem?_cons_succ] at o5
          obtain ⟨hOl3, do3, fo3⟩ := row_cells hON
          have x5 := do3 5
          have fx5 := fo3 5
          simp only [List.getElem?_toArray, List.getElem?_cons_zero, List.getElem?_cons_succ] at x5
          replace x5 := Lib.hid x5
          replace fx5 := Lib.hid fx5
          have hbx2 : w.heap.size < wr.heap.size := World.block_lt_of_cell? _ ⟨_, _, none⟩ m0
          have hti : (0 : Int) ≤ (t : Int) ∧ (t : Int) < s.days.length := by omega
          have hoN := Lib.hid (ho.mono hNB)
          have hrN := Lib.hid (hor.mono hNB)
          have hlt' := Lib.hid ho.lt
          have hbl2 : b < wr.heap.size := Nat.lt_of_lt_of_le hbl hB.size
          have hne : v.ownBlock ≠ some X1.heap.size := fun e => by have := (hlt'.out _ e).1; omega
          have hne4 : (Value.slice ra1 s.rows.length rc1).ownBlock = none ∨ (Value.slice ra1 s.rows.length rc1).ownBlock ≠ v.ownBlock := by
            cases hq : (Value.slice ra1 s.rows.length rc1).ownBlock with
            | none => exact .inl rfl
            | some q => exact .inr fun e => by have h1 := (hbU.out q hq).2; have h2 := (hlt'.out q e.symm).1; omega
          have hB1N := hB.trans (hNB.mono hB.size)
          have hUN : U.heap.size ≤ (wr.alloc (dayO ⟨d.buy, d.sell, m1, m2, m3, m4, d.nlo, mm⟩)).heap.size := Nat.le_trans hUs hNB.size
          have hONH := Lib.hid hON
          replace hne4 := Lib.hid hne4
          replace hB1N := Lib.hid hB1N
          replace hUN := Lib.hid hUN
          replace hOl3 := Lib.hid hOl3
          clear do_ fo do3 fo3 hI ho hor hO hB hON hdc hNB
          go_wp2_with (at_builtin; refine wpList_app_st (enc := dayEnc) dayEnc_len 25 82 _ 64 Try.underlying25 infoSDay rfl (by omega) (by omega) dayEnc_one (by rfl) _ _ (by rfl) U.heap.size (wr.alloc (dayO ⟨d.buy, d.sell, m1, m2, m3, m4, d.nlo, mm⟩)) v xs ⟨d.buy, d.sell, m1, m2, m3, m4, d.nlo, mm⟩ (by rfl) hoN.out (by rw [World.size_alloc]; rfl) hlen hUN.out ?_; intro v1 w1 ho1 hg1 hat1; obtain ⟨a1, c1', he1⟩ := ho1.slice; subst he1; have z4 := (hg1.cell_far ⟨X1.heap.size, 5, none⟩ hOl3.out (Ne.symm hne)).trans x5.out; have z5 := (hg1.frozen_far ⟨X1.heap.size, 5, none⟩ hOl3.out (Ne.symm hne)).trans fx5.out)
          have h1 := set65 ((hg1.block _ hOl3.out (Ne.symm hne)).trans hONH.out) (.slice a1 (xs.length + 1) c1')
          have hB2 : Below X1.heap.size X1 (w1.setCell ⟨X1.heap.size, 5, none⟩ (.slice a1 (xs.length + 1) c1')) := (hB1N.out.grown hg1 (Nat.le_of_lt hOl3.out) (fun k e => by have := (hlt'.out k e).1; omega)).setCell (Nat.le_refl _) _
          rw [List.length_append, List.length_singleton] at ho1
          refine ⟨⟨t + 1, _, by omega, by go_num, h1, ?_, ?_, hB2, ?_⟩, by simp [intOf]; omega⟩
          · exact (hrN.out.kept hg1 hne4.out).cellset (p := ⟨X1.heap.size, 5, none⟩) hOl _
          · rw [hnext.out]; exact ho1.cellset (p := ⟨X1.heap.size, 5, none⟩) hXU _
          · have h2 := hg1.size
            have h3 := hUN.out
            simp only [World.setCell, Array.size_modify]
            omega
        · have hte : t = s.days.length := by omega
          have hti : ¬ ((t : Int) < s.days.length) := by omega
          obtain ⟨da1, dc1, hdv⟩ := ho.slice
          rw [hte, List.take_length, List.length_map] at hdv
          rw [hte, List.take_length] at ho
          subst hdv
          obtain ⟨hOl2, do_, fo⟩ := row_cells hO
          have o0 := do_ 0
          have o1 := do_ 1
          have o2 := do_ 2
          have o3 := do_ 3
          have o4 := do_ 4
          have o5 := do_ 5
          have hZ := (hB.block _ hZl).trans hZ1.out
          obtain ⟨-, dz, fz⟩ := row_cells hZ
          have z0 := dz 0
          have z1 := dz 1
          have z2 := dz 2
          have z3 := dz 3
          have z4 := dz 4
          have z5 := dz 5
          have g0 := fz 0
          have g1 := fz 1
          have g2 := fz 2
          have g3 := fz 3
          have g4 := fz 4
          have g5 := fz 5
          simp only [List.getElem?_toArray, List.getElem?_cons_zero, List.getElem?_cons_succ] at o0 o1 o2 o3 o4 o5 z0 z1 z2 z3 z4 z5
          have hneZ : ¬ W.heap.size = X1.heap.size := by omega
          have horH := Lib.hid hor
          have hoH := Lib.hid ho
          have hwB := Lib.hid (hwX.trans (hB.mono hwX.size))
          replace hte := Lib.hid hte
          clear do_ fo dz fz hI hor ho hO hB hZ
          go_wp2_with (fail)
          refine bodyPost_ret (v := .agg #[.int .i64 s.space, .int .i64 s.start, .int .i64 s.elo, .int .i64 s.ehi, .slice ra1 s.rows.length rc1, .slice da1 s.days.length dc1]) (by simp [results, Try.results35, go_sem, z0, z1, z2, z3, z4, z5]) rfl ⟨⟨_, rfl, _, _, rfl, ?_, ?_⟩, ?_⟩
          · exact own_rows ((((((horH.out.cellset (p := ⟨W.heap.size, 0, none⟩) hZ2 _).cellset (p := ⟨W.heap.size, 1, none⟩) hZ2 _).cellset (p := ⟨W.heap.size, 2, none⟩) hZ2 _).cellset (p := ⟨W.heap.size, 3, none⟩) hZ2 _).cellset (p := ⟨W.heap.size, 4, none⟩) hZ2 _).cellset (p := ⟨W.heap.size, 5, none⟩) hZ2 _)
          · exact own_days ((((((hoH.out.cellset (p := ⟨W.heap.size, 0, none⟩) hZU _).cellset (p := ⟨W.heap.size, 1, none⟩) hZU _).cellset (p := ⟨W.heap.size, 2, none⟩) hZU _).cellset (p := ⟨W.heap.size, 3, none⟩) hZU _).cellset (p := ⟨W.heap.size, 4, none⟩) hZU _).cellset (p := ⟨W.heap.size, 5, none⟩) hZU _)
          · exact (((((hwB.out.setCell (p := ⟨W.heap.size, 0, none⟩) hZw _).setCell (p := ⟨W.heap.size, 1, none⟩) hZw _).setCell (p := ⟨W.heap.size, 2, none⟩) hZw _).setCell (p := ⟨W.heap.size, 3, none⟩) hZw _).setCell (p := ⟨W.heap.size, 4, none⟩) hZw _).setCell (p := ⟨W.heap.size, 5, none⟩) hZw _
end Go.Proofs.Ytacajmpggjgaiaa
