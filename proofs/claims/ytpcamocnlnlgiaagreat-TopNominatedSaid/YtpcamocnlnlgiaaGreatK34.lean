/- Laws and walks: Tnp, Tnk, Tnm. -/
import Derived.Test.YtpcamocnlnlgiaaGreatK33
set_option maxRecDepth 100000
set_option maxHeartbeats 16000000
set_option linter.unusedVariables false
set_option linter.unusedSimpArgs false
namespace Go.Proofs.YtpcamocnlnlgiaaGreat.W
open Go.Sd Bk
theorem fills_at {s : Sea.S} {noms plan : List Int} : ∀ n k, k < n → Sea.at0 (S.playTo s noms plan n).1 k = (S.playTo s noms plan (k + 1)).2.1
 | n + 1, k, h => by
  have hl := S.playTo_len s noms plan n
  by_cases e : k = n
  · subst e
    show Sea.at0 ((S.playTo s noms plan k).1 ++ [_]) k = _
    unfold Sea.at0
    rw [List.getD_eq_getElem?_getD, List.getElem?_append_right (by omega), hl, Nat.sub_self]
    rfl
  · show Sea.at0 ((S.playTo s noms plan n).1 ++ [_]) k = _
    have := fills_at (s := s) (noms := noms) (plan := plan) n k (by omega)
    unfold Sea.at0 at this ⊢
    rw [List.getD_eq_getElem?_getD, List.getElem?_append_left (by omega), ← List.getD_eq_getElem?_getD]
    exact this
def ratRow (c : Con) (f : Nat) : Sea.Row := ⟨f, min (rateOf c f).inn 100, min (rateOf c f).out 100⟩
def lastRow (l : List Sea.Row) : Sea.Row := Sea.rowAt l (l.length - 1)
def ratNew (l : List Sea.Row) (r : Sea.Row) : Prop := l.length = 0 ∨ (lastRow l).inn ≠ r.inn ∨ (lastRow l).out ≠ r.out
instance (l : List Sea.Row) (r : Sea.Row) : Decidable (ratNew l r) := inferInstanceAs (Decidable (_ ∨ _ ∨ _))
def ratStep (l : List Sea.Row) (r : Sea.Row) : List Sea.Row := if ratNew l r then l ++ [r] else l
def ratRows (c : Con) : Nat → List Sea.Row
 | 0 => []
 | n + 1 => ratStep (ratRows c n) (ratRow c n)
theorem rowAt_app1 {l : List Sea.Row} {r : Sea.Row} {k : Nat} (h : k < l.length) : Sea.rowAt (l ++ [r]) k = Sea.rowAt l k := by
 unfold Sea.rowAt
 rw [List.getD_eq_getElem?_getD, List.getElem?_append_left h, ← List.getD_eq_getElem?_getD]
theorem rowAt_app2 {l : List Sea.Row} {r : Sea.Row} : Sea.rowAt (l ++ [r]) l.length = r := by
 unfold Sea.rowAt
 rw [List.getD_eq_getElem?_getD, List.getElem?_append_right (Nat.le_refl _), Nat.sub_self]
 rfl
theorem lastRow_app (l : List Sea.Row) (r : Sea.Row) : lastRow (l ++ [r]) = r := by
 unfold lastRow
 rw [List.length_append, List.length_singleton, Nat.add_sub_cancel]
 exact rowAt_app2
theorem limTo_app {l : List Sea.Row} {r : Sea.Row} (f : Int) (h0 : 0 < l.length) : ∀ k, k ≤ l.length → Sea.limTo (l ++ [r]) f k = Sea.limTo l f k
 | 0, _ => rowAt_app1 h0
 | k + 1, h => by
  simp only [Sea.limTo, rowAt_app1 (r := r) (show k < l.length by omega), limTo_app f h0 k (by omega)]
theorem rat_last (c : Con) : ∀ n, 0 < n → 0 < (ratRows c n).length ∧ (ratRows c n).length ≤ n ∧ (lastRow (ratRows c n)).fill ≤ (n : Int) - 1 ∧ (lastRow (ratRows c n)).inn = (ratRow c (n - 1)).inn ∧ (lastRow (ratRows c n)).out = (ratRow c (n - 1)).out
 | n + 1, _ => by
  have ih : (ratRows c n).length ≤ n ∧ (lastRow (ratRows c n)).fill ≤ (n : Int) := by
   by_cases h : 0 < n
   · have := rat_last c n h; omega
   · obtain rfl : n = 0 := by omega
     exact ⟨by simp [ratRows], by simp [ratRows, lastRow, Sea.rowAt]⟩
  simp only [ratRows, ratStep]
  rw [Nat.add_sub_cancel]
  split
  · rename_i hn
    rw [lastRow_app]
    refine ⟨by simp, by simp; omega, ?_, rfl, rfl⟩
    show (n : Int) ≤ _
    omega
  · rename_i hn
    unfold ratNew at hn
    refine ⟨by omega, by omega, by omega, by omega, by omega⟩
theorem rat_lim (c : Con) : ∀ n (f : Nat), f < n → (Sea.limTo (ratRows c n) f (ratRows c n).length).inn = (ratRow c f).inn ∧ (Sea.limTo (ratRows c n) f (ratRows c n).length).out = (ratRow c f).out
 | n + 1, f, hf => by
  have hlast := rat_last c (n + 1) (by omega)
  rw [Nat.add_sub_cancel] at hlast
  by_cases e : f = n
  · subst e
    have hk : (ratRows c (f + 1)).length = ((ratRows c (f + 1)).length - 1) + 1 := by omega
    have hl : Sea.limTo (ratRows c (f + 1)) f (ratRows c (f + 1)).length = lastRow (ratRows c (f + 1)) := by
     rw [hk]
     simp only [Sea.limTo]
     rw [if_pos]
     · rfl
     · have := hlast.2.2.1
       unfold lastRow at this
       omega
    rw [hl]
    exact hlast.2.2.2
  · have ih := rat_lim c n f (by omega)
    have hp := rat_last c n (by omega)
    simp only [ratRows, ratStep]
    split
    · rw [List.length_append, List.length_singleton]
      have : ¬ (Sea.rowAt (ratRows c n ++ [ratRow c n]) (ratRows c n).length).fill ≤ (f : Int) := by
       rw [rowAt_app2]
       show ¬ (n : Int) ≤ _
       omega
      simp only [Sea.limTo, if_neg this, limTo_app f hp.1 _ (Nat.le_refl _)]
      exact ih
    · exact ih
structure InCon (c : Con) (s : Sea.S) (noms : List Int) : Prop where
 space : s.space = c.space
 start : s.start = c.gas
 rows : s.rows = ratRows c (c.space.toNat + 1)
 noms0 : ∀ k, Sea.at0 noms k = 0
theorem plan_fit {c : Con} {s : Sea.S} {noms plan : List Int} (hv : Sea.validB s = true) (hc : InCon c s noms) (hp : S.planB s plan = true) (hf : S.faultTo s noms plan plan.length = none) :
    ∀ t, t < plan.length → Fit c (S.playTo s noms plan t).2.1 (Sea.at0 plan t) ∧ (S.playTo s noms plan (t + 1)).2.1 = (S.playTo s noms plan t).2.1 + Sea.at0 plan t := by
 intro t ht
 have ok := Sea.ok_of_valid hv
 obtain ⟨hlen, hb⟩ := S.planB_at hp
 have h1 := S.faultTo_less hf (show t + 1 ≤ plan.length by omega)
 obtain ⟨h2, h3⟩ := S.faultTo_none h1
 have i1 := S.play_inv ok hp t (by omega) h2
 have i2 := S.play_inv ok hp (t + 1) (by omega) h1
 have hn := hc.noms0 t
 have hs : (S.playTo s noms plan (t + 1)).2.1 = (S.playTo s noms plan t).2.1 + Sea.at0 plan t := by
  show (S.playTo s noms plan t).2.1 + Sea.at0 noms t + Sea.at0 plan t = _
  omega
 have hx := hb t ht
 unfold S.ruleOn at h3
 rw [hn] at h3
 have hl := rat_lim c (c.space.toNat + 1) (S.playTo s noms plan t).2.1.toNat (by have := hc.space; omega)
 have hg : (((S.playTo s noms plan t).2.1.toNat : Nat) : Int) = (S.playTo s noms plan t).2.1 := by omega
 rw [← hc.rows, hg] at hl
 unfold ratRow at hl
 rw [hg] at hl
 simp only at hl
 have hll : ¬ (s.lim (S.playTo s noms plan t).2.1).inn < 0 + Sea.at0 plan t ∧ ¬ (s.lim (S.playTo s noms plan t).2.1).out < -0 - Sea.at0 plan t := by
  unfold Sea.S.rule at h3
  constructor <;> (intro hlt; revert h3; repeat (split; (first | (intro h; omega) | skip))) <;> (try (intro h; omega)) <;> (try simp_all)
 unfold Sea.S.lim at hll
 rw [hl.1, hl.2] at hll
 rw [hs] at i2
 rw [hc.space] at i1 i2
 refine ⟨⟨i1.1.1, i1.1.2, i2.1.1, i2.1.2, hx.1, hx.2, by omega, by omega⟩, hs⟩
end Go.Proofs.YtpcamocnlnlgiaaGreat.W
set_option linter.unusedVariables false
set_option linter.unusedSimpArgs false
namespace Go.Proofs.YtpcamocnlnlgiaaGreat.W
open Go.RowKit Go.Sd L B
theorem own_kept {B m : Nat} {e : TypeId} {S : Nat → Prop} {w w' : World} {v : Value} {n : Nat} {ks : List Value} (h : w.ownsRow B e m v n ks) (hk : Kept S w w') (hs : ∀ j, v.ownBlock = some j → S j) : w'.ownsRow B e m v n ks := by
 refine ⟨h.1, ?_⟩
 rcases h.2 with h | ⟨g, cap, cur, he, hb, hg, r⟩
 · exact .inl h
 · refine .inr ⟨g, cap, cur, he, hb, (hk.block g (zqo hg) (hs g (by rw [he]; rfl))).trans hg, r⟩
theorem own_mono {B m : Nat} {e : TypeId} {w w' : World} {v : Value} {n : Nat} {ks : List Value} (h : w.ownsRow B e m v n ks) (hb : Below w.heap.size w w') : w'.ownsRow B e m v n ks := own_kept (S := fun _ => True) h (.all hb) fun _ _ => trivial
theorem own_lt {B m : Nat} {e : TypeId} {w : World} {v : Value} {n : Nat} {ks : List Value} (h : w.ownsRow B e m v n ks) : ∀ j, v.ownBlock = some j → B ≤ j ∧ j < w.heap.size := by
 intro j hj
 rcases h.2 with ⟨rfl, -⟩ | ⟨g, cap, cur, rfl, hb, hg, -⟩
 · cases hj
 · cases hj; exact ⟨hb, (zqo hg)⟩
theorem own_slice {B m : Nat} {e : TypeId} {w : World} {v : Value} {n : Nat} {ks : List Value} (h : w.ownsRow B e m v n ks) : ∃ a c, v = .slice a n c := by
 rcases h.2 with ⟨rfl, rfl⟩ | ⟨g, cap, cur, rfl, -⟩
 · exact ⟨none, 0, rfl⟩
 · exact ⟨_, cap, rfl⟩
theorem own_app {t e : TypeId} {z : Value} {m bytes : Nat} (ht : Tryz.prog.underlying t = some (.slice e)) (hinfo : (Tryz.prog.info? e).map (fun i => (i.zero, i.size, i.bytes)) = some (some z, m, bytes)) (hzs : z.cells.size = m) (hm : 0 < m) (hby : bytes ≤ 1000)
    (B : Nat) (w : World) (v : Value) (n : Nat) (ks news : List Value) (vb : Nat) (h : w.ownsRow B e m v n ks) (hn : n ≤ 1000) (hB : B ≤ w.heap.size) (hl : news.length = m) (h1 : ∀ u ∈ news, u.oneCell' = true) (hv : w.heap[vb]? = some (.cells news.toArray e (0, 0))) :
    ∃ v' w', (Builtin.append_ #[t, t] t #[v, .slice (some ⟨vb, 0, none⟩) 1 1]).run Tryz.prog w = .ok v' w' ∧ w'.ownsRow B e m v' (n + 1) (ks ++ news) ∧ Kept (fun j => v.ownBlock ≠ some j) w w' := by
 obtain ⟨i0, hi, hz0, hz1, hz2⟩ := info_parts hinfo
 obtain ⟨v', w', hrun, r1, r2, -, -⟩ := run_append_own_at (P := Tryz.prog) w B t t e i0 z m bytes ht hi hz0 hz1 hz2 hzs hm v n ks h ⟨vb, 0, none⟩ 1 1 news (by omega)
  (by
   intro j u hj
   rw [add_at, Nat.zero_add, cell_of_row w vb j _ _ (0, 0) hv, List.getElem?_toArray]
   exact hj)
  h1 (by unfold maxLen; omega) (Nat.le_trans (Nat.mul_le_mul (show n + 1 ≤ 1001 by omega) hby) (by omega)) hB
 exact ⟨v', w', hrun, r1, .grown r2 fun j _ hj => fun e => hj e.symm⟩
theorem flat_at {α : Type} {m : Nat} {enc : α → List Value} (hm : ∀ x, (enc x).length = m) (d : α) : ∀ (xs : List α) (k i : Nat), k < xs.length → i < m → (xs.flatMap enc)[k * m + i]? = (enc (xs.getD k d))[i]?
 | x :: xs, 0, i, _, hi => by
  rw [List.flatMap_cons, Nat.zero_mul, Nat.zero_add, List.getElem?_append_left (by rw [hm]; exact hi)]
  rfl
 | x :: xs, k + 1, i, h, hi => by
  have hk : k < xs.length := by simpa using h
  rw [List.flatMap_cons, List.getElem?_append_right (by rw [hm, Nat.add_mul]; omega), hm, show (k + 1) * m + i - m = k * m + i by rw [Nat.add_mul]; omega, flat_at hm d xs k i hk hi]
  rfl
theorem own_els {α : Type} {m : Nat} {enc : α → List Value} (hm : ∀ x, (enc x).length = m) (d : α) {B : Nat} {e : TypeId} {w : World} {v : Value} {xs : List α} (h : w.ownsRow B e m v xs.length (xs.flatMap enc)) (h9 : xs.length ≤ 1000) : ElsAt m enc d w v xs := by
 rcases h.2 with ⟨rfl, h0⟩ | ⟨g, cap, cur, rfl, hb, hg, hn, hc, hs, ht⟩
 · exact ⟨none, 0, by rw [h0], by unfold maxLen; omega, fun h => by omega⟩
 · refine ⟨some ⟨g, 0, none⟩, cap, rfl, by unfold maxLen; omega, fun _ => ⟨g, 0, rfl, (zqo hg), fun k i u hk hu => ?_⟩⟩
   have hi : i < m := by
    have := (List.getElem?_eq_some_iff.1 hu).1
    rw [hm] at this
    exact this
   rw [Nat.zero_add, cell_of_row w g _ _ _ (0, 0) hg, ← Array.getElem?_toList]
   have hlt : k * m + i < xs.length * m := by
    have := Nat.mul_le_mul_right m (show k + 1 ≤ xs.length from hk)
    rw [Nat.add_mul] at this
    omega
   have h2 := flat_at hm d xs k i hk hi
   rw [← ht, List.getElem?_take, if_pos hlt] at h2
   rw [h2, hu]
theorem own_block_lt {α : Type} {m : Nat} {enc : α → List Value} {d : α} {w : World} {v : Value} {xs : List α} (h : ElsAt m enc d w v xs) (h0 : 0 < xs.length) : ∃ b off cap, v = .slice (some ⟨b, off, none⟩) xs.length cap ∧ b < w.heap.size ∧ ∀ k i u, k < xs.length → (enc (xs.getD k d))[i]? = some u → w.cell? ⟨b, off + k * m + i, none⟩ = some u := by
 obtain ⟨a, cap, rfl, -, hc⟩ := h
 obtain ⟨b, off, rfl, hb, hx⟩ := hc h0
 exact ⟨b, off, cap, rfl, hb, hx⟩
abbrev srEn (r : Sea.Row) : List Value := [.int .i64 r.fill, .int .i64 r.inn, .int .i64 r.out]
abbrev sdEn (d : Sea.Day) : List Value := [.int .i64 d.buy, .int .i64 d.sell, .int .i64 d.offer, .int .i64 d.take, .int .i64 d.glo, .int .i64 d.ghi, .int .i64 d.nlo, .int .i64 d.nhi]
def clrDay (d : Sea.Day) : Sea.Day := ⟨d.buy, d.sell, d.offer, d.take, d.glo, d.ghi, 0, 0⟩
theorem row8 {w : World} {n : Nat} {a0 a1 a2 a3 a4 a5 a6 a7 : Value} {e : TypeId} (h : w.heap[n]? = some (.cells #[a0, a1, a2, a3, a4, a5, a6, a7] e (0, 0))) : w.cell? ⟨n, 0, none⟩ = some a0 ∧ w.cell? ⟨n, 1, none⟩ = some a1 ∧ w.cell? ⟨n, 2, none⟩ = some a2 ∧ w.cell? ⟨n, 3, none⟩ = some a3 ∧ w.cell? ⟨n, 4, none⟩ = some a4 ∧ w.cell? ⟨n, 5, none⟩ = some a5 ∧ w.cell? ⟨n, 6, none⟩ = some a6 ∧ w.cell? ⟨n, 7, none⟩ = some a7 := by
 have r := (row_cells h).2.1
 exact ⟨r 0, r 1, r 2, r 3, r 4, r 5, r 6, r 7⟩
theorem zero_ints {w : World} {b n : Nat} (h : IntArr b w (List.replicate n 0)) (hn : n ≤ 1000) : S.IntsAt w (.slice (some ⟨b, 0, none⟩) n n) (List.replicate n 0) := by
 refine ⟨some ⟨b, 0, none⟩, n, by simp, by unfold maxLen; simp; omega, fun h0 => ⟨b, 0, rfl, h.lt, fun k hk => ?_⟩⟩
 rw [List.length_replicate] at hk
 have := (h.cell (k := k) (by simpa using hk)).1
 rw [Nat.zero_add, this]
 rfl
theorem zero_at (n k : Nat) : Sea.at0 (List.replicate n 0) k = 0 := by
 unfold Sea.at0
 rw [List.getD_eq_getElem?_getD, List.getElem?_replicate]
 split <;> rfl
theorem zero_noms (s : Sea.S) (h : ∀ k, k < s.days.length → (Sea.dayAt s.days k).nlo = 0 ∧ (Sea.dayAt s.days k).nhi = 0) : s.nomsB (List.replicate s.days.length 0) = true := by
 unfold Sea.S.nomsB
 rw [Bool.and_eq_true]
 refine ⟨by simp, List.all_eq_true.2 fun k hk => ?_⟩
 rw [List.mem_range, List.length_replicate] at hk
 obtain ⟨h1, h2⟩ := h k hk
 rw [h1, h2]
 rw [zero_at]
 decide
theorem clr_at (l : List Sea.Day) (k : Nat) (hk : k < (l.map clrDay).length) : (Sea.dayAt (l.map clrDay) k).nlo = 0 ∧ (Sea.dayAt (l.map clrDay) k).nhi = 0 := by
 rw [List.length_map] at hk
 have : Sea.dayAt (l.map clrDay) k = clrDay l[k] := by unfold Sea.dayAt; simp [hk]
 rw [this]
 exact ⟨rfl, rfl⟩
theorem own_types {B C m n : Nat} {e e' : TypeId} (hne : e ≠ e') {w : World} {u v : Value} {i j : Nat} {ks ls : List Value} (h : w.ownsRow B e m u i ks) (h' : w.ownsRow C e' n v j ls) : ∀ k, v.ownBlock = some k → u.ownBlock ≠ some k := by
 intro k hk e0
 rcases h.2 with ⟨rfl, -⟩ | ⟨g, cap, cur, rfl, -, hg, -⟩
 · cases e0
 · rcases h'.2 with ⟨rfl, -⟩ | ⟨g', cap', cur', rfl, -, hg', -⟩
   · cases hk
   · cases e0
     cases hk
     rw [hg] at hg'
     simp only [Option.some.injEq, Obj.cells.injEq] at hg'
     exact hne hg'.2.1
def hrOf (plan : List Int) (t : Nat) : Bk.Hr := ⟨100, 100, max 0 (Sea.at0 plan t), max 0 (-Sea.at0 plan t)⟩
def nmOf (plan : List Int) (t : Nat) : Bk.Nm := ⟨0, t, 0, Sea.at0 plan t⟩
theorem range_map {α : Type} (f : Nat → α) (k : Nat) : (List.range (k + 1)).map f = (List.range k).map f ++ [f k] := by rw [List.range_succ, List.map_append]; rfl
theorem kept_cell2 {S : Nat → Prop} {w w' : World} {b o : Nat} {v : Value} (h : w.cell? ⟨b, o, none⟩ = some v) (hk : Kept S w w') (hs : S b) : w'.cell? ⟨b, o, none⟩ = some v :=
 (World.cell?_of_block (a := ⟨b, o, none⟩) (hk.block b (World.block_lt_of_cell? w ⟨b, o, none⟩ h) hs)).trans h
theorem rows_of {w : World} {v : Value} {xs : List Sea.Row} (h : ElsAt 3 srEn ⟨0, 0, 0⟩ w v xs) : S.RowsAt w v xs := by
 obtain ⟨a, cap, rfl, hm, hc⟩ := h
 refine ⟨a, cap, rfl, hm, fun h0 => ?_⟩
 obtain ⟨b, off, rfl, hb, hx⟩ := hc h0
 exact ⟨b, off, rfl, hb, fun k hk => ⟨hx k 0 _ hk rfl, hx k 1 _ hk rfl, hx k 2 _ hk rfl⟩⟩
theorem days_of {w : World} {v : Value} {xs : List Sea.Day} (h : ElsAt 8 sdEn ⟨0, 0, 0, 0, 0, 0, 0, 0⟩ w v xs) : S.DaysAt w v xs := by
 obtain ⟨a, cap, rfl, hm, hc⟩ := h
 refine ⟨a, cap, rfl, hm, fun h0 => ?_⟩
 obtain ⟨b, off, rfl, hb, hx⟩ := hc h0
 exact ⟨b, off, rfl, hb, fun k hk => ⟨hx k 0 _ hk rfl, hx k 1 _ hk rfl, hx k 2 _ hk rfl, hx k 3 _ hk rfl, hx k 4 _ hk rfl, hx k 5 _ hk rfl, hx k 6 _ hk rfl, hx k 7 _ hk rfl⟩⟩
theorem infoSR : (Tryz.prog.info? 37).map (fun i => (i.zero, i.size, i.bytes)) = some (some (.agg #[.int .i64 0, .int .i64 0, .int .i64 0]), 3, 24) := by kernel_rfl
theorem infoSD : (Tryz.prog.info? 39).map (fun i => (i.zero, i.size, i.bytes)) = some (some (.agg #[.int .i64 0, .int .i64 0, .int .i64 0, .int .i64 0, .int .i64 0, .int .i64 0, .int .i64 0, .int .i64 0]), 8, 64) := by kernel_rfl
theorem infoBH : (Tryz.prog.info? 60).map (fun i => (i.zero, i.size, i.bytes)) = some (some (.agg #[.int .i64 0, .int .i64 0, .int .i64 0, .int .i64 0]), 4, 32) := by kernel_rfl
theorem infoBN : (Tryz.prog.info? 62).map (fun i => (i.zero, i.size, i.bytes)) = some (some (.agg #[.int .i64 0, .int .i64 0, .int .i64 0, .int .i64 0]), 4, 32) := by kernel_rfl
end Go.Proofs.YtpcamocnlnlgiaaGreat.W
set_option linter.unusedVariables false
set_option linter.unusedSimpArgs false
namespace Go.Proofs.YtpcamocnlnlgiaaGreat.W
open Go.RowKit Go.Sd L B Bk
theorem gas_play {c : Con} {s : Sea.S} {noms plan : List Int} (hs : s.start = c.gas) (h : ∀ t, t < plan.length → Fit c (S.playTo s noms plan t).2.1 (Sea.at0 plan t) ∧ (S.playTo s noms plan (t + 1)).2.1 = (S.playTo s noms plan t).2.1 + Sea.at0 plan t) :
    ∀ t, t ≤ plan.length → gasTo c.gas plan t = (S.playTo s noms plan t).2.1
 | 0, _ => by
  show c.gas = s.start
  exact hs.symm
 | t + 1, ht => by
  have := (h t (by omega)).2
  rw [this, ← gas_play hs h t (by omega)]
  rfl
theorem flow_cell {B C : Nat} {w : World} {a : Option Addr} {cap n : Nat} {plan : List Int} (h : FlowsAt B C w (.slice a n cap) plan n) (hn : n ≤ 1000) (h0 : 0 < n) : ∃ lb off, a = some ⟨lb, off, none⟩ ∧ lb < w.heap.size ∧ ∀ k, k < n → ∃ zb zo zc, w.cell? ⟨lb, off + k * 4 + 2, none⟩ = some (.slice (some ⟨zb, zo, none⟩) 1 zc) ∧ zb < w.heap.size ∧ w.cell? ⟨zb, zo, none⟩ = some (.int .i64 (plan.getD k 0)) := by
 obtain ⟨zs, e1, e2, e3⟩ := h.own
 obtain ⟨b, off, cap', he, hb, hx⟩ := own_block_lt (own_els (m := 4) (enc := fun p : Value × Value × Value => [p.1, p.2.1, p.2.2, .slice none 0 0]) (fun _ => rfl) (nilS, nilS, nilS) (xs := zs) (by rw [e1]; exact e2) (by omega)) (by omega)
 cases he
 refine ⟨b, off, rfl, hb, fun k hk => ?_⟩
 obtain ⟨g, o, c, hz, -, hlt, -, -, hc, -⟩ := One.form (e3 k hk)
 have h2 := hx k 2 (zs.getD k (nilS, nilS, nilS)).2.2 (by omega) rfl
 rw [hz] at h2
 exact ⟨g, o, c, h2, hlt, hc⟩
theorem hr_at (plan : List Int) (n t : Nat) (h : t < n) : hrAt ((List.range n).map (hrOf plan)) t = hrOf plan t := by unfold hrAt; simp [h]
theorem nm_at (plan : List Int) (n t : Nat) (h : t < n) : nmAt ((List.range n).map (nmOf plan)) t = nmOf plan t := by unfold nmAt; simp [h]
theorem hours_ok (c : Con) (rv cv hv nv : Value) (sp i o : Int) (plan : List Int) (n : Nat) (t : Nat) (ht : t < n) (g : Int) (hf : Fit c g (Sea.at0 plan t)) (h5 : c.lo ≤ 0) (h6 : (n : Int) - 1 ≤ c.hi) :
    HourOk ⟨c, rv, cv, hv, nv, sp, i, o, (List.range n).map (hrOf plan), (List.range n).map (nmOf plan)⟩ t g (plan.getD t 0) where
 hn := by show t < _; simpa using ht
 nn := by show t < _; simpa using ht
 hy := by show hrAt _ t = _; rw [hr_at _ _ _ ht]; rfl
 ns := by
  intro k hk
  have hk' : k < n := by simpa using hk
  show (nmAt _ k).con = 0 ∧ (nmAt _ k).hour = k ∧ (nmAt _ k).sent = 0
  rw [nm_at _ _ _ hk']
  exact ⟨rfl, rfl, rfl⟩
 am := by show (nmAt _ t).am = _; rw [nm_at _ _ _ ht]; rfl
 fit := hf
 act := by
  show Wl.inB t c.lo c.hi = true
  simp only [Wl.inB, Bool.and_eq_true, decide_eq_true_eq]
  omega
theorem hours_day {plan : List Int} {n : Nat} (hn : n ≤ 8) (hb : ∀ k, k < n → -100 ≤ Sea.at0 plan k ∧ Sea.at0 plan k ≤ 100) : (∀ h, h ∈ (List.range n).map (hrOf plan) → hrB h = true) ∧ ∀ m, m ∈ (List.range n).map (nmOf plan) → nmB 1 m = true := by
 constructor
 · intro h hh
   obtain ⟨t, ht, rfl⟩ := List.mem_map.1 hh
   have := hb t (List.mem_range.1 ht)
   simp [hrB, hrOf, muchB, Wl.inB]
   exact ⟨⟨decide_eq_true (by omega), decide_eq_true (by omega)⟩, decide_eq_true (by omega), decide_eq_true (by omega)⟩
 · intro h hh
   obtain ⟨t, ht, rfl⟩ := List.mem_map.1 hh
   have h1 := hb t (List.mem_range.1 ht)
   have h2 := List.mem_range.1 ht
   simp [nmB, nmOf, Wl.inB]
   exact ⟨decide_eq_true (by omega), decide_eq_true (by omega), decide_eq_true (by omega)⟩
theorem tds_nil (w : World) : TdsAt w nilS [] := ⟨none, 0, rfl, by simp, fun h => by simp at h⟩
end Go.Proofs.YtpcamocnlnlgiaaGreat.W
