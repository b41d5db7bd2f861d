/- Laws and walks: SOwnSp, SP12, Kn2, SQ1, SQ2. -/
import Derived.Test.YtpcamocnlnlgiaaGreatK22
import Derived.Test.YtpcamocnlnlgiaaGreatK30
set_option maxRecDepth 100000
set_option maxHeartbeats 16000000
set_option linter.unusedVariables false
set_option linter.unusedSimpArgs false
namespace Go.Proofs.YtpcamocnlnlgiaaGreat.S
open Go.RowKit Go.Sd
def spanCells : List Sea.Span → List Value
 | [] => []
 | x :: xs => .int .i64 x.lo :: .int .i64 x.hi :: spanCells xs
theorem spanCells_get : ∀ (l : List Sea.Span) (k : Nat), k < l.length → (spanCells l)[k * 2]? = some (.int .i64 (Sea.spanAt l k).lo) ∧ (spanCells l)[k * 2 + 1]? = some (.int .i64 (Sea.spanAt l k).hi)
 | [], k, h => by simp at h
 | x :: xs, 0, _ => ⟨rfl, rfl⟩
 | x :: xs, k + 1, h => by
  have := spanCells_get xs k (by simpa using h)
  rw [show (k + 1) * 2 = k * 2 + 1 + 1 by omega]
  simpa [spanCells, Sea.spanAt] using this
theorem spanCells_set : ∀ (l : List Sea.Span) (k : Nat) (y : Int), k < l.length → (spanCells l).set (k * 2 + 1) (.int .i64 y) = spanCells (l.set k ⟨(Sea.spanAt l k).lo, y⟩)
 | [], k, _, h => by simp at h
 | x :: xs, 0, y, _ => rfl
 | x :: xs, k + 1, y, h => by
  have := spanCells_set xs k y (by simpa using h)
  rw [show (k + 1) * 2 + 1 = (k * 2 + 1) + 1 + 1 by omega]
  simp only [spanCells, List.set_cons_succ, this]
  rfl
def OwnSpans (B : Nat) (w : World) (v : Value) (xs : List Sea.Span) : Prop := w.ownsRow B 23 2 v xs.length (spanCells xs)
theorem OwnSpans.nil (B : Nat) (w : World) : OwnSpans B w (.slice none 0 0) [] := World.ownsRow_nil w B _ 2
theorem OwnSpans.kept {B : Nat} {w w' : World} {row : Option Nat} {v : Value} {xs : List Sea.Span} (h : OwnSpans B w v xs) (hg : w.grownBy w' row) (hne : v.ownBlock = none ∨ v.ownBlock ≠ row) : OwnSpans B w' v xs := World.ownsRow.kept h hg hne
theorem OwnSpans.lt {B : Nat} {w : World} {v : Value} {xs : List Sea.Span} (h : OwnSpans B w v xs) : ∀ k, v.ownBlock = some k → B ≤ k ∧ k < w.heap.size := World.ownsRow.lt h
theorem OwnSpans.same {B : Nat} {w w' : World} {v : Value} {xs : List Sea.Span} (h : OwnSpans B w v xs) (hb : ∀ k, v.ownBlock = some k → w'.heap[k]? = w.heap[k]?) : OwnSpans B w' v xs := by
 obtain ⟨h1, h2⟩ := h
 refine ⟨h1, ?_⟩
 rcases h2 with h2 | ⟨g, cap, cur, rfl, hB, hg, r⟩
 · exact .inl h2
 · exact .inr ⟨g, cap, cur, rfl, hB, (hb g rfl).trans hg, r⟩
theorem OwnSpans.from {B B' : Nat} {w : World} {v : Value} {xs : List Sea.Span} (h : OwnSpans B w v xs) (hB : B' ≤ B) : OwnSpans B' w v xs := by
 obtain ⟨h1, h2⟩ := h
 refine ⟨h1, ?_⟩
 rcases h2 with h2 | ⟨g, cap, cur, hv, hg, r⟩
 · exact .inl h2
 · exact .inr ⟨g, cap, cur, hv, by omega, r⟩
theorem OwnSpans.at {B : Nat} {w : World} {v : Value} {xs : List Sea.Span} (h : OwnSpans B w v xs) : SpansAt w v xs := by
 have hA := h
 obtain ⟨_, h2⟩ := h
 rcases h2 with ⟨rfl, h0⟩ | ⟨g, cap, cur, rfl, hB, hg, hn, hm, hs, ht⟩
 · refine ⟨none, 0, by rw [h0], by simp [h0], fun h => by omega⟩
 · refine ⟨some ⟨g, 0, none⟩, cap, rfl, by omega, fun _ => ⟨g, 0, rfl, (zqo hg), fun k hk => ?_⟩⟩
   have c := spanCells_get xs k hk
   have a1 := hA.cellAt (k * 2) (by omega)
   have a2 := hA.cellAt (k * 2 + 1) (by omega)
   rw [Nat.zero_add]
   exact ⟨a1.trans c.1, a2.trans c.2⟩
theorem OwnSpans.form {B : Nat} {w : World} {v : Value} {xs : List Sea.Span} (h : OwnSpans B w v xs) (hn : 0 < xs.length) : ∃ g cap, v = .slice (some ⟨g, 0, none⟩) xs.length cap ∧ B ≤ g ∧ g < w.heap.size ∧ xs.length ≤ 9223372036854775807 ∧
    (∀ k, k < xs.length → w.cell? ⟨g, k * 2, none⟩ = some (.int .i64 (Sea.spanAt xs k).lo) ∧ w.cell? ⟨g, k * 2 + 1, none⟩ = some (.int .i64 (Sea.spanAt xs k).hi)) ∧ (∀ k, w.frozen? ⟨g, k, none⟩ = false) := by
 have h0 := h
 obtain ⟨_, h2⟩ := h
 rcases h2 with ⟨rfl, h0⟩ | ⟨g, cap, cur, rfl, hB, hg, hn', hm, hs, ht⟩
 · omega
 · unfold maxLen at hm
   refine ⟨g, cap, rfl, hB, (zqo hg), by omega, fun k hk => ?_, fun k => h0.frozenAt k⟩
   have c := spanCells_get xs k hk
   exact ⟨(h0.cellAt (k * 2) (by omega)).trans c.1, (h0.cellAt (k * 2 + 1) (by omega)).trans c.2⟩
theorem OwnSpans.high {B : Nat} {w : World} {g cap : Nat} {xs : List Sea.Span} (h : OwnSpans B w (.slice (some ⟨g, 0, none⟩) xs.length cap) xs) (k : Nat) (hk : k < xs.length) (y : Int) :
    OwnSpans B (w.setCell ⟨g, k * 2 + 1, none⟩ (.int .i64 y)) (.slice (some ⟨g, 0, none⟩) xs.length cap) (xs.set k ⟨(Sea.spanAt xs k).lo, y⟩) ∧ w.grownBy (w.setCell ⟨g, k * 2 + 1, none⟩ (.int .i64 y)) (some g) := by
 have := h.stored (k * 2 + 1) (.int .i64 y)
 rw [spanCells_set xs k y hk] at this
 refine ⟨?_, this.2⟩
 unfold OwnSpans
 rw [List.length_set]
 exact this.1
def spAt (vs : List Value) (i : Nat) : Value := vs.getD i (.slice none 0 0)
theorem OwnSpans.slice {B : Nat} {w : World} {v : Value} {xs : List Sea.Span} (h : OwnSpans B w v xs) : ∃ a cap, v = .slice a xs.length cap ∧ xs.length ≤ 9223372036854775807 := by
 obtain ⟨_, h2⟩ := h
 rcases h2 with ⟨rfl, h0⟩ | ⟨g, cap, cur, rfl, hB, hg, hn, hm, hs, ht⟩
 · exact ⟨none, 0, by rw [h0], by omega⟩
 · unfold maxLen at hm; exact ⟨_, cap, rfl, by omega⟩
theorem Kept.tail {S : Nat → Prop} {a b c : World} {row : Option Nat} (h : Kept S a b) (hg : b.grownBy c row) (hr : ∀ k, row = some k → a.heap.size ≤ k) : Kept S a c :=
 ⟨hg.os.trans h.os, hg.tape.trans h.tape, hg.output.trans h.output, Nat.le_trans h.size hg.size, fun k hk hs => (hg.block k (Nat.lt_of_lt_of_le hk h.size) (fun e => by have := hr k e.symm; omega)).trans (h.block k hk hs)⟩
theorem MemoAt.tail {w w' : World} {mb : Nat} {s : Sea.S} {row : Option Nat} (h : Memo w mb s) (hg : w.grownBy w' row) (hr : row ≠ some mb) : Memo w' mb s := h.same (hg.block mb h.lt (Ne.symm hr))
/-! Plain -/
end Go.Proofs.YtpcamocnlnlgiaaGreat.S
namespace Go.Proofs.YtpcamocnlnlgiaaGreat.S
open Go.Sd
def exS : Sea.S := ⟨10, 4, 4, 6, [⟨0, 4, 2⟩, ⟨5, 2, 4⟩], [⟨10, 8, 3, 3, 0, 10, -1, 1⟩, ⟨20, 18, 3, 3, 2, 10, -2, 0⟩, ⟨30, 25, 1, 4, 0, 9, 0, 0⟩]⟩
abbrev exN : List Int := [0, -1, 0]
theorem ex_valid : Sea.validB exS = true := by decide +kernel
theorem ex_noms : exS.nomsB exN = true := by decide +kernel
theorem ex_best : bestOf exS exN = ([3, 2, -4], -30, 0) := by decide +kernel
end Go.Proofs.YtpcamocnlnlgiaaGreat.S
set_option linter.unusedVariables false
set_option linter.unusedSimpArgs false
namespace Go.Proofs.YtpcamocnlnlgiaaGreat.S
open Go.RowKit Go.Sd
theorem ints_at {w : World} {n : Nat} {l : List Int} {t : TypeId} (h : w.heap[n]? = some (.cells (l.map (Value.int .i64)).toArray t)) (cap : Nat) (hl : l.length ≤ 1000) : IntsAt w (.slice (some ⟨n, 0, none⟩) l.length cap) l := by
 refine ⟨_, cap, rfl, by unfold maxLen; omega, fun _ => ⟨n, 0, rfl, (zqo h), fun k hk => ?_⟩⟩
 rw [Nat.zero_add, (row_cells h).2.1 k]
 simp [Sea.at0, hk]
theorem progExample (w : World) : Calls Tryz.prog 22 #[] w fun e w' => ∃ v, e = .returned v ∧ SeasonAt w' v exS ∧ Below w.heap.size w w' := by
 go_enter Tryz.func22, Tryz.ntmps22
 go_wp2
 generalize hW : ((w.alloc _).alloc _).alloc _ = W
 obtain ⟨n0, n1, n2, -, hB⟩ := three_new hW
 clear hW
 obtain ⟨-, d0, -⟩ := row_cells n0
 obtain ⟨z1, d1, -⟩ := row_cells n1
 obtain ⟨z2, d2, -⟩ := row_cells n2
 have a0 := d0 0
 have a1 := d0 1
 have a2 := d0 2
 have a3 := d0 3
 have a4 := d0 4
 have a5 := d0 5
 simp only [List.getElem?_toArray, List.getElem?_cons_zero, List.getElem?_cons_succ] at a0 a1 a2 a3 a4 a5
 refine bodyPost_ret (v := .agg #[.int .i64 10, .int .i64 4, .int .i64 4, .int .i64 6, .slice (some ⟨w.heap.size + 1, 0, none⟩) 2 2, .slice (some ⟨w.heap.size + 1 + 1, 0, none⟩) 3 3])
  (by simp [results, Tryz.results22, go_sem, a0, a1, a2, a3, a4, a5]) rfl ⟨_, rfl, ⟨_, _, rfl, ⟨_, 2, rfl, by decide, fun _ => ⟨_, 0, rfl, z1, ?_⟩⟩, ⟨_, 3, rfl, by decide, fun _ => ⟨_, 0, rfl, z2, ?_⟩⟩⟩, hB⟩
 · intro k hk
   have hk : k < 2 := hk
   match k, hk with
   | 0, _ => exact ⟨d1 0, d1 1, d1 2⟩
   | 1, _ => exact ⟨d1 3, d1 4, d1 5⟩
 · intro k hk
   have hk : k < 3 := hk
   match k, hk with
   | 0, _ => exact ⟨d2 0, d2 1, d2 2, d2 3, d2 4, d2 5, d2 6, d2 7⟩
   | 1, _ => exact ⟨d2 8, d2 9, d2 10, d2 11, d2 12, d2 13, d2 14, d2 15⟩
   | 2, _ => exact ⟨d2 16, d2 17, d2 18, d2 19, d2 20, d2 21, d2 22, d2 23⟩
theorem knownBest (sv nv : Value) (w : World) (hs : SeasonAt w sv exS) (hn : IntsAt w nv exN) :
    Calls Tryz.prog 8 #[sv, nv] w fun e w' => ∃ v, e = .returned (.tuple #[v, .int .i64 (-30), .int .i64 0]) ∧ IntsAt w' v [3, 2, -4] ∧ Below w.heap.size w w' := by
 refine (progBestYes sv nv exS exN w hs hn ex_valid ex_noms).mono ?_
 rintro e w' ⟨v, he, ho, hb⟩
 rw [ex_best] at he ho
 exact ⟨v, he, ho.at, hb⟩
theorem knownSame (av bv : Value) (l : List Int) (w : World) (ha : IntsAt w av l) (hb : IntsAt w bv l) :
    Calls Tryz.prog 23 #[av, bv] w fun e w' => e = .returned (.bool true) ∧ Below w.heap.size w w' := by
 refine (refSame av bv l l w ha hb).mono ?_
 rintro e w' ⟨he, hb⟩
 exact ⟨by simpa using he, hb⟩
end Go.Proofs.YtpcamocnlnlgiaaGreat.S
namespace Go.Proofs.YtpcamocnlnlgiaaGreat.S
open Go.RowKit Go.Sd
theorem ints_new {w : World} {n : Nat} {t : TypeId} (l : List Int) (hn : n = w.heap.size) (cap : Nat) (hl : l.length ≤ 1000) : IntsAt (w.alloc (.cells (l.map (Value.int .i64)).toArray t)) (.slice (some ⟨n, 0, none⟩) l.length cap) l := by
 subst hn; exact ints_at (World.alloc_heap_new _ _) cap hl
end Go.Proofs.YtpcamocnlnlgiaaGreat.S
set_option linter.unusedVariables false
set_option linter.unusedSimpArgs false
namespace Go.Proofs.YtpcamocnlnlgiaaGreat.B
open Go.RowKit Go.Sd Wl L
attribute [local go_sem] Oper.semAt_some
theorem row2c {w : World} {n : Nat} {a0 a1 : Value} {e : TypeId} (h : w.heap[n]? = some (.cells #[a0, a1] e (0, 0))) : w.cell? ⟨n, 0, none⟩ = some a0 ∧ w.cell? ⟨n, 1, none⟩ = some a1 := by
 have r := (row_cells h).2.1
 exact ⟨r 0, r 1⟩
theorem ex_pres : G.presF Gas.exC Gas.exS.low Gas.exC.vhi = ⟨236949, 55⟩ ∧ G.presF Gas.exC Gas.exS.high Gas.exC.vlo = ⟨128867, 25⟩ := ⟨by rfl, by rfl⟩
theorem exPress (w : World) : Calls Tryz.prog 17 #[G.cavV Gas.exC, G.stV Gas.exS] w fun e w' => e = .returned (.tuple #[.agg #[.int .i64 236949, .int .i64 55], .agg #[.int .i64 128867, .int .i64 25], .int .i64 0]) ∧ Below w.heap.size w w' := by
 have := G.progPressureOk (c := Gas.exC) (s := Gas.exS) w (by rfl) (by rfl)
 rw [ex_pres.1, ex_pres.2] at this
 exact this
theorem progKnown20 (w : World) : Calls Tryz.prog 5 #[] w fun e w' => e = .returned (.bool true) ∧ Below w.heap.size w w' := by
 have kC := Lib.hid G.lawC
 have kS := Lib.hid G.lawS
 have kP := Lib.hid exPress
 have kW := Lib.hid progWellEx
 have kN := Lib.hid knownNumber
 have kE := Lib.hid S.progExample
 have kB := Lib.hid S.knownBest
 have kM := Lib.hid S.knownSame
 go_enter Tryz.func5, Tryz.ntmps5
 go_wp2_with (first | (go_at_call 18; (with_reducible refine Calls.mono (kC.out _) ?_); rintro e w1 ⟨rfl, hB1⟩) | (go_at_call 19; (with_reducible refine Calls.mono (kS.out _) ?_); rintro e w2 ⟨rfl, hB2⟩) | (go_at_call 17; (with_reducible refine Calls.mono (kP.out _) ?_); rintro e w3 ⟨rfl, hB3⟩) | (go_at_call 21; fail))
 obtain ⟨Ua, hUa⟩ : ∃ U, w3.alloc (.cells #[.int .i64 236949, .int .i64 55] 76) = U := ⟨_, rfl⟩
 obtain ⟨ea, ba, za⟩ := boxedB hUa
 obtain ⟨Ub, hUb⟩ : ∃ U, Ua.alloc (.cells #[.int .i64 128867, .int .i64 25] 76) = U := ⟨_, rfl⟩
 obtain ⟨eb, bb, zb⟩ := boxedB hUb
 have sza : Ua.heap.size = w3.heap.size + 1 := by rw [← hUa]; simp
 rw [sza] at eb
 replace ea := kept_block bb ea
 have hb := Lib.hid (below_tr (below_tr (below_tr (below_tr hB1 hB2) hB3) ba) bb)
 rw [hUa, hUb]
 clear hUa hUb hB1 hB2 hB3 ba bb sza
 go_wp2_with (first | (go_at_call 21; (with_reducible refine Calls.mono (kW.out _) ?_); rintro e w4 ⟨pv, rfl, hpv, hB4⟩) | (go_at_call 20; (with_reducible refine Calls.mono (kN.out _ _ hpv.out) ?_); rintro e w5 ⟨rfl, hB5⟩) | (go_at_call 22; (with_reducible refine Calls.mono (kE.out _) ?_); rintro e w6 ⟨sv, rfl, hsv, hB6⟩) | (go_at_call 8; refine Calls.mono (kB.out _ _ _ (hsv.mono (Below.alloc (Below.refl _ _) (Nat.le_refl _) _)) (S.ints_new [0, -1, 0] rfl 3 (by decide))) ?_; rintro e w7 ⟨ov, rfl, hov, hB7⟩; (have hX := below_tr hB4 (below_tr hB5 (below_tr hB6 (below_tr (Below.alloc (Below.refl _ _) (Nat.le_refl _) _) hB7)))); obtain ⟨xa, ya⟩ := row2c (kept_block hX ea); obtain ⟨xb, yb⟩ := row2c (kept_block hX eb); (have za7 := (Array.getElem?_eq_some_iff.1 (kept_block hX ea)).1); (have zb7 := (Array.getElem?_eq_some_iff.1 (kept_block hX eb)).1)) | (go_at_call 23; refine Calls.mono (kM.out _ _ [3, 2, -4] _ (hov.mono (Below.alloc (Below.refl _ _) (Nat.le_refl _) _)) (S.ints_new [3, 2, -4] rfl 3 (by decide))) ?_; rintro e w8 ⟨rfl, hB8⟩))
 go_ret
 exact ⟨rfl, below_tr hb.out (below_tr hX (below_tr (Below.alloc (Below.refl _ _) (Nat.le_refl _) _) hB8))⟩
end Go.Proofs.YtpcamocnlnlgiaaGreat.B
set_option linter.unusedVariables false
set_option linter.unusedSimpArgs false
namespace Go.Proofs.YtpcamocnlnlgiaaGreat.S
open Go.RowKit Go.Sd
theorem rule_tests (s : Sea.S) (k : Nat) (fill nom u : Int) : s.rule k fill nom u = if decide ((Sea.dayAt s.days k).offer < u) = true then 2 else if decide ((Sea.dayAt s.days k).take < -u) = true then 3 else if decide ((s.lim fill).inn < nom + u) = true then 4 else
    if decide ((s.lim fill).out < -nom - u) = true then 5 else if (!Sea.inB (fill + nom + u) (Sea.dayAt s.days k).glo (Sea.dayAt s.days k).ghi) = true then 6 else if (decide ((k : Int) = (s.days.length : Int) - 1) && !Sea.inB (fill + nom + u) s.elo s.ehi) = true then 7 else 1 := by
 unfold Sea.S.rule
 simp
abbrev brokenV (r : Int) : Value := .iface 148 (.agg #[.int .i64 r])
def MustPost (r : Int) (w : World) (e : Ending) (w' : World) : Prop := (if r = 1 then e = .returned (.tuple #[]) else e = .panicked [{ v := brokenV r, recovered := false }]) ∧ Below w.heap.size w w'
theorem MustPost.no {r : Int} {w w' : World} (h : r = 1) (hb : Below w.heap.size w w') : MustPost r w (.returned (.tuple #[])) w' := ⟨by rw [if_pos h], hb⟩
theorem MustPost.yes {r q : Int} {w w' : World} (h : r = q) (hq : q ≠ 1) (hb : Below w.heap.size w w') : MustPost r w (.panicked [{ v := brokenV q, recovered := false }]) w' := by subst h; exact ⟨by rw [if_neg hq], hb⟩
theorem progMust (lv mv : Value) (s : Sea.S) (k : Nat) (fill nom u : Int) (w : World) (hl : LookAt w lv mv s) (hk : k < s.days.length) (ok : Sea.Ok s)
    (b1 : 0 ≤ fill ∧ fill ≤ 100) (b2 : -100 ≤ nom ∧ nom ≤ 100) (b3 : -100 ≤ u ∧ u ≤ 100) :
    Calls Tryz.prog 70 #[ordV lv k fill nom u] w (MustPost (s.rule k fill nom u) w) := by
 have hp := rule_tests s k fill nom u
 have c0 := fun (w1 : World) (h : LookAt w1 lv mv s) => progBuys lv mv s k fill nom u w1 h hk
 have c1 := fun (w1 : World) (h : LookAt w1 lv mv s) => progSells lv mv s k fill nom u w1 h hk b3
 have c2 := fun (w1 : World) (h : LookAt w1 lv mv s) => progComes lv mv s k fill nom u w1 h hk ok b1 b2 b3
 have c3 := fun (w1 : World) (h : LookAt w1 lv mv s) => progGoes lv mv s k fill nom u w1 h hk ok b1 b2 b3
 have c4 := fun (w1 : World) (h : LookAt w1 lv mv s) => progGate lv mv s k fill nom u w1 h hk b1 b2 b3
 have c5 := fun (w1 : World) (h : LookAt w1 lv mv s) => progEnd lv mv s k fill nom u w1 h hk b1 b2 b3
 generalize decide ((Sea.dayAt s.days k).offer < u) = t0 at hp c0
 generalize decide ((Sea.dayAt s.days k).take < -u) = t1 at hp c1
 generalize decide ((s.lim fill).inn < nom + u) = t2 at hp c2
 generalize decide ((s.lim fill).out < -nom - u) = t3 at hp c3
 generalize (!Sea.inB (fill + nom + u) (Sea.dayAt s.days k).glo (Sea.dayAt s.days k).ghi) = t4 at hp c4
 generalize (decide ((k : Int) = (s.days.length : Int) - 1) && !Sea.inB (fill + nom + u) s.elo s.ehi) = t5 at hp c5
 generalize s.rule k fill nom u = r at *
 replace hp := Lib.hid hp
 go_enter Tryz.func70, Tryz.ntmps70
 go_wp2_with (go_at_call 98; refine (progAll _ _ _ _ _ _).mono ?_; rintro e w1 ⟨rfl, hB1⟩)
 have hl3 := (hl.mono ((Below.refl _ _).alloc (Nat.le_refl _) _)).mono hB1
 have hB2 : Below w.heap.size w w1 := ((Below.refl _ _).alloc (Nat.le_refl _) _).trans (hB1.mono (by simp))
 clear hl hB1
 go_loopw [6] (fun i wr => ((i = .int .i64 0 ∧ Hid (True)) ∨ (i = .int .i64 1 ∧ Hid (t0 = false)) ∨ (i = .int .i64 2 ∧ Hid (t0 = false ∧ t1 = false)) ∨ (i = .int .i64 3 ∧ Hid (t0 = false ∧ t1 = false ∧ t2 = false)) ∨ (i = .int .i64 4 ∧ Hid (t0 = false ∧ t1 = false ∧ t2 = false ∧ t3 = false)) ∨ (i = .int .i64 5 ∧ Hid (t0 = false ∧ t1 = false ∧ t2 = false ∧ t3 = false ∧ t4 = false)) ∨ (i = .int .i64 6 ∧ Hid (t0 = false ∧ t1 = false ∧ t2 = false ∧ t3 = false ∧ t4 = false ∧ t5 = false))) ∧ ∃ g : Grow w1, wr = g.x) (fun i _ => 6 - (intOf i).toNat)
 case atStart => exact ⟨.inl ⟨rfl, trivial⟩, Grow.self w1, rfl⟩
 case round =>
  obtain ⟨hi, g, rfl⟩ := hrel
  have hl4 := hl3.mono g.h
  have hB3 : Below w.heap.size w g.x := hB2.trans (g.h.mono hB2.size)
  rcases hi with ⟨rfl, hh⟩ | ⟨rfl, hh⟩ | ⟨rfl, hh⟩ | ⟨rfl, hh⟩ | ⟨rfl, hh⟩ | ⟨rfl, hh⟩ | ⟨rfl, hh⟩
  · have hx : ∀ w : World, (Instr.index 172 (allV (ordV lv k fill nom u)) (.int .i64 0)).run Tryz.prog w = .ok (.func (.func 127) #[ordV lv k fill nom u] #[]) w := fun w => (all_index _ _ _ _ _ _ w).1
    cases ht : t0
    · replace c0 := fun (w1 : World) (h : LookAt w1 lv mv s) => ht ▸ c0 w1 h
      replace ht := Lib.hid ht
      go_wp2_with (go_at_call 127; refine (c0 _ hl4).mono ?_; rintro e w2 ⟨rfl, hB4⟩)
      exact ⟨⟨.inr (.inl ⟨rfl, by unfold Hid; simp [hh.out, ht.out]⟩), g.next hB4⟩, by simp [intOf]⟩
    · replace c0 := fun (w1 : World) (h : LookAt w1 lv mv s) => ht ▸ c0 w1 h
      replace ht := Lib.hid ht
      go_wp2_with (go_at_call 127; refine (c0 _ hl4).mono ?_; rintro e w2 ⟨rfl, hB4⟩)
      refine ⟨rfl, MustPost.yes (q := 2) (by rw [hp.out]; simp [hh.out, ht.out]) (by decide) (hB3.trans (hB4.mono hB3.size))⟩
  · have hx : ∀ w : World, (Instr.index 172 (allV (ordV lv k fill nom u)) (.int .i64 1)).run Tryz.prog w = .ok (.func (.func 128) #[ordV lv k fill nom u] #[]) w := fun w => (all_index _ _ _ _ _ _ w).2.1
    cases ht : t1
    · replace c1 := fun (w1 : World) (h : LookAt w1 lv mv s) => ht ▸ c1 w1 h
      replace ht := Lib.hid ht
      go_wp2_with (go_at_call 128; refine (c1 _ hl4).mono ?_; rintro e w2 ⟨rfl, hB4⟩)
      exact ⟨⟨.inr (.inr (.inl ⟨rfl, by unfold Hid; simp [hh.out, ht.out]⟩)), g.next hB4⟩, by simp [intOf]⟩
    · replace c1 := fun (w1 : World) (h : LookAt w1 lv mv s) => ht ▸ c1 w1 h
      replace ht := Lib.hid ht
      go_wp2_with (go_at_call 128; refine (c1 _ hl4).mono ?_; rintro e w2 ⟨rfl, hB4⟩)
      refine ⟨rfl, MustPost.yes (q := 3) (by rw [hp.out]; simp [hh.out, ht.out]) (by decide) (hB3.trans (hB4.mono hB3.size))⟩
  · have hx : ∀ w : World, (Instr.index 172 (allV (ordV lv k fill nom u)) (.int .i64 2)).run Tryz.prog w = .ok (.func (.func 129) #[ordV lv k fill nom u] #[]) w := fun w => (all_index _ _ _ _ _ _ w).2.2.1
    cases ht : t2
    · replace c2 := fun (w1 : World) (h : LookAt w1 lv mv s) => ht ▸ c2 w1 h
      replace ht := Lib.hid ht
      go_wp2_with (go_at_call 129; refine (c2 _ hl4).mono ?_; rintro e w2 ⟨rfl, hB4⟩)
      exact ⟨⟨.inr (.inr (.inr (.inl ⟨rfl, by unfold Hid; simp [hh.out, ht.out]⟩))), g.next hB4⟩, by simp [intOf]⟩
    · replace c2 := fun (w1 : World) (h : LookAt w1 lv mv s) => ht ▸ c2 w1 h
      replace ht := Lib.hid ht
      go_wp2_with (go_at_call 129; refine (c2 _ hl4).mono ?_; rintro e w2 ⟨rfl, hB4⟩)
      refine ⟨rfl, MustPost.yes (q := 4) (by rw [hp.out]; simp [hh.out, ht.out]) (by decide) (hB3.trans (hB4.mono hB3.size))⟩
  · have hx : ∀ w : World, (Instr.index 172 (allV (ordV lv k fill nom u)) (.int .i64 3)).run Tryz.prog w = .ok (.func (.func 130) #[ordV lv k fill nom u] #[]) w := fun w => (all_index _ _ _ _ _ _ w).2.2.2.1
    cases ht : t3
    · replace c3 := fun (w1 : World) (h : LookAt w1 lv mv s) => ht ▸ c3 w1 h
      replace ht := Lib.hid ht
      go_wp2_with (go_at_call 130; refine (c3 _ hl4).mono ?_; rintro e w2 ⟨rfl, hB4⟩)
      exact ⟨⟨.inr (.inr (.inr (.inr (.inl ⟨rfl, by unfold Hid; simp [hh.out, ht.out]⟩)))), g.next hB4⟩, by simp [intOf]⟩
    · replace c3 := fun (w1 : World) (h : LookAt w1 lv mv s) => ht ▸ c3 w1 h
      replace ht := Lib.hid ht
      go_wp2_with (go_at_call 130; refine (c3 _ hl4).mono ?_; rintro e w2 ⟨rfl, hB4⟩)
      refine ⟨rfl, MustPost.yes (q := 5) (by rw [hp.out]; simp [hh.out, ht.out]) (by decide) (hB3.trans (hB4.mono hB3.size))⟩
  · have hx : ∀ w : World, (Instr.index 172 (allV (ordV lv k fill nom u)) (.int .i64 4)).run Tryz.prog w = .ok (.func (.func 131) #[ordV lv k fill nom u] #[]) w := fun w => (all_index _ _ _ _ _ _ w).2.2.2.2.1
    cases ht : t4
    · replace c4 := fun (w1 : World) (h : LookAt w1 lv mv s) => ht ▸ c4 w1 h
      replace ht := Lib.hid ht
      go_wp2_with (go_at_call 131; refine (c4 _ hl4).mono ?_; rintro e w2 ⟨rfl, hB4⟩)
      exact ⟨⟨.inr (.inr (.inr (.inr (.inr (.inl ⟨rfl, by unfold Hid; simp [hh.out, ht.out]⟩))))), g.next hB4⟩, by simp [intOf]⟩
    · replace c4 := fun (w1 : World) (h : LookAt w1 lv mv s) => ht ▸ c4 w1 h
      replace ht := Lib.hid ht
      go_wp2_with (go_at_call 131; refine (c4 _ hl4).mono ?_; rintro e w2 ⟨rfl, hB4⟩)
      refine ⟨rfl, MustPost.yes (q := 6) (by rw [hp.out]; simp [hh.out, ht.out]) (by decide) (hB3.trans (hB4.mono hB3.size))⟩
  · have hx : ∀ w : World, (Instr.index 172 (allV (ordV lv k fill nom u)) (.int .i64 5)).run Tryz.prog w = .ok (.func (.func 132) #[ordV lv k fill nom u] #[]) w := fun w => (all_index _ _ _ _ _ _ w).2.2.2.2.2
    cases ht : t5
    · replace c5 := fun (w1 : World) (h : LookAt w1 lv mv s) => ht ▸ c5 w1 h
      replace ht := Lib.hid ht
      go_wp2_with (go_at_call 132; refine (c5 _ hl4).mono ?_; rintro e w2 ⟨rfl, hB4⟩)
      exact ⟨⟨.inr (.inr (.inr (.inr (.inr (.inr (⟨rfl, by unfold Hid; simp [hh.out, ht.out]⟩)))))), g.next hB4⟩, by simp [intOf]⟩
    · replace c5 := fun (w1 : World) (h : LookAt w1 lv mv s) => ht ▸ c5 w1 h
      replace ht := Lib.hid ht
      go_wp2_with (go_at_call 132; refine (c5 _ hl4).mono ?_; rintro e w2 ⟨rfl, hB4⟩)
      refine ⟨rfl, MustPost.yes (q := 7) (by rw [hp.out]; simp [hh.out, ht.out]) (by decide) (hB3.trans (hB4.mono hB3.size))⟩
  · go_wp2
    go_end0
    exact MustPost.no (by rw [hp.out]; simp [hh.out]) hB3
end Go.Proofs.YtpcamocnlnlgiaaGreat.S
set_option linter.unusedVariables false
set_option linter.unusedSimpArgs false
namespace Go.Proofs.YtpcamocnlnlgiaaGreat.S
open Go.RowKit Go.Sd
theorem rule_catch (b : Nat) (x r : Int) (older : List PanicEntry) (w : World) (hc : w.cell? ⟨b, 0, none⟩ = some (.int .i64 x)) (hz : w.frozen? ⟨b, 0, none⟩ = false) :
    CallsD Tryz.prog 69 #[.pointer (some ⟨b, 0, none⟩)] (.panicking ({ v := brokenV r, recovered := false } :: older)) w fun e u' w' =>
     e = .returned (.tuple #[]) ∧ u' = .panicking ({ v := brokenV r, recovered := true } :: older) ∧ w' = (w.setCell ⟨b, 0, none⟩ (.int .i64 r)).alloc (.cells #[.int .i64 r] 148) := by
 have hta : ∀ w, (Instr.typeAssert (.iface 148 (.agg #[.int .i64 r])) 20 148 true).run Tryz.prog w = .ok (.tuple #[.agg #[.int .i64 r], .bool true]) w := fun w => by kernel_rfl
 have hb := World.block_lt_of_cell? w ⟨b, 0, none⟩ hc
 simp only at hb
 have hc1 := kept_cell (below_al (Below.refl w.heap.size w) (.cells #[.int .i64 r] 148)) hc
 have hz1 := ((below_al (Below.refl w.heap.size w) (.cells #[.int .i64 r] 148)).frozen (p := ⟨b, 0, none⟩) hb).trans hz
 have hne : ¬ b = w.heap.size := by omega
 refine callsD_of_wpS Tryz.func69 rfl fun c₀ cs hu => ?_
 apply wpS_seq
 apply wpS_region
 simp [wpOpsS, go_sem, recoverD, hu, Tryz.ntmps69, Exit.thenS]
 refine wpS_of_wp ?_
 go_wp2
 simp [bodyPostS, results, Tryz.results69, go_sem]
theorem rule_idle (p : Addr) (w : World) :
    CallsD Tryz.prog 69 #[.pointer (some p)] .returning w fun e u' w' => e = .returned (.tuple #[]) ∧ u' = .returning ∧ w' = w := by
 refine callsD_of_wpS Tryz.func69 rfl fun c₀ cs hu => ?_
 apply wpS_seq
 apply wpS_region
 simp [wpOpsS, go_sem, recoverD, hu, Tryz.ntmps69, Exit.thenS]
 refine wpS_of_wp ?_
 go_wp2
 cases c₀
 simp_all [bodyPostS, results, Tryz.results69, go_sem]
theorem progRule (lv mv : Value) (s : Sea.S) (k : Nat) (fill nom u : Int) (w : World) (hl : LookAt w lv mv s) (hk : k < s.days.length) (ok : Sea.Ok s)
    (b1 : 0 ≤ fill ∧ fill ≤ 100) (b2 : -100 ≤ nom ∧ nom ≤ 100) (b3 : -100 ≤ u ∧ u ≤ 100) :
    Calls Tryz.prog 40 #[ordV lv k fill nom u] w fun e w' => e = .returned (.int .i64 (s.rule k fill nom u)) ∧ Below w.heap.size w w' := by
 have hmf : ∀ (fn : Fn) (first cap : Array Value) (w : World), (Instr.makeFunc fn first cap).run Tryz.prog w = .ok (.func fn first cap) w := fun _ _ _ _ => rfl
 obtain ⟨W, hW⟩ : ∃ W, w.alloc (oBox lv k fill nom u) = W := ⟨_, rfl⟩
 obtain ⟨hsz, hBw, q0, q1, q2, q3, q4⟩ := box_order hW
 obtain ⟨X, hX⟩ : ∃ X, W.alloc (.cells #[.int .i64 0] 44) = X := ⟨_, rfl⟩
 have hBX : Below W.heap.size W X := by rw [← hX]; exact (Below.refl _ _).alloc (Nat.le_refl _) _
 have hnew := World.alloc_heap_new W (.cells #[.int .i64 0] 44)
 rw [hX] at hnew
 obtain ⟨hWX, d0, f0⟩ := row_cells hnew
 have d0a := d0 0
 have f0a := f0 0
 simp only [List.getElem?_toArray, List.getElem?_cons_zero] at d0a
 clear d0 f0 hnew
 have p0 := kept_cell hBX q0
 have p1 := kept_cell hBX q1
 have p2 := kept_cell hBX q2
 have p3 := kept_cell hBX q3
 have p4 := kept_cell hBX q4
 have hwX : Below w.heap.size w X := hBw.trans (hBX.mono (Nat.le_of_lt hsz))
 have hM := Lib.hid (progMust lv mv s k fill nom u X (hl.mono hwX) hk ok b1 b2 b3)
 clear hl hk ok b1 b2 b3 q0 q1 q2 q3 q4
 generalize s.rule k fill nom u = r at *
 by_cases hr : r = 1
 · subst hr
   go_enter_defers Tryz.func40, Tryz.ntmps40
   go_wp2_with (go_at_call 70; refine Calls.mono hM.out ?_; rintro e w1 ⟨he, hb1⟩; rw [if_pos rfl] at he; subst he; have n0 := kept_cell hb1 d0a; have n1 := (hb1.frozen (p := ⟨W.heap.size, 0, none⟩) hWX).trans f0a)
   refine leaves_cons (f := 69) (args := #[.pointer (some ⟨W.heap.size, 0, none⟩)]) (by simp) (by simp [go_sem]) ?_
   refine (rule_idle ⟨W.heap.size, 0, none⟩ _).mono ?_
   rintro e u' w'' ⟨rfl, rfl, rfl⟩
   simp [Leaves, settle, results, Tryz.results40, go_sem, n0, n1]
   exact (hwX.trans (hb1.mono hwX.size)).setCell (by show _ ≤ W.heap.size; omega) _
 · go_enter_defers Tryz.func40, Tryz.ntmps40
   replace hr := Lib.hid hr
   go_wp2_with (go_at_call 70; refine Calls.mono hM.out ?_; rintro e w1 ⟨he, hb1⟩; rw [if_neg hr.out] at he; subst he; have n0 := kept_cell hb1 d0a; have n1 := (hb1.frozen (p := ⟨W.heap.size, 0, none⟩) hWX).trans f0a)
   refine leaves_cons (f := 69) (args := #[.pointer (some ⟨W.heap.size, 0, none⟩)]) (by simp) (by simp [go_sem]) ?_
   refine (rule_catch W.heap.size 0 r [] _ n0 n1).mono ?_
   rintro e u' w'' ⟨rfl, rfl, rfl⟩
   have n2 : ((w1.setCell ⟨W.heap.size, 0, none⟩ (.int .i64 r)).alloc (.cells #[.int .i64 r] 148)).cell? ⟨W.heap.size, 0, none⟩ = some (.int .i64 r) := kept_cell (below_al (Below.refl _ _) _) (World.cell?_setCell_same' _ _ _ (by rw [n0]; rfl))
   simp [Leaves, settle, results, Tryz.results40, go_sem, n2]
   have hbs := (hwX.trans (hb1.mono hwX.size)).setCell (p := ⟨W.heap.size, 0, none⟩) (by show _ ≤ W.heap.size; omega) (.int .i64 r)
   exact hbs.alloc hbs.size _
end Go.Proofs.YtpcamocnlnlgiaaGreat.S
