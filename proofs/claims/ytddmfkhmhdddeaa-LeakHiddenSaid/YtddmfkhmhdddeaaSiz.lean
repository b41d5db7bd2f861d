/- Walks: all sizes with which a leak in a zone since a day agrees (the program). -/
import Derived.Test.YtddmfkhmhdddeaaPar
set_option linter.unusedVariables false
set_option linter.unusedSimpArgs false
namespace Lk
/-- A book without the readings of a zone. -/
def Bk.others (b : Bk) (z : Nat) : Bk := ⟨b.first, b.flows, b.reads.filter fun r : Rd => decide (r.zone ≠ (z : Int))⟩
def Bk.othTo (b : Bk) (z k : Nat) : List Rd := (b.reads.take k).filter fun r : Rd => decide (r.zone ≠ (z : Int))
theorem othTo_all {b : Bk} {z : Nat} : b.othTo z b.reads.length = (b.others z).reads := by unfold Bk.othTo Bk.others; rw [List.take_length]
theorem othTo_take {b : Bk} {z k : Nat} (h : k < b.reads.length) (hz : ¬ (rdAt b.reads k).zone = z) : b.othTo z (k + 1) = b.othTo z k ++ [rdAt b.reads k] := by
  have e : rdAt b.reads k = b.reads[k] := by simp [rdAt, h]
  unfold Bk.othTo
  rw [List.take_succ_eq_append_getElem h, List.filter_append, ← e]
  simp [hz]
theorem othTo_skip {b : Bk} {z k : Nat} (h : k < b.reads.length) (hz : (rdAt b.reads k).zone = z) : b.othTo z (k + 1) = b.othTo z k := by
  have e : rdAt b.reads k = b.reads[k] := by simp [rdAt, h]
  unfold Bk.othTo
  rw [List.take_succ_eq_append_getElem h, List.filter_append, ← e]
  simp [hz]
theorem othTo_len {b : Bk} {z k : Nat} : (b.othTo z k).length ≤ b.reads.length := by
  unfold Bk.othTo
  have := List.length_filter_le (fun r : Rd => decide (r.zone ≠ (z : Int))) (b.reads.take k)
  rw [List.length_take] at this
  omega
theorem oth_ok {b : Bk} (ok : Ok b) (z : Nat) : Ok (b.others z) := by
  refine ⟨ok.nz, ok.nd, ?_, ok.first, ok.rows, ok.flows, fun k hk => ?_⟩
  · exact Nat.le_trans (List.length_filter_le _ _) ok.nr
  · have hm : rdAt (b.others z).reads k ∈ (b.others z).reads := by simp [rdAt, hk]
    obtain ⟨i, hi, he⟩ := List.getElem_of_mem (List.mem_filter.1 hm).1
    have e : rdAt b.reads i = b.reads[i] := by simp [rdAt, hi]
    have := ok.reads i hi
    rw [e, he] at this
    exact this
theorem pairs_mem {l : List Kn} {pre : List (Kn × Kn)} {p : Kn × Kn} (h : pre ++ [p] <+: pairsOf l) : p.1 ∈ l ∧ p.2 ∈ l ∧ p.1.day ≤ p.2.day := by
  have hm : p ∈ pairsOf l := h.subset (by simp)
  simp only [pairsOf, pairsTo, List.range_zero, List.map_nil, List.append_nil, List.mem_flatMap, List.mem_map, List.mem_range] at hm
  obtain ⟨i, hi, k, hk, rfl⟩ := hm
  have := ordP_mem (l := l) (show k < l.length by omega) hi
  exact ⟨this.1, this.2, ordP_day l k i⟩
/-- How many days of a leak lie between two times. -/
def leakDays (since : Int) (x y : Kn) : Int := max 0 (y.day - max x.day (since - 1))
/-- What a pair of times makes of the sizes; none, if there are none. -/
def Bk.szStep (b : Bk) (z : Nat) (since : Int) (o : Sp) (p : Kn × Kn) : Option Sp :=
  let c := b.came z p.1.day p.2.day
  let days := leakDays since p.1 p.2
  let least := p.1.v.lo + c.lo - p.2.v.hi
  let great := p.1.v.hi + c.hi - p.2.v.lo
  if days = 0 then (if 0 < least ∨ great < 0 then none else some o)
  else if great < days then none
  else some ⟨if 0 < least then max o.lo (1 + min 10000000 ((least - 1) / days)) else o.lo, min o.hi (min 10000000 (great / days))⟩
def Bk.szAll (b : Bk) (z : Nat) (since : Int) (l : List (Kn × Kn)) : Option Sp := l.foldlM (b.szStep z since) ⟨1, 10000000⟩
def Bk.sizesK (b : Bk) (z : Nat) (since : Int) : Sp := if (b.others z).agreeB noGs = true then (b.szAll z since (pairsOf (b.allK z))).getD ⟨1, 0⟩ else ⟨1, 0⟩
theorem szAll_app {b : Bk} {z : Nat} {since : Int} (l : List (Kn × Kn)) (p : Kn × Kn) : b.szAll z since (l ++ [p]) = (b.szAll z since l).bind fun o => b.szStep z since o p := by
  simp [Bk.szAll, List.foldlM_append]
theorem szAll_no {b : Bk} {z : Nat} {since : Int} {l m : List (Kn × Kn)} (h : l <+: m) (hn : b.szAll z since l = none) : b.szAll z since m = none := by
  obtain ⟨t, rfl⟩ := h
  simp only [Bk.szAll] at hn ⊢
  rw [List.foldlM_append, hn]
  rfl
end Lk
namespace Go.Proofs.Ytddmfkhmhdddeaa
open Go.RowKit Go.Sd Lk
attribute [local go_sem] Oper.semAt_some

theorem pers_any (P : Value → Prop) : Pers (fun v _ => P v) := fun _ _ _ _ h => h
theorem agr_none {b : Bk} : b.gsB noGs = true := by simp [Bk.gsB]

/-- A pair whose second part is this. -/
def SeenIs (t : Bool) : Value → World → Prop := fun v _ => ∃ x, v = .tuple #[x, .bool t]
/-- The blocks that sizes lays at its head. -/
structure SzSt (w : World) (m : Nat) (fv wv rv xv : Value) (z : Nat) (since : Int) (o : Sp) (W : World) : Prop where
  bk : W.heap[w.heap.size]? = some (bkO fv wv rv)
  zo : W.heap[w.heap.size + 1]? = some (.cells #[.int .i64 z] 3)
  si : W.heap[w.heap.size + 1 + 1]? = some (.cells #[.int .i64 since] 3)
  re : W.heap[w.heap.size + 1 + 1 + 1]? = some (spO ⟨0, 0⟩)
  out : W.heap[m]? = some (spO o)
  em : W.heap[m + 1]? = some (spO ⟨1, 0⟩)
  wo : W.heap[m + 1 + 1]? = some (bkO fv wv xv)
  bel : Below w.heap.size w W
theorem SzSt.mono {w : World} {m : Nat} {fv wv rv xv : Value} {z : Nat} {since : Int} {o : Sp} {W V : World} (h : SzSt w m fv wv rv xv z since o W) (hb : Below W.heap.size W V) : SzSt w m fv wv rv xv z since o V :=
  ⟨kept_block hb h.bk, kept_block hb h.zo, kept_block hb h.si, kept_block hb h.re, kept_block hb h.out, kept_block hb h.em, kept_block hb h.wo, below_tr h.bel hb⟩

theorem SzSt.app {w : World} {m : Nat} {fv wv rv xv : Value} {z : Nat} {since : Int} {o : Sp} {N w1 : World} (h : SzSt w m fv wv rv xv z since o N) (hm : w.heap.size + 4 = m) (hk : ∀ n o, n < m + 3 → N.heap[n]? = some o → w1.heap[n]? = some o) (hB : Below w.heap.size w w1) (v' : Value) :
    SzSt w m fv wv rv v' z since o (w1.setCell ⟨m + 1 + 1, 2, none⟩ v') := by
  have H : ∀ n o, n ≠ m + 1 + 1 → n < m + 3 → N.heap[n]? = some o → (w1.setCell ⟨m + 1 + 1, 2, none⟩ v').heap[n]? = some o := fun n o hn hl h => (Below.heap_setCell _ _ _ _ (by simpa using hn)).trans (hk n o hl h)
  refine ⟨H _ _ (by omega) (by omega) h.bk, H _ _ (by omega) (by omega) h.zo, H _ _ (by omega) (by omega) h.si, H _ _ (by omega) (by omega) h.re, H _ _ (by omega) (by omega) h.out, H _ _ (by omega) (by omega) h.em, ?_, hB.setCell (p := ⟨m + 1 + 1, 2, none⟩) (by show _ ≤ m + 1 + 1; omega) _⟩
  have := set_one (hk _ _ (by omega) h.wo) 2 v'
  simpa using this

theorem most_le {D g r : Int} (hD : 0 < D) (hg : D ≤ g) (h : MostOf (fun n => decide (n * D ≤ g)) 1 10000000 r) : r = min 10000000 (g / D) := by
  obtain ⟨h1, h2, h3, h4⟩ := h
  simp only [decide_eq_true_eq] at h3
  have a : r ≤ g / D := (Int.le_ediv_iff_mul_le hD).2 h3
  by_cases hr : r < 10000000
  · have h5 := h4 hr
    simp only [decide_eq_false_iff_not] at h5
    have b : ¬ (r + 1 ≤ g / D) := fun h => h5 ((Int.le_ediv_iff_mul_le hD).1 h)
    omega
  · omega
theorem most_lt {D g r : Int} (hD : 0 < D) (hg : 0 < g) (h : MostOf (fun n => decide (n * D < g)) 0 10000000 r) : r = min 10000000 ((g - 1) / D) := by
  obtain ⟨h1, h2, h3, h4⟩ := h
  simp only [decide_eq_true_eq] at h3
  have a : r ≤ (g - 1) / D := (Int.le_ediv_iff_mul_le hD).2 (by omega)
  by_cases hr : r < 10000000
  · have h5 := h4 hr
    simp only [decide_eq_false_iff_not] at h5
    have b : ¬ (r + 1 ≤ (g - 1) / D) := fun h => h5 (by have := (Int.le_ediv_iff_mul_le hD).1 h; omega)
    omega
  · omega
theorem progSz1 (n d g : Int) (p q : Nat) (w : World) (c0 : w.cell? ⟨p, 0, none⟩ = some (.int .i64 d)) (c1 : w.cell? ⟨q, 0, none⟩ = some (.int .i64 g)) (hn : 0 ≤ n ∧ n ≤ 10000000) (hd : 0 ≤ d ∧ d ≤ 1000) :
    Calls Try.prog 92 #[.int .i64 n, .pointer (some ⟨p, 0, none⟩), .pointer (some ⟨q, 0, none⟩)] w fun e w' => e = .returned (.bool (decide (n * d ≤ g))) ∧ w = w' := by
  have h1 : 0 ≤ n * d := Int.mul_nonneg hn.1 hd.1
  have h2 : n * d ≤ 10000000 * 1000 := Int.mul_le_mul hn.2 hd.2 hd.1 (by omega)
  generalize hm : n * d = m at *
  go_enter Try.func92, Try.ntmps92
  go_wp2
  go_ret
  exact ⟨rfl, rfl⟩
theorem progSz2 (n d g : Int) (p q : Nat) (w : World) (c0 : w.cell? ⟨p, 0, none⟩ = some (.int .i64 d)) (c1 : w.cell? ⟨q, 0, none⟩ = some (.int .i64 g)) (hn : 0 ≤ n ∧ n ≤ 10000000) (hd : 0 ≤ d ∧ d ≤ 1000) :
    Calls Try.prog 93 #[.int .i64 n, .pointer (some ⟨p, 0, none⟩), .pointer (some ⟨q, 0, none⟩)] w fun e w' => e = .returned (.bool (decide (n * d < g))) ∧ w = w' := by
  have h1 : 0 ≤ n * d := Int.mul_nonneg hn.1 hd.1
  have h2 : n * d ≤ 10000000 * 1000 := Int.mul_le_mul hn.2 hd.2 hd.1 (by omega)
  generalize hm : n * d = m at *
  go_enter Try.func93, Try.ntmps93
  go_wp2
  go_ret
  exact ⟨rfl, rfl⟩
theorem enter_sz1 : ∀ (args : Array Value) (w : World), (callFunc 92 args).run Try.prog w = .ok (.enter 92 args) w := fun _ _ => by kernel_rfl
theorem enter_sz2 : ∀ (args : Array Value) (w : World), (callFunc 93 args).run Try.prog w = .ok (.enter 93 args) w := fun _ _ => by kernel_rfl
/-- The two calls of most. -/
theorem progMost1 (d g : Int) (p q : Nat) (w : World) (c0 : w.cell? ⟨p, 0, none⟩ = some (.int .i64 d)) (c1 : w.cell? ⟨q, 0, none⟩ = some (.int .i64 g)) (hd : 0 < d ∧ d ≤ 1000) (hg : d ≤ g) :
    Calls Try.prog 91 #[.int .i64 1, .int .i64 10000000, .func (.func 92) #[] #[.pointer (some ⟨p, 0, none⟩), .pointer (some ⟨q, 0, none⟩)]] w fun e w' => e = .returned (.int .i64 (min 10000000 (g / d))) ∧ Below w.heap.size w w' :=
  (progMost 92 #[.pointer (some ⟨p, 0, none⟩), .pointer (some ⟨q, 0, none⟩)] (fun n => decide (n * d ≤ g)) 1 10000000 w (by omega) (by simp; omega)
    (fun i j _ hij _ h => by simp only [decide_eq_true_eq] at h ⊢; exact Int.le_trans (Int.mul_le_mul_of_nonneg_right hij (by omega)) h) enter_sz1
    (fun n h1 h2 => progSz1 n d g p q w c0 c1 (by omega) (by omega))).mono (by rintro e w' ⟨rfl, r, rfl, hr⟩; exact ⟨by rw [most_le hd.1 hg hr], Below.refl _ _⟩)
theorem progMost2 (d g : Int) (p q : Nat) (w : World) (c0 : w.cell? ⟨p, 0, none⟩ = some (.int .i64 d)) (c1 : w.cell? ⟨q, 0, none⟩ = some (.int .i64 g)) (hd : 0 < d ∧ d ≤ 1000) (hg : 0 < g) :
    Calls Try.prog 91 #[.int .i64 0, .int .i64 10000000, .func (.func 93) #[] #[.pointer (some ⟨p, 0, none⟩), .pointer (some ⟨q, 0, none⟩)]] w fun e w' => e = .returned (.int .i64 (min 10000000 ((g - 1) / d))) ∧ Below w.heap.size w w' :=
  (progMost 93 #[.pointer (some ⟨p, 0, none⟩), .pointer (some ⟨q, 0, none⟩)] (fun n => decide (n * d < g)) 0 10000000 w (by omega) (by simp; omega)
    (fun i j _ hij _ h => by simp only [decide_eq_true_eq] at h ⊢; exact Int.lt_of_le_of_lt (Int.mul_le_mul_of_nonneg_right hij (by omega)) h) enter_sz2
    (fun n h1 h2 => progSz2 n d g p q w c0 c1 (by omega) (by omega))).mono (by rintro e w' ⟨rfl, r, rfl, hr⟩; exact ⟨by rw [most_lt hd.1 hg hr], Below.refl _ _⟩)

set_option maxRecDepth 100000 in
set_option maxHeartbeats 8000000 in
theorem progSizesK (fv wv rv : Value) (b : Bk) (z : Nat) (since : Int) (w : World) (hb : BookAt w fv wv rv b) (ok : Ok b) (hz : z < b.first.length) (hsi : 0 ≤ since ∧ since < b.flows.length) :
    Calls Try.prog 72 #[bkV fv wv rv, .int .i64 z, .int .i64 since] w fun e w' => e = .returned (spV (b.sizesK z since)) ∧ Below w.heap.size w w' := by
  have hnd := ok.nd
  have hnr := ok.nr
  have hb0 := Lib.hid hb
  obtain ⟨fa, fc, rfl, hfm, -⟩ := hb.first.form
  obtain ⟨wa, wc, rfl, hwm, -⟩ := hb.flows.form
  obtain ⟨ra, rc, rfl, hrm, hx⟩ := hb.reads.form
  have hx2 := Lib.hid hx
  clear hx hb
  obtain ⟨W1, hW1⟩ : ∃ W, (((w.alloc (bkO (.slice fa b.first.length fc) (.slice wa b.flows.length wc) (.slice ra b.reads.length rc))).alloc (.cells #[.int .i64 z] 3)).alloc (.cells #[.int .i64 since] 3)).alloc (spO ⟨0, 0⟩) = W := ⟨_, rfl⟩
  obtain ⟨e0, e1, e2, e3, s1, B1⟩ := four_new hW1
  obtain ⟨X, hX⟩ : ∃ W, ((W1.alloc (spO ⟨1, 10000000⟩)).alloc (spO ⟨1, 0⟩)).alloc (bkO (.slice fa b.first.length fc) (.slice wa b.flows.length wc) (.slice none 0 0)) = W := ⟨_, rfl⟩
  obtain ⟨e4, e5, e6, s2, B2⟩ := three_new hX
  obtain ⟨m, hm⟩ : ∃ m, W1.heap.size = m := ⟨_, rfl⟩
  rw [hm] at e4 e5 e6 s1 s2
  obtain ⟨q0, q1, q2⟩ := rc3 e0
  have hS0 : Hid (SzSt w m (.slice fa b.first.length fc) (.slice wa b.flows.length wc) (.slice ra b.reads.length rc) (.slice none 0 0) z since ⟨1, 10000000⟩ X) :=
    Lib.hid ⟨kept_block B2 e0, kept_block B2 e1, kept_block B2 e2, kept_block B2 e3, e4, e5, e6, below_tr B1 B2⟩
  have hmw' : Hid (w.heap.size + 4 = m ∧ X.heap.size = m + 3) := Lib.hid (by omega)
  have z0 : w.heap.size < m := by omega
  have z0b : w.heap.size < m + 1 := by omega
  have z0c : w.heap.size < m + 1 + 1 := by omega
  have n0 : w.heap.size ≠ m + 1 + 1 := by omega
  obtain ⟨p0, p1, p2⟩ := rc3 hS0.out.bk
  have z1 := (Array.getElem?_eq_some_iff.1 hS0.out.bk).1
  clear s1 s2 B1 B2 p0 p1 p2 z1
  replace hX := Lib.hid hX
  refine (callsIn_wide (n := 0)).1 ?_
  refine calls_of_wpAt Try.func72 rfl ?_
  simp only [Try.ntmps72, List.size_toArray, List.length_cons, List.length_nil, Nat.reduceAdd, Nat.reduceSub, Array.replicate_succ, Array.replicate_zero, List.push_toArray, List.append_toArray, List.nil_append, List.cons_append]
  refine WpAt.seq_k fun K hK => ?_
  go_wp2
  refine WpAt.seq_k fun K hK => ?_
  go_wp2
  refine WpAt.seq_k fun K hK => ?_
  go_wp2
  refine WpAt.seq_k fun K hK => ?_
  go_wp2
  refine WpAt.seq_k fun K hK => ?_
  go_wp2
  refine WpAt.seq_k fun K hK => ?_
  go_wp2
  rw [hX.out]
  have hO0 : Hid (OwnRds (m + 3) X (.slice none 0 0) (b.othTo z 0)) := Lib.hid (OwnSt.nil _ _ _ _ _)
  clear q0 q1 q2 e0 e1 e2 e3 e4 e5 e6 hX hW1 hm z0 z0b z0c n0
  go_loopw [29] (fun i wr => ∃ k : Nat, k ≤ b.reads.length ∧ i = .int .i64 k ∧ Hid (∃ v, OwnRds (m + 3) wr v (b.othTo z k) ∧ SzSt w m (.slice fa b.first.length fc) (.slice wa b.flows.length wc) (.slice ra b.reads.length rc) v z since ⟨1, 10000000⟩ wr ∧ m + 3 ≤ wr.heap.size)) (fun i _ => b.reads.length - (intOf i).toNat)
  case atStart => exact ⟨0, by omega, rfl, _, hO0.out, hS0.out, by have := hmw'.out; omega⟩
  case round =>
    obtain ⟨k, hk, rfl, hH⟩ := hrel
    obtain ⟨v, ho, hS, hsz⟩ := hH.out
    clear hH hO0 hS0
    by_cases hlt : k < b.reads.length
    · obtain ⟨rb, off, rfl, hrb, hx⟩ := hx2.out (by omega)
      have x0 : wr.cell? ⟨rb, off + k * 4, none⟩ = some (.int .i64 (rdAt b.reads k).day) := kept_cell hS.bel (hx k 0 _ hlt rfl)
      have x1 : wr.cell? ⟨rb, off + k * 4 + 1, none⟩ = some (.int .i64 (rdAt b.reads k).zone) := kept_cell hS.bel (hx k 1 _ hlt rfl)
      have x2 : wr.cell? ⟨rb, off + k * 4 + 2, none⟩ = some (.int .i64 (rdAt b.reads k).v.lo) := kept_cell hS.bel (hx k 2 _ hlt rfl)
      have x3 : wr.cell? ⟨rb, off + k * 4 + 3, none⟩ = some (.int .i64 (rdAt b.reads k).v.hi) := kept_cell hS.bel (hx k 3 _ hlt rfl)
      have hki : (k : Int) < (b.reads.length : Int) := by omega
      have hskip := Lib.hid (othTo_skip (b := b) (z := z) hlt)
      have htake := Lib.hid (othTo_take (b := b) (z := z) hlt)
      clear hx
      generalize rdAt b.reads k = r at *
      obtain ⟨N, hN⟩ : ∃ N, wr.alloc (rdO r) = N := ⟨_, rfl⟩
      obtain ⟨en, BN, sN⟩ := boxed hN
      obtain ⟨r0, r1, r2, r3⟩ := rc4 en
      have zn := (Array.getElem?_eq_some_iff.1 en).1
      have hoN := Lib.hid (ho.mono BN)
      have hSN := Lib.hid (hS.mono BN)
      have hWN : m + 3 ≤ N.heap.size := Nat.le_trans hsz BN.size
      have hlt' := Lib.hid ho.lt
      have hlen : (b.othTo z k).length ≤ 1000000 := Nat.le_trans othTo_len (by omega)
      obtain ⟨a1, c1, hva⟩ := ho.slice
      subst hva
      have c0 := rc1 hSN.out.zo
      obtain ⟨p0, p1, p2⟩ := rc3 hSN.out.wo
      obtain ⟨g0, g1, g2⟩ := rf3 hSN.out.wo
      have zz := (Array.getElem?_eq_some_iff.1 hSN.out.zo).1
      have zw := (Array.getElem?_eq_some_iff.1 hSN.out.wo).1
      by_cases hz2 : r.zone = (z : Int)
      · have hzz : (r.zone == (z : Int)) = true := by simpa using hz2
        have hnx := Lib.hid (hskip.out hz2)
        clear hskip htake hz2 ho hS en BN sN
        go_wp2
        refine ⟨⟨k + 1, by omega, by go_num, _, ?_, hSN.out, hWN⟩, by simp [intOf]; omega⟩
        rw [hnx.out]
        exact hoN.out
      · have hzz : (r.zone == (z : Int)) = false := by simpa using hz2
        have hnx := Lib.hid (htake.out hz2)
        clear hskip htake hz2 ho hS en BN sN
        generalize hl1 : b.othTo z k = l1 at *
        replace hl1 := Lib.hid hl1
        have hne : (Value.slice a1 l1.length c1).ownBlock ≠ some (m + 1 + 1) := fun e => by have := (hlt'.out _ e).1; omega
        go_wp2_with (at_builtin; refine wpList_app_st (enc := rdEnc) rdEnc_len 24 57 _ 32 Try.underlying24 infoRd rfl (by omega) (by omega) rdEnc_one (by rfl) _ _ (by rfl) (m + 3) N (.slice a1 l1.length c1) l1 r (by rfl) hoN.out (by rfl) hlen hWN ?_; intro v1 w1 ho1 hg1 hat1; obtain ⟨a2, c2, he1⟩ := ho1.slice; subst he1; have y2 := (hg1.cell_far ⟨m + 1 + 1, 2, none⟩ zw (Ne.symm hne)).trans p2; have j2 := (hg1.frozen_far ⟨m + 1 + 1, 2, none⟩ zw (Ne.symm hne)).trans g2)
        have hk1 : ∀ n o, n < m + 3 → N.heap[n]? = some o → w1.heap[n]? = some o := fun n o hn h => (hg1.block n (Array.getElem?_eq_some_iff.1 h).1 (fun e => by have := (hlt'.out _ e.symm).1; omega)).trans h
        have hB1 : Below w.heap.size w w1 := hSN.out.bel.grown hg1 hSN.out.bel.size (fun k e => by have := (hlt'.out k e).1; have := hmw'.out.1; omega)
        rw [List.length_append, List.length_singleton] at ho1
        have hS2 := hSN.out.app hmw'.out.1 hk1 hB1 (.slice a2 (l1.length + 1) c2)
        refine ⟨⟨k + 1, by omega, by go_num, _, ?_, hS2, ?_⟩, by simp [intOf]; omega⟩
        · rw [hnx.out]
          exact ho1.cellset (p := ⟨m + 1 + 1, 2, none⟩) (by show m + 1 + 1 < m + 3; omega) _
        · have := hg1.size
          simp [World.setCell]; omega
    · obtain rfl : k = b.reads.length := by omega
      rw [othTo_all] at ho
      have hls : (b.others z).reads.length ≤ 1000 := by rw [← othTo_all]; exact Nat.le_trans othTo_len (by omega)
      obtain ⟨a1, c1, hva⟩ := ho.slice
      subst hva
      have hbo : Hid (BookAt wr (.slice fa b.first.length fc) (.slice wa b.flows.length wc) (.slice a1 (b.others z).reads.length c1) (b.others z)) := Lib.hid (by
        have h := hb0.out.mono hS.bel
        exact ⟨h.first, h.flows, ho.rds⟩)
      have hS' := Lib.hid hS
      have ok2 := Lib.hid (oth_ok ok z)
      have hsK : Hid (b.sizesK z since = if (b.others z).agreeB noGs = true then (b.szAll z since (pairsOf (b.allK z))).getD ⟨1, 0⟩ else ⟨1, 0⟩) := rfl
      clear hS ho hls
      cases hag : (b.others z).agreeB noGs
      · have kS : Hid (∀ x, Below wr.heap.size wr x → Calls Try.prog 52 #[bkV (.slice fa b.first.length fc) (.slice wa b.flows.length wc) (.slice a1 (b.others z).reads.length c1), gsV noGs] x fun e w' => (∃ y, e = .returned (.tuple #[y, .bool false])) ∧ Below x.heap.size x w') :=
          Lib.hid fun x hx => (seenNo _ _ _ (b.others z) noGs x (hbo.out.mono hx) ok2.out agr_none hag).mono (by rintro e w' ⟨rfl, hB⟩; exact ⟨⟨_, rfl⟩, hB⟩)
        have hres : Hid (b.sizesK z since = ⟨1, 0⟩) := Lib.hid (by rw [hsK.out, hag]; simp)
        clear hag hsK
        go_wp2
        refine WpAt.seq_k fun K hK => ?_
        go_wp2
        refine plain_region (by kernel_rfl) (any_region_locN 6 125 [5] [47, 48, 49, 46, 50, 51] [[], [], [0, 1], [2], [3], [3]] [IsV (bkV (.slice fa b.first.length fc) (.slice wa b.flows.length wc) (.slice a1 (b.others z).reads.length c1)), IsV (gsV noGs), SeenIs false, SeenIs false, fun _ _ => True, IsV (.bool false)] [] (by kernel_rfl) (by kernel_rfl) (by kernel_rfl) (by kernel_rfl) (by kernel_rfl) rfl OnlyN.panic ?_ ?_ ?_ ?_ ?_)
        · exact List.forall_mem_cons.2 ⟨pers_v _, List.forall_mem_cons.2 ⟨pers_v _, List.forall_mem_cons.2 ⟨pers_any _, List.forall_mem_cons.2 ⟨pers_any _, List.forall_mem_cons.2 ⟨pers_any fun _ => True, List.forall_mem_cons.2 ⟨pers_v _, fun f h => nomatch h⟩⟩⟩⟩⟩⟩
        · intro k hk; cases hk
        · refine ⟨?_, ?_, ?_, ?_, ?_, ?_, trivial⟩
          · intro vals x hb hf
            simp only [fillS, List.getD_cons_succ, List.getD_cons_zero, Act.put, List.setIfInBounds_toArray, List.set_cons_zero, List.set_cons_succ]
            clear hf
            have hSx := hS'.out.mono hb
            obtain ⟨p0, p1, p2⟩ := rc3 hSx.wo
            have zw := (Array.getElem?_eq_some_iff.1 hSx.wo).1
            go_wp2
            exact ⟨rfl, rfl, Below.refl _ _, _, rfl, rfl, (fun h => absurd h (by decide))⟩
          · intro vals x hb hf
            simp only [fillS, List.getD_cons_succ, List.getD_cons_zero, Act.put, List.setIfInBounds_toArray, List.set_cons_zero, List.set_cons_succ]
            clear hf
            have hSx := hS'.out.mono hb
            obtain ⟨p0, p1, p2⟩ := rc3 hSx.wo
            have zw := (Array.getElem?_eq_some_iff.1 hSx.wo).1
            go_wp2_with (go_at_call 67; (with_reducible refine Calls.mono (progNothing x) ?_); rintro e y ⟨rfl, hB⟩)
            exact ⟨rfl, rfl, hB, _, rfl, rfl, (fun h => absurd h (by decide))⟩
          · intro vals x hb hf
            simp only [fillS, List.getD_cons_succ, List.getD_cons_zero, Act.put, List.setIfInBounds_toArray, List.set_cons_zero, List.set_cons_succ]
            have h0 : vals 0 = bkV (.slice fa b.first.length fc) (.slice wa b.flows.length wc) (.slice a1 (b.others z).reads.length c1) := hf.1
            rw [h0]
            clear h0
            have f1 : (IsV (gsV noGs)) (vals 1) x := hf.2.1
            clear hf
            have hSx := hS'.out.mono hb
            obtain ⟨p0, p1, p2⟩ := rc3 hSx.wo
            have zw := (Array.getElem?_eq_some_iff.1 hSx.wo).1
            rw [show vals 1 = gsV noGs from f1]
            go_wp2_with (go_at_call 52; (with_reducible refine Calls.mono (kS.out x hb) ?_); rintro e y ⟨⟨v, rfl⟩, hB⟩)
            exact ⟨rfl, rfl, hB, _, rfl, ⟨v, rfl⟩, (fun h => absurd h (by decide))⟩
          · intro vals x hb hf
            simp only [fillS, List.getD_cons_succ, List.getD_cons_zero, Act.put, List.setIfInBounds_toArray, List.set_cons_zero, List.set_cons_succ]
            have f2 : (SeenIs false) (vals 2) x := hf.1
            clear hf
            have hSx := hS'.out.mono hb
            obtain ⟨p0, p1, p2⟩ := rc3 hSx.wo
            have zw := (Array.getElem?_eq_some_iff.1 hSx.wo).1
            obtain ⟨v, hv⟩ := f2
            rw [hv]
            go_wp2
            exact ⟨rfl, rfl, Below.refl _ _, _, rfl, ⟨v, rfl⟩, (fun h => absurd h (by decide))⟩
          · intro vals x hb hf
            simp only [fillS, List.getD_cons_succ, List.getD_cons_zero, Act.put, List.setIfInBounds_toArray, List.set_cons_zero, List.set_cons_succ]
            have f3 : (SeenIs false) (vals 3) x := hf.1
            clear hf
            have hSx := hS'.out.mono hb
            obtain ⟨p0, p1, p2⟩ := rc3 hSx.wo
            have zw := (Array.getElem?_eq_some_iff.1 hSx.wo).1
            obtain ⟨v, hv⟩ := f3
            rw [hv]
            go_wp2
            exact ⟨rfl, rfl, Below.refl _ _, _, rfl, trivial, (fun h => absurd h (by decide))⟩
          · intro vals x hb hf
            simp only [fillS, List.getD_cons_succ, List.getD_cons_zero, Act.put, List.setIfInBounds_toArray, List.set_cons_zero, List.set_cons_succ]
            have f3 : (SeenIs false) (vals 3) x := hf.1
            clear hf
            obtain ⟨v, hv⟩ := f3
            rw [hv]
            go_wp2
            exact ⟨rfl, rfl, Below.refl _ _, _, rfl, rfl, (fun h => absurd h (by decide))⟩
        · intro j hj o ho vals x hb hf
          obtain rfl : j = 5 := by simpa using hj
          obtain rfl := Option.some.inj ho
          simp only [fillS, List.getD_cons_succ, List.getD_cons_zero, Act.put, List.setIfInBounds_toArray, List.set_cons_zero, List.set_cons_succ]
          have f3 : (SeenIs false) (vals 3) x := hf.1
          obtain ⟨v, hv⟩ := f3
          rw [hv]
          exact ⟨_, .inl ⟨rfl, fun w => rfl⟩, rfl, (fun h => absurd h (by decide))⟩
        intro vals x hb hf hp
        have hrange : List.range 6 = [0, 1, 2, 3, 4, 5] := by rfl
        rw [hrange]
        simp only [fillS, List.getD_cons_succ, List.getD_cons_zero, Act.put, List.setIfInBounds_toArray, List.set_cons_zero, List.set_cons_succ]
        have h0 : vals 0 = bkV (.slice fa b.first.length fc) (.slice wa b.flows.length wc) (.slice a1 (b.others z).reads.length c1) := hf 0 (by omega)
        have f1 : (IsV (gsV noGs)) (vals 1) x := hf 1 (by omega)
        have f2 : (SeenIs false) (vals 2) x := hf 2 (by omega)
        have f3 : (SeenIs false) (vals 3) x := hf 3 (by omega)
        have f4 : (fun _ _ => True) (vals 4) x := hf 4 (by omega)
        have h5 : vals 5 = .bool false := hf 5 (by omega)
        rw [h0, h5]
        clear h0 h5 hf hp hrange
        simp only [List.drop_succ_cons, List.drop_zero]
        clear f1 f2 f3 f4
        have hSx := Lib.hid (hS'.out.mono hb)
        obtain ⟨c0, c1'⟩ := rc2 hSx.out.em
        obtain ⟨d0, d1⟩ := rc2 hSx.out.re
        obtain ⟨g0, g1⟩ := rf2 hSx.out.re
        have zm := (Array.getElem?_eq_some_iff.1 hSx.out.em).1
        have zr := (Array.getElem?_eq_some_iff.1 hSx.out.re).1
        go_wp2
        refine OnlyN.mk ?_
        go_wp2
        obtain ⟨c4, c5⟩ := rc2 (set2 hSx.out.re (.int .i64 1) (.int .i64 0))
        exact ⟨spV ⟨1, 0⟩, by simp [results, Try.results72, go_sem, c4, c5], by rw [hres.out], hSx.out.bel.trans (below_set2 _ _ (by omega))⟩
      · have kS : Hid (∀ x, Below wr.heap.size wr x → Calls Try.prog 52 #[bkV (.slice fa b.first.length fc) (.slice wa b.flows.length wc) (.slice a1 (b.others z).reads.length c1), gsV noGs] x fun e w' => (∃ y, e = .returned (.tuple #[y, .bool true])) ∧ Below x.heap.size x w') :=
          Lib.hid fun x hx => (seenYes _ _ _ (b.others z) noGs x (hbo.out.mono hx) ok2.out agr_none hag).mono (by rintro e w' ⟨_, _, rfl, _, hB⟩; exact ⟨⟨_, rfl⟩, hB⟩)
        have hres : Hid (b.sizesK z since = (b.szAll z since (pairsOf (b.allK z))).getD ⟨1, 0⟩) := Lib.hid (by rw [hsK.out, if_pos hag])
        clear hag hsK
        go_wp2
        refine WpAt.seq_k fun K hK => ?_
        go_wp2
        refine plain_region (by kernel_rfl) (any_region_locN 6 125 [5] [47, 48, 49, 46, 50, 51] [[], [], [0, 1], [2], [3], [3]] [IsV (bkV (.slice fa b.first.length fc) (.slice wa b.flows.length wc) (.slice a1 (b.others z).reads.length c1)), IsV (gsV noGs), SeenIs true, SeenIs true, fun _ _ => True, IsV (.bool true)] [] (by kernel_rfl) (by kernel_rfl) (by kernel_rfl) (by kernel_rfl) (by kernel_rfl) rfl OnlyN.panic ?_ ?_ ?_ ?_ ?_)
        · exact List.forall_mem_cons.2 ⟨pers_v _, List.forall_mem_cons.2 ⟨pers_v _, List.forall_mem_cons.2 ⟨pers_any _, List.forall_mem_cons.2 ⟨pers_any _, List.forall_mem_cons.2 ⟨pers_any fun _ => True, List.forall_mem_cons.2 ⟨pers_v _, fun f h => nomatch h⟩⟩⟩⟩⟩⟩
        · intro k hk; cases hk
        · refine ⟨?_, ?_, ?_, ?_, ?_, ?_, trivial⟩
          · intro vals x hb hf
            simp only [fillS, List.getD_cons_succ, List.getD_cons_zero, Act.put, List.setIfInBounds_toArray, List.set_cons_zero, List.set_cons_succ]
            clear hf
            have hSx := hS'.out.mono hb
            obtain ⟨p0, p1, p2⟩ := rc3 hSx.wo
            have zw := (Array.getElem?_eq_some_iff.1 hSx.wo).1
            go_wp2
            exact ⟨rfl, rfl, Below.refl _ _, _, rfl, rfl, (fun h => absurd h (by decide))⟩
          · intro vals x hb hf
            simp only [fillS, List.getD_cons_succ, List.getD_cons_zero, Act.put, List.setIfInBounds_toArray, List.set_cons_zero, List.set_cons_succ]
            clear hf
            have hSx := hS'.out.mono hb
            obtain ⟨p0, p1, p2⟩ := rc3 hSx.wo
            have zw := (Array.getElem?_eq_some_iff.1 hSx.wo).1
            go_wp2_with (go_at_call 67; (with_reducible refine Calls.mono (progNothing x) ?_); rintro e y ⟨rfl, hB⟩)
            exact ⟨rfl, rfl, hB, _, rfl, rfl, (fun h => absurd h (by decide))⟩
          · intro vals x hb hf
            simp only [fillS, List.getD_cons_succ, List.getD_cons_zero, Act.put, List.setIfInBounds_toArray, List.set_cons_zero, List.set_cons_succ]
            have h0 : vals 0 = bkV (.slice fa b.first.length fc) (.slice wa b.flows.length wc) (.slice a1 (b.others z).reads.length c1) := hf.1
            rw [h0]
            clear h0
            have f1 : (IsV (gsV noGs)) (vals 1) x := hf.2.1
            clear hf
            have hSx := hS'.out.mono hb
            obtain ⟨p0, p1, p2⟩ := rc3 hSx.wo
            have zw := (Array.getElem?_eq_some_iff.1 hSx.wo).1
            rw [show vals 1 = gsV noGs from f1]
            go_wp2_with (go_at_call 52; (with_reducible refine Calls.mono (kS.out x hb) ?_); rintro e y ⟨⟨v, rfl⟩, hB⟩)
            exact ⟨rfl, rfl, hB, _, rfl, ⟨v, rfl⟩, (fun h => absurd h (by decide))⟩
          · intro vals x hb hf
            simp only [fillS, List.getD_cons_succ, List.getD_cons_zero, Act.put, List.setIfInBounds_toArray, List.set_cons_zero, List.set_cons_succ]
            have f2 : (SeenIs true) (vals 2) x := hf.1
            clear hf
            have hSx := hS'.out.mono hb
            obtain ⟨p0, p1, p2⟩ := rc3 hSx.wo
            have zw := (Array.getElem?_eq_some_iff.1 hSx.wo).1
            obtain ⟨v, hv⟩ := f2
            rw [hv]
            go_wp2
            exact ⟨rfl, rfl, Below.refl _ _, _, rfl, ⟨v, rfl⟩, (fun h => absurd h (by decide))⟩
          · intro vals x hb hf
            simp only [fillS, List.getD_cons_succ, List.getD_cons_zero, Act.put, List.setIfInBounds_toArray, List.set_cons_zero, List.set_cons_succ]
            have f3 : (SeenIs true) (vals 3) x := hf.1
            clear hf
            have hSx := hS'.out.mono hb
            obtain ⟨p0, p1, p2⟩ := rc3 hSx.wo
            have zw := (Array.getElem?_eq_some_iff.1 hSx.wo).1
            obtain ⟨v, hv⟩ := f3
            rw [hv]
            go_wp2
            exact ⟨rfl, rfl, Below.refl _ _, _, rfl, trivial, (fun h => absurd h (by decide))⟩
          · intro vals x hb hf
            simp only [fillS, List.getD_cons_succ, List.getD_cons_zero, Act.put, List.setIfInBounds_toArray, List.set_cons_zero, List.set_cons_succ]
            have f3 : (SeenIs true) (vals 3) x := hf.1
            clear hf
            obtain ⟨v, hv⟩ := f3
            rw [hv]
            go_wp2
            exact ⟨rfl, rfl, Below.refl _ _, _, rfl, rfl, (fun h => absurd h (by decide))⟩
        · intro j hj o ho vals x hb hf
          obtain rfl : j = 5 := by simpa using hj
          obtain rfl := Option.some.inj ho
          simp only [fillS, List.getD_cons_succ, List.getD_cons_zero, Act.put, List.setIfInBounds_toArray, List.set_cons_zero, List.set_cons_succ]
          have f3 : (SeenIs true) (vals 3) x := hf.1
          obtain ⟨v, hv⟩ := f3
          rw [hv]
          exact ⟨_, .inl ⟨rfl, fun w => rfl⟩, rfl, (fun h => absurd h (by decide))⟩
        intro vals x hb hf hp
        have hrange : List.range 6 = [0, 1, 2, 3, 4, 5] := by rfl
        rw [hrange]
        simp only [fillS, List.getD_cons_succ, List.getD_cons_zero, Act.put, List.setIfInBounds_toArray, List.set_cons_zero, List.set_cons_succ]
        have h0 : vals 0 = bkV (.slice fa b.first.length fc) (.slice wa b.flows.length wc) (.slice a1 (b.others z).reads.length c1) := hf 0 (by omega)
        have f1 : (IsV (gsV noGs)) (vals 1) x := hf 1 (by omega)
        have f2 : (SeenIs true) (vals 2) x := hf 2 (by omega)
        have f3 : (SeenIs true) (vals 3) x := hf 3 (by omega)
        have f4 : (fun _ _ => True) (vals 4) x := hf 4 (by omega)
        have h5 : vals 5 = .bool true := hf 5 (by omega)
        rw [h0, h5]
        clear h0 h5 hf hp hrange
        simp only [List.drop_succ_cons, List.drop_zero]
        clear f1 f2 f3 f4
        have hSx := Lib.hid (hS'.out.mono hb)
        obtain ⟨p0, p1, p2⟩ := rc3 hSx.out.bk
        have c0 := rc1 hSx.out.zo
        have zb := (Array.getElem?_eq_some_iff.1 hSx.out.bk).1
        have zz := (Array.getElem?_eq_some_iff.1 hSx.out.zo).1
        go_wp2
        refine OnlyN.mk ?_
        go_wp2
        refine WpAt.seq ?_
        refine WpAt.seq_k fun K hK => ?_
        obtain ⟨X2, hX2⟩ : ∃ X, (x.alloc (bkO (.slice fa b.first.length fc) (.slice wa b.flows.length wc) (.slice ra b.reads.length rc))).alloc (.cells #[.int .i64 z] 3) = X := ⟨_, rfl⟩
        obtain ⟨ei0, ei1, sX, BX⟩ := two_new hX2
        have hS2 := Lib.hid (hSx.out.mono BX)
        go_wp2_with (go_at_call 90; refine (progPairs _ _ _ _ _).mono ?_; rintro e w1 ⟨rfl, rfl⟩)
        refine WpAt.block ?_
        have hmA : w.heap.size + 1 + 1 + 1 < m := by have := hmw'.out.1; omega
        have hmB : m + 3 ≤ x.heap.size := Nat.le_trans hsz hb.size
        have hmC : x.heap.size + 1 < X2.heap.size := by omega
        clear sX
        have hseq := pairs_yields _ _ _ b z X2 (fun k => k < X2.heap.size ∧ k ≠ w.heap.size + 1 + 1 + 1 ∧ k ≠ m) x.heap.size (x.heap.size + 1) ok hz ei0 ei1 ⟨by omega, by omega, by omega⟩ ⟨by omega, by omega, by omega⟩ (fun W hk => hb0.out.mono (hS2.out.bel.trans (hk.below hS2.out.bel.size fun i hi => ⟨by have := hS2.out.bel.size; omega, by omega, by omega⟩)))
        refine WpAt.range ⟨_, rfl⟩ rfl enter_pairs1 hseq (fun k h => h.1) (fun _ => rfl)
          (fun pre W => W.heap[w.heap.size + 1 + 1 + 1]? = some (spO ⟨0, 0⟩) ∧ ∃ o, b.szAll z since pre = some o ∧ W.heap[m]? = some (spO o)) (fun c W => c = .ret ∧ b.szAll z since (pairsOf (b.allK z)) = none ∧ W.heap[w.heap.size + 1 + 1 + 1]? = some (spO ⟨1, 0⟩)) (fun _ _ => False) ?hI ?hIx ?h0 ?hround ?hdone ?hpanic ?hstop
        case hI =>
          rintro pre Y Z ⟨h1, o, h2, h3⟩ hk
          exact ⟨(hk.block _ (by omega)).trans h1, o, h2, (hk.block _ (by omega)).trans h3⟩
        case hIx =>
          rintro c Y Z ⟨h1, h2, h3⟩ hk
          exact ⟨h1, h2, (hk.block _ (by omega)).trans h3⟩
        case h0 => exact ⟨hS2.out.re, _, rfl, hS2.out.out⟩
        case hpanic => exact fun _ _ _ _ h => h.elim
        case hstop =>
          rintro D c W hD ⟨rfl, hno, hre⟩ hk hd
          have hre' := (World.putObj_heap_other (o := .deferred none) (show w.heap.size + 1 + 1 + 1 ≠ D by omega)).trans hre
          obtain ⟨c4, c5⟩ := rc2 hre'
          have hBf : Below w.heap.size w (W.putObj D (.deferred none)) := below_putObj (hS2.out.bel.trans (hk.below hS2.out.bel.size fun i hi => ⟨by have := hS2.out.bel.size; omega, by omega, by omega⟩)) (by omega) _
          have hr2 : b.sizesK z since = ⟨1, 0⟩ := by rw [hres.out, hno]; rfl
          refine (wpIn_wide (n := 0)).2 ?_
          go_wp2
          refine leaves_one (by simp) hd ?_
          exact ⟨spV ⟨1, 0⟩, by simp [results, Try.results72, go_sem, c4, c5], rfl, hBf⟩
        case hdone =>
          rintro D W hD ⟨hre, o, hso, ho⟩ hk hd
          have hr2 : Hid (b.sizesK z since = o) := Lib.hid (by rw [hres.out, hso]; rfl)
          have hBW : Below w.heap.size w W := hS2.out.bel.trans (hk.below hS2.out.bel.size fun i hi => ⟨by have := hS2.out.bel.size; omega, by omega, by omega⟩)
          obtain ⟨c0, c1⟩ := rc2 ho
          obtain ⟨d0, d1⟩ := rc2 hre
          obtain ⟨g0, g1⟩ := rf2 hre
          have zo := (Array.getElem?_eq_some_iff.1 ho).1
          have zr := (Array.getElem?_eq_some_iff.1 hre).1
          have hd2 := Lib.hid hd
          have hset := set2 hre (.int .i64 o.lo) (.int .i64 o.hi)
          clear hd
          refine (?_ : WpAt _ _ _ _ _ _)
          refine WpAt.of_wp ?_
          go_wp2
          refine leaves_one (by simp) ((set2_other _ _ (by omega)).trans hd2.out) ?_
          have hre' := (World.putObj_heap_other (o := .deferred none) (show w.heap.size + 1 + 1 + 1 ≠ D by omega)).trans hset
          obtain ⟨c4, c5⟩ := rc2 hre'
          exact ⟨spV o, by simp [results, Try.results72, go_sem, c4, c5], by rw [hr2.out], below_putObj (hBW.trans (below_set2 _ _ (by omega))) (by omega) _⟩
        case hround =>
          rintro l pre p W hl1 hlt hpre hKS ⟨hre, o, hso, ho⟩
          have hKX := hKS.size
          have hmem := Lib.hid (pairs_mem hpre)
          have hstep := Lib.hid (szAll_app (b := b) (z := z) (since := since) pre p)
          have hnone := fun h => szAll_no (b := b) (z := z) (since := since) hpre h
          replace hnone := Lib.hid hnone
          obtain ⟨x1, y1⟩ := p
          simp only at hmem hstep hnone
          have hBW := Lib.hid (hS2.out.bel.trans (hKS.below hS2.out.bel.size fun i hi => ⟨by have := hS2.out.bel.size; omega, by omega, by omega⟩))
          obtain ⟨W1, hW1⟩ : ∃ X, (W.alloc (knO x1)).alloc (knO y1) = X := ⟨_, rfl⟩
          obtain ⟨f0, f1, sW1, BW1⟩ := two_new hW1
          gi_wp2
          refine ⟨Kept.all BW1, ?_⟩
          intro W2 hk2 hs2
          have F : ∀ n ob, n ≠ l → W1.heap[n]? = some ob → W2.heap[n]? = some ob := fun n ob hn h => (hk2.block n (Array.getElem?_eq_some_iff.1 h).1 hn).trans h
          have G : ∀ n ob, n < X2.heap.size → n ≠ w.heap.size + 1 + 1 + 1 → n ≠ m → X2.heap[n]? = some ob → W2.heap[n]? = some ob := fun n ob h1 h2 h3 h => F _ _ (by omega) (kept_block BW1 ((hKS.block n h1 ⟨h1, h2, h3⟩).trans h))
          have bk2 := G _ _ (by omega) (by omega) (by omega) hS2.out.bk
          have zo2 := G _ _ (by omega) (by omega) (by omega) hS2.out.zo
          have si2 := G _ _ (by omega) (by omega) (by omega) hS2.out.si
          have em2 := G _ _ (by omega) (by omega) (by omega) hS2.out.em
          have re2 := F _ _ (by omega) (kept_block BW1 hre)
          have ou2 := F _ _ (by omega) (kept_block BW1 ho)
          have xa2 := F _ _ (by omega) f0
          have ya2 := F _ _ (by omega) f1
          have hS3 : Hid (Kept (fun k => (k < X2.heap.size ∧ k ≠ w.heap.size + 1 + 1 + 1 ∧ k ≠ m) ∨ X2.heap.size ≤ k) W2 W2) := Lib.hid (Kept.refl _ _)
          have hbW2 : Below w.heap.size w W2 := hBW.out.trans ⟨hk2.os.trans BW1.os, hk2.tape.trans BW1.tape, hk2.output.trans BW1.output, by have := BW1.size; omega, fun i hi => (hk2.block i (by have := hBW.out.size; have := BW1.size; omega) (by omega)).trans (BW1.block i (by have := hBW.out.size; omega))⟩
          have hxb := mem_allK ok hz hmem.out.1
          have hyb := mem_allK ok hz hmem.out.2.1
          have hxy := hmem.out.2.2
          have kC : Hid (Calls Try.prog 88 #[bkV (.slice fa b.first.length fc) (.slice wa b.flows.length wc) (.slice ra b.reads.length rc), .int .i64 z, .int .i64 x1.day, .int .i64 y1.day] W2 fun e w' => e = .returned (spV (b.came z x1.day y1.day)) ∧ Below W2.heap.size W2 w') := Lib.hid (by
            have h := progCame _ _ _ b z (x1.day + 1).toNat y1.day W2 (hb0.out.mono hbW2) ok hz (by omega)
            rw [show ((x1.day + 1).toNat : Int) - 1 = x1.day by omega, show (y1.day + 1 - ((x1.day + 1).toNat : Int)).toNat = (y1.day - x1.day).toNat by omega] at h
            exact h)
          have hcb : -3000000000 ≤ (b.came z x1.day y1.day).lo ∧ (b.came z x1.day y1.day).lo ≤ (b.came z x1.day y1.day).hi ∧ (b.came z x1.day y1.day).hi ≤ 3000000000 := by
            have := camN_bd ok hz (s := (x1.day + 1).toNat) (y1.day - x1.day).toNat (by omega)
            unfold Bk.came
            omega
          have hstp : Hid (b.szStep z since o (x1, y1) = if leakDays since x1 y1 = 0 then (if 0 < x1.v.lo + (b.came z x1.day y1.day).lo - y1.v.hi ∨ x1.v.hi + (b.came z x1.day y1.day).hi - y1.v.lo < 0 then none else some o)
            else if x1.v.hi + (b.came z x1.day y1.day).hi - y1.v.lo < leakDays since x1 y1 then none
            else some ⟨if 0 < x1.v.lo + (b.came z x1.day y1.day).lo - y1.v.hi then max o.lo (1 + min 10000000 ((x1.v.lo + (b.came z x1.day y1.day).lo - y1.v.hi - 1) / leakDays since x1 y1)) else o.lo, min o.hi (min 10000000 ((x1.v.hi + (b.came z x1.day y1.day).hi - y1.v.lo) / leakDays since x1 y1))⟩) := rfl
          generalize b.came z x1.day y1.day = c at *
          obtain ⟨M, hM⟩ : ∃ M, (if x1.day < since - 1 then since - 1 else x1.day) = M := ⟨_, rfl⟩
          obtain ⟨D, hD⟩ : ∃ D, (if M < y1.day then y1.day - M else 0) = D := ⟨_, rfl⟩
          have hDe : leakDays since x1 y1 = D := by
            have e1 : M = max x1.day (since - 1) := by rw [← hM]; split <;> omega
            have e2 : D = max 0 (y1.day - M) := by rw [← hD]; split <;> omega
            rw [e2, e1]; rfl
          have hMb : -2 ≤ M ∧ M ≤ 100 := by rw [← hM]; split <;> omega
          have hDb : 0 ≤ D ∧ D ≤ 200 := by rw [← hD]; split <;> omega
          rw [hDe] at hstp
          replace hDe := Lib.hid hDe
          clear F G f0 f1 BW1 sW1 hW1 hk2 hs2 hKS hre ho hmem
          obtain ⟨q0, q1, q2⟩ := rc3 bk2
          have i0 := rc1 zo2
          obtain ⟨a0, a1', a2⟩ := rc3 xa2
          obtain ⟨b0, b1', b2⟩ := rc3 ya2
          have zq := (Array.getElem?_eq_some_iff.1 bk2).1
          have zi := (Array.getElem?_eq_some_iff.1 zo2).1
          have za := (Array.getElem?_eq_some_iff.1 xa2).1
          have zc := (Array.getElem?_eq_some_iff.1 ya2).1
          gi_wp2
          refine ⟨trivial, rfl, (CallsIn.inRound _ (callsIn_wide.2 kC.out)).mono ?_⟩
          rintro e W3 ⟨rfl, hB3⟩
          obtain ⟨V1, hV1⟩ : ∃ X, W3.alloc (spO c) = X := ⟨_, rfl⟩
          obtain ⟨f2, BV1, sV1⟩ := boxed hV1
          obtain ⟨V, hV⟩ : ∃ X, V1.alloc (.cells #[.int .i64 D] 3) = X := ⟨_, rfl⟩
          obtain ⟨f3, BV, sV⟩ := boxed hV
          have B31 := below_tr hB3 BV1
          have B3V := below_tr B31 BV
          have si3 := rc1 (kept_block B31 si2)
          obtain ⟨j0, j1, j2⟩ := rc3 (kept_block B31 xa2)
          obtain ⟨k0, k1, k2⟩ := rc3 (kept_block B31 ya2)
          have zs1 := (Array.getElem?_eq_some_iff.1 (kept_block B31 si2)).1
          have zx1 := (Array.getElem?_eq_some_iff.1 (kept_block B31 xa2)).1
          have zy1 := (Array.getElem?_eq_some_iff.1 (kept_block B31 ya2)).1
          have f2V := kept_block BV f2
          obtain ⟨c0, c1'⟩ := rc2 f2V
          have d0 := rc1 f3
          obtain ⟨x0, x1', x2⟩ := rc3 (kept_block B3V xa2)
          obtain ⟨y0, y1', y2⟩ := rc3 (kept_block B3V ya2)
          have z16 := (Array.getElem?_eq_some_iff.1 f2V).1
          have z17 := (Array.getElem?_eq_some_iff.1 f3).1
          have zx2 := (Array.getElem?_eq_some_iff.1 (kept_block B3V xa2)).1
          have zy2 := (Array.getElem?_eq_some_iff.1 (kept_block B3V ya2)).1
          have hlb1 : W2.heap.size ≤ W3.heap.size := hB3.size
          have hlb2 : W3.heap.size < V1.heap.size := by omega
          clear sV1 sV kC q0 q1 q2 i0 a0 a1' a2 b0 b1' b2 zq zi za zc
          gi_wp2
          refine fence_region (.inr ⟨_, rfl⟩) (by kernel_rfl) (by kernel_rfl) (any_region_vars growth_below (va := [⟨20, 18, 3, #[.int .i64 0], 22, .tmp 85⟩, ⟨21, 19, 3, #[.int .i64 0], 23, .tmp 95⟩]) (by kernel_rfl) ?_ ?_ (by simp) (fun T f hT hf hcl => ?_))
          · intro p hp w
            simp only [List.mem_cons, List.not_mem_nil, or_false] at hp
            rcases hp with rfl | rfl <;> go_simp
          · intro p hp
            simp only [List.mem_cons, List.not_mem_nil, or_false] at hp
            rcases hp with rfl | rfl <;> kernel_rfl
          have hg : ∀ (g : T) (b o : Nat), b < V.heap.size → (f g).cell? ⟨b, o, none⟩ = V.cell? ⟨b, o, none⟩ := fun g => below_cell (hf g)
          simp only [lexOf, List.zipIdx_cons, List.zipIdx_nil, List.map_cons, List.map_nil, isMade, List.any_cons, List.any_nil, Nat.reduceAdd, Nat.reduceBEq, Bool.or_false, Bool.false_or, Bool.or_self, Bool.false_eq_true, if_false, if_true, Nat.zero_add, BEq.rfl, Bool.or_true, Bool.true_or]
          simp only [Go.Sd.blank]
          repeat (go_big_quiet_step (fail))
          refine wpQuiet_nil ?_
          refine ⟨?_, ?_⟩
          · intro p hp
            simp only [List.mem_cons, List.not_mem_nil, or_false] at hp
            rcases hp with rfl | rfl <;> (constructor <;> simp [go_sem, Value.cells, Value.oneCell'])
          intro ns w' hB hv
          have hvb := hv.2.2
          obtain ⟨n1, n2, rfl, hne, ⟨hn1, hl1, hc1, hf1⟩, ⟨hn2, hl2, hc2, hf2⟩⟩ := vars_two hv
          have en1 := (hvb 0 _ n1 rfl rfl).2
          have en2 := (hvb 1 _ n2 rfl rfl).2
          simp [go_sem, Value.cells] at en1 en2
          clear hvb
          refine OnlyN.mk ?_
          clear hv hf hcl hg
          simp only [placeV, Act.put, List.setIfInBounds_toArray, List.set_cons_zero, List.set_cons_succ]
          simp [go_sem] at hc1 hc2
          obtain ⟨U, rfl⟩ : ∃ U, U = w' := ⟨_, rfl⟩
          have B3U := below_tr B3V hB
          have B2U : Below W2.heap.size W2 U := below_tr hB3 (below_tr (below_tr BV1 BV) hB)
          have emU := kept_block B2U em2
          have reU := kept_block B2U re2
          have ouU := kept_block B2U ou2
          obtain ⟨em0, em1⟩ := rc2 emU
          obtain ⟨re0, re1⟩ := rc2 reU
          obtain ⟨rg0, rg1⟩ := rf2 reU
          obtain ⟨ou0, ou1⟩ := rc2 ouU
          obtain ⟨og0, og1⟩ := rf2 ouU
          have zem := (Array.getElem?_eq_some_iff.1 emU).1
          have zre := (Array.getElem?_eq_some_iff.1 reU).1
          have zou := (Array.getElem?_eq_some_iff.1 ouU).1
          have l0 := rc1 en1
          have g0' := rc1 en2
          have dU := rc1 (kept_block hB f3)
          have zl := (Array.getElem?_eq_some_iff.1 en1).1
          have zg := (Array.getElem?_eq_some_iff.1 en2).1
          have zd := (Array.getElem?_eq_some_iff.1 (kept_block hB f3)).1
          have hm2 := (Array.getElem?_eq_some_iff.1 ou2).1
          have hV1V := BV.size
          have hmn : m < n1 ∧ m < n2 ∧ m < V1.heap.size := by omega
          clear hc1 hf1 hc2 hf2 x0 x1' x2 y0 y1' y2 c0 c1' d0 si3 j0 j1 j2 k0 k1 k2 f2V zs1 zx1 zy1 z16 z17 zx2 zy2 hlb1 hlb2 hM hn1 hn2 hl1 hl2
          have hLb : -10000000000 ≤ x1.v.lo + c.lo - y1.v.hi ∧ x1.v.lo + c.lo - y1.v.hi ≤ 10000000000 := by omega
          have hGb : -10000000000 ≤ x1.v.hi + c.hi - y1.v.lo ∧ x1.v.hi + c.hi - y1.v.lo ≤ 10000000000 := by omega
          generalize x1.v.lo + c.lo - y1.v.hi = L at *
          generalize x1.v.hi + c.hi - y1.v.lo = Gr at *
          have hRet : Hid (b.szAll z since (pre ++ [(x1, y1)]) = none → b.szAll z since (pairsOf (b.allK z)) = none) := Lib.hid hnone.out
          have hKr : ∀ u v : Value, Kept (fun k => (k < X2.heap.size ∧ k ≠ w.heap.size + 1 + 1 + 1 ∧ k ≠ m) ∨ X2.heap.size ≤ k) W2 ((U.setCell ⟨w.heap.size + 1 + 1 + 1, 0, none⟩ u).setCell ⟨w.heap.size + 1 + 1 + 1, 1, none⟩ v) := fun u v =>
            ((Kept.all B2U).setCell (p := ⟨w.heap.size + 1 + 1 + 1, 0, none⟩) (.inl (by show ¬ ((w.heap.size + 1 + 1 + 1 < _ ∧ w.heap.size + 1 + 1 + 1 ≠ _ ∧ _) ∨ _ ≤ w.heap.size + 1 + 1 + 1); omega)) u).setCell (p := ⟨w.heap.size + 1 + 1 + 1, 1, none⟩) (.inl (by show ¬ ((w.heap.size + 1 + 1 + 1 < _ ∧ w.heap.size + 1 + 1 + 1 ≠ _ ∧ _) ∨ _ ≤ w.heap.size + 1 + 1 + 1); omega)) v
          have hre1 := set2 reU (.int .i64 1) (.int .i64 0)
          replace hKr := Lib.hid hKr
          replace hre1 := Lib.hid hre1
          by_cases hD0 : D = 0
          · by_cases hL : 0 < L
            · have hn : Hid (b.szAll z since (pairsOf (b.allK z)) = none) := Lib.hid (hRet.out (by rw [hstep.out, hso, Option.bind_some, hstp.out, if_pos hD0, if_pos (.inl hL)]))
              have hL2 : decide (0 < L) = true := by simpa using hL
              clear hstp
              gi_wp2
              exact ⟨hKr.out _ _, rfl, hn.out, hre1.out⟩
            · have hL2 : decide (0 < L) = false := by simpa using hL
              by_cases hG : Gr < 0
              · have hn : Hid (b.szAll z since (pairsOf (b.allK z)) = none) := Lib.hid (hRet.out (by rw [hstep.out, hso, Option.bind_some, hstp.out, if_pos hD0, if_pos (.inr hG)]))
                clear hstp
                gi_wp2
                exact ⟨hKr.out _ _, rfl, hn.out, hre1.out⟩
              · have hG2 : decide (Gr < 0) = false := by simpa using hG
                have hn : Hid (b.szAll z since (pre ++ [(x1, y1)]) = some o) := Lib.hid (by rw [hstep.out, hso, Option.bind_some, hstp.out, if_pos hD0, if_neg (by omega)])
                clear hstp
                gi_wp2
                exact ⟨Kept.all B2U, reU, o, hn.out, ouU⟩
          · have hD2 : (D == 0) = false := by simpa using hD0
            by_cases hG : Gr < D
            · have hn : Hid (b.szAll z since (pairsOf (b.allK z)) = none) := Lib.hid (hRet.out (by rw [hstep.out, hso, Option.bind_some, hstp.out, if_neg hD0, if_pos hG]))
              clear hstp
              gi_wp2
              exact ⟨hKr.out _ _, rfl, hn.out, hre1.out⟩
            · have hG2 : decide (Gr < D) = false := by simpa using hG
              have hn : Hid (b.szAll z since (pre ++ [(x1, y1)]) = some ⟨if 0 < L then max o.lo (1 + min 10000000 ((L - 1) / D)) else o.lo, min o.hi (min 10000000 (Gr / D))⟩) := Lib.hid (by rw [hstep.out, hso, Option.bind_some, hstp.out, if_neg hD0, if_neg hG])
              clear hstp
              have k1 := Lib.hid (fun (x : World) (h : Below U.heap.size U x) => progMost1 D Gr V1.heap.size n2 x (kept_cell h dU) (kept_cell h g0') (by omega) (by omega))
              have k2 := Lib.hid (fun (hL : 0 < L) (x : World) (h1 : x.cell? ⟨V1.heap.size, 0, none⟩ = some (.int .i64 D)) (h2 : x.cell? ⟨n1, 0, none⟩ = some (.int .i64 L)) => progMost2 D L V1.heap.size n1 x h1 h2 (by omega) hL)
              have hq1 : 0 ≤ min 10000000 ((L - 1) / D) ∨ L ≤ 0 := by
                by_cases hL : 0 < L
                · have := Int.ediv_nonneg (show 0 ≤ L - 1 by omega) (show 0 ≤ D by omega); omega
                · omega
              have hq2 : min 10000000 ((L - 1) / D) ≤ 10000000 := Int.min_le_left _ _
              generalize min 10000000 (Gr / D) = r1 at *
              generalize min 10000000 ((L - 1) / D) = r3 at *
              gi_wp2
              refine fence_region (.inr ⟨_, rfl⟩) (by kernel_rfl) (by kernel_rfl) (any_region_locN 6 125 [] [109, 110, 111, 112, 113, 114] [[], [0], [], [2], [1, 3], []] [IsV (.pointer (some ⟨m, 1, none⟩)), IsV (.int .i64 o.hi), IsV (.func (.func 92) #[] #[.pointer (some ⟨V1.heap.size, 0, none⟩), .pointer (some ⟨n2, 0, none⟩)]), IsV (.int .i64 r1), IsV (.int .i64 (min o.hi r1)), IsV (.pointer (some ⟨m, 1, none⟩))] [] (by kernel_rfl) (by kernel_rfl) (by kernel_rfl) (by kernel_rfl) (by kernel_rfl) rfl OnlyN.panic ?_ ?_ ?_ (fun j hj => nomatch hj) ?_)
              · exact List.forall_mem_cons.2 ⟨pers_v _, List.forall_mem_cons.2 ⟨pers_v _, List.forall_mem_cons.2 ⟨pers_v _, List.forall_mem_cons.2 ⟨pers_v _, List.forall_mem_cons.2 ⟨pers_v _, List.forall_mem_cons.2 ⟨pers_v _, fun f h => nomatch h⟩⟩⟩⟩⟩⟩
              · intro k hk; cases hk
              · refine ⟨?_, ?_, ?_, ?_, ?_, ?_, trivial⟩
                · intro vals x hb hf
                  simp only [fillS, List.getD_cons_succ, List.getD_cons_zero, Act.put, List.setIfInBounds_toArray, List.set_cons_zero, List.set_cons_succ]
                  clear hf
                  obtain ⟨ou0, ou1⟩ := rc2 (kept_block hb ouU)
                  have zou := (Array.getElem?_eq_some_iff.1 (kept_block hb ouU)).1
                  have mm := min_if o.hi r1
                  go_wp2
                  exact ⟨rfl, rfl, Below.refl _ _, _, rfl, rfl, (fun h => absurd h (by decide))⟩
                · intro vals x hb hf
                  simp only [fillS, List.getD_cons_succ, List.getD_cons_zero, Act.put, List.setIfInBounds_toArray, List.set_cons_zero, List.set_cons_succ]
                  have h0 : vals 0 = .pointer (some ⟨m, 1, none⟩) := hf.1
                  rw [h0]
                  clear h0
                  clear hf
                  obtain ⟨ou0, ou1⟩ := rc2 (kept_block hb ouU)
                  have zou := (Array.getElem?_eq_some_iff.1 (kept_block hb ouU)).1
                  have mm := min_if o.hi r1
                  go_wp2
                  exact ⟨rfl, rfl, Below.refl _ _, _, rfl, rfl, (fun h => absurd h (by decide))⟩
                · intro vals x hb hf
                  simp only [fillS, List.getD_cons_succ, List.getD_cons_zero, Act.put, List.setIfInBounds_toArray, List.set_cons_zero, List.set_cons_succ]
                  clear hf
                  obtain ⟨ou0, ou1⟩ := rc2 (kept_block hb ouU)
                  have zou := (Array.getElem?_eq_some_iff.1 (kept_block hb ouU)).1
                  have mm := min_if o.hi r1
                  go_wp2
                  exact ⟨rfl, rfl, Below.refl _ _, _, rfl, rfl, (fun h => absurd h (by decide))⟩
                · intro vals x hb hf
                  simp only [fillS, List.getD_cons_succ, List.getD_cons_zero, Act.put, List.setIfInBounds_toArray, List.set_cons_zero, List.set_cons_succ]
                  have h2 : vals 2 = .func (.func 92) #[] #[.pointer (some ⟨V1.heap.size, 0, none⟩), .pointer (some ⟨n2, 0, none⟩)] := hf.1
                  rw [h2]
                  clear h2
                  clear hf
                  obtain ⟨ou0, ou1⟩ := rc2 (kept_block hb ouU)
                  have zou := (Array.getElem?_eq_some_iff.1 (kept_block hb ouU)).1
                  have mm := min_if o.hi r1
                  go_wp2_with (go_at_call 91; (with_reducible refine Calls.mono (k1.out x hb) ?_); rintro e y ⟨rfl, hB⟩)
                  exact ⟨rfl, rfl, hB, _, rfl, rfl, (fun h => absurd h (by decide))⟩
                · intro vals x hb hf
                  simp only [fillS, List.getD_cons_succ, List.getD_cons_zero, Act.put, List.setIfInBounds_toArray, List.set_cons_zero, List.set_cons_succ]
                  have h1 : vals 1 = .int .i64 o.hi := hf.1
                  rw [h1]
                  clear h1
                  have f3 : (IsV (.int .i64 r1)) (vals 3) x := hf.2.1
                  clear hf
                  obtain ⟨ou0, ou1⟩ := rc2 (kept_block hb ouU)
                  have zou := (Array.getElem?_eq_some_iff.1 (kept_block hb ouU)).1
                  have mm := min_if o.hi r1
                  rw [show vals 3 = .int .i64 r1 from f3]
                  go_wp2
                  exact ⟨rfl, rfl, Below.refl _ _, _, rfl, rfl, (fun h => absurd h (by decide))⟩
                · intro vals x hb hf
                  simp only [fillS, List.getD_cons_succ, List.getD_cons_zero, Act.put, List.setIfInBounds_toArray, List.set_cons_zero, List.set_cons_succ]
                  clear hf
                  obtain ⟨ou0, ou1⟩ := rc2 (kept_block hb ouU)
                  have zou := (Array.getElem?_eq_some_iff.1 (kept_block hb ouU)).1
                  have mm := min_if o.hi r1
                  go_wp2
                  exact ⟨rfl, rfl, Below.refl _ _, _, rfl, rfl, (fun h => absurd h (by decide))⟩
              intro vals x hb hf hp
              have hrange : List.range 6 = [0, 1, 2, 3, 4, 5] := by rfl
              rw [hrange]
              simp only [fillS, List.getD_cons_succ, List.getD_cons_zero, Act.put, List.setIfInBounds_toArray, List.set_cons_zero, List.set_cons_succ]
              have h0 : vals 0 = .pointer (some ⟨m, 1, none⟩) := hf 0 (by omega)
              have h1 : vals 1 = .int .i64 o.hi := hf 1 (by omega)
              have h2 : vals 2 = .func (.func 92) #[] #[.pointer (some ⟨V1.heap.size, 0, none⟩), .pointer (some ⟨n2, 0, none⟩)] := hf 2 (by omega)
              have f3 : (IsV (.int .i64 r1)) (vals 3) x := hf 3 (by omega)
              have f4 : (IsV (.int .i64 (min o.hi r1))) (vals 4) x := hf 4 (by omega)
              have h5 : vals 5 = .pointer (some ⟨m, 1, none⟩) := hf 5 (by omega)
              rw [h0, h1, h2, h5]
              clear h0 h1 h2 h5 hf hp hrange
              simp only [List.drop_succ_cons, List.drop_zero]
              rw [show vals 4 = .int .i64 (min o.hi r1) from f4]
              clear f3 f4 k1
              generalize min o.hi r1 = r2 at *
              have oux := kept_block hb ouU
              obtain ⟨w0, w1'⟩ := rc2 oux
              obtain ⟨h0', h1'⟩ := rf2 oux
              have zox := (Array.getElem?_eq_some_iff.1 oux).1
              obtain ⟨Y, hY⟩ : ∃ Y, x.setCell ⟨m, 1, none⟩ (.int .i64 r2) = Y := ⟨_, rfl⟩
              have hYm := set_one oux 1 (.int .i64 r2)
              simp only [List.setIfInBounds_toArray, List.set_cons_succ, List.set_cons_zero] at hYm
              have hYo : ∀ n ob, n ≠ m → x.heap[n]? = some ob → Y.heap[n]? = some ob := fun n ob hn h => by rw [← hY]; exact (Below.heap_setCell _ _ _ _ (by simpa using hn)).trans h
              rw [hY] at hYm
              have hKY : Kept (fun k => (k < X2.heap.size ∧ k ≠ w.heap.size + 1 + 1 + 1 ∧ k ≠ m) ∨ X2.heap.size ≤ k) W2 Y := by
                rw [← hY]
                exact ((Kept.all B2U).trans (Kept.all hb)).setCell (p := ⟨m, 1, none⟩) (.inl (by show ¬ ((m < _ ∧ m ≠ _ ∧ m ≠ m) ∨ _ ≤ m); omega)) _
              have reY := hYo _ _ (by omega) (kept_block hb reU)
              have lY := rc1 (hYo _ _ (by omega) (kept_block hb en1))
              have dY := rc1 (hYo _ _ (by omega) (kept_block hb (kept_block hB f3)))
              have zlY := (Array.getElem?_eq_some_iff.1 (hYo _ _ (by omega) (kept_block hb en1))).1
              obtain ⟨yo0, yo1⟩ := rc2 hYm
              obtain ⟨yg0, yg1⟩ := rf2 hYm
              have zmY := (Array.getElem?_eq_some_iff.1 hYm).1
              by_cases hL : 0 < L
              · have hL2 : decide (0 < L) = true := by simpa using hL
                have k3 := Lib.hid (fun (x : World) (h : Below Y.heap.size Y x) => k2.out hL x (kept_cell h dY) (kept_cell h lY))
                rw [if_pos hL] at hn
                have hr3 : 0 ≤ r3 ∧ r3 ≤ 10000000 := by omega
                clear k2 hq1 hq2
                go_wp2
                refine OnlyN.mk ?_
                gi_wp2
                refine fence_region (.inr ⟨_, rfl⟩) (by kernel_rfl) (by kernel_rfl) (any_region_locN 7 125 [] [117, 118, 119, 120, 121, 122, 123] [[], [0], [], [2], [3], [1, 4], []] [IsV (.pointer (some ⟨m, 0, none⟩)), IsV (.int .i64 o.lo), IsV (.func (.func 93) #[] #[.pointer (some ⟨V1.heap.size, 0, none⟩), .pointer (some ⟨n1, 0, none⟩)]), IsV (.int .i64 r3), IsV (.int .i64 (1 + r3)), IsV (.int .i64 (max o.lo (1 + r3))), IsV (.pointer (some ⟨m, 0, none⟩))] [] (by kernel_rfl) (by kernel_rfl) (by kernel_rfl) (by kernel_rfl) (by kernel_rfl) rfl OnlyN.panic ?_ ?_ ?_ (fun j hj => nomatch hj) ?_)
                · exact List.forall_mem_cons.2 ⟨pers_v _, List.forall_mem_cons.2 ⟨pers_v _, List.forall_mem_cons.2 ⟨pers_v _, List.forall_mem_cons.2 ⟨pers_v _, List.forall_mem_cons.2 ⟨pers_v _, List.forall_mem_cons.2 ⟨pers_v _, List.forall_mem_cons.2 ⟨pers_v _, fun f h => nomatch h⟩⟩⟩⟩⟩⟩⟩
                · intro k hk; cases hk
                · refine ⟨?_, ?_, ?_, ?_, ?_, ?_, ?_, trivial⟩
                  · intro vals x hb hf
                    simp only [fillS, List.getD_cons_succ, List.getD_cons_zero, Act.put, List.setIfInBounds_toArray, List.set_cons_zero, List.set_cons_succ]
                    clear hf
                    obtain ⟨ou0, ou1⟩ := rc2 (kept_block hb hYm)
                    have zou := (Array.getElem?_eq_some_iff.1 (kept_block hb hYm)).1
                    have mm := max_if o.lo (1 + r3)
                    go_wp2
                    exact ⟨rfl, rfl, Below.refl _ _, _, rfl, rfl, (fun h => absurd h (by decide))⟩
                  · intro vals x hb hf
                    simp only [fillS, List.getD_cons_succ, List.getD_cons_zero, Act.put, List.setIfInBounds_toArray, List.set_cons_zero, List.set_cons_succ]
                    have h0 : vals 0 = .pointer (some ⟨m, 0, none⟩) := hf.1
                    rw [h0]
                    clear h0
                    clear hf
                    obtain ⟨ou0, ou1⟩ := rc2 (kept_block hb hYm)
                    have zou := (Array.getElem?_eq_some_iff.1 (kept_block hb hYm)).1
                    have mm := max_if o.lo (1 + r3)
                    go_wp2
                    exact ⟨rfl, rfl, Below.refl _ _, _, rfl, rfl, (fun h => absurd h (by decide))⟩
                  · intro vals x hb hf
                    simp only [fillS, List.getD_cons_succ, List.getD_cons_zero, Act.put, List.setIfInBounds_toArray, List.set_cons_zero, List.set_cons_succ]
                    clear hf
                    obtain ⟨ou0, ou1⟩ := rc2 (kept_block hb hYm)
                    have zou := (Array.getElem?_eq_some_iff.1 (kept_block hb hYm)).1
                    have mm := max_if o.lo (1 + r3)
                    go_wp2
                    exact ⟨rfl, rfl, Below.refl _ _, _, rfl, rfl, (fun h => absurd h (by decide))⟩
                  · intro vals x hb hf
                    simp only [fillS, List.getD_cons_succ, List.getD_cons_zero, Act.put, List.setIfInBounds_toArray, List.set_cons_zero, List.set_cons_succ]
                    have h2 : vals 2 = .func (.func 93) #[] #[.pointer (some ⟨V1.heap.size, 0, none⟩), .pointer (some ⟨n1, 0, none⟩)] := hf.1
                    rw [h2]
                    clear h2
                    clear hf
                    obtain ⟨ou0, ou1⟩ := rc2 (kept_block hb hYm)
                    have zou := (Array.getElem?_eq_some_iff.1 (kept_block hb hYm)).1
                    have mm := max_if o.lo (1 + r3)
                    go_wp2_with (go_at_call 91; (with_reducible refine Calls.mono (k3.out x hb) ?_); rintro e y ⟨rfl, hB⟩)
                    exact ⟨rfl, rfl, hB, _, rfl, rfl, (fun h => absurd h (by decide))⟩
                  · intro vals x hb hf
                    simp only [fillS, List.getD_cons_succ, List.getD_cons_zero, Act.put, List.setIfInBounds_toArray, List.set_cons_zero, List.set_cons_succ]
                    have f3 : (IsV (.int .i64 r3)) (vals 3) x := hf.1
                    clear hf
                    obtain ⟨ou0, ou1⟩ := rc2 (kept_block hb hYm)
                    have zou := (Array.getElem?_eq_some_iff.1 (kept_block hb hYm)).1
                    have mm := max_if o.lo (1 + r3)
                    rw [show vals 3 = .int .i64 r3 from f3]
                    go_wp2
                    exact ⟨rfl, rfl, Below.refl _ _, _, rfl, rfl, (fun h => absurd h (by decide))⟩
                  · intro vals x hb hf
                    simp only [fillS, List.getD_cons_succ, List.getD_cons_zero, Act.put, List.setIfInBounds_toArray, List.set_cons_zero, List.set_cons_succ]
                    have h1 : vals 1 = .int .i64 o.lo := hf.1
                    rw [h1]
                    clear h1
                    have f4 : (IsV (.int .i64 (1 + r3))) (vals 4) x := hf.2.1
                    clear hf
                    obtain ⟨ou0, ou1⟩ := rc2 (kept_block hb hYm)
                    have zou := (Array.getElem?_eq_some_iff.1 (kept_block hb hYm)).1
                    have mm := max_if o.lo (1 + r3)
                    rw [show vals 4 = .int .i64 (1 + r3) from f4]
                    go_wp2
                    exact ⟨rfl, rfl, Below.refl _ _, _, rfl, rfl, (fun h => absurd h (by decide))⟩
                  · intro vals x hb hf
                    simp only [fillS, List.getD_cons_succ, List.getD_cons_zero, Act.put, List.setIfInBounds_toArray, List.set_cons_zero, List.set_cons_succ]
                    clear hf
                    obtain ⟨ou0, ou1⟩ := rc2 (kept_block hb hYm)
                    have zou := (Array.getElem?_eq_some_iff.1 (kept_block hb hYm)).1
                    have mm := max_if o.lo (1 + r3)
                    go_wp2
                    exact ⟨rfl, rfl, Below.refl _ _, _, rfl, rfl, (fun h => absurd h (by decide))⟩
                intro vals x hb hf hp
                have hrange : List.range 7 = [0, 1, 2, 3, 4, 5, 6] := by rfl
                rw [hrange]
                simp only [fillS, List.getD_cons_succ, List.getD_cons_zero, Act.put, List.setIfInBounds_toArray, List.set_cons_zero, List.set_cons_succ]
                have h0 : vals 0 = .pointer (some ⟨m, 0, none⟩) := hf 0 (by omega)
                have h1 : vals 1 = .int .i64 o.lo := hf 1 (by omega)
                have h2 : vals 2 = .func (.func 93) #[] #[.pointer (some ⟨V1.heap.size, 0, none⟩), .pointer (some ⟨n1, 0, none⟩)] := hf 2 (by omega)
                have f3 : (IsV (.int .i64 r3)) (vals 3) x := hf 3 (by omega)
                have f4 : (IsV (.int .i64 (1 + r3))) (vals 4) x := hf 4 (by omega)
                have f5 : (IsV (.int .i64 (max o.lo (1 + r3)))) (vals 5) x := hf 5 (by omega)
                have h6 : vals 6 = .pointer (some ⟨m, 0, none⟩) := hf 6 (by omega)
                rw [h0, h1, h2, h6]
                clear h0 h1 h2 h6 hf hp hrange
                simp only [List.drop_succ_cons, List.drop_zero]
                rw [show vals 5 = .int .i64 (max o.lo (1 + r3)) from f5]
                clear f3 f4 f5 k3
                generalize max o.lo (1 + r3) = r4 at *
                have ymx := kept_block hb hYm
                obtain ⟨u0', u1'⟩ := rc2 ymx
                obtain ⟨t0', t1'⟩ := rf2 ymx
                have zmx := (Array.getElem?_eq_some_iff.1 ymx).1
                have hZm := set_one ymx 0 (.int .i64 r4)
                simp only [List.setIfInBounds_toArray, List.set_cons_zero] at hZm
                have hZr := (Below.heap_setCell x ⟨m, 0, none⟩ (.int .i64 r4) (w.heap.size + 1 + 1 + 1) (by show w.heap.size + 1 + 1 + 1 ≠ m; omega)).trans (kept_block hb reY)
                have hKZ : Kept (fun k => (k < X2.heap.size ∧ k ≠ w.heap.size + 1 + 1 + 1 ∧ k ≠ m) ∨ X2.heap.size ≤ k) W2 (x.setCell ⟨m, 0, none⟩ (.int .i64 r4)) :=
                  (hKY.trans (Kept.all hb)).setCell (p := ⟨m, 0, none⟩) (.inl (by show ¬ ((m < _ ∧ m ≠ _ ∧ m ≠ m) ∨ _ ≤ m); omega)) _
                go_wp2
                refine OnlyN.mk ?_
                gi_wp2
                exact ⟨hKZ, hZr, _, hn.out, hZm⟩
              · have hL2 : decide (0 < L) = false := by simpa using hL
                rw [if_neg hL] at hn
                clear k2 hq1 hq2
                go_wp2
                refine OnlyN.mk ?_
                gi_wp2
                exact ⟨hKY, reY, _, hn.out, hYm⟩
end Go.Proofs.Ytddmfkhmhdddeaa
