/- Laws and walks: Fcn, Bk6, Bk7, Bk8. -/
import Derived.ChangeArms
import Derived.Test.YtpcamocnlnlgiaaGreatK08
set_option maxRecDepth 100000
set_option maxHeartbeats 16000000
set_option linter.unusedVariables false
set_option linter.unusedSimpArgs false
namespace Go.Proofs.YtpcamocnlnlgiaaGreat.W
open Go.ChangeShapes Go.WideShapes Go.Deep Go.Proofs.YtpcamocnlnlgiaaGreat.B Bk L
theorem cells_boolB : Tryz.prog.cellsOf 4 = 1 := by kernel_rfl
theorem cells_rate : Tryz.prog.cellsOf 74 = 3 := by kernel_rfl
theorem cells_rates : Tryz.prog.cellsOf 24 = 1 := by kernel_rfl
theorem cells_con : Tryz.prog.cellsOf 26 = 11 := by kernel_rfl
section
variable {H : Type} {enc : TypeId × Value → H} {w : World} {base : Nat} {spare : Nat → Bool} {held : Bool}
theorem open_bo {n : Nat} {cs : List Value} {x : DataW H × List MemPlace} (h : DataW.trod enc Tryz.prog w base spare held n 4 cs = some x) : ∃ z, cs = [.bool z] := by
 obtain ⟨z, hz, -⟩ := DataW.trod_bool Tryz.underlying4 h
 exact ⟨z, hz⟩
theorem open_rate {fuel : Nat} {cs : List Value} {x : DataW H × List MemPlace} (h : DataW.trod enc Tryz.prog w base spare held fuel 74 cs = some x) : ∃ r : Rt, cs = [.int .i64 r.fill, .int .i64 r.inn, .int .i64 r.out] := by
 obtain ⟨xs, n, -, -, hlen, hxl, hf⟩ := DataW.trod_struct Tryz.underlying74 h
 rw [cells_rate] at hlen
 have hx : xs.length = 3 := hxl
 have f0 : DataW.trod enc Tryz.prog w base spare held n 3 ((cs.drop 0).take (Tryz.prog.cellsOf 3)) = xs[0]? := hf 0 _ rfl
 have f1 : DataW.trod enc Tryz.prog w base spare held n 3 ((cs.drop 1).take (Tryz.prog.cellsOf 3)) = xs[1]? := hf 1 _ rfl
 have f2 : DataW.trod enc Tryz.prog w base spare held n 3 ((cs.drop 2).take (Tryz.prog.cellsOf 3)) = xs[2]? := hf 2 _ rfl
 rw [S.cells_int] at f0 f1 f2
 clear hf
 match cs, hlen, f0, f1, f2 with
 | [c0, c1, c2], _, f0, f1, f2 =>
  obtain ⟨z0, e0⟩ := S.open_i f0 (by omega)
  obtain ⟨z1, e1⟩ := S.open_i f1 (by omega)
  obtain ⟨z2, e2⟩ := S.open_i f2 (by omega)
  simp at e0 e1 e2
  subst e0 e1 e2
  exact ⟨⟨_, _, _⟩, rfl⟩
theorem open_rates {fuel : Nat} {cs : List Value} {x : DataW H × List MemPlace} (h : DataW.trod enc Tryz.prog w base spare held fuel 24 cs = some x) :
    ∃ v xs, cs = [v] ∧ RtsAt w v xs := by
 rcases open_slice Tryz.underlying24 h with ⟨h0, -⟩ | ⟨a, len, cap, m, n, D, Pl, hcs, hb, hl, hm, hmm, hx, hi⟩
 · exact ⟨_, [], h0, none, 0, rfl, by simp, fun h => absurd h (by simp)⟩
 · have hle : len ≤ m := by rw [hmm]; split <;> omega
   obtain ⟨xs, hxl, hxs⟩ := S.list_of (⟨0, 0, 0⟩ : Rt) (P := fun i r => ∀ j, j < 3 → w.cell? ((a.add (i * 3)).add j) = [Value.int .i64 r.fill, .int .i64 r.inn, .int .i64 r.out][j]?) len (fun i hil => by
    obtain ⟨cs', hc, ht⟩ := hi i (by omega)
    rw [cells_rate] at hc
    obtain ⟨r, rfl⟩ := open_rate ht
    exact ⟨r, (World.cells?_some hc).2.2⟩)
   refine ⟨_, xs, hcs, some a, cap, by rw [hxl], by omega, fun h0 => ?_⟩
   obtain ⟨b, off, spot⟩ := a
   have hs : spot = none := by simpa [Addr.add] using World.cell?_spot (hxs 0 (by omega) 0 (by omega))
   subst hs
   have hz : w.cell? ⟨b, off, none⟩ = some (.int .i64 (xs.getD 0 ⟨0, 0, 0⟩).fill) := by simpa [Addr.add] using hxs 0 (by omega) 0 (by omega)
   refine ⟨b, off, rfl, World.block_lt_of_cell? w ⟨b, off, none⟩ hz, fun k i u hk hu => ?_⟩
   have hi3 : i < 3 := (List.getElem?_eq_some_iff.1 hu).1
   have e := hxs k (by omega) i hi3
   simp only [S.add_none] at e
   rw [e]
   exact hu
theorem open_con {r : Reach} {b0 : Nat} {v : Value} {d : DataW H} {p : List MemPlace} (hv : Value.okWide Tryz.prog w r b0 26 v) (h : DataW.Trod enc Tryz.prog w base spare held 26 v d p) :
    ∃ c rv, v = conV rv c ∧ RtsAt w rv c.rates := by
 obtain ⟨cs, rfl, hsz⟩ := okWide_struct Tryz.underlying26 hv
 rw [cells_con] at hsz
 obtain ⟨cs⟩ := cs
 have hlen : cs.length = 11 := hsz
 obtain ⟨fuel, hf⟩ := h
 have hf' : DataW.trod enc Tryz.prog w base spare held fuel 26 cs = some (d, p) := by simpa [Value.cells] using hf
 obtain ⟨xs, n, -, -, -, hxl, hg⟩ := DataW.trod_struct Tryz.underlying26 hf'
 have hx : xs.length = 10 := hxl
 have f0 : DataW.trod enc Tryz.prog w base spare held n 4 ((cs.drop 0).take (Tryz.prog.cellsOf 4)) = xs[0]? := hg 0 _ rfl
 have f1 : DataW.trod enc Tryz.prog w base spare held n 3 ((cs.drop 1).take (Tryz.prog.cellsOf 3)) = xs[1]? := hg 1 _ rfl
 have f2 : DataW.trod enc Tryz.prog w base spare held n 23 ((cs.drop 2).take (Tryz.prog.cellsOf 23)) = xs[2]? := hg 2 _ rfl
 have f3 : DataW.trod enc Tryz.prog w base spare held n 24 ((cs.drop 4).take (Tryz.prog.cellsOf 24)) = xs[3]? := hg 3 _ rfl
 have f4 : DataW.trod enc Tryz.prog w base spare held n 3 ((cs.drop 5).take (Tryz.prog.cellsOf 3)) = xs[4]? := hg 4 _ rfl
 have f5 : DataW.trod enc Tryz.prog w base spare held n 3 ((cs.drop 6).take (Tryz.prog.cellsOf 3)) = xs[5]? := hg 5 _ rfl
 have f6 : DataW.trod enc Tryz.prog w base spare held n 3 ((cs.drop 7).take (Tryz.prog.cellsOf 3)) = xs[6]? := hg 6 _ rfl
 have f7 : DataW.trod enc Tryz.prog w base spare held n 3 ((cs.drop 8).take (Tryz.prog.cellsOf 3)) = xs[7]? := hg 7 _ rfl
 have f8 : DataW.trod enc Tryz.prog w base spare held n 3 ((cs.drop 9).take (Tryz.prog.cellsOf 3)) = xs[8]? := hg 8 _ rfl
 have f9 : DataW.trod enc Tryz.prog w base spare held n 3 ((cs.drop 10).take (Tryz.prog.cellsOf 3)) = xs[9]? := hg 9 _ rfl
 rw [cells_boolB, List.getElem?_eq_getElem (by omega)] at f0
 rw [S.cells_int] at f1 f4 f5 f6 f7 f8 f9
 rw [S.cells_span] at f2
 rw [cells_rates, List.getElem?_eq_getElem (by omega)] at f3
 clear hg hf hf' hv
 match cs, hlen, f0, f1, f2, f3, f4, f5, f6, f7, f8, f9 with
 | [c0, c1, c2, c3, c4, c5, c6, c7, c8, c9, c10], _, f0, f1, f2, f3, f4, f5, f6, f7, f8, f9 =>
  obtain ⟨z0, e0⟩ := open_bo f0
  obtain ⟨z1, e1⟩ := S.open_i f1 (by omega)
  obtain ⟨z2, z3, e2⟩ := S.open_span f2 (by omega)
  obtain ⟨v4, rates, e4, hr⟩ := open_rates f3
  obtain ⟨z5, e5⟩ := S.open_i f4 (by omega)
  obtain ⟨z6, e6⟩ := S.open_i f5 (by omega)
  obtain ⟨z7, e7⟩ := S.open_i f6 (by omega)
  obtain ⟨z8, e8⟩ := S.open_i f7 (by omega)
  obtain ⟨z9, e9⟩ := S.open_i f8 (by omega)
  obtain ⟨z10, e10⟩ := S.open_i f9 (by omega)
  simp at e0 e1 e2 e4 e5 e6 e7 e8 e9 e10
  obtain ⟨e2, e3⟩ := e2
  subst e0 e1 e2 e3 e4 e5 e6 e7 e8 e9 e10
  exact ⟨⟨z0, z1, z2, z3, rates, z5, z6, z7, z8, z9, z10⟩, _, rfl, hr⟩
end
end Go.Proofs.YtpcamocnlnlgiaaGreat.W
set_option linter.unusedVariables false
set_option linter.unusedSimpArgs false
namespace Go.Proofs.YtpcamocnlnlgiaaGreat.B
open Go.RowKit Go.Sd Wl Bk L
attribute [local go_sem] Oper.semAt_some
theorem bookSold (l : List CV) (v : Value) (h : Int) (ok : allOk l) (hl : l.length ≤ 8) (w : World) (hc : ConsAt w v l) : Calls Tryz.prog 102 #[v, .int .i64 h] w fun e w' => e = .returned (.tuple #[.int .i64 (soldI l h l.length), .int .i64 (soldO l h l.length)]) ∧ Below w.heap.size w w' := by
 have hc0 := hc.els
 obtain ⟨a, cap, rfl, hm, -⟩ := hc0
 unfold maxLen at hm
 have hrow : Hid (0 < l.length → _) := Lib.hid (cons_row hc)
 have hg := grow_cell w
 have hrt := Lib.hid hc.rts
 clear hc
 go_enter Tryz.func102, Tryz.ntmps102
 go_wp2_with (fail)
 go_loopw [12, 6, 7] (fun i s u wr => ∃ k : Nat, k ≤ l.length ∧ i = .int .i64 k ∧ s = .int .i64 (soldI l h k) ∧ u = .int .i64 (soldO l h k) ∧ ∃ g : Grow w, wr = g.x) (fun i _ _ _ => l.length - (intOf i).toNat)
 case atStart => exact ⟨0, by omega, rfl, rfl, rfl, Grow.self w, rfl⟩
 case round =>
  obtain ⟨k, hk, rfl, rfl, rfl, g, rfl⟩ := hrel
  by_cases hlt : k < l.length
  · obtain ⟨b, off, rfl, hbl, hx⟩ := hrow.out (by omega)
    obtain ⟨c0, c1, c2, c3, c4, c5, c6, c7, c8, c9, c10⟩ := hx k hlt
    have hrk := hrt.out k hlt
    have hrk0 := hrk
    obtain ⟨ra, rcap, hra, -, -⟩ := hrk0
    rw [hra] at c4 hrk
    obtain ⟨o1, o2, o3, o4, -⟩ := Con.ok_head (ok k hlt)
    obtain ⟨rb, roff, rfl, hrl, hry⟩ := rts_row hrk (by omega)
    obtain ⟨y0, y1, y2⟩ := hry 0 (by omega)
    simp only [Nat.zero_mul, Nat.add_zero] at y0 y1 y2
    obtain ⟨z0, z1, z2⟩ := hry ((cvAt l k).2.rates.length - 1) (by omega)
    have hki : (0 : Int) ≤ (k : Int) ∧ (k : Int) < l.length := by omega
    have bd := sold_bd ok h k hk
    have bd2 := sold_bd ok h (k + 1) hlt
    have hs : Hid (soldI l h (k + 1) = soldI l h k + if ((cvAt l k).2.firm && activeB (cvAt l k).2 h) = true then (rtAt (cvAt l k).2.rates 0).inn else 0) := rfl
    have hu : Hid (soldO l h (k + 1) = soldO l h k + if ((cvAt l k).2.firm && activeB (cvAt l k).2 h) = true then (rtAt (cvAt l k).2.rates ((cvAt l k).2.rates.length - 1)).out else 0) := rfl
    have r1 := Con.ok_row (ok k hlt) (k := 0) (by omega)
    have r2 := Con.ok_row (ok k hlt) (k := (cvAt l k).2.rates.length - 1) (by omega)
    have hw1 : IntKind.i64.wrap (soldI l h k + (rtAt (cvAt l k).2.rates 0).inn) = soldI l h k + (rtAt (cvAt l k).2.rates 0).inn := IntWalk.i64_in _ (by omega)
    have hw2 : IntKind.i64.wrap (soldO l h k + (rtAt (cvAt l k).2.rates ((cvAt l k).2.rates.length - 1)).out) = soldO l h k + (rtAt (cvAt l k).2.rates ((cvAt l k).2.rates.length - 1)).out := IntWalk.i64_in _ (by omega)
    have hl1 : (0 : Int) < ((cvAt l k).2.rates.length : Int) ∧ (0 : Int) ≤ ((cvAt l k).2.rates.length : Int) - 1 ∧ ((cvAt l k).2.rates.length : Int) - 1 < (cvAt l k).2.rates.length := by omega
    obtain ⟨g2, hg2⟩ := g.alloc (.cells #[.bool (cvAt l k).2.firm, .int .i64 (cvAt l k).2.space, .int .i64 (cvAt l k).2.lo, .int .i64 (cvAt l k).2.hi, .slice (some ⟨rb, roff, none⟩) (cvAt l k).2.rates.length rcap, .int .i64 (cvAt l k).2.gas, .int .i64 (cvAt l k).2.fixed, .int .i64 (cvAt l k).2.inn, .int .i64 (cvAt l k).2.out, .int .i64 (cvAt l k).2.cut, .int .i64 (cvAt l k).2.lack] 26)
    have hn := World.alloc_heap_new g.x (.cells #[.bool (cvAt l k).2.firm, .int .i64 (cvAt l k).2.space, .int .i64 (cvAt l k).2.lo, .int .i64 (cvAt l k).2.hi, .slice (some ⟨rb, roff, none⟩) (cvAt l k).2.rates.length rcap, .int .i64 (cvAt l k).2.gas, .int .i64 (cvAt l k).2.fixed, .int .i64 (cvAt l k).2.inn, .int .i64 (cvAt l k).2.out, .int .i64 (cvAt l k).2.cut, .int .i64 (cvAt l k).2.lack] 26)
    rw [hg2] at hn
    obtain ⟨n0, n1, n2, n3, n4, n5, n6, n7, n8, n9, n10⟩ := row11 hn
    have zn := (zqo hn)
    have hnh := Lib.hid hn
    have hrk2 := Lib.hid hrk
    have kA : Hid (∀ X, Below w.heap.size w X → Calls Tryz.prog 133 #[.agg #[.bool (cvAt l k).2.firm, .int .i64 (cvAt l k).2.space, .int .i64 (cvAt l k).2.lo, .int .i64 (cvAt l k).2.hi, .slice (some ⟨rb, roff, none⟩) (cvAt l k).2.rates.length rcap, .int .i64 (cvAt l k).2.gas, .int .i64 (cvAt l k).2.fixed, .int .i64 (cvAt l k).2.inn, .int .i64 (cvAt l k).2.out, .int .i64 (cvAt l k).2.cut, .int .i64 (cvAt l k).2.lack], .int .i64 h] X (BoolB (activeB (cvAt l k).2 h) X)) := Lib.hid fun X hX => bookActive (cvAt l k).2 _ h X (hrk.mono hX)
    clear hn hx bd bd2 hra hrk hry
    cases hf : (cvAt l k).2.firm
    · rw [hf] at n0 c0 hg2
      have hs1 : Hid (soldI l h (k + 1) = soldI l h k) := Lib.hid (by rw [hs.out, hf]; simp)
      have hu1 : Hid (soldO l h (k + 1) = soldO l h k) := Lib.hid (by rw [hu.out, hf]; simp)
      clear kA
      replace hf := Lib.hid hf
      go_wp2_with (fail)
      exact ⟨⟨k + 1, by omega, by go_num, by rw [hs1.out], by rw [hu1.out], g2, by first | exact hg2 | rfl⟩, by simp [intOf]; omega⟩
    · rw [hf] at n0 c0 hg2 kA hnh
      obtain ⟨ab, hab⟩ : ∃ ab, activeB (cvAt l k).2 h = ab := ⟨_, rfl⟩
      have kA2 : Hid (∀ X, Below w.heap.size w X → Calls Tryz.prog 133 #[.agg #[.bool true, .int .i64 (cvAt l k).2.space, .int .i64 (cvAt l k).2.lo, .int .i64 (cvAt l k).2.hi, .slice (some ⟨rb, roff, none⟩) (cvAt l k).2.rates.length rcap, .int .i64 (cvAt l k).2.gas, .int .i64 (cvAt l k).2.fixed, .int .i64 (cvAt l k).2.inn, .int .i64 (cvAt l k).2.out, .int .i64 (cvAt l k).2.cut, .int .i64 (cvAt l k).2.lack], .int .i64 h] X fun e w' => e = .returned (.bool ab) ∧ Below X.heap.size X w') := Lib.hid fun X hX => (kA.out X hX).mono fun e w' hb => hb.lit hab
      clear kA
      cases ab
      · have hs1 : Hid (soldI l h (k + 1) = soldI l h k) := Lib.hid (by rw [hs.out, hab]; simp)
        have hu1 : Hid (soldO l h (k + 1) = soldO l h k) := Lib.hid (by rw [hu.out, hab]; simp)
        clear hab
        replace hf := Lib.hid hf
        go_wp2_with (first | (rw [hg2]) | (go_at_call 133; (with_reducible refine Calls.mono (kA2.out _ g2.h) ?_); rintro e w' ⟨rfl, hB⟩; obtain ⟨g3, rfl⟩ := g2.next hB; obtain ⟨n0, n1, n2, n3, n4, n5, n6, n7, n8, n9, n10⟩ := row11 (kept_block hB hnh.out); have zn3 := hB.size))
        exact ⟨⟨k + 1, by omega, by go_num, by rw [hs1.out], by rw [hu1.out], g3, rfl⟩, by simp [intOf]; omega⟩
      · have hs1 : Hid (soldI l h (k + 1) = soldI l h k + (rtAt (cvAt l k).2.rates 0).inn) := Lib.hid (by rw [hs.out, hab, hf]; simp)
        have hu1 : Hid (soldO l h (k + 1) = soldO l h k + (rtAt (cvAt l k).2.rates ((cvAt l k).2.rates.length - 1)).out) := Lib.hid (by rw [hu.out, hab, hf]; simp)
        clear hab
        replace hf := Lib.hid hf
        go_wp2_with (first | (rw [hg2]) | (go_at_call 133; (with_reducible refine Calls.mono (kA2.out _ g2.h) ?_); rintro e w' ⟨rfl, hB⟩; obtain ⟨g3, rfl⟩ := g2.next hB; obtain ⟨n0, n1, n2, n3, n4, n5, n6, n7, n8, n9, n10⟩ := row11 (kept_block hB hnh.out); have zn3 := hB.size))
        exact ⟨⟨k + 1, by omega, by go_num, by rw [hs1.out], by rw [hu1.out], g3, rfl⟩, by simp [intOf]; omega⟩
  · obtain rfl : k = l.length := by omega
    go_wp2_with (fail)
    go_ret2
    exact ⟨rfl, g.h⟩
end Go.Proofs.YtpcamocnlnlgiaaGreat.B
set_option linter.unusedVariables false
set_option linter.unusedSimpArgs false
namespace Bk
open Wl
structure Sto where
 (space inn out lead fuel : Int)
 cons : List CV
def hourOk (s : Sto) (h : Nat) : Bool := decide (soldI s.cons (h : Nat) s.cons.length ≤ s.inn) && decide (soldO s.cons (h : Nat) s.cons.length ≤ s.out)
def onceB (s : Sto) : Bool := (List.range 48).all (hourOk s) && decide (spacesTo s.cons s.cons.length ≤ s.space)
def sHeadB (s : Sto) : Bool := muchB s.space && muchB s.inn && muchB s.out && inB s.lead 0 48 && inB s.fuel 0 1000 && decide (s.cons.length ≤ 8)
def Sto.ok (s : Sto) : Bool := sHeadB s && (List.range s.cons.length).all (fun k => (cvAt s.cons k).2.ok) && onceB s
end Bk
namespace Go.Proofs.YtpcamocnlnlgiaaGreat.B
open Go.RowKit Go.Sd Wl Bk L
attribute [local go_sem] Oper.semAt_some
abbrev stoV (v : Value) (s : Sto) : Value := .agg #[.int .i64 s.space, .int .i64 s.inn, .int .i64 s.out, .int .i64 s.lead, .int .i64 s.fuel, v]
abbrev stoO (v : Value) (s : Sto) : Obj := .cells #[.int .i64 s.space, .int .i64 s.inn, .int .i64 s.out, .int .i64 s.lead, .int .i64 s.fuel, v] 52
theorem row6 {w : World} {n : Nat} {a0 a1 a2 a3 a4 a5 : Value} {e : TypeId} (h : w.heap[n]? = some (.cells #[a0, a1, a2, a3, a4, a5] e (0, 0))) : w.cell? ⟨n, 0, none⟩ = some a0 ∧ w.cell? ⟨n, 1, none⟩ = some a1 ∧ w.cell? ⟨n, 2, none⟩ = some a2 ∧ w.cell? ⟨n, 3, none⟩ = some a3 ∧ w.cell? ⟨n, 4, none⟩ = some a4 ∧ w.cell? ⟨n, 5, none⟩ = some a5 := by
 have r := (row_cells h).2.1
 exact ⟨r 0, r 1, r 2, r 3, r 4, r 5⟩
theorem bookOnce (s : Sto) (v : Value) (ok : allOk s.cons) (hl : s.cons.length ≤ 8) (w : World) (hc : ConsAt w v s.cons) : Calls Tryz.prog 75 #[stoV v s] w (BoolB (onceB s) w) := by
 obtain ⟨W, hW⟩ : ∃ W, w.alloc (stoO v s) = W := ⟨_, rfl⟩
 obtain ⟨e, bW, z⟩ := boxedB hW
 obtain ⟨q0, q1, q2, q3, q4, q5⟩ := row6 e
 have hcW := Lib.hid (hc.mono bW)
 have hBw := Lib.hid bW
 have hc0 := hc.els
 obtain ⟨a, cap, rfl, hm, -⟩ := hc0
 have kS : Hid (∀ X (h : Int), Below W.heap.size W X → Calls Tryz.prog 102 #[.slice a s.cons.length cap, .int .i64 h] X fun e w' => e = .returned (.tuple #[.int .i64 (soldI s.cons h s.cons.length), .int .i64 (soldO s.cons h s.cons.length)]) ∧ Below X.heap.size X w') := Lib.hid fun X h hX => bookSold s.cons _ h ok hl X (hcW.out.mono hX)
 have kP : Hid (∀ X, Below W.heap.size W X → Calls Tryz.prog 103 #[.slice a s.cons.length cap] X fun e w' => e = .returned (.int .i64 (spacesTo s.cons s.cons.length)) ∧ Below X.heap.size X w') := Lib.hid fun X hX => bookSpaces s.cons _ ok hl X (hcW.out.mono hX)
 have hg := grow_cell W
 clear e bW hc hm
 go_enter Tryz.func75, Tryz.ntmps75
 go_wp2_with (fail)
 go_loopw [6] (fun i wr => ∃ k : Nat, k ≤ 48 ∧ i = .int .i64 k ∧ Hid (∀ j, j < k → hourOk s j = true) ∧ ∃ g : Grow W, wr = g.x) (fun i _ => 48 - (intOf i).toNat)
 case atStart => exact ⟨0, by omega, rfl, Lib.hid fun j h => by omega, Grow.self W, rfl⟩
 case round =>
  obtain ⟨k, hk, rfl, hH, g, rfl⟩ := hrel
  by_cases hlt : k < 48
  · have hki : (0 : Int) ≤ (k : Int) ∧ (k : Int) < 48 := by omega
    have hst : Hid (hourOk s k = (decide (soldI s.cons (k : Nat) s.cons.length ≤ s.inn) && decide (soldO s.cons (k : Nat) s.cons.length ≤ s.out))) := rfl
    have kS2 := Lib.hid (kS.out g.x (k : Nat) g.h)
    have z2 := g.size
    cases d1 : decide (s.inn < soldI s.cons (k : Nat) s.cons.length)
    · have e1 : soldI s.cons (k : Nat) s.cons.length ≤ s.inn := by simpa using d1
      cases d2 : decide (s.out < soldO s.cons (k : Nat) s.cons.length)
      · have e2 : soldO s.cons (k : Nat) s.cons.length ≤ s.out := by simpa using d2
        have hf : Hid (hourOk s k = true) := Lib.hid (by rw [hst.out]; simp [e1, e2])
        go_wp2_with (go_at_call 102; (with_reducible refine Calls.mono kS2.out ?_); rintro e w' ⟨rfl, hB⟩; obtain ⟨g3, rfl⟩ := g.next hB)
        have hH' : Hid (∀ j, j < k + 1 → hourOk s j = true) := Lib.hid (upto_succ' hH.out hf.out)
        exact ⟨⟨k + 1, by omega, by go_num, hH', g3, rfl⟩, by simp [intOf]; omega⟩
      · have e2 : s.out < soldO s.cons (k : Nat) s.cons.length := by simpa using d2
        have hf : Hid (onceB s = false) := Lib.hid (by unfold onceB; rw [all_not hlt (by rw [hst.out]; simp; omega)]; simp)
        go_wp2_with (go_at_call 102; (with_reducible refine Calls.mono kS2.out ?_); rintro e w' ⟨rfl, hB⟩; obtain ⟨g3, rfl⟩ := g.next hB)
        go_ret
        exact BoolB.mk hf.out (below_tr hBw.out g3.h)
    · have e1 : s.inn < soldI s.cons (k : Nat) s.cons.length := by simpa using d1
      have hf : Hid (onceB s = false) := Lib.hid (by unfold onceB; rw [all_not hlt (by rw [hst.out]; simp; omega)]; simp)
      go_wp2_with (go_at_call 102; (with_reducible refine Calls.mono kS2.out ?_); rintro e w' ⟨rfl, hB⟩; obtain ⟨g3, rfl⟩ := g.next hB)
      go_ret
      exact BoolB.mk hf.out (below_tr hBw.out g3.h)
  · obtain rfl : k = 48 := by omega
    have hf : Hid (onceB s = decide (spacesTo s.cons s.cons.length ≤ s.space)) := Lib.hid (by unfold onceB; rw [all_up fun j hj => hH.out j (by omega)]; simp)
    clear hH kS
    have kP2 : Hid (∀ h : Grow g.x, Calls Tryz.prog 103 #[.slice a s.cons.length cap] h.x fun e w' => e = .returned (.int .i64 (spacesTo s.cons s.cons.length)) ∧ Below h.x.heap.size h.x w') := Lib.hid fun h => kP.out h.x (below_tr g.h h.h)
    go_wp2_with (fail)
    have hgg : ∀ (h : Grow g.x) (b o : Nat), b < W.heap.size → h.x.cell? ⟨b, o, none⟩ = W.cell? ⟨b, o, none⟩ := fun h b o hb => (grow_cell g.x h b o (Nat.lt_of_lt_of_le hb g.size)).trans (grow_cell W g b o hb)
    refine wp_region_grow (by kernel_rfl) (by kernel_rfl) ?_
    repeat (go_big_quiet_step ((first | (go_at_call 103; with_reducible exact Calls.grow (kP2.out _)))))
    refine wpQuiet_nil ?_
    rintro _ ⟨gx, rfl⟩
    clear hgg
    obtain ⟨g4, hg4⟩ := g.next gx.h
    rw [hg4]
    clear hg4 gx
    go_wp2_with (fail)
    go_ret
    exact BoolB.mk hf.out (below_tr hBw.out g4.h)
end Go.Proofs.YtpcamocnlnlgiaaGreat.B
set_option linter.unusedVariables false
set_option linter.unusedSimpArgs false
namespace Go.Proofs.YtpcamocnlnlgiaaGreat.B
open Go.RowKit Go.Sd Wl Bk L
attribute [local go_sem] Oper.semAt_some
abbrev cvV (p : CV) : Value := conV p.1 p.2
abbrev CvsAt (w : World) (v : Value) (xs : List CV) : Prop := ElsAt 11 cvEn (.slice none 0 0, ⟨false, 0, 0, 0, [], 0, 0, 0, 0, 0, 0⟩) w v xs
theorem cvAt_eq {l : List CV} {j : Nat} (h : j < l.length) : cvAt l j = l[j] := by simp [cvAt, h]
theorem indexCvs (v : Value) (l : List CV) (p : CV → Bool) (nf : Nat) (nb : Array Value) (w : World) (hv : CvsAt w v l) (en : ∀ args w, (callFunc nf args).run Tryz.prog w = .ok (.enter nf args) w)
    (hp : ∀ d, d ∈ l → ∀ X, Below w.heap.size w X → Calls Tryz.prog nf (#[cvV d] ++ nb) X fun e X' => e = .returned (.bool (p d)) ∧ Below X.heap.size X X') :
    Calls Tryz.prog 101 #[v, .func (.func nf) #[] nb] w (FoundP (l.any p) w) := by
 obtain ⟨a, cap, rfl, hm, hc⟩ := hv.form
 clear hv
 replace hp := Lib.hid hp
 go_enter Tryz.func101, Tryz.ntmps101
 go_wp2_with (fail)
 have hg := grow_cell w
 go_loopw [8] (fun i wr => ∃ k : Nat, k ≤ l.length ∧ i = .int .i64 k ∧ Hid (∀ j (hj : j < l.length), j < k → p l[j] = false) ∧ ∃ g : Grow w, wr = g.x) (fun i _ => l.length - (intOf i).toNat)
 case atStart => exact ⟨0, by omega, rfl, (fun j _ h => by omega : ∀ j (hj : j < l.length), j < 0 → p l[j] = false), Grow.self w, rfl⟩
 case round =>
  obtain ⟨k, hk, rfl, hH, g, rfl⟩ := hrel
  by_cases hlt : k < l.length
  · obtain ⟨b, off, rfl, hbl, hx⟩ := hc (by omega)
    have c0 : w.cell? ⟨b, off + k * 11, none⟩ = some (.bool (cvAt l k).2.firm) := hx k 0 _ hlt rfl
    have c1 : w.cell? ⟨b, off + k * 11 + 1, none⟩ = some (.int .i64 (cvAt l k).2.space) := hx k 1 _ hlt rfl
    have c2 : w.cell? ⟨b, off + k * 11 + 2, none⟩ = some (.int .i64 (cvAt l k).2.lo) := hx k 2 _ hlt rfl
    have c3 : w.cell? ⟨b, off + k * 11 + 3, none⟩ = some (.int .i64 (cvAt l k).2.hi) := hx k 3 _ hlt rfl
    have c4 : w.cell? ⟨b, off + k * 11 + 4, none⟩ = some ((cvAt l k).1) := hx k 4 _ hlt rfl
    have c5 : w.cell? ⟨b, off + k * 11 + 5, none⟩ = some (.int .i64 (cvAt l k).2.gas) := hx k 5 _ hlt rfl
    have c6 : w.cell? ⟨b, off + k * 11 + 6, none⟩ = some (.int .i64 (cvAt l k).2.fixed) := hx k 6 _ hlt rfl
    have c7 : w.cell? ⟨b, off + k * 11 + 7, none⟩ = some (.int .i64 (cvAt l k).2.inn) := hx k 7 _ hlt rfl
    have c8 : w.cell? ⟨b, off + k * 11 + 8, none⟩ = some (.int .i64 (cvAt l k).2.out) := hx k 8 _ hlt rfl
    have c9 : w.cell? ⟨b, off + k * 11 + 9, none⟩ = some (.int .i64 (cvAt l k).2.cut) := hx k 9 _ hlt rfl
    have c10 : w.cell? ⟨b, off + k * 11 + 10, none⟩ = some (.int .i64 (cvAt l k).2.lack) := hx k 10 _ hlt rfl
    have hki : (0 : Int) ≤ (k : Int) ∧ (k : Int) < l.length := by omega
    have hcall := hp.out (cvAt l k) (by rw [cvAt_eq hlt]; exact List.getElem_mem hlt) g.x g.h
    rw [cvAt_eq hlt] at c0 c1 c2 c3 c4 c5 c6 c7 c8 c9 c10 hcall
    clear hx hc
    cases ht : p l[k]
    · rw [ht] at hcall
      have hH' : Hid (∀ j (hj : j < l.length), j < k + 1 → p l[j] = false) := fun j hj hjk => by
       rcases Nat.lt_succ_iff_lt_or_eq.1 hjk with h | rfl
       · exact hH.out j hj h
       · exact ht
      replace ht := Lib.hid ht
      replace hcall := Lib.hid hcall
      go_wp2_with ((with_reducible refine Calls.mono hcall.out ?_); rintro e w' ⟨rfl, hb'⟩; obtain ⟨g1, rfl⟩ := g.next hb')
      exact ⟨⟨k + 1, by omega, by go_num, hH', g1, rfl⟩, by simp [intOf]; omega⟩
    · rw [ht] at hcall
      have hany := Lib.hid (any_some hlt ht)
      replace ht := Lib.hid ht
      replace hcall := Lib.hid hcall
      go_wp2_with ((with_reducible refine Calls.mono hcall.out ?_); rintro e w' ⟨rfl, hb'⟩; obtain ⟨g1, rfl⟩ := g.next hb')
      go_ret
      exact ⟨k, rfl, ⟨fun _ => by omega, fun _ => hany.out⟩, g1.h⟩
  · have hany := Lib.hid (any_none fun j hj => hH.out j hj (by omega))
    go_wp2_with (fail)
    go_ret
    exact ⟨-1, rfl, ⟨(fun h => by rw [hany.out] at h; cases h), (fun h => by omega)⟩, g.h⟩
theorem containsCvs (v : Value) (l : List CV) (p : CV → Bool) (nf : Nat) (nb : Array Value) (w : World) (hv : CvsAt w v l) (en : ∀ args w, (callFunc nf args).run Tryz.prog w = .ok (.enter nf args) w)
    (hp : ∀ d, d ∈ l → ∀ X, Below w.heap.size w X → Calls Tryz.prog nf (#[cvV d] ++ nb) X fun e X' => e = .returned (.bool (p d)) ∧ Below X.heap.size X X') :
    Calls Tryz.prog 73 #[v, .func (.func nf) #[] nb] w (BoolB (l.any p) w) := by
 have hc := Lib.hid (indexCvs v l p nf nb w hv en hp)
 obtain ⟨a, cap, rfl, -, -⟩ := hv
 clear hp
 cases ht : l.any p
 all_goals
  replace ht := Lib.hid ht
  go_enter Tryz.func73, Tryz.ntmps73
  go_wp2_with (go_at_call 101; refine Calls.mono hc.out ?_; rintro e w' ⟨n, rfl, hn, hb⟩; rw [ht.out] at hn; have hn' : Hid (_ ↔ (0 : Int) ≤ n) := hn; clear hn)
  go_ret
  refine ⟨_, rfl, ?_, hb⟩
  have := hn'.out
  simp at this
  show _ = _
  simp [this]
theorem store1 (c : Con) (rv : Value) (w : World) (hr : RtsAt w rv c.rates) : Calls Tryz.prog 74 #[conV rv c] w fun e w' => e = .returned (.bool (!c.ok)) ∧ Below w.heap.size w w' := by
 obtain ⟨W, hW⟩ : ∃ W, w.alloc (conO rv c) = W := ⟨_, rfl⟩
 obtain ⟨e, bW, z⟩ := boxedB hW
 obtain ⟨c0, c1, c2, c3, c4, c5, c6, c7, c8, c9, c10⟩ := row11 e
 have k := Lib.hid (bookContract c rv W (hr.mono bW))
 have hB := Lib.hid bW
 obtain ⟨ra, rcap, rfl, -, -⟩ := hr
 clear e bW
 go_enter Tryz.func74, Tryz.ntmps74
 go_wp2_with (go_at_call 24; (with_reducible refine Calls.mono k.out ?_); rintro e w' ⟨t, rfl, ht, hb⟩)
 go_ret
 exact ⟨by rw [← ht.out]; first | rfl | simp, below_tr hB.out hb⟩
theorem ints3 (w : World) (a b c : Int) : IntsAt (w.alloc (.cells #[.int .i64 a, .int .i64 b, .int .i64 c] 3)) (.slice (some ⟨w.heap.size, 0, none⟩) 3 3) [a, b, c] := by
 refine ⟨_, 3, rfl, by simp [maxLen], fun _ => ⟨w.heap.size, 0, rfl, by simp, ?_⟩⟩
 have h := World.alloc_heap_new w (.cells #[.int .i64 a, .int .i64 b, .int .i64 c] 3)
 have r := (row_cells h).2.1
 intro k i u hk hu
 have hk' : k = 0 ∨ k = 1 ∨ k = 2 := by
  have h5 : k < 3 := hk
  omega
 have hi := (List.getElem?_eq_some_iff.1 hu).1
 have hi' : i = 0 := by
  have h1 : i < 1 := hi
  omega
 subst hi'
 rw [r, ← hu]
 rcases hk' with rfl | rfl | rfl <;> rfl
theorem all_cvs {l : List CV} : (l.any fun p => !p.2.ok) = !(List.range l.length).all (fun k => (cvAt l k).2.ok) := by
 rw [Bool.eq_iff_iff]
 simp only [List.any_eq_true, Bool.not_eq_true', List.all_eq_false, List.mem_range]
 constructor
 · rintro ⟨p, hp, h⟩
   obtain ⟨j, hj, rfl⟩ := List.getElem_of_mem hp
   exact ⟨j, hj, by rw [cvAt_eq hj, h]; decide⟩
 · rintro ⟨j, hj, h⟩
   exact ⟨l[j], List.getElem_mem hj, by rw [← cvAt_eq hj]; simpa using h⟩
theorem allOk_of {l : List CV} (h : (List.range l.length).all (fun k => (cvAt l k).2.ok) = true) : allOk l := fun k hk => List.all_eq_true.1 h k (List.mem_range.2 hk)
theorem bookStore (s : Sto) (v : Value) (w : World) (hc : ConsAt w v s.cons) : Calls Tryz.prog 45 #[stoV v s] w (BoolB s.ok w) := by
 obtain ⟨W, hW⟩ : ∃ W, w.alloc (stoO v s) = W := ⟨_, rfl⟩
 obtain ⟨e, bW, z⟩ := boxedB hW
 obtain ⟨q0, q1, q2, q3, q4, q5⟩ := row6 e
 have hcW := Lib.hid (hc.mono bW)
 have hBw := Lib.hid bW
 have eh := Lib.hid e
 have hc0 := hc.els
 obtain ⟨a, cap, rfl, hm, -⟩ := hc0
 obtain ⟨V, hV⟩ : ∃ V, W.alloc (.cells #[.int .i64 s.space, .int .i64 s.inn, .int .i64 s.out] 3) = V := ⟨_, rfl⟩
 obtain ⟨eV, bV, zV⟩ := boxedB hV
 have iV := ints3 W s.space s.inn s.out
 rw [hV] at iV
 obtain ⟨b1, h1⟩ : ∃ b, [s.space, s.inn, s.out].all muchB = b := ⟨_, rfl⟩
 have kG : Hid (Calls Tryz.prog 72 #[.slice (some ⟨W.heap.size, 0, none⟩) 3 3] V fun e w' => e = .returned (.bool b1) ∧ Below V.heap.size V w') := Lib.hid ((bookGreat _ _ V iV).mono fun e w' h => h.lit h1)
 have h1h : Hid ((muchB s.space && muchB s.inn && muchB s.out) = b1) := Lib.hid (by rw [← h1]; simp [Bool.and_assoc])
 obtain ⟨b5, h5⟩ : ∃ b, (List.range s.cons.length).all (fun k => (cvAt s.cons k).2.ok) = b := ⟨_, rfl⟩
 have kC : Hid (∀ X, Below W.heap.size W X → Calls Tryz.prog 73 #[.slice a s.cons.length cap, .func (.func 74) #[] #[]] X fun e w' => e = .returned (.bool (!b5)) ∧ Below X.heap.size X w') := Lib.hid fun X hX =>
  (containsCvs _ s.cons (fun p => !p.2.ok) 74 #[] X (hcW.out.mono hX).els (fun args w => by kernel_rfl) fun d hd Y hY => by
   obtain ⟨j, hj, rfl⟩ := List.getElem_of_mem hd
   have hr := ((hcW.out.mono hX).rts j hj).mono hY
   rw [cvAt_eq hj] at hr
   exact store1 _ _ Y hr).mono fun e w' h => h.lit (by rw [all_cvs, h5])
 have kO : Hid (b5 = true → s.cons.length ≤ 8 → ∀ X, Below W.heap.size W X → Calls Tryz.prog 75 #[stoV (.slice a s.cons.length cap) s] X (BoolB (onceB s) X)) := Lib.hid fun hb hl X hX => bookOnce s _ (allOk_of (h5.trans hb)) hl X (hcW.out.mono hX)
 have h5h := Lib.hid h5
 have hVh : Hid (Below W.heap.size W V) := Lib.hid bV
 clear e bW hc eV bV iV h1 h5 hm
 have hrw : Hid (∀ X, Below W.heap.size W X → _) := Lib.hid fun X (hX : Below W.heap.size W X) => row6 (kept_block hX eh.out)
 cases b1
 · have hf : Hid (s.ok = false) := Lib.hid (by unfold Sto.ok sHeadB; rw [h1h.out]; simp)
   go_enter Tryz.func45, Tryz.ntmps45
   go_wp2_with (go_at_call 72; (with_reducible refine Calls.mono kG.out ?_); rintro e w1 ⟨rfl, hB1⟩; have hX1 := below_tr hVh.out hB1; obtain ⟨q0, q1, q2, q3, q4, q5⟩ := hrw.out _ hX1; have z1 := hX1.size)
   go_ret
   exact BoolB.mk hf.out (below_tr hBw.out hX1)
 cases h2 : inB s.lead 0 48
 · have hf : Hid (s.ok = false) := Lib.hid (by unfold Sto.ok sHeadB; simp [h2])
   go_enter Tryz.func45, Tryz.ntmps45
   go_wp2_with (first | (go_at_call 72; (with_reducible refine Calls.mono kG.out ?_); rintro e w1 ⟨rfl, hB1⟩; have hX1 := below_tr hVh.out hB1; obtain ⟨q0, q1, q2, q3, q4, q5⟩ := hrw.out _ hX1; have z1 := hX1.size) | (go_at_call 25; (with_reducible refine Calls.mono (bookInT (by assumption) _) ?_); rintro e w' ⟨rfl, rfl⟩))
   go_ret
   exact BoolB.mk hf.out (below_tr hBw.out hX1)
 cases h3 : inB s.fuel 0 1000
 · have hf : Hid (s.ok = false) := Lib.hid (by unfold Sto.ok sHeadB; simp [h3])
   go_enter Tryz.func45, Tryz.ntmps45
   go_wp2_with (first | (go_at_call 72; (with_reducible refine Calls.mono kG.out ?_); rintro e w1 ⟨rfl, hB1⟩; have hX1 := below_tr hVh.out hB1; obtain ⟨q0, q1, q2, q3, q4, q5⟩ := hrw.out _ hX1; have z1 := hX1.size) | (go_at_call 25; (with_reducible refine Calls.mono (bookInT (by assumption) _) ?_); rintro e w' ⟨rfl, rfl⟩))
   go_ret
   exact BoolB.mk hf.out (below_tr hBw.out hX1)
 by_cases hl : s.cons.length ≤ 8
 case neg =>
  have hf : Hid (s.ok = false) := Lib.hid (by unfold Sto.ok sHeadB; simp [hl])
  have hl' : (8 : Int) < s.cons.length := by omega
  go_enter Tryz.func45, Tryz.ntmps45
  go_wp2_with (first | (go_at_call 72; (with_reducible refine Calls.mono kG.out ?_); rintro e w1 ⟨rfl, hB1⟩; have hX1 := below_tr hVh.out hB1; obtain ⟨q0, q1, q2, q3, q4, q5⟩ := hrw.out _ hX1; have z1 := hX1.size) | (go_at_call 25; (with_reducible refine Calls.mono (bookInT (by assumption) _) ?_); rintro e w' ⟨rfl, rfl⟩))
  go_ret
  exact BoolB.mk hf.out (below_tr hBw.out hX1)
 have hl' : (s.cons.length : Int) ≤ 8 := by omega
 cases b5
 · have hf : Hid (s.ok = false) := Lib.hid (by unfold Sto.ok; rw [h5h.out]; simp)
   go_enter Tryz.func45, Tryz.ntmps45
   go_wp2_with (first | (go_at_call 72; (with_reducible refine Calls.mono kG.out ?_); rintro e w1 ⟨rfl, hB1⟩; have hX1 := below_tr hVh.out hB1; obtain ⟨q0, q1, q2, q3, q4, q5⟩ := hrw.out _ hX1; have z1 := hX1.size) | (go_at_call 25; (with_reducible refine Calls.mono (bookInT (by assumption) _) ?_); rintro e w' ⟨rfl, rfl⟩) | (go_at_call 73; (with_reducible refine Calls.mono (kC.out _ hX1) ?_); rintro e w2 ⟨rfl, hB2⟩; have hX2 := below_tr hX1 hB2; obtain ⟨q0, q1, q2, q3, q4, q5⟩ := hrw.out _ hX2; have z2 := hX2.size))
   go_ret
   exact BoolB.mk hf.out (below_tr hBw.out hX2)
 have kO2 := Lib.hid (kO.out rfl hl)
 have hf : Hid (s.ok = onceB s) := Lib.hid (by
  unfold Sto.ok sHeadB
  rw [h5h.out, h1h.out, h2, h3]
  simp [hl])
 clear kO
 go_enter Tryz.func45, Tryz.ntmps45
 go_wp2_with (first | (go_at_call 72; (with_reducible refine Calls.mono kG.out ?_); rintro e w1 ⟨rfl, hB1⟩; have hX1 := below_tr hVh.out hB1; obtain ⟨q0, q1, q2, q3, q4, q5⟩ := hrw.out _ hX1; have z1 := hX1.size) | (go_at_call 25; (with_reducible refine Calls.mono (bookInT (by assumption) _) ?_); rintro e w' ⟨rfl, rfl⟩) | (go_at_call 73; (with_reducible refine Calls.mono (kC.out _ hX1) ?_); rintro e w2 ⟨rfl, hB2⟩; have hX2 := below_tr hX1 hB2; obtain ⟨q0, q1, q2, q3, q4, q5⟩ := hrw.out _ hX2; have z2 := hX2.size) | (go_at_call 75; (with_reducible refine Calls.mono (kO2.out _ hX2) ?_); rintro e w3 ⟨t, rfl, ht, hB3⟩))
 go_ret
 exact BoolB.mk (by rw [hf.out, ht.out]) (below_tr hBw.out (below_tr hX2 hB3))
end Go.Proofs.YtpcamocnlnlgiaaGreat.B
