/- Laws and walks: We5, We6, We7. -/
import Derived.Test.YtpcamocnlnlgiaaGreatK19
set_option maxRecDepth 100000
set_option maxHeartbeats 16000000
set_option linter.unusedVariables false
set_option linter.unusedSimpArgs false
namespace Go.Proofs.YtpcamocnlnlgiaaGreat.B
open Go.RowKit Go.Sd Wl L
attribute [local go_sem] Oper.semAt_some
theorem at_yields (we : We) (ok : we.Ok) (day room : Int) (w : World) (S : Nat → Prop) (lb p1 p2 : Nat) (pv : Value) (hl : LkAt w lb pv we day) (h1 : w.heap[p1]? = some (.cells #[.pointer (some ⟨lb, 0, none⟩)] 130 (0, 0))) (h2 : w.heap[p2]? = some (.cells #[.int .i64 room] 3 (0, 0)))
    (hS1 : S p1) (hS2 : S p2) (hSl : S lb) (hSp : ∀ k, pv.ownBlock = some k → S k) :
    SeqsG Tryz.prog 137 #[.pointer (some ⟨p1, 0, none⟩), .pointer (some ⟨p2, 0, none⟩)] (fun x : Nat × Int => #[.int .i64 x.1, .int .i64 x.2]) (atL we.parts room) S w := by
 intro l J Jx Jp W hKW hJ hJx hY h0
 have hp0 := hl.parts
 obtain ⟨pa, pcap, rfl, hpm, -⟩ := hp0
 unfold maxLen at hpm
 have hlW := hl.kept hKW hSl hSp
 obtain ⟨c0, c1, c2, c3⟩ := row4 hlW.row
 have zl := (zqo hlW.row)
 have r1 := (hKW.block _ (zqo h1) hS1).trans h1
 have r2 := (hKW.block _ (zqo h2) hS2).trans h2
 obtain ⟨d1, -⟩ := row_one r1
 have z1 := (zqo r1)
 clear r1 r2
 refine callsIn_wide.2 ?_
 go_enter Tryz.func137, Tryz.ntmps137
 go_wp2
 refine (wpIn_wide (n := 0)).1 ?_
 gi_loopw [13] (fun i wr => ∃ k : Nat, k ≤ we.parts.length ∧ i = .int .i64 k ∧ Hid (Kept S w wr ∧ J (atTo we.parts room k) wr)) (fun i _ => (we.parts.length - intOf i).toNat)
 case atStart => exact ⟨0, by omega, by go_num, hKW, h0⟩
 case round =>
  obtain ⟨k, hk, rfl, hH⟩ := hrel
  by_cases hlt : k < we.parts.length
  · have hki : (k : Int) < (we.parts.length : Int) := by omega
    have hlr := hl.kept hH.out.1 hSl hSp
    obtain ⟨b, off, cap, he, hb, -, x0, x1, x2, x3, x4, x5, x6, x7, x8⟩ := pa_cells hlr.parts hlt
    simp only [Value.slice.injEq] at he
    obtain ⟨rfl, -, rfl⟩ := he
    have r2 := (hH.out.1.block _ (zqo h2) hS2).trans h2
    obtain ⟨e1, e2, e3, e4, e5, -⟩ := ok.ends k hlt
    obtain ⟨X, hX⟩ : ∃ X, wr.alloc (paO (paAt we.parts k)) = X := ⟨_, rfl⟩
    obtain ⟨eX, bX, zX⟩ := boxedB hX
    obtain ⟨y0, y1, y2, y3, y4, y5, y6, y7, y8⟩ := row9 eX
    obtain ⟨d2, -⟩ := row_one (kept_block bX r2)
    have z2 := (Array.getElem?_eq_some_iff.1 (kept_block bX r2)).1
    have hJX := Lib.hid (hJ _ _ _ hH.out.2 bX)
    have hKX := Lib.hid (hH.out.1.trans (.all bX))
    have hK1 := Lib.hid hH.out.1
    clear hH hlr r2 eX bX c0 c1 c2 c3 d1
    by_cases ho : room = (paAt we.parts k).one
    · have hob : (room == (paAt we.parts k).one) = true := by simpa using ho
      have hto : toOf (paAt we.parts k) room = (paAt we.parts k).other := by unfold toOf; rw [if_pos ho]
      have hpre : atTo we.parts room k ++ [(k, (paAt we.parts k).other)] <+: atL we.parts room := by
       have h3 := atTo_in (l := we.parts) (room := room) (n := k) (by rw [hto]; omega)
       rw [hto] at h3
       rw [← h3]; exact atTo_prefix (by omega)
      have hnext : Hid (atTo we.parts room (k + 1) = atTo we.parts room k ++ [(k, (paAt we.parts k).other)]) := by
       have h3 := atTo_in (l := we.parts) (room := room) (n := k) (by rw [hto]; omega)
       rw [hto] at h3
       exact h3
      obtain ⟨fn, tmps, assign, body, hy0, hR⟩ := hY _ _ X hpre hKX.out hJX.out
      have hy : (Instr.yield l #[.int .i64 k, .int .i64 ((paAt we.parts k).other)]).run Tryz.prog X = .ok (.round l fn tmps assign body) X := hy0
      clear hy0 hto hpre
      gi_wp2
      refine ⟨rfl, hR.mono ?_⟩
      clear hy hR
      rintro e W3 (⟨rfl, hJ4, hk4⟩ | ⟨rfl, hJx4⟩ | ⟨c, rfl, hJp⟩)
      · have hK4 : Kept S w W3 := hKX.out.trans hk4
        gi_wp2
        exact ⟨⟨k + 1, by omega, by go_num, hK4, by rw [hnext.out]; exact hJ4⟩, by simp [intOf]; omega⟩
      · gi_wp2
        exact bodyPost_ret (results_none rfl _ _ _) rfl (.inl ⟨⟨_, rfl⟩, .inr hJx4⟩)
      · exact ⟨rfl, .inr ⟨c, rfl, hJp⟩⟩
    · have hob : (room == (paAt we.parts k).one) = false := by simpa using ho
      by_cases ho2 : room = (paAt we.parts k).other
      · have hob2 : (room == (paAt we.parts k).other) = true := by simpa using ho2
        have hto : toOf (paAt we.parts k) room = (paAt we.parts k).one := by unfold toOf; rw [if_neg ho, if_pos ho2]
        have hpre : atTo we.parts room k ++ [(k, (paAt we.parts k).one)] <+: atL we.parts room := by
         have h3 := atTo_in (l := we.parts) (room := room) (n := k) (by rw [hto]; omega)
         rw [hto] at h3
         rw [← h3]; exact atTo_prefix (by omega)
        have hnext : Hid (atTo we.parts room (k + 1) = atTo we.parts room k ++ [(k, (paAt we.parts k).one)]) := by
         have h3 := atTo_in (l := we.parts) (room := room) (n := k) (by rw [hto]; omega)
         rw [hto] at h3
         exact h3
        obtain ⟨fn, tmps, assign, body, hy0, hR⟩ := hY _ _ X hpre hKX.out hJX.out
        have hy : (Instr.yield l #[.int .i64 k, .int .i64 ((paAt we.parts k).one)]).run Tryz.prog X = .ok (.round l fn tmps assign body) X := hy0
        clear hy0 hto hpre
        gi_wp2
        refine ⟨rfl, hR.mono ?_⟩
        clear hy hR
        rintro e W3 (⟨rfl, hJ4, hk4⟩ | ⟨rfl, hJx4⟩ | ⟨c, rfl, hJp⟩)
        · have hK4 : Kept S w W3 := hKX.out.trans hk4
          gi_wp2
          exact ⟨⟨k + 1, by omega, by go_num, hK4, by rw [hnext.out]; exact hJ4⟩, by simp [intOf]; omega⟩
        · gi_wp2
          exact bodyPost_ret (results_none rfl _ _ _) rfl (.inl ⟨⟨_, rfl⟩, .inr hJx4⟩)
        · exact ⟨rfl, .inr ⟨c, rfl, hJp⟩⟩
      · have hob2 : (room == (paAt we.parts k).other) = false := by simpa using ho2
        have hto : toOf (paAt we.parts k) room = -1 := by unfold toOf; rw [if_neg ho, if_neg ho2]
        have hnext : Hid (atTo we.parts room (k + 1) = atTo we.parts room k) := atTo_out (by rw [hto]; omega)
        clear hto
        gi_wp2
        refine ⟨fun f h => (by cases h), ?_⟩
        gi_wp2
        exact ⟨⟨k + 1, by omega, by go_num, hKX.out, by rw [hnext.out]; exact hJX.out⟩, by simp [intOf]; omega⟩
  · obtain rfl : k = we.parts.length := by omega
    gi_wp2
    go_end0
    exact .inl ⟨⟨_, rfl⟩, .inl hH.out.2⟩
end Go.Proofs.YtpcamocnlnlgiaaGreat.B
set_option linter.unusedVariables false
set_option linter.unusedSimpArgs false
namespace Wl
def condOf (p : Pa) (day : Int) : Int := if p.bad = true then 2 else if p.tested + p.valid < day then 1 else 0
def pcTo (l : List Pa) (day : Int) (n j : Nat) : Int × Bool := if j < n then (condOf (paAt l j) day, (paAt l j).opn) else (0, false)
def pcOf (w : We) (day : Int) (j : Nat) : Int × Bool := pcTo w.parts day w.parts.length j
end Wl
namespace Go.Proofs.YtpcamocnlnlgiaaGreat.B
open Go.RowKit Go.Sd Wl L
abbrev pcC (f : Nat → Int × Bool) : Array Value := #[.int .i64 (f 0).1, .bool (f 0).2, .int .i64 (f 1).1, .bool (f 1).2, .int .i64 (f 2).1, .bool (f 2).2, .int .i64 (f 3).1, .bool (f 3).2, .int .i64 (f 4).1, .bool (f 4).2, .int .i64 (f 5).1, .bool (f 5).2, .int .i64 (f 6).1, .bool (f 6).2, .int .i64 (f 7).1, .bool (f 7).2, .int .i64 (f 8).1, .bool (f 8).2, .int .i64 (f 9).1, .bool (f 9).2, .int .i64 (f 10).1, .bool (f 10).2, .int .i64 (f 11).1, .bool (f 11).2]
abbrev pcV (f : Nat → Int × Bool) : Value := .agg #[.int .i64 (f 0).1, .bool (f 0).2, .int .i64 (f 1).1, .bool (f 1).2, .int .i64 (f 2).1, .bool (f 2).2, .int .i64 (f 3).1, .bool (f 3).2, .int .i64 (f 4).1, .bool (f 4).2, .int .i64 (f 5).1, .bool (f 5).2, .int .i64 (f 6).1, .bool (f 6).2, .int .i64 (f 7).1, .bool (f 7).2, .int .i64 (f 8).1, .bool (f 8).2, .int .i64 (f 9).1, .bool (f 9).2, .int .i64 (f 10).1, .bool (f 10).2, .int .i64 (f 11).1, .bool (f 11).2]
abbrev pcO (f : Nat → Int × Bool) : Obj := .cells (pcC f) 138
theorem pc_zero (l : List Pa) (day : Int) : pcC (pcTo l day 0) = #[.int .i64 0, .bool false, .int .i64 0, .bool false, .int .i64 0, .bool false, .int .i64 0, .bool false, .int .i64 0, .bool false, .int .i64 0, .bool false, .int .i64 0, .bool false, .int .i64 0, .bool false, .int .i64 0, .bool false, .int .i64 0, .bool false, .int .i64 0, .bool false, .int .i64 0, .bool false] := by
 have h : ∀ j, pcTo l day 0 j = (0, false) := fun j => if_neg (by omega)
 simp only [pcC, h]
theorem pc_set {f h : Nat → Int × Bool} {k : Nat} (hk : k < 12) (c : Int) (o : Bool) (hh : ∀ j, h j = if j = k then (c, o) else f j) : ((pcC f).setIfInBounds (k * 2 + 1) (.bool o)).setIfInBounds (k * 2) (.int .i64 c) = pcC h := by
 have e : pcC h = pcC (fun j => if j = k then (c, o) else f j) := by simp only [pcC, hh]
 rw [e]
 match k, hk with
 | 0, _ => rfl
 | 1, _ => rfl
 | 2, _ => rfl
 | 3, _ => rfl
 | 4, _ => rfl
 | 5, _ => rfl
 | 6, _ => rfl
 | 7, _ => rfl
 | 8, _ => rfl
 | 9, _ => rfl
 | 10, _ => rfl
 | 11, _ => rfl
theorem pc_set1 {f h : Nat → Int × Bool} {k : Nat} (hk : k < 12) (o : Bool) (h0 : (f k).1 = 0) (hh : ∀ j, h j = if j = k then (0, o) else f j) : (pcC f).setIfInBounds (k * 2 + 1) (.bool o) = pcC h := by
 have e : pcC h = pcC (fun j => if j = k then ((f k).1, o) else f j) := by simp only [pcC, hh, h0]
 rw [e]
 match k, hk with
 | 0, _ => rfl
 | 1, _ => rfl
 | 2, _ => rfl
 | 3, _ => rfl
 | 4, _ => rfl
 | 5, _ => rfl
 | 6, _ => rfl
 | 7, _ => rfl
 | 8, _ => rfl
 | 9, _ => rfl
 | 10, _ => rfl
 | 11, _ => rfl
theorem pc_cell {w : World} {b : Nat} {f : Nat → Int × Bool} {t : TypeId} (h : w.heap[b]? = some (.cells (pcC f) t (0, 0))) {k : Nat} (hk : k < 12) : w.cell? ⟨b, k * 2, none⟩ = some (.int .i64 (f k).1) ∧ w.cell? ⟨b, k * 2 + 1, none⟩ = some (.bool (f k).2) := by
 rw [cell_of_row w b _ _ _ (0, 0) h, cell_of_row w b _ _ _ (0, 0) h]
 match k, hk with
 | 0, _ => exact ⟨rfl, rfl⟩
 | 1, _ => exact ⟨rfl, rfl⟩
 | 2, _ => exact ⟨rfl, rfl⟩
 | 3, _ => exact ⟨rfl, rfl⟩
 | 4, _ => exact ⟨rfl, rfl⟩
 | 5, _ => exact ⟨rfl, rfl⟩
 | 6, _ => exact ⟨rfl, rfl⟩
 | 7, _ => exact ⟨rfl, rfl⟩
 | 8, _ => exact ⟨rfl, rfl⟩
 | 9, _ => exact ⟨rfl, rfl⟩
 | 10, _ => exact ⟨rfl, rfl⟩
 | 11, _ => exact ⟨rfl, rfl⟩
theorem pcTo_in (l : List Pa) (day : Int) (k j : Nat) : pcTo l day (k + 1) j = if j = k then (condOf (paAt l k) day, (paAt l k).opn) else pcTo l day k j := by
 unfold pcTo
 by_cases e : j = k
 · subst e; simp
 · rw [if_neg e]
   by_cases h : j < k
   · rw [if_pos h, if_pos (by omega)]
   · rw [if_neg h, if_neg (by omega)]
theorem progPieces (we : We) (ok : we.Ok) (day : Int) (hd : 0 ≤ day ∧ day ≤ 100000) (lb : Nat) (pv : Value) (w : World) (hl : LkAt w lb pv we day) :
    Calls Tryz.prog 58 #[.pointer (some ⟨lb, 0, none⟩)] w fun e w' => e = .returned (pcV (pcOf we day)) ∧ Below w.heap.size w w' := by
 have hp0 := hl.parts
 obtain ⟨pa, pcap, rfl, hpm, -⟩ := hp0
 unfold maxLen at hpm
 obtain ⟨W1, hW1⟩ : ∃ W1, w.alloc (.cells #[.int .i64 0, .bool false, .int .i64 0, .bool false, .int .i64 0, .bool false, .int .i64 0, .bool false, .int .i64 0, .bool false, .int .i64 0, .bool false, .int .i64 0, .bool false, .int .i64 0, .bool false, .int .i64 0, .bool false, .int .i64 0, .bool false, .int .i64 0, .bool false, .int .i64 0, .bool false] 138) = W1 := ⟨_, rfl⟩
 obtain ⟨e1, b1, z1⟩ := boxedB hW1
 obtain ⟨W, hW⟩ : ∃ W, W1.alloc (.cells #[.int .i64 0, .bool false, .int .i64 0, .bool false, .int .i64 0, .bool false, .int .i64 0, .bool false, .int .i64 0, .bool false, .int .i64 0, .bool false, .int .i64 0, .bool false, .int .i64 0, .bool false, .int .i64 0, .bool false, .int .i64 0, .bool false, .int .i64 0, .bool false, .int .i64 0, .bool false] 138) = W := ⟨_, rfl⟩
 obtain ⟨e2, b2, z2⟩ := boxedB hW
 have bW := b1.trans (b2.mono (by omega))
 have e1' := kept_block b2 e1
 have hlW := hl.mono bW
 obtain ⟨c0, c1, c2, c3⟩ := row4 hlW.row
 have zl := (zqo hlW.row)
 have hzl := (zqo hl.row)
 have hinv : W.heap[W1.heap.size]? = some (pcO (pcTo we.parts day 0)) := by rw [pcO, pc_zero]; exact e2
 have h12 : we.parts.length ≤ 12 := by have := ok.parts; omega
 have hne : w.heap.size ≠ W1.heap.size := by omega
 clear e1 e2 b1 b2
 go_enter Tryz.func58, Tryz.ntmps58
 go_wp2
 clear c0 c1 c2 c3
 go_loopw [12] (fun i wr => ∃ k : Nat, k ≤ we.parts.length ∧ i = .int .i64 k ∧ Hid (wr.heap[W1.heap.size]? = some (pcO (pcTo we.parts day k)) ∧ wr.heap[w.heap.size]? = some (.cells #[.int .i64 0, .bool false, .int .i64 0, .bool false, .int .i64 0, .bool false, .int .i64 0, .bool false, .int .i64 0, .bool false, .int .i64 0, .bool false, .int .i64 0, .bool false, .int .i64 0, .bool false, .int .i64 0, .bool false, .int .i64 0, .bool false, .int .i64 0, .bool false, .int .i64 0, .bool false] 138 (0, 0)) ∧ Below w.heap.size w wr)) (fun i _ => (we.parts.length - intOf i).toNat)
 case atStart => exact ⟨0, by omega, rfl, hinv, e1', bW⟩
 case round =>
  obtain ⟨k, hk, rfl, hH⟩ := hrel
  obtain ⟨hO, hR, hB⟩ := hH.out
  have zo := (zqo hO)
  have zr := (zqo hR)
  by_cases hlt : k < we.parts.length
  · have hki : (k : Int) < (we.parts.length : Int) := by omega
    have hlr := hl.mono hB
    obtain ⟨b, off, cap, he, hb, -, x0, x1, x2, x3, x4, x5, x6, x7, x8⟩ := pa_cells hlr.parts hlt
    simp only [Value.slice.injEq] at he
    obtain ⟨rfl, -, rfl⟩ := he
    obtain ⟨-, -, -, -, -, t1, t2, t3, t4⟩ := ok.ends k hlt
    have hpt := pcTo_in we.parts day k
    obtain ⟨p, hp⟩ : ∃ p, paAt we.parts k = p := ⟨_, rfl⟩
    rw [hp] at x0 x1 x2 x3 x4 x5 x6 x7 x8 t1 t2 t3 t4
    simp only [hp] at hpt
    replace hp := Lib.hid hp
    obtain ⟨X, hX⟩ : ∃ X, wr.alloc (paO p) = X := ⟨_, rfl⟩
    obtain ⟨eX, bX, zX⟩ := boxedB hX
    obtain ⟨y0, y1, y2, y3, y4, y5, y6, y7, y8⟩ := row9 eX
    have hOX := kept_block bX hO
    have hRX := kept_block bX hR
    have hBX := below_tr hB bX
    have zoX := (zqo hOX)
    have hcell : X.cell? ⟨W1.heap.size, k * 2 + 1, none⟩ = some (.bool (pcTo we.parts day k k).2) := (pc_cell hOX (by omega)).2
    have hfr : X.frozen? ⟨W1.heap.size, k * 2 + 1, none⟩ = false := frozen_of_row X _ _ _ _ hOX
    have h0k : (pcTo we.parts day k k).1 = 0 := by unfold pcTo; rw [if_neg (by omega)]
    have hne1 : W1.heap.size ≠ wr.heap.size := by omega
    have hne2 : W1.heap.size ≠ lb := by omega
    have hne3 : W1.heap.size ≠ w.heap.size := by omega
    have hk12 : (k : Int) < 12 := by omega
    have hOh := Lib.hid hOX
    clear hO hR hH hOX hinv e1'
    go_upto_region 6 with fail
    obtain ⟨V, hV⟩ : ∃ V, X.setCell ⟨W1.heap.size, k * 2 + 1, none⟩ (.bool p.opn) = V := ⟨_, rfl⟩
    rw [hV]
    have kV : ∀ n, n ≠ W1.heap.size → V.heap[n]? = X.heap[n]? := fun n hn => by rw [← hV]; exact Below.heap_setCell _ _ _ _ hn
    have rV := row_set hOh.out (k * 2 + 1) (.bool p.opn)
    rw [hV] at rV
    have BV : Below w.heap.size w V := by rw [← hV]; exact hBX.setCell (p := ⟨W1.heap.size, k * 2 + 1, none⟩) (by show _ ≤ W1.heap.size; omega) _
    have RV := (kV _ hne3.symm).trans hRX
    have hlV := hl.mono BV
    obtain ⟨c0, c1, c2, c3⟩ := row4 hlV.row
    have zlV := (zqo hlV.row)
    obtain ⟨v0, v1, v2, v3, v4, v5, v6, v7, v8⟩ := row9 ((kV _ hne1.symm).trans eX)
    have zpV := (Array.getElem?_eq_some_iff.1 ((kV _ hne1.symm).trans eX)).1
    have zoV := (zqo rV)
    have hcV : V.cell? ⟨W1.heap.size, k * 2, none⟩ = some (.int .i64 0) := by
     rw [cell_of_row V _ _ _ _ (0, 0) rV, Array.getElem?_setIfInBounds_ne (by omega), ← cell_of_row X _ _ _ _ (0, 0) hOh.out, (pc_cell hOh.out (by omega)).1, h0k]
    have hfV : V.frozen? ⟨W1.heap.size, k * 2, none⟩ = false := frozen_of_row V _ _ _ _ rV
    clear hX hV eX bX zX y0 y1 y2 y3 y4 y5 y6 y7 y8 x0 x1 x2 x3 x4 x5 x6 x7 x8 hRX hBX zoX hcell hfr kV hlr
    replace rV := Lib.hid rV
    replace RV := Lib.hid RV
    replace BV := Lib.hid BV
    have hfin : Hid (∀ (Y : World) (c : Int), Below V.heap.size V Y → condOf p day = c → (Y.setCell ⟨W1.heap.size, k * 2, none⟩ (.int .i64 c)).heap[W1.heap.size]? = some (pcO (pcTo we.parts day (k + 1))) ∧ (Y.setCell ⟨W1.heap.size, k * 2, none⟩ (.int .i64 c)).heap[w.heap.size]? = some (.cells #[.int .i64 0, .bool false, .int .i64 0, .bool false, .int .i64 0, .bool false, .int .i64 0, .bool false, .int .i64 0, .bool false, .int .i64 0, .bool false, .int .i64 0, .bool false, .int .i64 0, .bool false, .int .i64 0, .bool false, .int .i64 0, .bool false, .int .i64 0, .bool false, .int .i64 0, .bool false] 138 (0, 0)) ∧ Below w.heap.size w (Y.setCell ⟨W1.heap.size, k * 2, none⟩ (.int .i64 c))) := Lib.hid fun Y c hY hc =>
     ⟨by rw [row_set (kept_block hY rV.out) (k * 2) (.int .i64 c), pc_set (h := pcTo we.parts day (k + 1)) (by omega) c p.opn (fun j => by rw [hpt j, hc])], (Below.heap_setCell _ _ _ _ hne3.symm).trans (kept_block hY RV.out), (below_tr BV.out hY).setCell (p := ⟨W1.heap.size, k * 2, none⟩) (by show _ ≤ W1.heap.size; omega) _⟩
    have hfin0 : Hid (∀ (Y : World), Below V.heap.size V Y → condOf p day = 0 → Y.heap[W1.heap.size]? = some (pcO (pcTo we.parts day (k + 1))) ∧ Y.heap[w.heap.size]? = some (.cells #[.int .i64 0, .bool false, .int .i64 0, .bool false, .int .i64 0, .bool false, .int .i64 0, .bool false, .int .i64 0, .bool false, .int .i64 0, .bool false, .int .i64 0, .bool false, .int .i64 0, .bool false, .int .i64 0, .bool false, .int .i64 0, .bool false, .int .i64 0, .bool false, .int .i64 0, .bool false] 138 (0, 0)) ∧ Below w.heap.size w Y) := Lib.hid fun Y hY hc =>
     ⟨by rw [kept_block hY rV.out, pc_set1 (h := pcTo we.parts day (k + 1)) (by omega) p.opn h0k (fun j => by rw [hpt j, hc])], kept_block hY RV.out, below_tr BV.out hY⟩
    cases hb : p.bad
    · have hw : IntKind.i64.wrap (p.tested + p.valid) = p.tested + p.valid := IntWalk.i64_in _ (by omega)
      rw [hb] at v6
      have hg := grow_cell V
      by_cases hdy : p.tested + p.valid < day
      · have hcd : Hid (condOf p day = 1) := Lib.hid (by unfold condOf; rw [hb, if_neg (by simp), if_pos hdy])
        have hd1 : decide (p.tested + p.valid < day) = true := decide_eq_true hdy
        clear hb
        have hgf := grow_frozen V
        go_upto_region 8 with fail
        refine wp_region_grow (by kernel_rfl) (by kernel_rfl) ?_
        repeat (go_big_quiet_step (fail))
        refine wpQuiet_nil ?_
        rintro _ ⟨g, rfl⟩
        have zg := g.size
        have hF := Lib.hid (hfin.out g.x 1 g.h hcd.out)
        go_wp2
        exact ⟨⟨k + 1, by omega, by go_num, hF.out⟩, by simp [intOf]; omega⟩
      · have hcd : Hid (condOf p day = 0) := Lib.hid (by unfold condOf; rw [hb, if_neg (by simp), if_neg hdy])
        have hd1 : decide (p.tested + p.valid < day) = false := decide_eq_false hdy
        clear hb
        go_upto_region 8 with fail
        refine wp_region_grow (by kernel_rfl) (by kernel_rfl) ?_
        repeat (go_big_quiet_step (fail))
        refine wpQuiet_nil ?_
        rintro _ ⟨g, rfl⟩
        have hF := Lib.hid (hfin0.out g.x g.h hcd.out)
        go_wp2
        exact ⟨⟨k + 1, by omega, by go_num, hF.out⟩, by simp [intOf]; omega⟩
    · have hcd := hfin.out V 2 (Below.refl _ _) (by unfold condOf; rw [hb, if_pos rfl])
      rw [hb] at v6
      replace hcd := Lib.hid hcd
      clear hb hfin hfin0
      go_wp2
      exact ⟨⟨k + 1, by omega, by go_num, hcd.out⟩, by simp [intOf]; omega⟩
  · obtain rfl : k = we.parts.length := by omega
    have hf : pcTo we.parts day we.parts.length = pcOf we day := rfl
    rw [hf] at hO
    replace hO := Lib.hid hO
    replace hR := Lib.hid hR
    replace hB := Lib.hid hB
    clear hinv e1' hH
    go_upto_region 11 with fail
    refine wp_region_list ?_
    refine wpList_load_row rfl 138 _ rfl W1.heap.size rfl _ _ (0, 0) _ hO.out Tryz.underlying138 rfl (by show _ = some 24; kernel_rfl) ?_
    refine wpList_store_row rfl 138 _ _ rfl w.heap.size (pcC (pcOf we day)) rfl rfl _ _ hR.out (by show _ = some 24; kernel_rfl) rfl (by simp [pcC, Value.oneCell']) ?_
    refine wpList_nil ?_
    go_wp2
    have hbl : Below w.heap.size w (wr.setRow w.heap.size (pcC (pcOf we day))) := ⟨hB.out.os, hB.out.tape, hB.out.output, by simpa using hB.out.size, fun k hk => (setRow_other _ _ _ _ (by omega)).trans (hB.out.block k hk)⟩
    exact bodyPost_ret (results_cell_row (p := 2) (ty := 138) rfl _ _ w.heap.size 138 (pcC (pcOf we day)) (0, 0) _ rfl (setRow_heap _ _ _ _ _ _ hR.out) Tryz.underlying138 rfl (by show _ = some 24; kernel_rfl)) rfl ⟨rfl, hbl⟩
end Go.Proofs.YtpcamocnlnlgiaaGreat.B
set_option linter.unusedVariables false
set_option linter.unusedSimpArgs false
namespace Wl
def at0 (l : List Int) (k : Nat) : Int := l.getD k 0
def bitN (t : Bool) : Int := if t = true then 1 else 0
def pushQ (t : Bool) (q : List Int) (x : Int) : List Int := if t = true then q ++ [x] else x :: q
theorem bitN_in (t : Bool) : 0 ≤ bitN t ∧ bitN t ≤ 1 := by cases t <;> decide
theorem pushQ_len (t : Bool) (q : List Int) (x : Int) : (pushQ t q x).length = q.length + 1 := by cases t <;> simp [pushQ]
theorem pushQ_mem {t : Bool} {q : List Int} {x r : Int} (h : r ∈ pushQ t q x) : r = x ∨ r ∈ q := by
 cases t
 · exact List.mem_cons.1 h
 · rcases List.mem_append.1 h with h | h
   · exact .inr h
   · exact .inl (List.mem_singleton.1 h)
def relax (tight : Nat → Bool) (room : Int) (s : List Int × List Int) (x : Nat × Int) : List Int × List Int :=
 if at0 s.1 x.2.toNat ≤ at0 s.1 room.toNat + bitN (tight x.1) then s
 else (s.1.set x.2.toNat (at0 s.1 room.toNat + bitN (tight x.1)), pushQ (tight x.1) s.2 x.2)
def relaxs (tight : Nat → Bool) (room : Int) (s : List Int × List Int) (xs : List (Nat × Int)) : List Int × List Int := xs.foldl (relax tight room) s
theorem relaxs_snoc (tight : Nat → Bool) (room : Int) (s : List Int × List Int) (xs : List (Nat × Int)) (x : Nat × Int) : relaxs tight room s (xs ++ [x]) = relax tight room (relaxs tight room s xs) x := by simp [relaxs]
def stepQ (tight : Nat → Bool) (l : List Pa) (s : List Int × List Int) : List Int × List Int :=
 match s.2 with
 | [] => s
 | r :: q => relaxs tight r (s.1, q) (atL l r)
def iterQ (tight : Nat → Bool) (l : List Pa) : Nat → List Int × List Int → List Int × List Int
 | 0, s => s
 | n + 1, s => stepQ tight l (iterQ tight l n s)
structure Fine (m : Nat) (s : List Int × List Int) : Prop where
 len : s.1.length = m
 dist : ∀ k, k < m → 0 ≤ at0 s.1 k ∧ at0 s.1 k ≤ 1048576
 rooms : ∀ r, r ∈ s.2 → 0 ≤ r ∧ r < m
def sumN : List Int → Nat
 | [] => 0
 | x :: xs => x.toNat + sumN xs
def meas (s : List Int × List Int) : Nat := 2 * sumN s.1 + s.2.length
theorem sumN_set {l : List Int} {k : Nat} {y : Int} (h : k < l.length) (hy : y.toNat < (at0 l k).toNat) : sumN (l.set k y) < sumN l := by
 induction l generalizing k with
 | nil => simp at h
 | cons a l ih =>
  cases k with
  | zero =>
   simp only [List.set_cons_zero, sumN]
   simp only [at0, List.getD_cons_zero] at hy
   omega
  | succ k =>
   simp only [List.set_cons_succ, sumN]
   have := ih (k := k) (by simpa using h) (by simpa [at0] using hy)
   omega
theorem sumN_le {l : List Int} {B : Nat} (h : ∀ x ∈ l, x.toNat ≤ B) : sumN l ≤ l.length * B := by
 induction l with
 | nil => simp [sumN]
 | cons a l ih =>
  have h1 := h a (List.mem_cons_self ..)
  have h2 := ih fun x hx => h x (List.mem_cons_of_mem _ hx)
  simp only [sumN, List.length_cons, Nat.add_mul, Nat.one_mul]
  omega
theorem at0_set {l : List Int} {k j : Nat} {y : Int} (h : k < l.length) : at0 (l.set k y) j = if j = k then y else at0 l j := by
 unfold at0
 by_cases e : j = k
 · subst e; simp [h]
 · simp [e, List.getElem?_set, Ne.symm e]
theorem relax_fine {m : Nat} {tight : Nat → Bool} {room : Int} {s : List Int × List Int} {x : Nat × Int} (h : Fine m s) (hr : 0 ≤ room ∧ room < m) (hx : 0 ≤ x.2 ∧ x.2 < m) : Fine m (relax tight room s x) := by
 unfold relax
 split
 · exact h
 · rename_i hlt
   have d1 := h.dist room.toNat (by omega)
   have d2 := h.dist x.2.toNat (by omega)
   have hl := h.len
   have hb := bitN_in (tight x.1)
   refine ⟨by simpa using h.len, fun k hk => ?_, fun r hrr => ?_⟩
   · show 0 ≤ at0 (s.1.set _ _) k ∧ at0 (s.1.set _ _) k ≤ _
     rw [at0_set (by omega)]
     split
     · omega
     · exact h.dist k hk
   · rcases pushQ_mem hrr with rfl | h1
     · exact hx
     · exact h.rooms r h1
theorem relax_meas {m : Nat} {tight : Nat → Bool} {room : Int} {s : List Int × List Int} {x : Nat × Int} (h : Fine m s) (hr : 0 ≤ room ∧ room < m) (hx : 0 ≤ x.2 ∧ x.2 < m) : meas (relax tight room s x) ≤ meas s := by
 unfold relax
 split
 · exact Nat.le_refl _
 · rename_i hlt
   have d1 := h.dist room.toNat (by omega)
   have d2 := h.dist x.2.toNat (by omega)
   have hl := h.len
   have hb := bitN_in (tight x.1)
   have hs := sumN_set (l := s.1) (k := x.2.toNat) (y := at0 s.1 room.toNat + bitN (tight x.1)) (by omega) (by omega)
   show 2 * sumN (s.1.set _ _) + (pushQ _ _ _).length ≤ _
   rw [pushQ_len]
   unfold meas
   omega
theorem relaxs_fine {m : Nat} {tight : Nat → Bool} {room : Int} (hr : 0 ≤ room ∧ room < m) : ∀ (xs : List (Nat × Int)) (s : List Int × List Int), Fine m s → (∀ x ∈ xs, 0 ≤ x.2 ∧ x.2 < m) → Fine m (relaxs tight room s xs) ∧ meas (relaxs tight room s xs) ≤ meas s
 | [], s, h, _ => ⟨h, Nat.le_refl _⟩
 | x :: xs, s, h, hx => by
  have h1 := relax_fine (tight := tight) h hr (hx x (List.mem_cons_self ..))
  have h2 := relax_meas (tight := tight) h hr (hx x (List.mem_cons_self ..))
  obtain ⟨h3, h4⟩ := relaxs_fine hr xs (relax tight room s x) h1 fun y hy => hx y (List.mem_cons_of_mem _ hy)
  exact ⟨h3, Nat.le_trans h4 h2⟩
theorem stepQ_cons (tight : Nat → Bool) (l : List Pa) (o q : List Int) (r : Int) : stepQ tight l (o, r :: q) = relaxs tight r (o, q) (atL l r) := rfl
theorem stepQ_fine {w : We} (ok : w.Ok) {tight : Nat → Bool} {o q : List Int} {r : Int} (h : Fine w.rooms.toNat (o, r :: q)) : Fine w.rooms.toNat (stepQ tight w.parts (o, r :: q)) ∧ meas (stepQ tight w.parts (o, r :: q)) < meas (o, r :: q) := by
 have hr := h.rooms r (List.mem_cons_self ..)
 have h0 : Fine w.rooms.toNat (o, q) := ⟨h.len, h.dist, fun x hx => h.rooms x (List.mem_cons_of_mem _ hx)⟩
 obtain ⟨h1, h2⟩ := relaxs_fine (tight := tight) hr (atL w.parts r) (o, q) h0 fun x hx => by
  obtain ⟨a, b, c⟩ := atL_mem hx
  have := toOf_in ok a r
  have := ok.rooms
  rw [b] at c ⊢
  omega
 rw [stepQ_cons]
 refine ⟨h1, Nat.lt_of_le_of_lt h2 ?_⟩
 simp [meas]
theorem iterQ_stay {tight : Nat → Bool} {l : List Pa} {s : List Int × List Int} {n : Nat} (h : (iterQ tight l n s).2 = []) : ∀ k, iterQ tight l (n + k) s = iterQ tight l n s
 | 0 => rfl
 | k + 1 => by
  show stepQ tight l (iterQ tight l (n + k) s) = _
  rw [iterQ_stay h k]
  unfold stepQ
  rw [h]
theorem iterQ_same {tight : Nat → Bool} {l : List Pa} {s : List Int × List Int} {n m : Nat} (h1 : (iterQ tight l n s).2 = []) (h2 : (iterQ tight l m s).2 = []) : iterQ tight l n s = iterQ tight l m s := by
 rcases Nat.le_total n m with h | h
 · obtain ⟨k, rfl⟩ := Nat.exists_eq_add_of_le h; exact (iterQ_stay h1 k).symm
 · obtain ⟨k, rfl⟩ := Nat.exists_eq_add_of_le h; exact iterQ_stay h2 k
end Wl
