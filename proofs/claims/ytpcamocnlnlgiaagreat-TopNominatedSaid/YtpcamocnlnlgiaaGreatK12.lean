/- Laws and walks: Bkh, Bkj, Bki. -/
import Derived.Test.YtpcamocnlnlgiaaGreatK11
set_option maxRecDepth 100000
set_option maxHeartbeats 16000000
set_option linter.unusedVariables false
set_option linter.unusedSimpArgs false
namespace Go.Proofs.YtpcamocnlnlgiaaGreat.B
open Go.RowKit Go.Sd Wl Bk L
attribute [local go_sem] Oper.semAt_some
theorem row19 {w : World} {n : Nat} {a0 a1 a2 a3 a4 a5 a6 a7 a8 a9 a10 a11 a12 a13 a14 a15 a16 a17 a18 : Value} {e : TypeId} (h : w.heap[n]? = some (.cells #[a0, a1, a2, a3, a4, a5, a6, a7, a8, a9, a10, a11, a12, a13, a14, a15, a16, a17, a18] e (0, 0))) : w.cell? ⟨n, 0, none⟩ = some a0 ∧ w.cell? ⟨n, 1, none⟩ = some a1 ∧ w.cell? ⟨n, 2, none⟩ = some a2 ∧ w.cell? ⟨n, 3, none⟩ = some a3 ∧ w.cell? ⟨n, 4, none⟩ = some a4 ∧ w.cell? ⟨n, 5, none⟩ = some a5 ∧ w.cell? ⟨n, 6, none⟩ = some a6 ∧ w.cell? ⟨n, 7, none⟩ = some a7 ∧ w.cell? ⟨n, 8, none⟩ = some a8 ∧ w.cell? ⟨n, 9, none⟩ = some a9 ∧ w.cell? ⟨n, 10, none⟩ = some a10 ∧ w.cell? ⟨n, 11, none⟩ = some a11 ∧ w.cell? ⟨n, 12, none⟩ = some a12 ∧ w.cell? ⟨n, 13, none⟩ = some a13 ∧ w.cell? ⟨n, 14, none⟩ = some a14 ∧ w.cell? ⟨n, 15, none⟩ = some a15 ∧ w.cell? ⟨n, 16, none⟩ = some a16 ∧ w.cell? ⟨n, 17, none⟩ = some a17 ∧ w.cell? ⟨n, 18, none⟩ = some a18 := by
 have r := (row_cells h).2.1
 exact ⟨r 0, r 1, r 2, r 3, r 4, r 5, r 6, r 7, r 8, r 9, r 10, r 11, r 12, r 13, r 14, r 15, r 16, r 17, r 18⟩
theorem frz {w : World} {n : Nat} {c : Array Value} {e : TypeId} (h : w.heap[n]? = some (.cells c e (0, 0))) (i : Nat) : w.frozen? ⟨n, i, none⟩ = false := (row_cells h).2.2 i
theorem con1 {w : World} {cv rv : Value} {c : Con} (h : ConsAt w cv [(rv, c)]) : ∃ b off cc, cv = .slice (some ⟨b, off, none⟩) 1 cc ∧ b < w.heap.size ∧ (w.cell? ⟨b, off, none⟩ = some (.bool c.firm) ∧ w.cell? ⟨b, off + 1, none⟩ = some (.int .i64 c.space) ∧ w.cell? ⟨b, off + 2, none⟩ = some (.int .i64 c.lo) ∧ w.cell? ⟨b, off + 3, none⟩ = some (.int .i64 c.hi) ∧ w.cell? ⟨b, off + 4, none⟩ = some (rv) ∧ w.cell? ⟨b, off + 5, none⟩ = some (.int .i64 c.gas) ∧ w.cell? ⟨b, off + 6, none⟩ = some (.int .i64 c.fixed) ∧ w.cell? ⟨b, off + 7, none⟩ = some (.int .i64 c.inn) ∧ w.cell? ⟨b, off + 8, none⟩ = some (.int .i64 c.out) ∧ w.cell? ⟨b, off + 9, none⟩ = some (.int .i64 c.cut) ∧ w.cell? ⟨b, off + 10, none⟩ = some (.int .i64 c.lack)) ∧ RtsAt w rv c.rates := by
 have he := h.els
 obtain ⟨a, cap, rfl, hm, -⟩ := he
 obtain ⟨b, off, rfl, hb, hx⟩ := cons_row h (by simp)
 have h0 := hx 0 (by simp)
 simp only [Nat.zero_mul, Nat.add_zero] at h0
 exact ⟨b, off, cap, rfl, hb, h0, h.rts 0 (by simp)⟩
structure Fx where
 c : Con
 rv : Value
 cv : Value
 hv : Value
 nv : Value
 sp : Int
 inn : Int
 out : Int
 hs : List Hr
 ns : List Nm
structure FxAt (w : World) (f : Fx) : Prop where
 ok : f.c.ok = true
 cons : ConsAt w f.cv [(f.rv, f.c)]
 hrs : HrsAt w f.hv f.hs
 nms : NmsAt w f.nv f.ns
 lh : f.hs.length ≤ 48
 ln : f.ns.length ≤ 200
theorem FxAt.mono {w w' : World} {f : Fx} (h : FxAt w f) (hb : Below w.heap.size w w') : FxAt w' f := ⟨h.ok, h.cons.mono hb, h.hrs.mono hb, h.nms.mono hb, h.lh, h.ln⟩
abbrev rnO (f : Fx) (t : Int) (gv bv f0 f1 f2 : Value) : Obj := .cells #[.int .i64 f.sp, .int .i64 f.inn, .int .i64 f.out, .int .i64 0, .int .i64 0, f.cv, f.hv, f.nv, .slice none 0 0, .int .i64 t, gv, .int .i64 0, .int .i64 0, bv, .slice none 0 0, f0, f1, f2, .slice none 0 0] 165
def Fl (B : Nat) (w : World) (v : Value) (x : Option Int) : Prop := match x with | none => v = .slice none 0 0 | some n => One B w v n
theorem Fl.kept {B : Nat} {S : Nat → Prop} {w w' : World} {v : Value} {x : Option Int} (h : Fl B w v x) (hk : Kept S w w') (hs : ∀ k, B ≤ k → S k) : Fl B w' v x := by
 cases x with
 | none => exact h
 | some n => exact QAt.kept h hk fun k e => hs k (QAt.lt h k e).1
theorem Fl.mono {B : Nat} {w w' : World} {v : Value} {x : Option Int} (h : Fl B w v x) (hb : Below w.heap.size w w') : Fl B w' v x := h.kept (.all hb) (S := fun _ => True) fun _ _ => trivial
structure RnAt (w0 : World) (rb : Nat) (w : World) (f : Fx) (t : Int) (gb go gc : Nat) (g : Int) (bb bo bc : Nat) (b : Int) (f0 f1 f2 : Value) (x0 x1 x2 : Option Int) : Prop where
 fx : FxAt w0 f
 base : Below w0.heap.size w0 w
 row : w.heap[rb]? = some (rnO f t (.slice (some ⟨gb, go, none⟩) 1 gc) (.slice (some ⟨bb, bo, none⟩) 1 bc) f0 f1 f2)
 old : w0.heap.size ≤ rb
 gas : One w0.heap.size w (.slice (some ⟨gb, go, none⟩) 1 gc) g
 bil : One w0.heap.size w (.slice (some ⟨bb, bo, none⟩) 1 bc) b
 gr : gb < rb
 br : bb < rb
 ne : gb ≠ bb
 l0 : Fl (rb + 1) w f0 x0
 l1 : Fl (rb + 1) w f1 x1
 l2 : Fl (rb + 1) w f2 x2
variable {w0 w w' : World} {rb : Nat} {f : Fx} {t : Int} {gb go gc : Nat} {g : Int} {bb bo bc : Nat} {b : Int} {f0 f1 f2 : Value} {x0 x1 x2 : Option Int}
theorem RnAt.mono (h : RnAt w0 rb w f t gb go gc g bb bo bc b f0 f1 f2 x0 x1 x2) (hb : Below w.heap.size w w') : RnAt w0 rb w' f t gb go gc g bb bo bc b f0 f1 f2 x0 x1 x2 :=
 ⟨h.fx, below_tr h.base hb, kept_block hb h.row, h.old, h.gas.mono hb, h.bil.mono hb, h.gr, h.br, h.ne, h.l0.mono hb, h.l1.mono hb, h.l2.mono hb⟩
theorem RnAt.fxw (h : RnAt w0 rb w f t gb go gc g bb bo bc b f0 f1 f2 x0 x1 x2) : FxAt w f := h.fx.mono h.base
theorem RnAt.row' (h : RnAt w0 rb w f t gb go gc g bb bo bc b f0 f1 f2 x0 x1 x2) (hk : Kept (fun k => k ≠ rb) w w') {t' : Int} {u0 u1 u2 : Value} {y0 y1 y2 : Option Int}
    (hr : w'.heap[rb]? = some (rnO f t' (.slice (some ⟨gb, go, none⟩) 1 gc) (.slice (some ⟨bb, bo, none⟩) 1 bc) u0 u1 u2)) (h0 : Fl (rb + 1) w' u0 y0) (h1 : Fl (rb + 1) w' u1 y1) (h2 : Fl (rb + 1) w' u2 y2) :
    RnAt w0 rb w' f t' gb go gc g bb bo bc b u0 u1 u2 y0 y1 y2 := by
 have h3 := h.old
 have h4 := h.gr
 have h5 := h.br
 refine ⟨h.fx, h.base.trans (hk.below (by have := h.base.size; omega) fun k hk => by omega), hr, h.old, h.gas.kept hk fun k e => ?_, h.bil.kept hk fun k e => ?_, h.gr, h.br, h.ne, h0, h1, h2⟩
 · cases e; show gb ≠ rb; omega
 · cases e; show bb ≠ rb; omega
theorem RnAt.setG (h : RnAt w0 rb w f t gb go gc g bb bo bc b f0 f1 f2 x0 x1 x2) (y : Int) : RnAt w0 rb (w.setCell ⟨gb, go, none⟩ (.int .i64 y)) f t gb go gc y bb bo bc b f0 f1 f2 x0 x1 x2 := by
 have hk : Kept (fun k => k ≠ gb) w (w.setCell ⟨gb, go, none⟩ (.int .i64 y)) := (Kept.refl _ _).setCell (p := ⟨gb, go, none⟩) (.inl fun h => h rfl) _
 have h1 := (h.gas.lt gb rfl).1
 have h4 := h.gr
 have h6 := h.ne
 have hz := (zqo h.row)
 refine ⟨h.fx, h.base.trans (hk.below (by have := h.base.size; omega) fun k hk => by omega), (hk.block _ hz (by omega)).trans h.row, h.old, h.gas.set y, h.bil.kept hk fun k e => ?_, h.gr, h.br, h.ne, h.l0.kept hk fun k _ => by omega, h.l1.kept hk fun k _ => by omega, h.l2.kept hk fun k _ => by omega⟩
 cases e; show bb ≠ gb; omega
theorem RnAt.setB (h : RnAt w0 rb w f t gb go gc g bb bo bc b f0 f1 f2 x0 x1 x2) (y : Int) : RnAt w0 rb (w.setCell ⟨bb, bo, none⟩ (.int .i64 y)) f t gb go gc g bb bo bc y f0 f1 f2 x0 x1 x2 := by
 have hk : Kept (fun k => k ≠ bb) w (w.setCell ⟨bb, bo, none⟩ (.int .i64 y)) := (Kept.refl _ _).setCell (p := ⟨bb, bo, none⟩) (.inl fun h => h rfl) _
 have h1 := (h.bil.lt bb rfl).1
 have h4 := h.br
 have h6 := h.ne
 have hz := (zqo h.row)
 refine ⟨h.fx, h.base.trans (hk.below (by have := h.base.size; omega) fun k hk => by omega), (hk.block _ hz (by omega)).trans h.row, h.old, h.gas.kept hk fun k e => ?_, h.bil.set y, h.gr, h.br, h.ne, h.l0.kept hk fun k _ => by omega, h.l1.kept hk fun k _ => by omega, h.l2.kept hk fun k _ => by omega⟩
 cases e; show gb ≠ bb; omega
end Go.Proofs.YtpcamocnlnlgiaaGreat.B
set_option linter.unusedVariables false
set_option linter.unusedSimpArgs false
namespace Go.Proofs.YtpcamocnlnlgiaaGreat.B
open Go.RowKit Go.Sd Wl Bk L
attribute [local go_sem] Oper.semAt_some
theorem step_app_run {ops : Array Oper} {o : Oper} {a : Act} {K : Act → World → Prop} {Q : Exit → Act → World → Prop} {E : Prop} (hgd : o.guard = none) (s x : Operand) (T : TypeId)
    (ho : o.op = .call { callee := .builtin .append, args := #[s, x], argTypes := #[T, T] }) {w : World} {v u : Value} (hs : a.eval s = v) (hx : a.eval x = u)
    {v' : Value} {w' : World} (hrun : (Builtin.append_ #[T, T] o.type #[v, u]).run Tryz.prog w = .ok v' w') (h : K (a.put o.dst v') w') : if Region.wanted o (yielded ops a.tmps) = true then Oper.wp Tryz.prog o a w K Q else E := by
 have hw : Region.wanted o (yielded ops a.tmps) = true := by simp [Region.wanted, hgd]
 rw [if_pos hw]
 unfold Oper.wp
 simp [execOp, ho, resolve, invoke, builtin, hs, hx, hrun, Result.andThen]
 exact h
theorem joined1 (va vb : Value) (p q : Int) (hp : -1000 ≤ p ∧ p ≤ 1000) (hq : -1000 ≤ q ∧ q ≤ 1000) (w : World) (ha : IntsAt w va [p]) (hb : IntsAt w vb [q]) : Calls Tryz.prog 116 #[va, vb] w fun e w' => ∃ v, e = .returned v ∧ One w.heap.size w' v (p - q) ∧ Below w.heap.size w w' := by
 have ha0 := ha
 have hb0 := hb
 obtain ⟨aa, acap, rfl, ham, -⟩ := ha0
 obtain ⟨ab, bcap, rfl, hbm, -⟩ := hb0
 obtain ⟨a, ao, rfl, hal, hac⟩ := ints_row ha (by simp)
 obtain ⟨b, bo, rfl, hbl, hbc⟩ := ints_row hb (by simp)
 have c0 := hac 0 (by simp)
 have c1 := hbc 0 (by simp)
 simp only [Nat.add_zero, List.getD_cons_zero] at c0 c1
 have eW : (w.alloc (.cells #[.int .i64 (p - q)] 3)).drew.heap[w.heap.size]? = some (.cells #[.int .i64 (p - q)] 3 (0, 0)) := World.alloc_heap_new w _
 have bW : Below w.heap.size w (w.alloc (.cells #[.int .i64 (p - q)] 3)).drew := ((Below.refl _ _).alloc (Nat.le_refl _) _).drew
 obtain ⟨v, V, hr, o, k⟩ := app_nil w.heap.size (w.alloc (.cells #[.int .i64 (p - q)] 3)).drew (p - q) w.heap.size 1 bW.size (row1c eW)
 have hb3 := below_tr bW k
 have hfin : One w.heap.size V v (p - q) ∧ Below w.heap.size w V := ⟨o.up bW.size, hb3⟩
 have hw : IntKind.i64.wrap (p - q) = p - q := IntWalk.i64_in _ (by omega)
 have d0 := kept_cell ((Below.refl w.heap.size w).drew) c0
 have d1 := kept_cell ((Below.refl w.heap.size w).drew) c1
 have g0 := kept_cell bW c0
 have g1 := kept_cell bW c1
 have m0 := kept_cell hb3 c0
 have m1 := kept_cell hb3 c1
 obtain ⟨v1, v2, rfl⟩ := o.slice
 replace hfin := Lib.hid hfin
 clear eW bW o k hb3 ha hb hac hbc
 go_enter Tryz.func116, Tryz.ntmps116
 go_wp2_with (fail)
 go_loopw [9, 5] (fun i p1 wr => (i = .int .i64 0 ∧ p1 = .slice none 0 0 ∧ wr = w) ∨ (i = .int .i64 1 ∧ p1 = .slice v1 [p - q].length v2 ∧ wr = V)) (fun i _ _ => (1 - intOf i).toNat)
 case atStart => exact .inl ⟨rfl, rfl, by first | rfl | trivial⟩
 case round =>
  rcases hrel with ⟨rfl, rfl, rfl⟩ | ⟨rfl, rfl, rfl⟩
  · go_wp2_with (fail)
    refine wp_region_held_drew (S := (fun w' => w'.cell? ⟨a, ao, none⟩ = some (.int .i64 p) ∧ w'.cell? ⟨b, bo, none⟩ = some (.int .i64 q))) (by kernel_rfl) ?_ (fun hHeld => ?_)
    · first | (first | exact ⟨d0, d1⟩ | exact ⟨g0, g1⟩ | exact ⟨m0, m1⟩) | (dsimp only; (first | exact ⟨d0, d1⟩ | exact ⟨g0, g1⟩ | exact ⟨m0, m1⟩))
    refine wpAnyH_take (i := 0) (v := ?_) rfl (by kernel_rfl) (by kernel_rfl) (by kernel_rfl) (fun _ _ _ h => h) (Or.inl ⟨by rfl, ?_⟩) (by assumption) ?_
    rotate_left
    · intro w hSw; (try dsimp only at hSw); go_simp; (try with_reducible rfl)
    try simp only [Act.put, List.setIfInBounds_toArray, List.set_cons_zero, List.set_cons_succ]
    refine wpAnyH_take (i := 1) (v := ?_) rfl (by kernel_rfl) (by kernel_rfl) (by kernel_rfl) (fun _ _ _ h => h) (Or.inl ⟨by rfl, ?_⟩) (by assumption) ?_
    rotate_left
    · intro w hSw; (try dsimp only at hSw); go_simp; (try with_reducible rfl)
    try simp only [Act.put, List.setIfInBounds_toArray, List.set_cons_zero, List.set_cons_succ]
    refine wpAnyH_take (i := 2) (v := ?_) rfl (by kernel_rfl) (by kernel_rfl) (by kernel_rfl) (fun _ _ _ h => h) (Or.inl ⟨by rfl, ?_⟩) (by assumption) ?_
    rotate_left
    · intro w hSw; (try dsimp only at hSw); go_simp; (try with_reducible rfl)
    try simp only [Act.put, List.setIfInBounds_toArray, List.set_cons_zero, List.set_cons_succ]
    refine wpAnyH_take (i := 3) (v := ?_) rfl (by kernel_rfl) (by kernel_rfl) (by kernel_rfl) (fun _ _ _ h => h) (Or.inl ⟨by rfl, ?_⟩) (by assumption) ?_
    rotate_left
    · intro w hSw; (try dsimp only at hSw); go_simp; (try with_reducible rfl)
    try simp only [Act.put, List.setIfInBounds_toArray, List.set_cons_zero, List.set_cons_succ]
    refine wpAnyH_take (i := 4) (v := ?_) rfl (by kernel_rfl) (by kernel_rfl) (by kernel_rfl) (fun _ _ _ h => h) (Or.inl ⟨by rfl, ?_⟩) (by assumption) ?_
    rotate_left
    · intro w hSw; (try dsimp only at hSw); go_simp; (try with_reducible rfl)
    try simp only [Act.put, List.setIfInBounds_toArray, List.set_cons_zero, List.set_cons_succ]
    refine wpAnyH_take (i := 5) (v := ?_) rfl (by kernel_rfl) (by kernel_rfl) (by kernel_rfl) (fun _ _ _ h => h) (Or.inl ⟨by rfl, ?_⟩) (by assumption) ?_
    rotate_left
    · intro w hSw; (try dsimp only at hSw); go_simp; (try with_reducible rfl)
    try simp only [Act.put, List.setIfInBounds_toArray, List.set_cons_zero, List.set_cons_succ]
    refine wpAnyH_take (i := 6) (v := ?_) rfl (by kernel_rfl) (by kernel_rfl) (by kernel_rfl) (fun _ _ _ h => h) (Or.inl ⟨by rfl, ?_⟩) (by assumption) ?_
    rotate_left
    · intro w hSw; (try dsimp only at hSw); go_simp; (try with_reducible rfl)
    try simp only [Act.put, List.setIfInBounds_toArray, List.set_cons_zero, List.set_cons_succ]
    refine wpAnyH_take (i := 7) (v := ?_) rfl (by kernel_rfl) (by kernel_rfl) (by kernel_rfl) (fun _ _ _ h => h) (Or.inl ⟨by rfl, ?_⟩) (by assumption) ?_
    rotate_left
    · intro w hSw; (try dsimp only at hSw); go_simp; (try with_reducible rfl)
    try simp only [Act.put, List.setIfInBounds_toArray, List.set_cons_zero, List.set_cons_succ]
    refine wpAnyH_take (i := 8) (v := ?_) rfl (by kernel_rfl) (by kernel_rfl) (by kernel_rfl) (fun _ _ _ h => h) (Or.inl ⟨by rfl, ?_⟩) (by assumption) ?_
    rotate_left
    · intro w hSw; (try dsimp only at hSw); go_simp; (try with_reducible rfl)
    try simp only [Act.put, List.setIfInBounds_toArray, List.set_cons_zero, List.set_cons_succ]
    refine wpAnyH_take (i := 9) (v := ?_) rfl (by kernel_rfl) (by kernel_rfl) (by kernel_rfl) (fun _ _ _ h => h) (Or.inl ⟨by rfl, ?_⟩) (by assumption) ?_
    rotate_left
    · intro w hSw; (try dsimp only at hSw); go_simp; (try with_reducible rfl)
    try simp only [Act.put, List.setIfInBounds_toArray, List.set_cons_zero, List.set_cons_succ]
    refine wpAnyH_ready (rs := [10]) (by kernel_rfl) (by simp) ?_
    refine AllReadyH.cons rfl (fun K hK => ?_) AllReadyH.nil
    go_simp
    refine hK.out _ _ ?_ (fun hNow => ?_)
    · first | (first | exact ⟨d0, d1⟩ | exact ⟨g0, g1⟩ | exact ⟨m0, m1⟩) | (dsimp only; (first | exact ⟨d0, d1⟩ | exact ⟨g0, g1⟩ | exact ⟨m0, m1⟩))
    clear hK K hHeld
    have hHeld := hNow
    clear hNow
    try simp only [Act.put, List.setIfInBounds_toArray, List.set_cons_zero, List.set_cons_succ]
    refine wpAnyH_ready (rs := [11]) (by kernel_rfl) (by simp) ?_
    refine AllReadyH.cons rfl (fun K hK => ?_) AllReadyH.nil
    (refine step_app_run (by rfl) _ _ _ (by rfl) (by rfl) (by rfl) hr ?_)
    refine hK.out _ _ ?_ (fun hNow => ?_)
    · first | (first | exact ⟨d0, d1⟩ | exact ⟨g0, g1⟩ | exact ⟨m0, m1⟩) | (dsimp only; (first | exact ⟨d0, d1⟩ | exact ⟨g0, g1⟩ | exact ⟨m0, m1⟩))
    clear hK K hHeld
    have hHeld := hNow
    clear hNow
    try simp only [Act.put, List.setIfInBounds_toArray, List.set_cons_zero, List.set_cons_succ]
    refine wpAnyH_ready (rs := [12]) (by kernel_rfl) (by simp) ?_
    refine AllReadyH.cons rfl (fun K hK => ?_) AllReadyH.nil
    go_simp
    refine hK.out _ _ ?_ (fun hNow => ?_)
    · first | (first | exact ⟨d0, d1⟩ | exact ⟨g0, g1⟩ | exact ⟨m0, m1⟩) | (dsimp only; (first | exact ⟨d0, d1⟩ | exact ⟨g0, g1⟩ | exact ⟨m0, m1⟩))
    clear hK K hHeld
    have hHeld := hNow
    clear hNow
    try simp only [Act.put, List.setIfInBounds_toArray, List.set_cons_zero, List.set_cons_succ]
    refine wpAnyH_done (by kernel_rfl) ?_ _
    go_wp2_with (fail)
    exact ⟨.inr ⟨by go_num, by first | rfl | trivial, by first | rfl | trivial⟩, by simp [intOf]⟩
  · go_wp2_with (fail)
    go_ret
    exact ⟨_, rfl, hfin.out⟩
theorem self1 (n : Int) (w : World) : Calls Tryz.prog 115 #[.int .i64 n] w fun e w' => e = .returned (.int .i64 n) ∧ w' = w := by
 go_enter Tryz.func115, Tryz.ntmps115
 go_wp2_with (fail)
 go_ret
 exact ⟨rfl, rfl⟩
theorem madeOneB : madeCells #[Value.int .i64 0] (Int.toNat 1 * 1) = #[Value.int .i64 0] := by
 apply Array.ext
 · simp [madeCells]
 · intro i h1 h2
   simp [madeCells, Nat.mod_one]
theorem make_one (w : World) : (Instr.makeSlice 41 (.int .i64 1) (.int .i64 1)).run Tryz.prog w = .ok (.slice (some ⟨w.heap.size, 0, none⟩) 1 1) (w.alloc (.cells #[.int .i64 0] 3)) := by
 obtain ⟨i0, hi, hz0, hz1, hz2⟩ := info_parts infoI
 have h := run_makeSlice (P := Tryz.prog) w 41 3 i0 (.int .i64 0) Tryz.underlying41 hi hz0 .i64 .i64 1 1 (by omega) (by omega) (by rw [hz1]; omega) (by rw [hz2]; omega) (by omega)
 rw [hz1, show Value.cells (.int .i64 0) = #[.int .i64 0] from rfl, madeOneB] at h
 exact h
theorem share1 (va : Value) (p : Int) (hp : 0 ≤ p ∧ p ≤ 1000) (w : World) (ha : IntsAt w va [p]) : Calls Tryz.prog 117 #[.int .i64 p, va, .func (.func 115) #[] #[]] w fun e w' => ∃ v, e = .returned v ∧ One w.heap.size w' v p ∧ Below w.heap.size w w' := by
 have ha0 := ha
 obtain ⟨aa, acap, rfl, ham, -⟩ := ha0
 obtain ⟨a, ao, rfl, hal, hac⟩ := ints_row ha (by simp)
 have c0 := hac 0 (by simp)
 simp only [Nat.add_zero, List.getD_cons_zero] at c0
 obtain ⟨W, hW⟩ : ∃ W, w.alloc (.cells #[.int .i64 0] 3) = W := ⟨_, rfl⟩
 obtain ⟨eW, bW, zW⟩ := boxedB hW
 have hmk := make_one w
 rw [hW] at hmk
 have k1 := Lib.hid (self1 p w)
 have k2 := Lib.hid (self1 p W)
 have hpp : 0 ≤ p * p ∧ p * p ≤ 1000000 := ⟨Int.mul_nonneg hp.1 hp.1, Int.le_trans (Int.mul_le_mul hp.2 hp.2 hp.1 (by omega)) (by omega)⟩
 have hw1 : IntKind.i64.wrap (p * p) = p * p := IntWalk.i64_in _ (by omega)
 have hw2 : IntKind.i64.wrap p = p := IntWalk.i64_in _ (by omega)
 have c1 := kept_cell bW c0
 have d1 := row1c eW
 have f1 := frz eW 0
 obtain ⟨V, hV⟩ : ∃ V, W.setCell ⟨w.heap.size, 0, none⟩ (.int .i64 p) = V := ⟨_, rfl⟩
 have eV : V.heap[w.heap.size]? = some (.cells #[.int .i64 p] 3 (0, 0)) := by rw [← hV, row_set eW]; rfl
 have bV : Below w.heap.size w V := by rw [← hV]; exact bW.setCell (p := ⟨w.heap.size, 0, none⟩) (Nat.le_refl _) _
 have oV : One w.heap.size V (.slice (some ⟨w.heap.size, 0, none⟩) 1 1) p := .inr ⟨w.heap.size, 0, 1, _, rfl, Nat.le_refl _, eV, by simp, by unfold maxLen; omega, by simp, fun k hk => by
  obtain rfl : k = 0 := by simp at hk; omega
  rfl⟩
 have dV := row1c eV
 have zV := (zqo eV)
 have h00 : Hid (p = 0 → One w.heap.size W (.slice (some ⟨w.heap.size, 0, none⟩) 1 1) p ∧ Below w.heap.size w W) := Lib.hid fun e => ⟨by subst e; exact .inr ⟨w.heap.size, 0, 1, _, rfl, Nat.le_refl _, eW, by simp, by unfold maxLen; omega, by simp, fun k hk => by
  obtain rfl : k = 0 := by simp at hk; omega
  rfl⟩, bW⟩
 have hfin : One w.heap.size V (.slice (some ⟨w.heap.size, 0, none⟩) 1 1) p ∧ Below w.heap.size w V := ⟨oV, bV⟩
 replace hfin := Lib.hid hfin
 clear eW bW ha hac eV bV oV
 go_enter Tryz.func117, Tryz.ntmps117
 go_wp2_with (fail)
 go_loopw [17, 7] (fun i s wr => (i = .int .i64 0 ∧ s = .int .i64 0 ∧ w = wr) ∨ (i = .int .i64 1 ∧ s = .int .i64 p ∧ w = wr)) (fun i _ _ => (1 - intOf i).toNat)
 case atStart => exact .inl ⟨rfl, rfl, by first | rfl | trivial⟩
 case round =>
  rcases hrel with ⟨rfl, rfl, rfl⟩ | ⟨rfl, rfl, rfl⟩
  · go_wp2_with ((with_reducible refine Calls.mono k1.out ?_); rintro e w1 ⟨rfl, rfl⟩)
    exact ⟨.inr ⟨by go_num, by simp [hw2], by first | rfl | trivial⟩, by simp [intOf]⟩
  · go_wp2_with (fail)
    go_loopw [32, 11, 12] (fun i s u wr => (i = .int .i64 0 ∧ s = .int .i64 0 ∧ u = .int .i64 0 ∧ wr = W) ∨ (i = .int .i64 1 ∧ Hid (One w.heap.size wr (.slice (some ⟨w.heap.size, 0, none⟩) 1 1) p ∧ Below w.heap.size w wr))) (fun i _ _ _ => (1 - intOf i).toNat)
    case atStart => exact .inl ⟨rfl, rfl, rfl, by first | rfl | trivial⟩
    case round =>
     rcases hrel with ⟨rfl, rfl, rfl, rfl⟩ | ⟨rfl, hH⟩
     · by_cases h0 : 0 < p
       · have hne : p ≠ 0 := by omega
         have hdiv : (p * p).tdiv p = p := Int.mul_tdiv_cancel _ hne
         go_wp2_with ((with_reducible refine Calls.mono k2.out ?_); rintro e w1 ⟨rfl, rfl⟩)
         exact ⟨.inr ⟨by go_num, hfin.out⟩, by simp [intOf]⟩
       · obtain rfl : p = 0 := by omega
         go_wp2_with ((with_reducible refine Calls.mono k2.out ?_); rintro e w1 ⟨rfl, rfl⟩)
         exact ⟨.inr ⟨by go_num, h00.out (by first | trivial | rfl)⟩, by simp [intOf]⟩
     · go_wp2_with (fail)
       go_ret
       exact ⟨_, rfl, hH.out⟩
end Go.Proofs.YtpcamocnlnlgiaaGreat.B
set_option linter.unusedVariables false
set_option linter.unusedSimpArgs false
namespace Go.Proofs.YtpcamocnlnlgiaaGreat.B
open Go.RowKit Go.Sd Wl Bk L
attribute [local go_sem] Oper.semAt_some
variable {w0 : World} {rb : Nat} {f : Fx} {t : Int} {gb go gc : Nat} {g : Int} {bb bo bc : Nat} {b : Int} {f0 f1 f2 : Value} {x0 x1 x2 : Option Int}
theorem runLoans (w : World) (h : RnAt w0 rb w f t gb go gc g bb bo bc b f0 f1 f2 x0 x1 x2) : Calls Tryz.prog 84 #[.pointer (some ⟨rb, 0, none⟩)] w fun e w' => e = .returned (.tuple #[]) ∧ RnAt w0 rb w' f t gb go gc g bb bo bc b f0 f1 f2 x0 x1 x2 := by
 obtain ⟨-, -, -, -, -, -, -, -, -, -, -, -, -, -, c14, -⟩ := row19 h.row
 have z := (zqo h.row)
 have k14 := frz h.row 14
 have hk : Kept (fun k => k ≠ rb) w (w.setCell ⟨rb, 14, none⟩ (.slice none 0 0)) := (Kept.refl _ _).setCell (p := ⟨rb, 14, none⟩) (.inl fun h => h rfl) _
 have hfin : Hid (RnAt w0 rb (w.setCell ⟨rb, 14, none⟩ (.slice none 0 0)) f t gb go gc g bb bo bc b f0 f1 f2 x0 x1 x2) := Lib.hid (h.row' hk (by rw [row_set h.row]; rfl) (h.l0.kept hk fun k _ => by omega) (h.l1.kept hk fun k _ => by omega) (h.l2.kept hk fun k _ => by omega))
 clear h hk
 go_enter Tryz.func84, Tryz.ntmps84
 go_wp2_with (fail)
 go_loopw [13, 2] (fun i l wr => i = .int .i64 0 ∧ l = .slice none 0 0 ∧ wr = w) (fun _ _ _ => 0)
 case atStart => exact ⟨rfl, rfl, by first | rfl | trivial⟩
 case round =>
  obtain ⟨rfl, rfl, rfl⟩ := hrel
  go_wp2_with (fail)
  go_end0
  exact ⟨rfl, hfin.out⟩
theorem runTrades (w : World) (h : RnAt w0 rb w f t gb go gc g bb bo bc b f0 f1 f2 x0 x1 x2) : Calls Tryz.prog 85 #[.pointer (some ⟨rb, 0, none⟩)] w fun e w' => e = .returned (.tuple #[]) ∧ w' = w := by
 obtain ⟨-, -, -, -, -, -, -, -, c8, -⟩ := row19 h.row
 have z := (zqo h.row)
 clear h
 go_enter Tryz.func85, Tryz.ntmps85
 go_wp2_with (fail)
 go_loopw [11] (fun i wr => i = .int .i64 0 ∧ wr = w) (fun _ _ => 0)
 case atStart => exact ⟨rfl, by first | rfl | trivial⟩
 case round =>
  obtain ⟨rfl, rfl⟩ := hrel
  go_wp2_with (fail)
  go_end0
  exact ⟨rfl, rfl⟩
theorem hrs_row {w : World} {a : Option Addr} {cap : Nat} {xs : List Hr} (h : HrsAt w (.slice a xs.length cap) xs) (h0 : 0 < xs.length) : ∃ b off, a = some ⟨b, off, none⟩ ∧ b < w.heap.size ∧ ∀ k, k < xs.length → w.cell? ⟨b, off + k * 4, none⟩ = some (.int .i64 (hrAt xs k).inn) ∧ w.cell? ⟨b, off + k * 4 + 1, none⟩ = some (.int .i64 (hrAt xs k).out) ∧ w.cell? ⟨b, off + k * 4 + 2, none⟩ = some (.int .i64 (hrAt xs k).fin) ∧ w.cell? ⟨b, off + k * 4 + 3, none⟩ = some (.int .i64 (hrAt xs k).fout) := by
 obtain ⟨a', cap', he, hm, hc⟩ := h
 cases he
 obtain ⟨b, off, rfl, hlt, hx⟩ := hc h0
 exact ⟨b, off, rfl, hlt, fun k hk => ⟨hx k 0 _ hk rfl, hx k 1 _ hk rfl, hx k 2 _ hk rfl, hx k 3 _ hk rfl⟩⟩
theorem nms_row {w : World} {a : Option Addr} {cap : Nat} {xs : List Nm} (h : NmsAt w (.slice a xs.length cap) xs) (h0 : 0 < xs.length) : ∃ b off, a = some ⟨b, off, none⟩ ∧ b < w.heap.size ∧ ∀ k, k < xs.length → w.cell? ⟨b, off + k * 4, none⟩ = some (.int .i64 (nmAt xs k).con) ∧ w.cell? ⟨b, off + k * 4 + 1, none⟩ = some (.int .i64 (nmAt xs k).hour) ∧ w.cell? ⟨b, off + k * 4 + 2, none⟩ = some (.int .i64 (nmAt xs k).sent) ∧ w.cell? ⟨b, off + k * 4 + 3, none⟩ = some (.int .i64 (nmAt xs k).am) := by
 obtain ⟨a', cap', he, hm, hc⟩ := h
 cases he
 obtain ⟨b, off, rfl, hlt, hx⟩ := hc h0
 exact ⟨b, off, rfl, hlt, fun k hk => ⟨hx k 0 _ hk rfl, hx k 1 _ hk rfl, hx k 2 _ hk rfl, hx k 3 _ hk rfl⟩⟩
abbrev hrO (p : Hr) : Obj := .cells #[.int .i64 p.inn, .int .i64 p.out, .int .i64 p.fin, .int .i64 p.fout] 60
theorem set_cells4 {w : World} {n : Nat} {a0 a1 a2 a3 : Value} {e : TypeId} (h : w.heap[n]? = some (.cells #[a0, a1, a2, a3] e (0, 0))) (b0 b1 b2 b3 : Value) :
    ((((w.setCell ⟨n, 0, none⟩ b0).setCell ⟨n, 1, none⟩ b1).setCell ⟨n, 2, none⟩ b2).setCell ⟨n, 3, none⟩ b3).heap[n]? = some (.cells #[b0, b1, b2, b3] e (0, 0)) := by
 have h2 := (row_set (row_set (row_set (row_set h 0 b0) 1 b1) 2 b2) 3 b3)
 simp only [List.setIfInBounds_toArray, List.set_cons_zero, List.set_cons_succ] at h2
 exact h2
theorem set_below4 {B : Nat} {v w : World} {n : Nat} (hk : Below B v w) (h : B ≤ n) (b0 b1 b2 b3 : Value) : Below B v ((((w.setCell ⟨n, 0, none⟩ b0).setCell ⟨n, 1, none⟩ b1).setCell ⟨n, 2, none⟩ b2).setCell ⟨n, 3, none⟩ b3) := by
 repeat' (first | (with_reducible exact hk) | (exact h) | refine Below.setCell ?_ ?_ _)
theorem runHour (n : Nat) (w : World) (h : RnAt w0 rb w f n gb go gc g bb bo bc b f0 f1 f2 x0 x1 x2) (hn : n < f.hs.length) : Calls Tryz.prog 111 #[.pointer (some ⟨rb, 0, none⟩)] w fun e w' => e = .returned (hrV (hrAt f.hs n)) ∧ Below w.heap.size w w' := by
 obtain ⟨W, hW⟩ : ∃ W, w.alloc (hrO ⟨0, 0, 0, 0⟩) = W := ⟨_, rfl⟩
 obtain ⟨e, bW, zW⟩ := boxedB hW
 have hx := h.fxw.hrs
 obtain ⟨c, rv, cv, hv, nv, sp, inn, out, hs, ns⟩ := f
 dsimp only at hx hn ⊢
 have hx0 := hx
 obtain ⟨a, cap, rfl, hm, -⟩ := hx0
 unfold maxLen at hm
 obtain ⟨hb, off, rfl, hlt, hc⟩ := hrs_row (hx.mono bW) (by omega)
 obtain ⟨k0, k1, k2, k3⟩ := hc n hn
 obtain ⟨-, -, -, -, -, -, c6, -, -, c9, -⟩ := row19 (kept_block bW h.row)
 have z := (Array.getElem?_eq_some_iff.1 (kept_block bW h.row)).1
 have hn1 : (n : Int) < hs.length := by omega
 have hm1 : (hs.length : Int) ≤ 9223372036854775807 := by omega
 have eh := Lib.hid e
 have hB := Lib.hid bW
 obtain ⟨y, hy⟩ : ∃ y, hrAt hs n = y := ⟨_, rfl⟩
 rw [hy] at k0 k1 k2 k3 ⊢
 clear h hx hc e bW hm hy
 go_enter Tryz.func111, Tryz.ntmps111
 go_wp2_with (fail)
 go_still_tail 12, (by kernel_rfl)
 change wpList _ _ _ _ _ W.drew
 obtain ⟨Y, hY⟩ : ∃ Y, W.drew = Y := ⟨_, rfl⟩
 have eY : Y.heap[w.heap.size]? = some (hrO ⟨0, 0, 0, 0⟩) := by rw [← hY]; exact eh.out
 have bY : Hid (Below w.heap.size w Y) := Lib.hid (by rw [← hY]; exact hB.out.drew)
 rw [hY]
 have zY := (zqo eY)
 have q0 := frz eY 0
 have q1 := frz eY 1
 have q2 := frz eY 2
 have q3 := frz eY 3
 obtain ⟨r0, r1, r2, r3⟩ := row4c eY
 have eYh := Lib.hid eY
 have hs := set_cells4 eYh.out (.int .i64 y.inn) (.int .i64 y.out) (.int .i64 y.fin) (.int .i64 y.fout)
 obtain ⟨m0, m1, m2, m3⟩ := row4c hs
 have hB2 := Lib.hid (set_below4 bY.out (Nat.le_refl _) (.int .i64 y.inn) (.int .i64 y.out) (.int .i64 y.fin) (.int .i64 y.fout))
 clear eY hY c6 c9 k0 k1 k2 k3 hs
 go_wp2_with (fail)
 refine bodyPost_ret (v := hrV y) (by simp [results, Tryz.results111, go_sem, m0, m1, m2, m3]) rfl ⟨rfl, hB2.out⟩
theorem runRoom (w : World) (h : RnAt w0 rb w f t gb go gc g bb bo bc b f0 f1 f2 x0 x1 x2) (hg : 0 ≤ g ∧ g ≤ f.c.space) : Calls Tryz.prog 108 #[.pointer (some ⟨rb, 0, none⟩), .int .i64 0] w fun e w' => e = .returned (.int .i64 (f.c.space - g)) ∧ Below w.heap.size w w' := by
 have hx := h.fxw
 obtain ⟨s1, s2, -⟩ := Con.ok_head hx.ok
 obtain ⟨-, -, -, -, -, c5, -, -, -, -, c10, -⟩ := row19 h.row
 have z := (zqo h.row)
 obtain ⟨cb, co, cc, hcv, hcb, ⟨-, k1, -⟩, -⟩ := con1 hx.cons
 rw [hcv] at c5
 obtain ⟨g', o', cap', he, hB, hz, h1, h2, hc, hf⟩ := h.gas.form
 cases he
 unfold maxLen at h2
 have hw : IntKind.i64.wrap (f.c.space - g) = f.c.space - g := IntWalk.i64_in _ (by omega)
 clear h hx hcv
 go_enter Tryz.func108, Tryz.ntmps108
 go_wp2_with (fail)
 go_quiet (fail)
 go_wp2_with (fail)
 go_ret
 exact ⟨rfl, below_drewN (Below.refl _ _) nq⟩
abbrev nmO (p : Nm) : Obj := .cells #[.int .i64 p.con, .int .i64 p.hour, .int .i64 p.sent, .int .i64 p.am] 62
abbrev stV (f : Fx) : Value := .agg #[.int .i64 f.sp, .int .i64 f.inn, .int .i64 f.out, .int .i64 0, .int .i64 0, f.cv]
def NomsOk (l : List Nm) : Prop := ∀ k : Nat, k < l.length → (nmAt l k).con = 0 ∧ (nmAt l k).hour = k ∧ (nmAt l k).sent = 0
theorem bookCounts (f : Fx) (n : Nat) (w : World) (h : FxAt w f) (hn : n < f.ns.length) (hns : NomsOk f.ns) : Calls Tryz.prog 110 #[stV f, f.nv, .int .i64 0, .int .i64 n] w fun e w' => e = .returned (.int .i64 n) ∧ Below w.heap.size w w' := by
 obtain ⟨W, hW⟩ : ∃ W, w.alloc (.cells #[.int .i64 f.sp, .int .i64 f.inn, .int .i64 f.out, .int .i64 0, .int .i64 0, f.cv] 52) = W := ⟨_, rfl⟩
 obtain ⟨e, bW, zW⟩ := boxedB hW
 have hx := h.nms
 have ln := h.ln
 obtain ⟨c, rv, cv, hv, nv, sp, inn, out, hs, ns⟩ := f
 dsimp only at hx hn hns ln e ⊢
 have hx0 := hx
 obtain ⟨a, cap, rfl, hm, -⟩ := hx0
 unfold maxLen at hm
 obtain ⟨nb, off, rfl, hlt, hc⟩ := nms_row (hx.mono bW) (by omega)
 have hch := Lib.hid hc
 have hnsh := Lib.hid hns
 have eh := Lib.hid e
 have hB := Lib.hid bW
 obtain ⟨cb, co, cc, hcv, -⟩ := con1 h.cons
 dsimp only at hcv
 subst hcv
 clear h hx hc e bW hns
 go_enter Tryz.func110, Tryz.ntmps110
 go_wp2_with (fail)
 go_loopw [14, 9] (fun i o wr => ∃ k : Nat, k ≤ ns.length ∧ i = .int .i64 k ∧ o = .int .i64 (if k ≤ n then -1 else n) ∧ Hid (Below W.heap.size W wr)) (fun i _ _ => ns.length - (intOf i).toNat)
 case atStart => exact ⟨0, by omega, rfl, by simp, Lib.hid (Below.refl _ _)⟩
 case round =>
  obtain ⟨k, hk, rfl, rfl, hH⟩ := hrel
  by_cases hlt2 : k < ns.length
  · obtain ⟨y0, y1, y2⟩ := hnsh.out k hlt2
    obtain ⟨d0, d1, d2, d3⟩ := hch.out k hlt2
    rw [y0] at d0
    rw [y1] at d1
    rw [y2] at d2
    have d0 := kept_cell hH.out d0
    have d1 := kept_cell hH.out d1
    have d2 := kept_cell hH.out d2
    have d3 := kept_cell hH.out d3
    have hki : (0 : Int) ≤ (k : Int) ∧ (k : Int) < ns.length := by omega
    obtain ⟨am, ham⟩ : ∃ am, (nmAt ns k).am = am := ⟨_, rfl⟩
    rw [ham] at d3
    obtain ⟨V, hV⟩ : ∃ V, wr.alloc (nmO ⟨0, k, 0, am⟩) = V := ⟨_, rfl⟩
    obtain ⟨eV, bV, zV⟩ := boxedB hV
    obtain ⟨v0, v1, v2, v3⟩ := row4c eV
    have eW := kept_block bV (kept_block hH.out eh.out)
    have u3 := (row_cells eW).2.1 3
    simp at u3
    have zu := (zqo eW)
    have hHV : Hid (Below W.heap.size W V) := Lib.hid (below_tr hH.out bV)
    have hnb : nb < wr.heap.size := by have := hH.out.size; omega
    clear hH bV eV eW y0 y1 y2
    by_cases hkn : k = n
    · subst hkn
      have hb1 : ((k : Int) == (k : Int)) = true := by simp
      rw [if_pos (Nat.le_refl k)]
      have he : (if k + 1 ≤ k then (-1 : Int) else k) = k := by rw [if_neg (by omega)]
      replace he := Lib.hid he
      go_wp2_with (fail)
      go_quiet (fail)
      go_wp2_with (fail)
      exact ⟨⟨k + 1, by omega, by go_num, by rw [he.out], Lib.hid (below_drewN hHV.out nq)⟩, by simp [intOf]; omega⟩
    · have hb1 : ((k : Int) == (n : Int)) = false := by simp; omega
      have he : Hid ((if k + 1 ≤ n then (-1 : Int) else n) = (if k ≤ n then (-1 : Int) else n)) := Lib.hid (by
       by_cases h1 : k + 1 ≤ n
       · rw [if_pos h1, if_pos (by omega)]
       · rw [if_neg h1, if_neg (by omega)])
      obtain ⟨q, hq⟩ : ∃ q, (if k ≤ n then (-1 : Int) else n) = q := ⟨_, rfl⟩
      rw [hq] at he ⊢
      replace hq := Lib.hid hq
      replace hkn := Lib.hid hkn
      go_wp2_with (fail)
      go_quiet (fail)
      go_wp2_with (fail)
      exact ⟨⟨k + 1, by omega, by go_num, by rw [he.out], Lib.hid (below_drewN hHV.out nq)⟩, by simp [intOf]; omega⟩
  · obtain rfl : k = ns.length := by omega
    have he : (if ns.length ≤ n then (-1 : Int) else n) = n := by rw [if_neg (by omega)]
    rw [he]
    go_wp2_with (fail)
    go_ret
    exact ⟨rfl, hB.out.trans (hH.out.mono hB.out.size)⟩
end Go.Proofs.YtpcamocnlnlgiaaGreat.B
