/- Gas: walks: the document's content behind operations. -/
import Derived.Test.YtdilgjhdimlbkaaOne
import Derived.Test.YtdilgjhdimlbkaaGln
import Derived.Test.YtdilgjhdimlbkaaTru
set_option linter.unusedVariables false
set_option linter.unusedSimpArgs false
namespace Go.Proofs.Ytdilgjhdimlbkaa
open Go.RowKit Go.Sd Gas

/-- What ref.One yields. -/
structure RefOne (c : Cav) (q : Pt) (o : Gas.Op) (u v : Int) (x g : Pt) (b : Bool) : Prop where
  calls : ∀ w, Calls Try.prog 28 #[cavV c, ptV q, opV o, .int .i64 u, .int .i64 v] w fun e w' => e = .returned (.tuple #[ptV x, ptV g, .bool b]) ∧ Below w.heap.size w w'
  is : one c q o u v = if b = true then some (x, g) else none
theorem pt_ok3 {p : Pt} (h : (0 ≤ p.g ∧ 0 ≤ p.y ∧ 2000 ≤ p.t ∧ p.t ≤ 5000 ∧ 0 ≤ p.w)) : p.ok = (decide (p.g ≤ 1000000) && decide (p.y ≤ 1000000) && decide (p.w ≤ 1000000000)) := by
  rw [Bool.eq_iff_iff]
  simp only [Pt.ok, Bool.and_eq_true, inB_iff, decide_eq_true_eq]
  omega
theorem true_3 {o : Gas.Op} {u v : Int} (ho : o.Is) (h : (inB u o.slo o.shi && inB v o.wlo o.whi) = true) (hk : o.kind = 3) : (0 ≤ u ∧ u ≤ 1000) ∧ (0 ≤ v ∧ v ≤ 1000000) := by
  simp only [Bool.and_eq_true, inB_iff] at h
  cases ho with
  | inject l hl => simp at hk
  | withdraw m hm => simp at hk
  | rest a b x y hx hy => simp only at h; omega
theorem inject_t {c : Cav} {p l : Pt} (hc : c.Ok) (hp : p.Ok) (hl : l.Ok) : 2000 ≤ (inject c p l).t ∧ (inject c p l).t ≤ 5000 := by
  have p1 := hp.g; have p2 := hp.y; have p3 := hp.t
  have l1 := hl.g; have l2 := hl.y; have l3 := hl.t
  have b1 := heat_bd (p := p) hc (by omega) (by omega)
  have b2 := heat_bd (p := l) hc (by omega) (by omega)
  have n1 : 0 ≤ heat c p := by unfold heat; omega
  have n2 : 0 ≤ heat c l := by unfold heat; omega
  exact ⟨warm_ge n1 n2 p3.1 l3.1, warm_le n1 n2 p3.2 l3.2⟩
theorem near_t {c : Cav} {p : Pt} {s : Int} (hc : c.Ok) (hp : p.Ok) (hs : 0 ≤ s ∧ s ≤ 1000) : 2000 ≤ near c.rock p.t s ∧ near c.rock p.t s ≤ 5000 := by
  have p3 := hp.t
  exact near_in (by omega) (by omega) hc.rock
theorem ref_one (c : Cav) (q : Pt) (o : Gas.Op) (u v : Int) (hc : c.Ok) (hq : q.Ok) (ho : o.Is) (hu : o.kind = 3 → 0 ≤ u ∧ u ≤ 1000) (hv : o.kind = 3 → 0 ≤ v ∧ v ≤ 1000000) : ∃ x g b, RefOne c q o u v x g b := by
  have h1 := hq.g; have h2 := hq.y; have h3 := hq.t; have h4 := hq.w
  cases ho with
  | inject l hl =>
    refine ⟨_, _, _, ⟨fun w => oneWalk c q _ _ _ u v _ w hc hq hu hv (.inj l hl), ?_⟩⟩
    have hi : (inject c q l).ok = _ := pt_ok3 (p := inject c q l) (by
      have l1 := hl.g; have l2 := hl.y; have l3 := hl.t; have l4 := hl.w
      have ht := inject_t hc hq hl
      refine ⟨?_, ?_, ht.1, ht.2, ?_⟩ <;> simp only [inject] <;> omega)
    simp only [one, if_true]
    rw [show Op.lot ⟨1, l.g, l.y, l.t, l.w, 0, 0, 0, 0, 0⟩ = l from rfl, hi]
    rfl
  | withdraw m hm =>
    by_cases hle : m ≤ q.g + q.y
    · refine ⟨_, _, _, ⟨fun w => oneWalk c q _ _ _ u v _ w hc hq hu hv (.wit m hm hle), ?_⟩⟩
      simp only [one, if_true]
      rw [if_neg (by decide), if_pos hle]
    · refine ⟨_, _, _, ⟨fun w => oneWalk c q _ _ _ u v _ w hc hq hu hv (.non m hm hle), ?_⟩⟩
      simp only [one, if_true]
      rw [if_neg (by decide), if_neg hle]
      rfl
  | rest a b x y hx hy =>
    have hu' := hu rfl
    have hv' := hv rfl
    refine ⟨_, _, _, ⟨fun w => oneWalk c q _ _ _ u v _ w hc hq hu hv (.rst a b x y), ?_⟩⟩
    have hi : (rest c q u v).ok = _ := pt_ok3 (p := rest c q u v) (by
      have ht := near_t hc hq hu'
      refine ⟨?_, ?_, ht.1, ht.2, ?_⟩ <;> simp only [rest] <;> omega)
    simp only [one]
    rw [if_neg (by decide), if_neg (by decide), hi]
    rfl
/-- What ref.Play yields. -/
def plV : Option (Pt × Pt) → Value
  | none => .tuple #[.agg #[.int .i64 0, .int .i64 0, .int .i64 0, .int .i64 0], .agg #[.int .i64 0, .int .i64 0, .int .i64 0, .int .i64 0], .bool false]
  | some (q, s) => .tuple #[ptV q, .agg #[.int .i64 s.g, .int .i64 s.y, .int .i64 0, .int .i64 s.w], .bool true]
theorem five_new {w W : World} {a b c d e : Obj} (h : ((((w.alloc a).alloc b).alloc c).alloc d).alloc e = W) :
    W.heap[w.heap.size]? = some a ∧ W.heap[w.heap.size + 1]? = some b ∧ W.heap[w.heap.size + 2]? = some c ∧ W.heap[w.heap.size + 3]? = some d ∧ W.heap[w.heap.size + 4]? = some e ∧ W.heap.size = w.heap.size + 5 ∧ Below w.heap.size w W := by
  subst h
  have key : ∀ (X : World) (o : Obj) (n : Nat) (q : Obj), X.heap[n]? = some q → (X.alloc o).heap[n]? = some q := fun X o n q h => (Below.heap_alloc _ _ _ (Array.getElem?_eq_some_iff.1 h).1).trans h
  have e0 := World.alloc_heap_new w a
  have e1 := World.alloc_heap_new (w.alloc a) b
  have e2 := World.alloc_heap_new ((w.alloc a).alloc b) c
  have e3 := World.alloc_heap_new (((w.alloc a).alloc b).alloc c) d
  have e4 := World.alloc_heap_new ((((w.alloc a).alloc b).alloc c).alloc d) e
  simp only [World.size_alloc] at e1 e2 e3 e4
  refine ⟨key _ _ _ _ (key _ _ _ _ (key _ _ _ _ (key _ _ _ _ e0))), key _ _ _ _ (key _ _ _ _ (key _ _ _ _ e1)), key _ _ _ _ (key _ _ _ _ e2), key _ _ _ _ e3, e4, by simp, ?_⟩
  exact (((((Below.refl _ _).alloc (Nat.le_refl _) _).alloc (by simp) _).alloc (by simp; omega) _).alloc (by simp; omega) _).alloc (by simp; omega) _
/-- What stands in the rounds. -/
structure PlSt (c : Cav) (w : World) (q s : Pt) (W : World) : Prop where
  c : W.heap[w.heap.size]? = some (.cells #[.int .i64 c.vlo, .int .i64 c.vhi, .int .i64 c.least, .int .i64 c.most, .int .i64 c.f0, .int .i64 c.f1, .int .i64 c.h0, .int .i64 c.h1, .int .i64 c.rock, .int .i64 c.plo, .int .i64 c.phi] 26)
  p : W.heap[w.heap.size + 1]? = some (ptO q)
  rp : W.heap[w.heap.size + 2]? = some (ptO zPt)
  ro : W.heap[w.heap.size + 3]? = some (ptO zPt)
  s : W.heap[w.heap.size + 4]? = some (ptO s)
  bel : Below w.heap.size w W
theorem PlSt.mono {c : Cav} {w : World} {q s : Pt} {W V : World} (h : PlSt c w q s W) (hb : Below W.heap.size W V) : PlSt c w q s V := ⟨kept_block hb h.c, kept_block hb h.p, kept_block hb h.rp, kept_block hb h.ro, kept_block hb h.s, below_tr h.bel hb⟩
theorem set_pt {W : World} {n : Nat} {p : Pt} (h : W.heap[n]? = some (ptO p)) (x : Pt) : ((((W.setCell ⟨n, 0, none⟩ (.int .i64 x.g)).setCell ⟨n, 1, none⟩ (.int .i64 x.y)).setCell ⟨n, 2, none⟩ (.int .i64 x.t)).setCell ⟨n, 3, none⟩ (.int .i64 x.w)).heap[n]? = some (ptO x) :=
  set_cells4 h _ _ _ _
theorem far_pt {W : World} {n m : Nat} {a b c d : Value} {o : Option Obj} (h : W.heap[m]? = o) (hne : m ≠ n) : ((((W.setCell ⟨n, 0, none⟩ a).setCell ⟨n, 1, none⟩ b).setCell ⟨n, 2, none⟩ c).setCell ⟨n, 3, none⟩ d).heap[m]? = o :=
  set_far _ _ hne (set_far _ _ hne (set_far _ _ hne (set_far _ _ hne h)))
theorem below_pt {W X : World} {n B : Nat} {a b c d : Value} (h : Below B W X) (hn : B ≤ n) : Below B W ((((X.setCell ⟨n, 0, none⟩ a).setCell ⟨n, 1, none⟩ b).setCell ⟨n, 2, none⟩ c).setCell ⟨n, 3, none⟩ d) :=
  (((h.setCell (p := ⟨n, 0, none⟩) hn _).setCell (p := ⟨n, 1, none⟩) hn _).setCell (p := ⟨n, 2, none⟩) hn _).setCell (p := ⟨n, 3, none⟩) hn _
theorem PlSt.setp {c : Cav} {w : World} {q s : Pt} {W : World} (h : PlSt c w q s W) (x : Pt) : PlSt c w x s ((((W.setCell ⟨w.heap.size + 1, 0, none⟩ (.int .i64 x.g)).setCell ⟨w.heap.size + 1, 1, none⟩ (.int .i64 x.y)).setCell ⟨w.heap.size + 1, 2, none⟩ (.int .i64 x.t)).setCell ⟨w.heap.size + 1, 3, none⟩ (.int .i64 x.w)) :=
  ⟨far_pt h.c (by omega), set_pt h.p x, far_pt h.rp (by omega), far_pt h.ro (by omega), far_pt h.s (by omega), below_pt h.bel (by omega)⟩
theorem PlSt.sets {c : Cav} {w : World} {q s : Pt} {W : World} (h : PlSt c w q s W) (x : Pt) : PlSt c w q x ((((W.setCell ⟨w.heap.size + 4, 0, none⟩ (.int .i64 x.g)).setCell ⟨w.heap.size + 4, 1, none⟩ (.int .i64 x.y)).setCell ⟨w.heap.size + 4, 2, none⟩ (.int .i64 x.t)).setCell ⟨w.heap.size + 4, 3, none⟩ (.int .i64 x.w)) :=
  ⟨far_pt h.c (by omega), far_pt h.p (by omega), far_pt h.rp (by omega), far_pt h.ro (by omega), set_pt h.s x, below_pt h.bel (by omega)⟩

set_option maxRecDepth 100000 in
set_option maxHeartbeats 16000000 in
theorem refPlay {lv av bv : Value} {c : Cav} {p : Pt} {xs : List Gas.Op} {xa xb : List Int} (w : World) (hl : OpsAt w lv xs) (ha : IntsAt w av xa) (hb : IntsAt w bv xb) (hc : c.Ok) (hp : p.Ok) (ho : opsB xs = true) (ht : truthB xs xa xb = true) (hsh : xs.length ≤ 20) :
    Calls Try.prog 10 #[cavV c, ptV p, lv, av, bv] w fun e w' => e = .returned (plV (play c p xs xa xb)) ∧ Below w.heap.size w w' := by
  obtain ⟨la, lc, rfl, hm, hcX⟩ := hl
  unfold maxLen at hm
  have hm_xs : xs.length ≤ 9223372036854775807 := by omega
  clear hm
  replace hcX := Lib.hid hcX
  obtain ⟨aa, ac, rfl, hm, hcA⟩ := ha
  unfold maxLen at hm
  have hm_xa : xa.length ≤ 9223372036854775807 := by omega
  clear hm
  replace hcA := Lib.hid hcA
  obtain ⟨ba, bc, rfl, hm, hcB⟩ := hb
  unfold maxLen at hm
  have hm_xb : xb.length ≤ 9223372036854775807 := by omega
  clear hm
  replace hcB := Lib.hid hcB
  obtain ⟨W, hW⟩ : ∃ W, ((((w.alloc (.cells #[.int .i64 c.vlo, .int .i64 c.vhi, .int .i64 c.least, .int .i64 c.most, .int .i64 c.f0, .int .i64 c.f1, .int .i64 c.h0, .int .i64 c.h1, .int .i64 c.rock, .int .i64 c.plo, .int .i64 c.phi] 26)).alloc (ptO p)).alloc (ptO zPt)).alloc (ptO zPt)).alloc (ptO zPt) = W := ⟨_, rfl⟩
  obtain ⟨e0, e1, e2, e3, e4, sW, bW⟩ := five_new hW
  have hst0 : Hid (PlSt c w p zPt W) := Lib.hid ⟨e0, e1, e2, e3, e4, bW⟩
  obtain ⟨R, hR⟩ : ∃ R, play c p xs xa xb = R := ⟨_, rfl⟩
  rw [hR]
  replace hR := Lib.hid hR
  obtain ⟨t1, t2, t3⟩ := truth_iff.1 ht
  replace t1 := Lib.hid t1; replace t2 := Lib.hid t2; replace t3 := Lib.hid t3
  have hpk := Lib.hid (fun k q s hk h => playTo_ok (c := c) (a := xa) (b := xb) hp ho k q s hk h)
  have hook := Lib.hid (fun k hk => Op.ok_is (opsB_iff.1 ho k hk))
  have hone : Hid (∀ (q : Pt) (k : Nat), q.Ok → k < xs.length → ∃ x g b, RefOne c q (theOp xs k) (at0 xa k) (at0 xb k) x g b) := Lib.hid fun q k hq hk => ref_one c q _ _ _ hc hq (hook.out k hk) (fun h => (true_3 (hook.out k hk) (t3.out k hk) h).1) (fun h => (true_3 (hook.out k hk) (t3.out k hk) h).2)
  have hstart : Hid (playTo c p xs xa xb 0 = some (p, zPt)) := Lib.hid rfl
  replace hW := Lib.hid hW
  clear hp ho ht hc e0 e1 e2 e3 e4 sW bW t3
  go_enter Try.func10, Try.ntmps10
  go_upto_region 2 with fail
  rw [hW.out]
  clear hW
  go_wp2_with fail
  go_loopw [14] (fun iv wr => ∃ (k : Nat) (q sm : Pt), k ≤ xs.length ∧ iv = .int .i64 k ∧ Hid (playTo c p xs xa xb k = some (q, sm)) ∧ Hid (PlSt c w q sm wr)) (fun iv _ => xs.length - (intOf iv).toNat)
  case atStart => exact ⟨0, p, zPt, by omega, rfl, hstart, hst0⟩
  case round =>
    clear hstart hst0
    obtain ⟨k, q, sm, hk, rfl, hI, hG⟩ := hrel
    have hok := hpk.out k q sm hk hI.out
    by_cases hlt : k < xs.length
    · have u1 := t1.out; have u2 := t2.out
      have hki : (k : Int) < (xs.length : Int) := by omega
      have hka : (k : Int) < (xa.length : Int) := by omega
      have hkb : (k : Int) < (xb.length : Int) := by omega
      obtain ⟨lb, lo, rfl, hbl, hce⟩ := hcX.out (by omega)
      obtain ⟨ab, ao, rfl, hbl1, hce1⟩ := hcA.out (by omega)
      obtain ⟨bb', bo, rfl, hbl2, hce2⟩ := hcB.out (by omega)
      obtain ⟨d0, d1, d2, d3, d4, d5, d6, d7, d8, d9⟩ := (hce k hlt).mono hG.out.bel
      have da := kept_cell hG.out.bel (hce1 k (by omega))
      have db := kept_cell hG.out.bel (hce2 k (by omega))
      have zl := Nat.lt_of_lt_of_le hbl hG.out.bel.size
      have za := Nat.lt_of_lt_of_le hbl1 hG.out.bel.size
      have zb := Nat.lt_of_lt_of_le hbl2 hG.out.bel.size
      clear hce hce1 hce2 u1 u2
      obtain ⟨qn, gn, bb, hdo⟩ := hone.out q k hok.q hlt
      have kD := Lib.hid hdo.calls
      have his := Lib.hid hdo.is
      clear hdo
      have hs1 : 0 ≤ sm.g ∧ sm.g ≤ 40000000 := by have := hok.g; omega
      have hs2 : 0 ≤ sm.y ∧ sm.y ≤ 40000000 := by have := hok.y; omega
      have hs3 : 0 ≤ sm.w ∧ sm.w ≤ 20000000000 := by have := hok.w; omega
      have hs4 : sm.t = 0 := hok.t
      have hgb : Hid (bb = true → (0 ≤ gn.g ∧ gn.g ≤ 2000000) ∧ (0 ≤ gn.y ∧ gn.y ≤ 2000000) ∧ (0 ≤ gn.w ∧ gn.w ≤ 1000000000)) := Lib.hid (fun hb => by
        have h := his.out
        rw [hb] at h
        obtain ⟨-, h1, h2, h3, -⟩ := one_ok hok.q (hook.out k hlt) h
        exact ⟨h1, h2, h3⟩)
      have hst : Hid (bb = false → R = none) := Lib.hid (fun hb => by
        rw [← hR.out]; refine playTo_stop hI.out ?_ hlt
        rw [his.out, hb]; rfl)
      have hsn : Hid (bb = true → playTo c p xs xa xb (k + 1) = some (qn, ⟨sm.g + gn.g, sm.y + gn.y, 0, sm.w + gn.w⟩)) := Lib.hid (fun hb => by
        have h := his.out
        rw [hb] at h
        exact playTo_step hI.out h)
      clear his hok hs4
      generalize theOp xs k = ox at *
      generalize at0 xa k = uu at *
      generalize at0 xb k = vv at *
      obtain ⟨c0, c1, c2, c3, c4, c5, c6, c7, c8, c9, c10⟩ := rc11 hG.out.c
      obtain ⟨q0, q1, q2, q3⟩ := rc4 hG.out.p
      have z0 := (Array.getElem?_eq_some_iff.1 hG.out.c).1
      have z1 := (Array.getElem?_eq_some_iff.1 hG.out.p).1
      go_upto_region 5 with fail
      refine plain_region (by kernel_rfl) (any_region_locN 21 66 [17, 18] [25, 26, 27, 28, 29, 30, 31, 32, 33, 34, 35, 36, 37, 38, 39, 24, 40, 41, 42, 15, 16] [[], [], [], [], [2, 3], [4], [], [], [6, 7], [8], [], [], [10, 11], [12], [0, 1, 5, 9, 13], [14], [15], [15], [15], [], []] [IsV (cavV c), IsV (ptV q), IsV (.slice (some ⟨lb, lo, none⟩) xs.length lc), IsV (.int .i64 k), IsV (.pointer (some ⟨lb, lo + k * 10, none⟩)), IsV (opV ox), IsV (.slice (some ⟨ab, ao, none⟩) xa.length ac), IsV (.int .i64 k), IsV (.pointer (some ⟨ab, ao + k, none⟩)), IsV (.int .i64 uu), IsV (.slice (some ⟨bb', bo, none⟩) xb.length bc), IsV (.int .i64 k), IsV (.pointer (some ⟨bb', bo + k, none⟩)), IsV (.int .i64 vv), IsV (.tuple #[ptV qn, ptV gn, .bool bb]), IsV (.tuple #[ptV qn, ptV gn, .bool bb]), IsV (ptV qn), IsV (ptV gn), IsV (.bool bb), NewAt wr.heap.size #[.int .i64 0, .int .i64 0, .int .i64 0, .int .i64 0] 28, NewAt wr.heap.size #[.int .i64 0, .int .i64 0, .int .i64 0, .int .i64 0] 28] [19, 20] (by kernel_rfl) (by kernel_rfl) (by kernel_rfl) (by kernel_rfl) (by kernel_rfl) rfl OnlyN.panic ?_ ?_ ?_ ?_ ?_)
      · exact List.forall_mem_cons.2 ⟨pers_v _, List.forall_mem_cons.2 ⟨pers_v _, List.forall_mem_cons.2 ⟨pers_v _, List.forall_mem_cons.2 ⟨pers_v _, List.forall_mem_cons.2 ⟨pers_v _, List.forall_mem_cons.2 ⟨pers_v _, List.forall_mem_cons.2 ⟨pers_v _, List.forall_mem_cons.2 ⟨pers_v _, List.forall_mem_cons.2 ⟨pers_v _, List.forall_mem_cons.2 ⟨pers_v _, List.forall_mem_cons.2 ⟨pers_v _, List.forall_mem_cons.2 ⟨pers_v _, List.forall_mem_cons.2 ⟨pers_v _, List.forall_mem_cons.2 ⟨pers_v _, List.forall_mem_cons.2 ⟨pers_v _, List.forall_mem_cons.2 ⟨pers_v _, List.forall_mem_cons.2 ⟨pers_v _, List.forall_mem_cons.2 ⟨pers_v _, List.forall_mem_cons.2 ⟨pers_v _, List.forall_mem_cons.2 ⟨pers_new _ _ _, List.forall_mem_cons.2 ⟨pers_new _ _ _, fun f h => nomatch h⟩⟩⟩⟩⟩⟩⟩⟩⟩⟩⟩⟩⟩⟩⟩⟩⟩⟩⟩⟩⟩
      · intro k hk u x hu
        rcases List.mem_cons.1 hk with rfl | hk
        · exact NewAt.isNew (show NewAt _ _ _ u x from hu)
        obtain rfl : k = 20 := by simpa using hk
        exact NewAt.isNew (show NewAt _ _ _ u x from hu)
      · refine ⟨?_, ?_, ?_, ?_, ?_, ?_, ?_, ?_, ?_, ?_, ?_, ?_, ?_, ?_, ?_, ?_, ?_, ?_, ?_, ?_, ?_, trivial⟩
        · intro vals x hb hf
          simp only [fillS, List.getD_cons_succ, List.getD_cons_zero, Act.put, List.setIfInBounds_toArray, List.set_cons_zero, List.set_cons_succ]
          clear hf
          have w0 := kept_cell hb c0
          have w1 := kept_cell hb c1
          have w2 := kept_cell hb c2
          have w3 := kept_cell hb c3
          have w4 := kept_cell hb c4
          have w5 := kept_cell hb c5
          have w6 := kept_cell hb c6
          have w7 := kept_cell hb c7
          have w8 := kept_cell hb c8
          have w9 := kept_cell hb c9
          have w10 := kept_cell hb c10
          have v0 := kept_cell hb q0
          have v1 := kept_cell hb q1
          have v2 := kept_cell hb q2
          have v3 := kept_cell hb q3
          have x0 := kept_cell hb d0
          have x1 := kept_cell hb d1
          have x2 := kept_cell hb d2
          have x3 := kept_cell hb d3
          have x4 := kept_cell hb d4
          have x5 := kept_cell hb d5
          have x6 := kept_cell hb d6
          have x7 := kept_cell hb d7
          have x8 := kept_cell hb d8
          have x9 := kept_cell hb d9
          have xa' := kept_cell hb da
          have xb' := kept_cell hb db
          have z0' := Nat.lt_of_lt_of_le z0 hb.size
          have z1' := Nat.lt_of_lt_of_le z1 hb.size
          have zl' := Nat.lt_of_lt_of_le zl hb.size
          have za' := Nat.lt_of_lt_of_le za hb.size
          have zb' := Nat.lt_of_lt_of_le zb hb.size
          go_wp2
          exact ⟨rfl, rfl, Below.refl _ _, _, rfl, rfl, (fun h => absurd h (by decide))⟩
        · intro vals x hb hf
          simp only [fillS, List.getD_cons_succ, List.getD_cons_zero, Act.put, List.setIfInBounds_toArray, List.set_cons_zero, List.set_cons_succ]
          clear hf
          have w0 := kept_cell hb c0
          have w1 := kept_cell hb c1
          have w2 := kept_cell hb c2
          have w3 := kept_cell hb c3
          have w4 := kept_cell hb c4
          have w5 := kept_cell hb c5
          have w6 := kept_cell hb c6
          have w7 := kept_cell hb c7
          have w8 := kept_cell hb c8
          have w9 := kept_cell hb c9
          have w10 := kept_cell hb c10
          have v0 := kept_cell hb q0
          have v1 := kept_cell hb q1
          have v2 := kept_cell hb q2
          have v3 := kept_cell hb q3
          have x0 := kept_cell hb d0
          have x1 := kept_cell hb d1
          have x2 := kept_cell hb d2
          have x3 := kept_cell hb d3
          have x4 := kept_cell hb d4
          have x5 := kept_cell hb d5
          have x6 := kept_cell hb d6
          have x7 := kept_cell hb d7
          have x8 := kept_cell hb d8
          have x9 := kept_cell hb d9
          have xa' := kept_cell hb da
          have xb' := kept_cell hb db
          have z0' := Nat.lt_of_lt_of_le z0 hb.size
          have z1' := Nat.lt_of_lt_of_le z1 hb.size
          have zl' := Nat.lt_of_lt_of_le zl hb.size
          have za' := Nat.lt_of_lt_of_le za hb.size
          have zb' := Nat.lt_of_lt_of_le zb hb.size
          go_wp2
          exact ⟨rfl, rfl, Below.refl _ _, _, rfl, rfl, (fun h => absurd h (by decide))⟩
        · intro vals x hb hf
          simp only [fillS, List.getD_cons_succ, List.getD_cons_zero, Act.put, List.setIfInBounds_toArray, List.set_cons_zero, List.set_cons_succ]
          clear hf
          have w0 := kept_cell hb c0
          have w1 := kept_cell hb c1
          have w2 := kept_cell hb c2
          have w3 := kept_cell hb c3
          have w4 := kept_cell hb c4
          have w5 := kept_cell hb c5
          have w6 := kept_cell hb c6
          have w7 := kept_cell hb c7
          have w8 := kept_cell hb c8
          have w9 := kept_cell hb c9
          have w10 := kept_cell hb c10
          have v0 := kept_cell hb q0
          have v1 := kept_cell hb q1
          have v2 := kept_cell hb q2
          have v3 := kept_cell hb q3
          have x0 := kept_cell hb d0
          have x1 := kept_cell hb d1
          have x2 := kept_cell hb d2
          have x3 := kept_cell hb d3
          have x4 := kept_cell hb d4
          have x5 := kept_cell hb d5
          have x6 := kept_cell hb d6
          have x7 := kept_cell hb d7
          have x8 := kept_cell hb d8
          have x9 := kept_cell hb d9
          have xa' := kept_cell hb da
          have xb' := kept_cell hb db
          have z0' := Nat.lt_of_lt_of_le z0 hb.size
          have z1' := Nat.lt_of_lt_of_le z1 hb.size
          have zl' := Nat.lt_of_lt_of_le zl hb.size
          have za' := Nat.lt_of_lt_of_le za hb.size
          have zb' := Nat.lt_of_lt_of_le zb hb.size
          go_wp2
          exact ⟨rfl, rfl, Below.refl _ _, _, rfl, rfl, (fun h => absurd h (by decide))⟩
        · intro vals x hb hf
          simp only [fillS, List.getD_cons_succ, List.getD_cons_zero, Act.put, List.setIfInBounds_toArray, List.set_cons_zero, List.set_cons_succ]
          clear hf
          have w0 := kept_cell hb c0
          have w1 := kept_cell hb c1
          have w2 := kept_cell hb c2
          have w3 := kept_cell hb c3
          have w4 := kept_cell hb c4
          have w5 := kept_cell hb c5
          have w6 := kept_cell hb c6
          have w7 := kept_cell hb c7
          have w8 := kept_cell hb c8
          have w9 := kept_cell hb c9
          have w10 := kept_cell hb c10
          have v0 := kept_cell hb q0
          have v1 := kept_cell hb q1
          have v2 := kept_cell hb q2
          have v3 := kept_cell hb q3
          have x0 := kept_cell hb d0
          have x1 := kept_cell hb d1
          have x2 := kept_cell hb d2
          have x3 := kept_cell hb d3
          have x4 := kept_cell hb d4
          have x5 := kept_cell hb d5
          have x6 := kept_cell hb d6
          have x7 := kept_cell hb d7
          have x8 := kept_cell hb d8
          have x9 := kept_cell hb d9
          have xa' := kept_cell hb da
          have xb' := kept_cell hb db
          have z0' := Nat.lt_of_lt_of_le z0 hb.size
          have z1' := Nat.lt_of_lt_of_le z1 hb.size
          have zl' := Nat.lt_of_lt_of_le zl hb.size
          have za' := Nat.lt_of_lt_of_le za hb.size
          have zb' := Nat.lt_of_lt_of_le zb hb.size
          go_wp2
          exact ⟨rfl, rfl, Below.refl _ _, _, rfl, rfl, (fun h => absurd h (by decide))⟩
        · intro vals x hb hf
          simp only [fillS, List.getD_cons_succ, List.getD_cons_zero, Act.put, List.setIfInBounds_toArray, List.set_cons_zero, List.set_cons_succ]
          have h2 : vals 2 = .slice (some ⟨lb, lo, none⟩) xs.length lc := hf.1
          rw [h2]
          clear h2
          have h3 : vals 3 = .int .i64 k := hf.2.1
          rw [h3]
          clear h3
          clear hf
          have w0 := kept_cell hb c0
          have w1 := kept_cell hb c1
          have w2 := kept_cell hb c2
          have w3 := kept_cell hb c3
          have w4 := kept_cell hb c4
          have w5 := kept_cell hb c5
          have w6 := kept_cell hb c6
          have w7 := kept_cell hb c7
          have w8 := kept_cell hb c8
          have w9 := kept_cell hb c9
          have w10 := kept_cell hb c10
          have v0 := kept_cell hb q0
          have v1 := kept_cell hb q1
          have v2 := kept_cell hb q2
          have v3 := kept_cell hb q3
          have x0 := kept_cell hb d0
          have x1 := kept_cell hb d1
          have x2 := kept_cell hb d2
          have x3 := kept_cell hb d3
          have x4 := kept_cell hb d4
          have x5 := kept_cell hb d5
          have x6 := kept_cell hb d6
          have x7 := kept_cell hb d7
          have x8 := kept_cell hb d8
          have x9 := kept_cell hb d9
          have xa' := kept_cell hb da
          have xb' := kept_cell hb db
          have z0' := Nat.lt_of_lt_of_le z0 hb.size
          have z1' := Nat.lt_of_lt_of_le z1 hb.size
          have zl' := Nat.lt_of_lt_of_le zl hb.size
          have za' := Nat.lt_of_lt_of_le za hb.size
          have zb' := Nat.lt_of_lt_of_le zb hb.size
          go_wp2
          exact ⟨rfl, rfl, Below.refl _ _, _, rfl, rfl, (fun h => absurd h (by decide))⟩
        · intro vals x hb hf
          simp only [fillS, List.getD_cons_succ, List.getD_cons_zero, Act.put, List.setIfInBounds_toArray, List.set_cons_zero, List.set_cons_succ]
          have h4 : vals 4 = .pointer (some ⟨lb, lo + k * 10, none⟩) := hf.1
          rw [h4]
          clear h4
          clear hf
          have w0 := kept_cell hb c0
          have w1 := kept_cell hb c1
          have w2 := kept_cell hb c2
          have w3 := kept_cell hb c3
          have w4 := kept_cell hb c4
          have w5 := kept_cell hb c5
          have w6 := kept_cell hb c6
          have w7 := kept_cell hb c7
          have w8 := kept_cell hb c8
          have w9 := kept_cell hb c9
          have w10 := kept_cell hb c10
          have v0 := kept_cell hb q0
          have v1 := kept_cell hb q1
          have v2 := kept_cell hb q2
          have v3 := kept_cell hb q3
          have x0 := kept_cell hb d0
          have x1 := kept_cell hb d1
          have x2 := kept_cell hb d2
          have x3 := kept_cell hb d3
          have x4 := kept_cell hb d4
          have x5 := kept_cell hb d5
          have x6 := kept_cell hb d6
          have x7 := kept_cell hb d7
          have x8 := kept_cell hb d8
          have x9 := kept_cell hb d9
          have xa' := kept_cell hb da
          have xb' := kept_cell hb db
          have z0' := Nat.lt_of_lt_of_le z0 hb.size
          have z1' := Nat.lt_of_lt_of_le z1 hb.size
          have zl' := Nat.lt_of_lt_of_le zl hb.size
          have za' := Nat.lt_of_lt_of_le za hb.size
          have zb' := Nat.lt_of_lt_of_le zb hb.size
          go_wp2
          exact ⟨rfl, rfl, Below.refl _ _, _, rfl, rfl, (fun h => absurd h (by decide))⟩
        · intro vals x hb hf
          simp only [fillS, List.getD_cons_succ, List.getD_cons_zero, Act.put, List.setIfInBounds_toArray, List.set_cons_zero, List.set_cons_succ]
          clear hf
          have w0 := kept_cell hb c0
          have w1 := kept_cell hb c1
          have w2 := kept_cell hb c2
          have w3 := kept_cell hb c3
          have w4 := kept_cell hb c4
          have w5 := kept_cell hb c5
          have w6 := kept_cell hb c6
          have w7 := kept_cell hb c7
          have w8 := kept_cell hb c8
          have w9 := kept_cell hb c9
          have w10 := kept_cell hb c10
          have v0 := kept_cell hb q0
          have v1 := kept_cell hb q1
          have v2 := kept_cell hb q2
          have v3 := kept_cell hb q3
          have x0 := kept_cell hb d0
          have x1 := kept_cell hb d1
          have x2 := kept_cell hb d2
          have x3 := kept_cell hb d3
          have x4 := kept_cell hb d4
          have x5 := kept_cell hb d5
          have x6 := kept_cell hb d6
          have x7 := kept_cell hb d7
          have x8 := kept_cell hb d8
          have x9 := kept_cell hb d9
          have xa' := kept_cell hb da
          have xb' := kept_cell hb db
          have z0' := Nat.lt_of_lt_of_le z0 hb.size
          have z1' := Nat.lt_of_lt_of_le z1 hb.size
          have zl' := Nat.lt_of_lt_of_le zl hb.size
          have za' := Nat.lt_of_lt_of_le za hb.size
          have zb' := Nat.lt_of_lt_of_le zb hb.size
          go_wp2
          exact ⟨rfl, rfl, Below.refl _ _, _, rfl, rfl, (fun h => absurd h (by decide))⟩
        · intro vals x hb hf
          simp only [fillS, List.getD_cons_succ, List.getD_cons_zero, Act.put, List.setIfInBounds_toArray, List.set_cons_zero, List.set_cons_succ]
          clear hf
          have w0 := kept_cell hb c0
          have w1 := kept_cell hb c1
          have w2 := kept_cell hb c2
          have w3 := kept_cell hb c3
          have w4 := kept_cell hb c4
          have w5 := kept_cell hb c5
          have w6 := kept_cell hb c6
          have w7 := kept_cell hb c7
          have w8 := kept_cell hb c8
          have w9 := kept_cell hb c9
          have w10 := kept_cell hb c10
          have v0 := kept_cell hb q0
          have v1 := kept_cell hb q1
          have v2 := kept_cell hb q2
          have v3 := kept_cell hb q3
          have x0 := kept_cell hb d0
          have x1 := kept_cell hb d1
          have x2 := kept_cell hb d2
          have x3 := kept_cell hb d3
          have x4 := kept_cell hb d4
          have x5 := kept_cell hb d5
          have x6 := kept_cell hb d6
          have x7 := kept_cell hb d7
          have x8 := kept_cell hb d8
          have x9 := kept_cell hb d9
          have xa' := kept_cell hb da
          have xb' := kept_cell hb db
          have z0' := Nat.lt_of_lt_of_le z0 hb.size
          have z1' := Nat.lt_of_lt_of_le z1 hb.size
          have zl' := Nat.lt_of_lt_of_le zl hb.size
          have za' := Nat.lt_of_lt_of_le za hb.size
          have zb' := Nat.lt_of_lt_of_le zb hb.size
          go_wp2
          exact ⟨rfl, rfl, Below.refl _ _, _, rfl, rfl, (fun h => absurd h (by decide))⟩
        · intro vals x hb hf
          simp only [fillS, List.getD_cons_succ, List.getD_cons_zero, Act.put, List.setIfInBounds_toArray, List.set_cons_zero, List.set_cons_succ]
          have h6 : vals 6 = .slice (some ⟨ab, ao, none⟩) xa.length ac := hf.1
          rw [h6]
          clear h6
          have h7 : vals 7 = .int .i64 k := hf.2.1
          rw [h7]
          clear h7
          clear hf
          have w0 := kept_cell hb c0
          have w1 := kept_cell hb c1
          have w2 := kept_cell hb c2
          have w3 := kept_cell hb c3
          have w4 := kept_cell hb c4
          have w5 := kept_cell hb c5
          have w6 := kept_cell hb c6
          have w7 := kept_cell hb c7
          have w8 := kept_cell hb c8
          have w9 := kept_cell hb c9
          have w10 := kept_cell hb c10
          have v0 := kept_cell hb q0
          have v1 := kept_cell hb q1
          have v2 := kept_cell hb q2
          have v3 := kept_cell hb q3
          have x0 := kept_cell hb d0
          have x1 := kept_cell hb d1
          have x2 := kept_cell hb d2
          have x3 := kept_cell hb d3
          have x4 := kept_cell hb d4
          have x5 := kept_cell hb d5
          have x6 := kept_cell hb d6
          have x7 := kept_cell hb d7
          have x8 := kept_cell hb d8
          have x9 := kept_cell hb d9
          have xa' := kept_cell hb da
          have xb' := kept_cell hb db
          have z0' := Nat.lt_of_lt_of_le z0 hb.size
          have z1' := Nat.lt_of_lt_of_le z1 hb.size
          have zl' := Nat.lt_of_lt_of_le zl hb.size
          have za' := Nat.lt_of_lt_of_le za hb.size
          have zb' := Nat.lt_of_lt_of_le zb hb.size
          go_wp2
          exact ⟨rfl, rfl, Below.refl _ _, _, rfl, rfl, (fun h => absurd h (by decide))⟩
        · intro vals x hb hf
          simp only [fillS, List.getD_cons_succ, List.getD_cons_zero, Act.put, List.setIfInBounds_toArray, List.set_cons_zero, List.set_cons_succ]
          have h8 : vals 8 = .pointer (some ⟨ab, ao + k, none⟩) := hf.1
          rw [h8]
          clear h8
          clear hf
          have w0 := kept_cell hb c0
          have w1 := kept_cell hb c1
          have w2 := kept_cell hb c2
          have w3 := kept_cell hb c3
          have w4 := kept_cell hb c4
          have w5 := kept_cell hb c5
          have w6 := kept_cell hb c6
          have w7 := kept_cell hb c7
          have w8 := kept_cell hb c8
          have w9 := kept_cell hb c9
          have w10 := kept_cell hb c10
          have v0 := kept_cell hb q0
          have v1 := kept_cell hb q1
          have v2 := kept_cell hb q2
          have v3 := kept_cell hb q3
          have x0 := kept_cell hb d0
          have x1 := kept_cell hb d1
          have x2 := kept_cell hb d2
          have x3 := kept_cell hb d3
          have x4 := kept_cell hb d4
          have x5 := kept_cell hb d5
          have x6 := kept_cell hb d6
          have x7 := kept_cell hb d7
          have x8 := kept_cell hb d8
          have x9 := kept_cell hb d9
          have xa' := kept_cell hb da
          have xb' := kept_cell hb db
          have z0' := Nat.lt_of_lt_of_le z0 hb.size
          have z1' := Nat.lt_of_lt_of_le z1 hb.size
          have zl' := Nat.lt_of_lt_of_le zl hb.size
          have za' := Nat.lt_of_lt_of_le za hb.size
          have zb' := Nat.lt_of_lt_of_le zb hb.size
          go_wp2
          exact ⟨rfl, rfl, Below.refl _ _, _, rfl, rfl, (fun h => absurd h (by decide))⟩
        · intro vals x hb hf
          simp only [fillS, List.getD_cons_succ, List.getD_cons_zero, Act.put, List.setIfInBounds_toArray, List.set_cons_zero, List.set_cons_succ]
          clear hf
          have w0 := kept_cell hb c0
          have w1 := kept_cell hb c1
          have w2 := kept_cell hb c2
          have w3 := kept_cell hb c3
          have w4 := kept_cell hb c4
          have w5 := kept_cell hb c5
          have w6 := kept_cell hb c6
          have w7 := kept_cell hb c7
          have w8 := kept_cell hb c8
          have w9 := kept_cell hb c9
          have w10 := kept_cell hb c10
          have v0 := kept_cell hb q0
          have v1 := kept_cell hb q1
          have v2 := kept_cell hb q2
          have v3 := kept_cell hb q3
          have x0 := kept_cell hb d0
          have x1 := kept_cell hb d1
          have x2 := kept_cell hb d2
          have x3 := kept_cell hb d3
          have x4 := kept_cell hb d4
          have x5 := kept_cell hb d5
          have x6 := kept_cell hb d6
          have x7 := kept_cell hb d7
          have x8 := kept_cell hb d8
          have x9 := kept_cell hb d9
          have xa' := kept_cell hb da
          have xb' := kept_cell hb db
          have z0' := Nat.lt_of_lt_of_le z0 hb.size
          have z1' := Nat.lt_of_lt_of_le z1 hb.size
          have zl' := Nat.lt_of_lt_of_le zl hb.size
          have za' := Nat.lt_of_lt_of_le za hb.size
          have zb' := Nat.lt_of_lt_of_le zb hb.size
          go_wp2
          exact ⟨rfl, rfl, Below.refl _ _, _, rfl, rfl, (fun h => absurd h (by decide))⟩
        · intro vals x hb hf
          simp only [fillS, List.getD_cons_succ, List.getD_cons_zero, Act.put, List.setIfInBounds_toArray, List.set_cons_zero, List.set_cons_succ]
          clear hf
          have w0 := kept_cell hb c0
          have w1 := kept_cell hb c1
          have w2 := kept_cell hb c2
          have w3 := kept_cell hb c3
          have w4 := kept_cell hb c4
          have w5 := kept_cell hb c5
          have w6 := kept_cell hb c6
          have w7 := kept_cell hb c7
          have w8 := kept_cell hb c8
          have w9 := kept_cell hb c9
          have w10 := kept_cell hb c10
          have v0 := kept_cell hb q0
          have v1 := kept_cell hb q1
          have v2 := kept_cell hb q2
          have v3 := kept_cell hb q3
          have x0 := kept_cell hb d0
          have x1 := kept_cell hb d1
          have x2 := kept_cell hb d2
          have x3 := kept_cell hb d3
          have x4 := kept_cell hb d4
          have x5 := kept_cell hb d5
          have x6 := kept_cell hb d6
          have x7 := kept_cell hb d7
          have x8 := kept_cell hb d8
          have x9 := kept_cell hb d9
          have xa' := kept_cell hb da
          have xb' := kept_cell hb db
          have z0' := Nat.lt_of_lt_of_le z0 hb.size
          have z1' := Nat.lt_of_lt_of_le z1 hb.size
          have zl' := Nat.lt_of_lt_of_le zl hb.size
          have za' := Nat.lt_of_lt_of_le za hb.size
          have zb' := Nat.lt_of_lt_of_le zb hb.size
          go_wp2
          exact ⟨rfl, rfl, Below.refl _ _, _, rfl, rfl, (fun h => absurd h (by decide))⟩
        · intro vals x hb hf
          simp only [fillS, List.getD_cons_succ, List.getD_cons_zero, Act.put, List.setIfInBounds_toArray, List.set_cons_zero, List.set_cons_succ]
          have h10 : vals 10 = .slice (some ⟨bb', bo, none⟩) xb.length bc := hf.1
          rw [h10]
          clear h10
          have h11 : vals 11 = .int .i64 k := hf.2.1
          rw [h11]
          clear h11
          clear hf
          have w0 := kept_cell hb c0
          have w1 := kept_cell hb c1
          have w2 := kept_cell hb c2
          have w3 := kept_cell hb c3
          have w4 := kept_cell hb c4
          have w5 := kept_cell hb c5
          have w6 := kept_cell hb c6
          have w7 := kept_cell hb c7
          have w8 := kept_cell hb c8
          have w9 := kept_cell hb c9
          have w10 := kept_cell hb c10
          have v0 := kept_cell hb q0
          have v1 := kept_cell hb q1
          have v2 := kept_cell hb q2
          have v3 := kept_cell hb q3
          have x0 := kept_cell hb d0
          have x1 := kept_cell hb d1
          have x2 := kept_cell hb d2
          have x3 := kept_cell hb d3
          have x4 := kept_cell hb d4
          have x5 := kept_cell hb d5
          have x6 := kept_cell hb d6
          have x7 := kept_cell hb d7
          have x8 := kept_cell hb d8
          have x9 := kept_cell hb d9
          have xa' := kept_cell hb da
          have xb' := kept_cell hb db
          have z0' := Nat.lt_of_lt_of_le z0 hb.size
          have z1' := Nat.lt_of_lt_of_le z1 hb.size
          have zl' := Nat.lt_of_lt_of_le zl hb.size
          have za' := Nat.lt_of_lt_of_le za hb.size
          have zb' := Nat.lt_of_lt_of_le zb hb.size
          go_wp2
          exact ⟨rfl, rfl, Below.refl _ _, _, rfl, rfl, (fun h => absurd h (by decide))⟩
        · intro vals x hb hf
          simp only [fillS, List.getD_cons_succ, List.getD_cons_zero, Act.put, List.setIfInBounds_toArray, List.set_cons_zero, List.set_cons_succ]
          have h12 : vals 12 = .pointer (some ⟨bb', bo + k, none⟩) := hf.1
          rw [h12]
          clear h12
          clear hf
          have w0 := kept_cell hb c0
          have w1 := kept_cell hb c1
          have w2 := kept_cell hb c2
          have w3 := kept_cell hb c3
          have w4 := kept_cell hb c4
          have w5 := kept_cell hb c5
          have w6 := kept_cell hb c6
          have w7 := kept_cell hb c7
          have w8 := kept_cell hb c8
          have w9 := kept_cell hb c9
          have w10 := kept_cell hb c10
          have v0 := kept_cell hb q0
          have v1 := kept_cell hb q1
          have v2 := kept_cell hb q2
          have v3 := kept_cell hb q3
          have x0 := kept_cell hb d0
          have x1 := kept_cell hb d1
          have x2 := kept_cell hb d2
          have x3 := kept_cell hb d3
          have x4 := kept_cell hb d4
          have x5 := kept_cell hb d5
          have x6 := kept_cell hb d6
          have x7 := kept_cell hb d7
          have x8 := kept_cell hb d8
          have x9 := kept_cell hb d9
          have xa' := kept_cell hb da
          have xb' := kept_cell hb db
          have z0' := Nat.lt_of_lt_of_le z0 hb.size
          have z1' := Nat.lt_of_lt_of_le z1 hb.size
          have zl' := Nat.lt_of_lt_of_le zl hb.size
          have za' := Nat.lt_of_lt_of_le za hb.size
          have zb' := Nat.lt_of_lt_of_le zb hb.size
          go_wp2
          exact ⟨rfl, rfl, Below.refl _ _, _, rfl, rfl, (fun h => absurd h (by decide))⟩
        · intro vals x hb hf
          simp only [fillS, List.getD_cons_succ, List.getD_cons_zero, Act.put, List.setIfInBounds_toArray, List.set_cons_zero, List.set_cons_succ]
          have h0 : vals 0 = cavV c := hf.1
          rw [h0]
          clear h0
          have h1 : vals 1 = ptV q := hf.2.1
          rw [h1]
          clear h1
          have h5 : vals 5 = opV ox := hf.2.2.1
          rw [h5]
          clear h5
          have h9 : vals 9 = .int .i64 uu := hf.2.2.2.1
          rw [h9]
          clear h9
          have h13 : vals 13 = .int .i64 vv := hf.2.2.2.2.1
          rw [h13]
          clear h13
          clear hf
          have w0 := kept_cell hb c0
          have w1 := kept_cell hb c1
          have w2 := kept_cell hb c2
          have w3 := kept_cell hb c3
          have w4 := kept_cell hb c4
          have w5 := kept_cell hb c5
          have w6 := kept_cell hb c6
          have w7 := kept_cell hb c7
          have w8 := kept_cell hb c8
          have w9 := kept_cell hb c9
          have w10 := kept_cell hb c10
          have v0 := kept_cell hb q0
          have v1 := kept_cell hb q1
          have v2 := kept_cell hb q2
          have v3 := kept_cell hb q3
          have x0 := kept_cell hb d0
          have x1 := kept_cell hb d1
          have x2 := kept_cell hb d2
          have x3 := kept_cell hb d3
          have x4 := kept_cell hb d4
          have x5 := kept_cell hb d5
          have x6 := kept_cell hb d6
          have x7 := kept_cell hb d7
          have x8 := kept_cell hb d8
          have x9 := kept_cell hb d9
          have xa' := kept_cell hb da
          have xb' := kept_cell hb db
          have z0' := Nat.lt_of_lt_of_le z0 hb.size
          have z1' := Nat.lt_of_lt_of_le z1 hb.size
          have zl' := Nat.lt_of_lt_of_le zl hb.size
          have za' := Nat.lt_of_lt_of_le za hb.size
          have zb' := Nat.lt_of_lt_of_le zb hb.size
          go_wp2_with (go_at_call 28; (with_reducible refine Calls.mono (kD.out _) ?_); rintro e y ⟨rfl, hB⟩)
          exact ⟨rfl, rfl, hB, _, rfl, rfl, (fun h => absurd h (by decide))⟩
        · intro vals x hb hf
          simp only [fillS, List.getD_cons_succ, List.getD_cons_zero, Act.put, List.setIfInBounds_toArray, List.set_cons_zero, List.set_cons_succ]
          have f14 : (IsV (.tuple #[ptV qn, ptV gn, .bool bb])) (vals 14) x := hf.1
          clear hf
          have w0 := kept_cell hb c0
          have w1 := kept_cell hb c1
          have w2 := kept_cell hb c2
          have w3 := kept_cell hb c3
          have w4 := kept_cell hb c4
          have w5 := kept_cell hb c5
          have w6 := kept_cell hb c6
          have w7 := kept_cell hb c7
          have w8 := kept_cell hb c8
          have w9 := kept_cell hb c9
          have w10 := kept_cell hb c10
          have v0 := kept_cell hb q0
          have v1 := kept_cell hb q1
          have v2 := kept_cell hb q2
          have v3 := kept_cell hb q3
          have x0 := kept_cell hb d0
          have x1 := kept_cell hb d1
          have x2 := kept_cell hb d2
          have x3 := kept_cell hb d3
          have x4 := kept_cell hb d4
          have x5 := kept_cell hb d5
          have x6 := kept_cell hb d6
          have x7 := kept_cell hb d7
          have x8 := kept_cell hb d8
          have x9 := kept_cell hb d9
          have xa' := kept_cell hb da
          have xb' := kept_cell hb db
          have z0' := Nat.lt_of_lt_of_le z0 hb.size
          have z1' := Nat.lt_of_lt_of_le z1 hb.size
          have zl' := Nat.lt_of_lt_of_le zl hb.size
          have za' := Nat.lt_of_lt_of_le za hb.size
          have zb' := Nat.lt_of_lt_of_le zb hb.size
          rw [show vals 14 = .tuple #[ptV qn, ptV gn, .bool bb] from f14]
          go_wp2
          exact ⟨rfl, rfl, Below.refl _ _, _, rfl, rfl, (fun h => absurd h (by decide))⟩
        · intro vals x hb hf
          simp only [fillS, List.getD_cons_succ, List.getD_cons_zero, Act.put, List.setIfInBounds_toArray, List.set_cons_zero, List.set_cons_succ]
          have f15 : (IsV (.tuple #[ptV qn, ptV gn, .bool bb])) (vals 15) x := hf.1
          clear hf
          have w0 := kept_cell hb c0
          have w1 := kept_cell hb c1
          have w2 := kept_cell hb c2
          have w3 := kept_cell hb c3
          have w4 := kept_cell hb c4
          have w5 := kept_cell hb c5
          have w6 := kept_cell hb c6
          have w7 := kept_cell hb c7
          have w8 := kept_cell hb c8
          have w9 := kept_cell hb c9
          have w10 := kept_cell hb c10
          have v0 := kept_cell hb q0
          have v1 := kept_cell hb q1
          have v2 := kept_cell hb q2
          have v3 := kept_cell hb q3
          have x0 := kept_cell hb d0
          have x1 := kept_cell hb d1
          have x2 := kept_cell hb d2
          have x3 := kept_cell hb d3
          have x4 := kept_cell hb d4
          have x5 := kept_cell hb d5
          have x6 := kept_cell hb d6
          have x7 := kept_cell hb d7
          have x8 := kept_cell hb d8
          have x9 := kept_cell hb d9
          have xa' := kept_cell hb da
          have xb' := kept_cell hb db
          have z0' := Nat.lt_of_lt_of_le z0 hb.size
          have z1' := Nat.lt_of_lt_of_le z1 hb.size
          have zl' := Nat.lt_of_lt_of_le zl hb.size
          have za' := Nat.lt_of_lt_of_le za hb.size
          have zb' := Nat.lt_of_lt_of_le zb hb.size
          rw [show vals 15 = .tuple #[ptV qn, ptV gn, .bool bb] from f15]
          go_wp2
          exact ⟨rfl, rfl, Below.refl _ _, _, rfl, rfl, (fun h => absurd h (by decide))⟩
        · intro vals x hb hf
          simp only [fillS, List.getD_cons_succ, List.getD_cons_zero, Act.put, List.setIfInBounds_toArray, List.set_cons_zero, List.set_cons_succ]
          have f15 : (IsV (.tuple #[ptV qn, ptV gn, .bool bb])) (vals 15) x := hf.1
          clear hf
          rw [show vals 15 = .tuple #[ptV qn, ptV gn, .bool bb] from f15]
          go_wp2
          exact ⟨rfl, rfl, Below.refl _ _, _, rfl, rfl, (fun h => absurd h (by decide))⟩
        · intro vals x hb hf
          simp only [fillS, List.getD_cons_succ, List.getD_cons_zero, Act.put, List.setIfInBounds_toArray, List.set_cons_zero, List.set_cons_succ]
          have f15 : (IsV (.tuple #[ptV qn, ptV gn, .bool bb])) (vals 15) x := hf.1
          clear hf
          rw [show vals 15 = .tuple #[ptV qn, ptV gn, .bool bb] from f15]
          go_wp2
          exact ⟨rfl, rfl, Below.refl _ _, _, rfl, rfl, (fun h => absurd h (by decide))⟩
        · intro vals x hb hf
          simp only [fillS, List.getD_cons_succ, List.getD_cons_zero, Act.put, List.setIfInBounds_toArray, List.set_cons_zero, List.set_cons_succ]
          clear hf
          go_wp2
          exact ⟨rfl, rfl, (Below.refl _ _).alloc (Nat.le_refl _) _, _, rfl, ⟨_, rfl, hb.size, World.alloc_heap_new _ _⟩, fun _ => rfl⟩
        · intro vals x hb hf
          simp only [fillS, List.getD_cons_succ, List.getD_cons_zero, Act.put, List.setIfInBounds_toArray, List.set_cons_zero, List.set_cons_succ]
          clear hf
          go_wp2
          exact ⟨rfl, rfl, (Below.refl _ _).alloc (Nat.le_refl _) _, _, rfl, ⟨_, rfl, hb.size, World.alloc_heap_new _ _⟩, fun _ => rfl⟩
      · intro j hj o ho vals x hb hf
        simp only [List.mem_cons, List.not_mem_nil, or_false] at hj
        rcases hj with rfl | rfl
        · obtain rfl := Option.some.inj ho
          simp only [fillS, List.getD_cons_succ, List.getD_cons_zero, Act.put, List.setIfInBounds_toArray, List.set_cons_zero, List.set_cons_succ]
          have f15 : (IsV (.tuple #[ptV qn, ptV gn, .bool bb])) (vals 15) x := hf.1
          rw [show vals 15 = .tuple #[ptV qn, ptV gn, .bool bb] from f15]
          exact ⟨ptV gn, .inl ⟨rfl, fun w => (by first | rfl | (go_simp; done) | (go_simp; exact IntWalk.i64_in _ (by omega)))⟩, rfl, (fun h => absurd h (by decide))⟩
        · obtain rfl := Option.some.inj ho
          simp only [fillS, List.getD_cons_succ, List.getD_cons_zero, Act.put, List.setIfInBounds_toArray, List.set_cons_zero, List.set_cons_succ]
          have f15 : (IsV (.tuple #[ptV qn, ptV gn, .bool bb])) (vals 15) x := hf.1
          rw [show vals 15 = .tuple #[ptV qn, ptV gn, .bool bb] from f15]
          exact ⟨.bool bb, .inl ⟨rfl, fun w => (by first | rfl | (go_simp; done) | (go_simp; exact IntWalk.i64_in _ (by omega)))⟩, rfl, (fun h => absurd h (by decide))⟩
      intro vals x hb hf hp
      have hrange : List.range 21 = [0, 1, 2, 3, 4, 5, 6, 7, 8, 9, 10, 11, 12, 13, 14, 15, 16, 17, 18, 19, 20] := by rfl
      rw [hrange]
      simp only [fillS, List.getD_cons_succ, List.getD_cons_zero, Act.put, List.setIfInBounds_toArray, List.set_cons_zero, List.set_cons_succ]
      have h0 : vals 0 = cavV c := hf 0 (by omega)
      have h1 : vals 1 = ptV q := hf 1 (by omega)
      have h2 : vals 2 = .slice (some ⟨lb, lo, none⟩) xs.length lc := hf 2 (by omega)
      have h3 : vals 3 = .int .i64 k := hf 3 (by omega)
      have h4 : vals 4 = .pointer (some ⟨lb, lo + k * 10, none⟩) := hf 4 (by omega)
      have h5 : vals 5 = opV ox := hf 5 (by omega)
      have h6 : vals 6 = .slice (some ⟨ab, ao, none⟩) xa.length ac := hf 6 (by omega)
      have h7 : vals 7 = .int .i64 k := hf 7 (by omega)
      have h8 : vals 8 = .pointer (some ⟨ab, ao + k, none⟩) := hf 8 (by omega)
      have h9 : vals 9 = .int .i64 uu := hf 9 (by omega)
      have h10 : vals 10 = .slice (some ⟨bb', bo, none⟩) xb.length bc := hf 10 (by omega)
      have h11 : vals 11 = .int .i64 k := hf 11 (by omega)
      have h12 : vals 12 = .pointer (some ⟨bb', bo + k, none⟩) := hf 12 (by omega)
      have h13 : vals 13 = .int .i64 vv := hf 13 (by omega)
      have f14 : (IsV (.tuple #[ptV qn, ptV gn, .bool bb])) (vals 14) x := hf 14 (by omega)
      have f15 : (IsV (.tuple #[ptV qn, ptV gn, .bool bb])) (vals 15) x := hf 15 (by omega)
      have f16 : (IsV (ptV qn)) (vals 16) x := hf 16 (by omega)
      have h17 : vals 17 = ptV gn := hf 17 (by omega)
      have h18 : vals 18 = .bool bb := hf 18 (by omega)
      obtain ⟨blk15, hv15, l15, A15⟩ : NewAt wr.heap.size #[.int .i64 0, .int .i64 0, .int .i64 0, .int .i64 0] 28 (vals 19) x := hf 19 (by omega)
      obtain ⟨blk16, hv16, l16, A16⟩ : NewAt wr.heap.size #[.int .i64 0, .int .i64 0, .int .i64 0, .int .i64 0] 28 (vals 20) x := hf 20 (by omega)
      have ne15_16 : (blk15 : Nat) ≠ blk16 := by
        intro h
        have h1 := hp 19 20 (by omega) (by omega) (by omega) rfl rfl
        rw [hv15, hv16, h] at h1
        exact h1 rfl
      rw [h0, h1, h2, h3, h4, h5, h6, h7, h8, h9, h10, h11, h12, h13, h17, h18, hv15, hv16]
      clear h0 h1 h2 h3 h4 h5 h6 h7 h8 h9 h10 h11 h12 h13 h17 h18 hv15 hv16 hf hp hrange
      obtain ⟨p15_0, p15_1, p15_2, p15_3⟩ := rc4 A15
      obtain ⟨g15_0, g15_1, g15_2, g15_3⟩ := rf4 A15
      obtain ⟨p16_0, p16_1, p16_2, p16_3⟩ := rc4 A16
      obtain ⟨g16_0, g16_1, g16_2, g16_3⟩ := rf4 A16
      simp only [List.drop_succ_cons, List.drop_zero]
      rw [show vals 16 = ptV qn from f16]
      have hB1 : Below wr.heap.size wr ((((((((x.setCell ⟨blk15, 0, none⟩ (.int .i64 qn.g)).setCell ⟨blk15, 1, none⟩ (.int .i64 qn.y)).setCell ⟨blk15, 2, none⟩ (.int .i64 qn.t)).setCell ⟨blk15, 3, none⟩ (.int .i64 qn.w)).setCell ⟨blk16, 0, none⟩ (.int .i64 gn.g)).setCell ⟨blk16, 1, none⟩ (.int .i64 gn.y)).setCell ⟨blk16, 2, none⟩ (.int .i64 gn.t)).setCell ⟨blk16, 3, none⟩ (.int .i64 gn.w)) := below_pt (below_pt hb l15) l16
      have e15 : ((((((((x.setCell ⟨blk15, 0, none⟩ (.int .i64 qn.g)).setCell ⟨blk15, 1, none⟩ (.int .i64 qn.y)).setCell ⟨blk15, 2, none⟩ (.int .i64 qn.t)).setCell ⟨blk15, 3, none⟩ (.int .i64 qn.w)).setCell ⟨blk16, 0, none⟩ (.int .i64 gn.g)).setCell ⟨blk16, 1, none⟩ (.int .i64 gn.y)).setCell ⟨blk16, 2, none⟩ (.int .i64 gn.t)).setCell ⟨blk16, 3, none⟩ (.int .i64 gn.w)).heap[blk15]? = some (ptO qn) := far_pt (set_pt (p := zPt) A15 qn) ne15_16
      have e16 : ((((((((x.setCell ⟨blk15, 0, none⟩ (.int .i64 qn.g)).setCell ⟨blk15, 1, none⟩ (.int .i64 qn.y)).setCell ⟨blk15, 2, none⟩ (.int .i64 qn.t)).setCell ⟨blk15, 3, none⟩ (.int .i64 qn.w)).setCell ⟨blk16, 0, none⟩ (.int .i64 gn.g)).setCell ⟨blk16, 1, none⟩ (.int .i64 gn.y)).setCell ⟨blk16, 2, none⟩ (.int .i64 gn.t)).setCell ⟨blk16, 3, none⟩ (.int .i64 gn.w)).heap[blk16]? = some (ptO gn) := set_pt (p := zPt) (far_pt A16 (Ne.symm ne15_16)) gn
      have hn15 : Hid (w.heap.size + 4 < blk15) := Lib.hid (Nat.lt_of_lt_of_le (Array.getElem?_eq_some_iff.1 hG.out.s).1 l15)
      have hn16 : Hid (w.heap.size + 4 < blk16) := Lib.hid (Nat.lt_of_lt_of_le (Array.getElem?_eq_some_iff.1 hG.out.s).1 l16)
      clear f14 f15 f16 kD c0 c1 c2 c3 c4 c5 c6 c7 c8 c9 c10 q0 q1 q2 q3 z0 z1 d0 d1 d2 d3 d4 d5 d6 d7 d8 d9 da db zl za zb
      replace hB1 := Lib.hid hB1
      replace e15 := Lib.hid e15
      replace e16 := Lib.hid e16
      go_wp2_with fail
      refine OnlyN.mk ?_
      clear A15 A16 p15_0 p15_1 p15_2 p15_3 g15_0 g15_1 g15_2 g15_3 p16_0 p16_1 p16_2 p16_3 g16_0 g16_1 g16_2 g16_3
      generalize ((((((((x.setCell ⟨blk15, 0, none⟩ (.int .i64 qn.g)).setCell ⟨blk15, 1, none⟩ (.int .i64 qn.y)).setCell ⟨blk15, 2, none⟩ (.int .i64 qn.t)).setCell ⟨blk15, 3, none⟩ (.int .i64 qn.w)).setCell ⟨blk16, 0, none⟩ (.int .i64 gn.g)).setCell ⟨blk16, 1, none⟩ (.int .i64 gn.y)).setCell ⟨blk16, 2, none⟩ (.int .i64 gn.t)).setCell ⟨blk16, 3, none⟩ (.int .i64 gn.w)) = Z at *
      have hGZ := Lib.hid (hG.out.mono hB1.out)
      clear hG hB1 hb
      cases bb
      · have hRn := hst.out rfl
        obtain ⟨a0, a1, a2, a3⟩ := rc4 hGZ.out.rp
        obtain ⟨b0, b1, b2, b3⟩ := rc4 hGZ.out.ro
        obtain ⟨f0, f1, f2, f3⟩ := rf4 hGZ.out.rp
        obtain ⟨g0, g1, g2, g3⟩ := rf4 hGZ.out.ro
        have z2 := (Array.getElem?_eq_some_iff.1 hGZ.out.rp).1
        have z3 := (Array.getElem?_eq_some_iff.1 hGZ.out.ro).1
        have u5 : w.heap.size + 2 ≠ w.heap.size + 3 := by omega
        have u6 : w.heap.size + 3 ≠ w.heap.size + 2 := by omega
        clear hst hsn hgb hI e15 e16
        go_wp2_with fail
        refine bodyPost_ret (v := plV none) (by simp only [results, Try.results10]; simp [go_sem, plV, a0, a1, a2, a3, b0, b1, b2, b3, f0, f1, f2, f3, g0, g1, g2, g3, u5, u6]) rfl ⟨(by first | rfl | rw [hRn]), ?_⟩
        repeat' (first | (with_reducible exact hGZ.out.bel) | (refine Below.setCell ?_ (by simp; omega) _))
      · obtain ⟨g1', g2', g3'⟩ := hgb.out rfl
        replace hsn := Lib.hid (hsn.out rfl)
        clear hst hgb
        obtain ⟨a0, a1, a2, a3⟩ := rc4 hGZ.out.p
        obtain ⟨f0, f1, f2, f3⟩ := rf4 hGZ.out.p
        obtain ⟨b0, b1, b2, b3⟩ := rc4 e15.out
        have z1 := (Array.getElem?_eq_some_iff.1 hGZ.out.p).1
        have z15 := (Array.getElem?_eq_some_iff.1 e15.out).1
        go_upto_region 9 with fail
        clear a0 a1 a2 a3 f0 f1 f2 f3 b0 b1 b2 b3 z1 z15
        have hGY := hGZ.out.setp qn
        have e16y : ((((Z.setCell ⟨w.heap.size + 1, 0, none⟩ (.int .i64 qn.g)).setCell ⟨w.heap.size + 1, 1, none⟩ (.int .i64 qn.y)).setCell ⟨w.heap.size + 1, 2, none⟩ (.int .i64 qn.t)).setCell ⟨w.heap.size + 1, 3, none⟩ (.int .i64 qn.w)).heap[blk16]? = some (ptO gn) := far_pt e16.out (by have := hn16.out; omega)
        generalize ((((Z.setCell ⟨w.heap.size + 1, 0, none⟩ (.int .i64 qn.g)).setCell ⟨w.heap.size + 1, 1, none⟩ (.int .i64 qn.y)).setCell ⟨w.heap.size + 1, 2, none⟩ (.int .i64 qn.t)).setCell ⟨w.heap.size + 1, 3, none⟩ (.int .i64 qn.w)) = Y at *
        obtain ⟨a0, a1, a2, a3⟩ := rc4 hGY.s
        obtain ⟨f0, f1, f2, f3⟩ := rf4 hGY.s
        obtain ⟨b0, b1, b2, b3⟩ := rc4 e16y
        have z4 := (Array.getElem?_eq_some_iff.1 hGY.s).1
        have z16 := (Array.getElem?_eq_some_iff.1 e16y).1
        have hfin := Lib.hid (hGY.sets ⟨sm.g + gn.g, sm.y + gn.y, 0, sm.w + gn.w⟩)
        clear hGY e16y hGZ e15 e16 hI
        go_wp2_with fail
        exact ⟨⟨k + 1, qn, ⟨sm.g + gn.g, sm.y + gn.y, 0, sm.w + gn.w⟩, by omega, by go_num, hsn, hfin⟩, by simp [intOf]; omega⟩
    · obtain rfl : k = xs.length := by omega
      have hRs : Hid (plV R = .tuple #[ptV q, ptV sm, .bool true]) := Lib.hid (by
        have : R = some (q, sm) := by rw [← hR.out]; exact hI.out
        rw [this, plV]
        show _ = Value.tuple #[ptV q, .agg #[.int .i64 sm.g, .int .i64 sm.y, .int .i64 sm.t, .int .i64 sm.w], .bool true]
        rw [hok.t])
      have hst := hG.out
      obtain ⟨f0, f1, f2, f3⟩ := rc4 hst.p
      obtain ⟨g0, g1, g2, g3⟩ := rc4 hst.s
      obtain ⟨d0, d1, d2, d3⟩ := rc4 hst.rp
      obtain ⟨e0, e1, e2, e3⟩ := rc4 hst.ro
      obtain ⟨a0, a1, a2, a3⟩ := rf4 hst.rp
      obtain ⟨b0, b1, b2, b3⟩ := rf4 hst.ro
      have y1 := (Array.getElem?_eq_some_iff.1 hst.p).1
      have y4 := (Array.getElem?_eq_some_iff.1 hst.s).1
      have y2 := (Array.getElem?_eq_some_iff.1 hst.rp).1
      have y3 := (Array.getElem?_eq_some_iff.1 hst.ro).1
      have u1 : w.heap.size + 2 ≠ w.heap.size + 1 := by omega
      have u2 : w.heap.size + 3 ≠ w.heap.size + 1 := by omega
      have u3 : w.heap.size + 2 ≠ w.heap.size + 4 := by omega
      have u4 : w.heap.size + 3 ≠ w.heap.size + 4 := by omega
      have u5 : w.heap.size + 2 ≠ w.heap.size + 3 := by omega
      have u6 : w.heap.size + 3 ≠ w.heap.size + 2 := by omega
      have hC1 : (fun w' => (w'.cell? ⟨w.heap.size + 1, 0, none⟩ = some (.int .i64 q.g) ∧ w'.cell? ⟨w.heap.size + 1, 1, none⟩ = some (.int .i64 q.y) ∧ w'.cell? ⟨w.heap.size + 1, 2, none⟩ = some (.int .i64 q.t) ∧ w'.cell? ⟨w.heap.size + 1, 3, none⟩ = some (.int .i64 q.w)) ∧ (w'.cell? ⟨w.heap.size + 4, 0, none⟩ = some (.int .i64 sm.g) ∧ w'.cell? ⟨w.heap.size + 4, 1, none⟩ = some (.int .i64 sm.y) ∧ w'.cell? ⟨w.heap.size + 4, 2, none⟩ = some (.int .i64 sm.t) ∧ w'.cell? ⟨w.heap.size + 4, 3, none⟩ = some (.int .i64 sm.w))) wr.drew := ⟨⟨f0, f1, f2, f3⟩, ⟨g0, g1, g2, g3⟩⟩
      dsimp only at hC1
      clear hst hone hpk hook hok
      go_wp2_with fail
      refine wp_region_held_drew (S := (fun w' => (w'.cell? ⟨w.heap.size + 1, 0, none⟩ = some (.int .i64 q.g) ∧ w'.cell? ⟨w.heap.size + 1, 1, none⟩ = some (.int .i64 q.y) ∧ w'.cell? ⟨w.heap.size + 1, 2, none⟩ = some (.int .i64 q.t) ∧ w'.cell? ⟨w.heap.size + 1, 3, none⟩ = some (.int .i64 q.w)) ∧ (w'.cell? ⟨w.heap.size + 4, 0, none⟩ = some (.int .i64 sm.g) ∧ w'.cell? ⟨w.heap.size + 4, 1, none⟩ = some (.int .i64 sm.y) ∧ w'.cell? ⟨w.heap.size + 4, 2, none⟩ = some (.int .i64 sm.t) ∧ w'.cell? ⟨w.heap.size + 4, 3, none⟩ = some (.int .i64 sm.w)))) (by kernel_rfl) ?_ (fun hHeld => ?_)
      · first | ((first | with_reducible exact hC1 | (with_reducible exact hHeld) | (with_reducible exact ⟨⟨far4d hHeld.1.1 u1, far4d hHeld.1.2.1 u1, far4d hHeld.1.2.2.1 u1, far4d hHeld.1.2.2.2 u1⟩, ⟨far4d hHeld.2.1 u3, far4d hHeld.2.2.1 u3, far4d hHeld.2.2.2.1 u3, far4d hHeld.2.2.2.2 u3⟩⟩) | (with_reducible exact ⟨⟨far4d hHeld.1.1 u2, far4d hHeld.1.2.1 u2, far4d hHeld.1.2.2.1 u2, far4d hHeld.1.2.2.2 u2⟩, ⟨far4d hHeld.2.1 u4, far4d hHeld.2.2.1 u4, far4d hHeld.2.2.2.1 u4, far4d hHeld.2.2.2.2 u4⟩⟩))) | (dsimp only; ((first | with_reducible exact hC1 | (with_reducible exact hHeld) | (with_reducible exact ⟨⟨far4d hHeld.1.1 u1, far4d hHeld.1.2.1 u1, far4d hHeld.1.2.2.1 u1, far4d hHeld.1.2.2.2 u1⟩, ⟨far4d hHeld.2.1 u3, far4d hHeld.2.2.1 u3, far4d hHeld.2.2.2.1 u3, far4d hHeld.2.2.2.2 u3⟩⟩) | (with_reducible exact ⟨⟨far4d hHeld.1.1 u2, far4d hHeld.1.2.1 u2, far4d hHeld.1.2.2.1 u2, far4d hHeld.1.2.2.2 u2⟩, ⟨far4d hHeld.2.1 u4, far4d hHeld.2.2.1 u4, far4d hHeld.2.2.2.1 u4, far4d hHeld.2.2.2.2 u4⟩⟩))))
      refine wpAnyH_take (i := 0) (v := ?_) rfl (by kernel_rfl) (by kernel_rfl) (by kernel_rfl) (fun _ _ _ h => h) (Or.inl ⟨by rfl, ?_⟩) (by assumption) ?_
      rotate_left
      · intro w hSw; (try dsimp only at hSw); go_simp; (try with_reducible rfl)
      try simp only [Act.put, List.getElem_toArray, List.getElem_cons_succ, List.getElem_cons_zero, List.setIfInBounds_toArray, List.set_cons_zero, List.set_cons_succ]
      refine wpAnyH_take (i := 1) (v := ?_) rfl (by kernel_rfl) (by kernel_rfl) (by kernel_rfl) (fun _ _ _ h => h) (Or.inl ⟨by rfl, ?_⟩) (by assumption) ?_
      rotate_left
      · intro w hSw; (try dsimp only at hSw); go_simp; (try with_reducible rfl)
      try simp only [Act.put, List.getElem_toArray, List.getElem_cons_succ, List.getElem_cons_zero, List.setIfInBounds_toArray, List.set_cons_zero, List.set_cons_succ]
      refine wpAnyH_ready (rs := [2]) (by kernel_rfl) (by simp) ?_
      refine AllReadyH.cons rfl (fun K hK => ?_) AllReadyH.nil
      go_simp
      refine hK.out _ _ ?_ (fun hNow => ?_)
      · first | ((first | with_reducible exact hC1 | (with_reducible exact hHeld) | (with_reducible exact ⟨⟨far4d hHeld.1.1 u1, far4d hHeld.1.2.1 u1, far4d hHeld.1.2.2.1 u1, far4d hHeld.1.2.2.2 u1⟩, ⟨far4d hHeld.2.1 u3, far4d hHeld.2.2.1 u3, far4d hHeld.2.2.2.1 u3, far4d hHeld.2.2.2.2 u3⟩⟩) | (with_reducible exact ⟨⟨far4d hHeld.1.1 u2, far4d hHeld.1.2.1 u2, far4d hHeld.1.2.2.1 u2, far4d hHeld.1.2.2.2 u2⟩, ⟨far4d hHeld.2.1 u4, far4d hHeld.2.2.1 u4, far4d hHeld.2.2.2.1 u4, far4d hHeld.2.2.2.2 u4⟩⟩))) | (dsimp only; ((first | with_reducible exact hC1 | (with_reducible exact hHeld) | (with_reducible exact ⟨⟨far4d hHeld.1.1 u1, far4d hHeld.1.2.1 u1, far4d hHeld.1.2.2.1 u1, far4d hHeld.1.2.2.2 u1⟩, ⟨far4d hHeld.2.1 u3, far4d hHeld.2.2.1 u3, far4d hHeld.2.2.2.1 u3, far4d hHeld.2.2.2.2 u3⟩⟩) | (with_reducible exact ⟨⟨far4d hHeld.1.1 u2, far4d hHeld.1.2.1 u2, far4d hHeld.1.2.2.1 u2, far4d hHeld.1.2.2.2 u2⟩, ⟨far4d hHeld.2.1 u4, far4d hHeld.2.2.1 u4, far4d hHeld.2.2.2.1 u4, far4d hHeld.2.2.2.2 u4⟩⟩))))
      clear hK K hHeld
      have hHeld := hNow
      clear hNow
      try simp only [Act.put, List.getElem_toArray, List.getElem_cons_succ, List.getElem_cons_zero, List.setIfInBounds_toArray, List.set_cons_zero, List.set_cons_succ]
      refine wpAnyH_ready (rs := [3]) (by kernel_rfl) (by simp) ?_
      refine AllReadyH.cons rfl (fun K hK => ?_) AllReadyH.nil
      go_simp
      refine hK.out _ _ ?_ (fun hNow => ?_)
      · first | ((first | with_reducible exact hC1 | (with_reducible exact hHeld) | (with_reducible exact ⟨⟨far4d hHeld.1.1 u1, far4d hHeld.1.2.1 u1, far4d hHeld.1.2.2.1 u1, far4d hHeld.1.2.2.2 u1⟩, ⟨far4d hHeld.2.1 u3, far4d hHeld.2.2.1 u3, far4d hHeld.2.2.2.1 u3, far4d hHeld.2.2.2.2 u3⟩⟩) | (with_reducible exact ⟨⟨far4d hHeld.1.1 u2, far4d hHeld.1.2.1 u2, far4d hHeld.1.2.2.1 u2, far4d hHeld.1.2.2.2 u2⟩, ⟨far4d hHeld.2.1 u4, far4d hHeld.2.2.1 u4, far4d hHeld.2.2.2.1 u4, far4d hHeld.2.2.2.2 u4⟩⟩))) | (dsimp only; ((first | with_reducible exact hC1 | (with_reducible exact hHeld) | (with_reducible exact ⟨⟨far4d hHeld.1.1 u1, far4d hHeld.1.2.1 u1, far4d hHeld.1.2.2.1 u1, far4d hHeld.1.2.2.2 u1⟩, ⟨far4d hHeld.2.1 u3, far4d hHeld.2.2.1 u3, far4d hHeld.2.2.2.1 u3, far4d hHeld.2.2.2.2 u3⟩⟩) | (with_reducible exact ⟨⟨far4d hHeld.1.1 u2, far4d hHeld.1.2.1 u2, far4d hHeld.1.2.2.1 u2, far4d hHeld.1.2.2.2 u2⟩, ⟨far4d hHeld.2.1 u4, far4d hHeld.2.2.1 u4, far4d hHeld.2.2.2.1 u4, far4d hHeld.2.2.2.2 u4⟩⟩))))
      clear hK K hHeld
      have hHeld := hNow
      clear hNow
      try simp only [Act.put, List.getElem_toArray, List.getElem_cons_succ, List.getElem_cons_zero, List.setIfInBounds_toArray, List.set_cons_zero, List.set_cons_succ]
      refine wpAnyH_ready (rs := [4]) (by kernel_rfl) (by simp) ?_
      refine AllReadyH.cons rfl (fun K hK => ?_) AllReadyH.nil
      go_simp
      refine hK.out _ _ ?_ (fun hNow => ?_)
      · first | ((first | with_reducible exact hC1 | (with_reducible exact hHeld) | (with_reducible exact ⟨⟨far4d hHeld.1.1 u1, far4d hHeld.1.2.1 u1, far4d hHeld.1.2.2.1 u1, far4d hHeld.1.2.2.2 u1⟩, ⟨far4d hHeld.2.1 u3, far4d hHeld.2.2.1 u3, far4d hHeld.2.2.2.1 u3, far4d hHeld.2.2.2.2 u3⟩⟩) | (with_reducible exact ⟨⟨far4d hHeld.1.1 u2, far4d hHeld.1.2.1 u2, far4d hHeld.1.2.2.1 u2, far4d hHeld.1.2.2.2 u2⟩, ⟨far4d hHeld.2.1 u4, far4d hHeld.2.2.1 u4, far4d hHeld.2.2.2.1 u4, far4d hHeld.2.2.2.2 u4⟩⟩))) | (dsimp only; ((first | with_reducible exact hC1 | (with_reducible exact hHeld) | (with_reducible exact ⟨⟨far4d hHeld.1.1 u1, far4d hHeld.1.2.1 u1, far4d hHeld.1.2.2.1 u1, far4d hHeld.1.2.2.2 u1⟩, ⟨far4d hHeld.2.1 u3, far4d hHeld.2.2.1 u3, far4d hHeld.2.2.2.1 u3, far4d hHeld.2.2.2.2 u3⟩⟩) | (with_reducible exact ⟨⟨far4d hHeld.1.1 u2, far4d hHeld.1.2.1 u2, far4d hHeld.1.2.2.1 u2, far4d hHeld.1.2.2.2 u2⟩, ⟨far4d hHeld.2.1 u4, far4d hHeld.2.2.1 u4, far4d hHeld.2.2.2.1 u4, far4d hHeld.2.2.2.2 u4⟩⟩))))
      clear hK K hHeld
      have hHeld := hNow
      clear hNow
      try simp only [Act.put, List.getElem_toArray, List.getElem_cons_succ, List.getElem_cons_zero, List.setIfInBounds_toArray, List.set_cons_zero, List.set_cons_succ]
      refine wpAnyH_done (by kernel_rfl) ?_ _
      go_wp2
      refine bodyPost_ret (v := .tuple #[ptV q, ptV sm, .bool true]) (by simp only [results, Try.results10]; simp [go_sem, d0, d1, d2, d3, e0, e1, e2, e3, a0, a1, a2, a3, b0, b1, b2, b3, u5, u6]) rfl ⟨(by rw [hRs.out]), ?_⟩
      refine Below.drew ?_
      repeat' (first | (with_reducible exact hG.out.bel) | (refine Below.setCell ?_ (by simp; omega) _))
end Go.Proofs.Ytdilgjhdimlbkaa
