/- Laws and walks: GPl1. -/
import Derived.Test.YthjmdagonfeneaaGreatK32
set_option maxRecDepth 100000
set_option maxHeartbeats 16000000
set_option linter.unusedVariables false
set_option linter.unusedSimpArgs false
namespace Go.Proofs.YthjmdagonfeneaaGreat.G
open Go.RowKit Go.Sd Gas
def PlayP (r : Option (Pt × Pt)) (bp bs : Nat) (X : World) (e : Ending) (w' : World) : Prop := Kept (fun k => k ≠ bp ∧ k ≠ bs) X w' ∧ match r with
 | some (q, s) => e = .returned (.tuple #[]) ∧ w'.heap[bp]? = some (.cells #[.int .i64 q.g, .int .i64 q.y, .int .i64 q.t, .int .i64 q.w] 35 (0, 0)) ∧ w'.heap[bs]? = some (.cells #[.int .i64 s.g, .int .i64 s.y, .int .i64 s.t, .int .i64 s.w] 35 (0, 0))
 | none => ∃ str : ByteArray, e = .panicked (upV str)
theorem PlayP.yes {r : Option (Pt × Pt)} {q s : Pt} {bp bs : Nat} {X w' : World} (h : r = some (q, s)) (hk : Kept (fun k => k ≠ bp ∧ k ≠ bs) X w') (h1 : w'.heap[bp]? = some (.cells #[.int .i64 q.g, .int .i64 q.y, .int .i64 q.t, .int .i64 q.w] 35 (0, 0))) (h2 : w'.heap[bs]? = some (.cells #[.int .i64 s.g, .int .i64 s.y, .int .i64 s.t, .int .i64 s.w] 35 (0, 0))) : PlayP r bp bs X (.returned (.tuple #[])) w' := by
 subst h; exact ⟨hk, rfl, h1, h2⟩
theorem PlayP.no {r : Option (Pt × Pt)} {bp bs : Nat} {X w' : World} {str : ByteArray} (h : r = none) (hk : Kept (fun k => k ≠ bp ∧ k ≠ bs) X w') : PlayP r bp bs X (.panicked (upV str)) w' := by
 subst h; exact ⟨hk, str, rfl⟩
theorem one_inj_no {c : Cav} {q : Pt} {o : Gas.Op} {u v : Int} (h : o.kind = 1) (hk : (inject c q o.lot).ok = false) : one c q o u v = none := by unfold one; rw [if_pos h, hk]; rfl
theorem one_inj {c : Cav} {q : Pt} {o : Gas.Op} {u v : Int} (h : o.kind = 1) (hk : (inject c q o.lot).ok = true) : one c q o u v = some (inject c q o.lot, ⟨0, 0, 0, 0⟩) := by unfold one; rw [if_pos h, if_pos hk]
theorem one_left_no {c : Cav} {q : Pt} {o : Gas.Op} {u v : Int} (h : o.kind = 2) (hk : ¬ o.moles ≤ q.g + q.y) : one c q o u v = none := by unfold one; rw [if_neg (by omega), if_pos h, if_neg hk]
theorem one_left {c : Cav} {q : Pt} {o : Gas.Op} {u v : Int} (h : o.kind = 2) (hk : o.moles ≤ q.g + q.y) : one c q o u v = some (left q o.moles, Gas.out q o.moles) := by unfold one; rw [if_neg (by omega), if_pos h, if_pos hk]
theorem one_rest_no {c : Cav} {q : Pt} {o : Gas.Op} {u v : Int} (h : o.kind = 3) (hk : (rest c q u v).ok = false) : one c q o u v = none := by unfold one; rw [if_neg (by omega), if_neg (by omega), hk]; rfl
theorem one_rest {c : Cav} {q : Pt} {o : Gas.Op} {u v : Int} (h : o.kind = 3) (hk : (rest c q u v).ok = true) : one c q o u v = some (rest c q u v, ⟨0, 0, 0, 0⟩) := by unfold one; rw [if_neg (by omega), if_neg (by omega), if_pos hk]
theorem add_zero {s : Pt} (h : s.t = 0) : addPt s ⟨0, 0, 0, 0⟩ = s := by
 obtain ⟨a, b, d, e⟩ := s; simp only at h; subst h; simp [addPt]
set_option maxHeartbeats 40000000 in
theorem progPlay1 {bl bc bp bs ba bb : Nat} {lv av bv : Value} (c : Cav) (p : Pt) (l : List Gas.Op) (xa xb : List Int) (w0 X : World) (hc : c.Ok) (hp : p.Ok) (hlen : l.length ≤ 20) (ho : opsB l = true) (htr : truthB l xa xb = true)
    (hl : OpsAt w0 lv l) (ha : IntsAt w0 av xa) (hb : IntsAt w0 bv xb) (hB : Below w0.heap.size w0 X) (hbp : w0.heap.size ≤ bp) (hbs : w0.heap.size ≤ bs)
    (e0 : X.heap[bl]? = some (.cells #[lv] 115 (0, 0))) (e1 : X.heap[bc]? = some (.cells #[.int .i64 c.vlo, .int .i64 c.vhi, .int .i64 c.least, .int .i64 c.most, .int .i64 c.f0, .int .i64 c.f1, .int .i64 c.h0, .int .i64 c.h1, .int .i64 c.rock, .int .i64 c.plo, .int .i64 c.phi] 89 (0, 0))) (e2 : X.heap[bp]? = some (.cells #[.int .i64 p.g, .int .i64 p.y, .int .i64 p.t, .int .i64 p.w] 35 (0, 0))) (e3 : X.heap[bs]? = some (.cells #[.int .i64 0, .int .i64 0, .int .i64 0, .int .i64 0] 35 (0, 0))) (e4 : X.heap[ba]? = some (.cells #[av] 28 (0, 0))) (e5 : X.heap[bb]? = some (.cells #[bv] 28 (0, 0)))
    (hne : bp ≠ bl ∧ bp ≠ bc ∧ bp ≠ bs ∧ bp ≠ ba ∧ bp ≠ bb ∧ bs ≠ bl ∧ bs ≠ bc ∧ bs ≠ ba ∧ bs ≠ bb) :
    Calls Tryz.prog 80 #[.pointer (some ⟨bl, 0, none⟩), .pointer (some ⟨bc, 0, none⟩), .pointer (some ⟨bp, 0, none⟩), .pointer (some ⟨bs, 0, none⟩), .pointer (some ⟨ba, 0, none⟩), .pointer (some ⟨bb, 0, none⟩)] X (PlayP (play c p l xa xb) bp bs X) := by
 obtain ⟨a, cap, rfl, hm, hcl⟩ := hl
 obtain ⟨a1, cap1, rfl, hm1, hca⟩ := ha
 obtain ⟨a2, cap2, rfl, hm2, hcb⟩ := hb
 obtain ⟨hl1, hl2, htk⟩ := truth_iff.1 htr
 have hm' : l.length ≤ 9223372036854775807 := by omega
 have hm1' : xa.length ≤ 9223372036854775807 := by omega
 have hm2' : xb.length ≤ 9223372036854775807 := by omega
 clear hm hm1 hm2
 have hcl := Lib.hid hcl; have hca := Lib.hid hca; have hcb := Lib.hid hcb
 obtain ⟨r, hr⟩ : ∃ r, play c p l xa xb = r := ⟨_, rfl⟩
 rw [hr]
 replace hr := Lib.hid hr
 have htk := Lib.hid htk
 have hoK := Lib.hid (opsB_iff.1 ho)
 have hpk := Lib.hid (fun k q s hk h => playTo_ok (c := c) (a := xa) (b := xb) hp ho k q s hk h)
 clear ho htr
 obtain ⟨n1, n2, n3, n4, n5, n6, n7, n8, n9⟩ := hne
 obtain ⟨zl, rl, -⟩ := row_cells e0
 have ql := rl 0
 obtain ⟨zc, -, -⟩ := row_cells e1
 obtain ⟨zp, -, -⟩ := row_cells e2
 obtain ⟨zs, -, -⟩ := row_cells e3
 obtain ⟨za, -, -⟩ := row_cells e4
 obtain ⟨zb, -, -⟩ := row_cells e5
 simp only [List.getElem?_toArray, List.getElem?_cons_zero] at ql
 clear rl
 have e1 := Lib.hid e1; have e2 := Lib.hid e2; have e3 := Lib.hid e3; have e4 := Lib.hid e4; have e5 := Lib.hid e5
 clear e0
 go_enter Tryz.func80, Tryz.ntmps80
 go_wp2
 go_loopw [12] (fun i wr => ∃ (k : Nat) (q s : Pt), k ≤ l.length ∧ i = .int .i64 k ∧ Hid (playTo c p l xa xb k = some (q, s)) ∧ Hid (wr.heap[bp]? = some (.cells #[.int .i64 q.g, .int .i64 q.y, .int .i64 q.t, .int .i64 q.w] 35 (0, 0))) ∧ Hid (wr.heap[bs]? = some (.cells #[.int .i64 s.g, .int .i64 s.y, .int .i64 s.t, .int .i64 s.w] 35 (0, 0))) ∧ Kept (fun k => k ≠ bp ∧ k ≠ bs) X wr) (fun i _ => l.length - (intOf i).toNat)
 case atStart => exact ⟨0, p, ⟨0, 0, 0, 0⟩, Nat.zero_le _, rfl, Lib.hid rfl, e2, e3, Kept.refl _ _⟩
 case round =>
  obtain ⟨k, q, s, hk, rfl, hpt, hrp, hrs, hkp⟩ := hrel
  by_cases hlt : k < l.length
  case neg =>
   obtain rfl : k = l.length := by omega
   have hres : Hid (r = some (q, s)) := Lib.hid (hr.out.symm.trans hpt.out)
   go_wp2
   exact ⟨rfl, _, by simp [results, Tryz.results80, go_sem], PlayP.yes hres.out hkp hrp.out hrs.out⟩
  obtain ⟨b, off, rfl, hb, hcell⟩ := hcl.out (by omega)
  obtain ⟨b1, off1, rfl, hb1, hcell1⟩ := hca.out (by omega)
  obtain ⟨b2, off2, rfl, hb2, hcell2⟩ := hcb.out (by omega)
  have hBr : Below w0.heap.size w0 wr := hB.trans (hkp.below hB.size fun j hj => ⟨by omega, by omega⟩)
  obtain ⟨c0, c1, c2, c3, c4, c5, c6, c7, c8, c9⟩ := (hcell k hlt).mono hBr
  have d1 := kept_cell hBr (hcell1 k (by omega))
  have d2 := kept_cell hBr (hcell2 k (by omega))
  clear hcell hcell1 hcell2
  have hki : (k : Int) < (l.length : Int) := by omega
  have hka : (k : Int) < (xa.length : Int) := by omega
  have hkb : (k : Int) < (xb.length : Int) := by omega
  obtain ⟨u, hue⟩ : ∃ u, at0 xa k = u := ⟨_, rfl⟩
  obtain ⟨v, hve⟩ : ∃ v, at0 xb k = v := ⟨_, rfl⟩
  rw [hue] at d1
  rw [hve] at d2
  have hst : Hid (∀ x g, one c q (theOp l k) u v = some (x, g) → playTo c p l xa xb (k + 1) = some (x, addPt s g)) := Lib.hid (fun x g h => playTo_step hpt.out (by rw [hue, hve]; exact h))
  have hsn : Hid (one c q (theOp l k) u v = none → r = none) := Lib.hid (fun h => hr.out.symm.trans (playTo_stop hpt.out (by rw [hue, hve]; exact h) hlt))
  have hta : inB u (theOp l k).slo (theOp l k).shi = true ∧ inB v (theOp l k).wlo (theOp l k).whi = true := by
   have := htk.out k hlt
   unfold trueAt at this
   rw [hue, hve, Bool.and_eq_true] at this
   exact this
  obtain ⟨x, hxe⟩ : ∃ x, theOp l k = x := ⟨_, rfl⟩
  have his := (Op.ok_is (hoK.out k hlt)).fit
  have hPO := hpk.out k q s hk hpt.out
  have hsz := hkp.size
  simp only [hxe] at c0 c1 c2 c3 c4 c5 c6 c7 c8 c9 his hst hsn hta
  clear hxe hue hve hpk hoK htk hcl hca hcb hpt
  have hqo := hPO.q
  have hsg := hPO.g
  have hsy := hPO.y
  have hsw := hPO.w
  have hs0 := hPO.t
  clear hPO
  have hk20 : (k : Int) ≤ 20 := by omega
  replace hst := Lib.hid hst.out; replace hsn := Lib.hid hsn.out
  have gc := Lib.hid ((hkp.block _ zc ⟨by omega, by omega⟩).trans e1.out)
  have ga := Lib.hid ((hkp.block _ za ⟨by omega, by omega⟩).trans e4.out)
  have gb := Lib.hid ((hkp.block _ zb ⟨by omega, by omega⟩).trans e5.out)
  clear e1 e2 e3 e4 e5
  rcases his with ⟨hkd, hlo⟩ | ⟨hkd, hm⟩ | ⟨hkd, hza, hzx⟩
  · skip
    obtain ⟨V, hV⟩ : ∃ V, wr.alloc (.cells #[.int .i64 1, .int .i64 x.lg, .int .i64 x.ly, .int .i64 x.lt, .int .i64 x.lw, .int .i64 x.moles, .int .i64 x.slo, .int .i64 x.shi, .int .i64 x.wlo, .int .i64 x.whi] 83) = V := ⟨_, rfl⟩
    obtain ⟨eo, bV, sV⟩ := boxed hV
    have R0c := (bV.block _ (Nat.lt_of_lt_of_le zc hsz)).trans gc.out
    have R0p := (bV.block _ (Nat.lt_of_lt_of_le zp hsz)).trans hrp.out
    have R0s := (bV.block _ (Nat.lt_of_lt_of_le zs hsz)).trans hrs.out
    have R0a := (bV.block _ (Nat.lt_of_lt_of_le za hsz)).trans ga.out
    have R0b := (bV.block _ (Nat.lt_of_lt_of_le zb hsz)).trans gb.out
    have hkV : Kept (fun k => k ≠ bp ∧ k ≠ bs) X V := hkp.trans (.all bV)
    have y1 := kept_cell bV d1
    have y2 := kept_cell bV d2
    have zy1 := World.block_lt_of_cell? _ ⟨b1, _, none⟩ y1
    have zy2 := World.block_lt_of_cell? _ ⟨b2, _, none⟩ y2
    simp only at zy1 zy2
    have no1 : (wr.heap.size : Nat) ≠ bp := by omega
    have no2 : (wr.heap.size : Nat) ≠ bs := by omega
    clear sV
    cases hone : (inject c q x.lot).ok
    · have kI : Hid (∀ w, Calls Tryz.prog 81 #[cavV c, ptV q, .agg #[.int .i64 x.lg, .int .i64 x.ly, .int .i64 x.lt, .int .i64 x.lw]] w (GaveUp w)) := Lib.hid (fun w => injectN (l := x.lot) w hc hqo hlo hone)
      have hno := Lib.hid (hsn.out (one_inj_no hkd hone))
      clear hone hst hsn
      have R0_o : V.heap[wr.heap.size]? = some (.cells #[.int .i64 1, .int .i64 x.lg, .int .i64 x.ly, .int .i64 x.lt, .int .i64 x.lw, .int .i64 x.moles, .int .i64 x.slo, .int .i64 x.shi, .int .i64 x.wlo, .int .i64 x.whi] 83 (0, 0)) := eo
      have R0_c : V.heap[bc]? = some (.cells #[.int .i64 c.vlo, .int .i64 c.vhi, .int .i64 c.least, .int .i64 c.most, .int .i64 c.f0, .int .i64 c.f1, .int .i64 c.h0, .int .i64 c.h1, .int .i64 c.rock, .int .i64 c.plo, .int .i64 c.phi] 89 (0, 0)) := R0c
      have R0_p : V.heap[bp]? = some (.cells #[.int .i64 q.g, .int .i64 q.y, .int .i64 q.t, .int .i64 q.w] 35 (0, 0)) := R0p
      have R0_s : V.heap[bs]? = some (.cells #[.int .i64 s.g, .int .i64 s.y, .int .i64 s.t, .int .i64 s.w] 35 (0, 0)) := R0s
      have R0_a : V.heap[ba]? = some (.cells #[.slice (some ⟨b1, off1, none⟩) xa.length cap1] 28 (0, 0)) := R0a
      have R0_b : V.heap[bb]? = some (.cells #[.slice (some ⟨b2, off2, none⟩) xb.length cap2] 28 (0, 0)) := R0b
      have E0_o := Lib.hid R0_o
      obtain ⟨z0_o, r0_o, t0_o⟩ := row_cells R0_o
      obtain ⟨q0_o_0, q0_o_1, q0_o_2, q0_o_3, q0_o_4, q0_o_5, q0_o_6, q0_o_7, q0_o_8, q0_o_9⟩ := rc10 R0_o
      clear r0_o t0_o R0_o
      have E0_c := Lib.hid R0_c
      obtain ⟨z0_c, r0_c, t0_c⟩ := row_cells R0_c
      obtain ⟨q0_c_0, q0_c_1, q0_c_2, q0_c_3, q0_c_4, q0_c_5, q0_c_6, q0_c_7, q0_c_8, q0_c_9, q0_c_10⟩ := rc11 R0_c
      clear r0_c t0_c R0_c
      have E0_p := Lib.hid R0_p
      obtain ⟨z0_p, r0_p, t0_p⟩ := row_cells R0_p
      obtain ⟨q0_p_0, q0_p_1, q0_p_2, q0_p_3⟩ := rc4 R0_p
      clear r0_p t0_p R0_p
      have E0_s := Lib.hid R0_s
      obtain ⟨z0_s, r0_s, t0_s⟩ := row_cells R0_s
      clear r0_s t0_s R0_s
      have E0_a := Lib.hid R0_a
      obtain ⟨z0_a, r0_a, t0_a⟩ := row_cells R0_a
      clear r0_a t0_a R0_a
      have E0_b := Lib.hid R0_b
      obtain ⟨z0_b, r0_b, t0_b⟩ := row_cells R0_b
      clear r0_b t0_b R0_b
      go_wp2_with (go_at_call 81; (with_reducible refine Calls.mono (kI.out _) ?_); rintro e w1 ⟨str, rfl, hB2⟩)
      exact ⟨rfl, PlayP.no hno.out (hkV.trans (.all hB2))⟩
    · have kI : Hid (∀ w, Calls Tryz.prog 81 #[cavV c, ptV q, .agg #[.int .i64 x.lg, .int .i64 x.ly, .int .i64 x.lt, .int .i64 x.lw]] w fun e w' => e = .returned (ptV (inject c q x.lot)) ∧ Below w.heap.size w w') := Lib.hid (fun w => injectY (l := x.lot) w hc hqo hlo hone)
      have hyes := Lib.hid (hst.out (inject c q x.lot) ⟨0, 0, 0, 0⟩ (one_inj hkd hone))
      rw [add_zero hs0] at hyes
      clear hone hst hsn
      have R0_o : V.heap[wr.heap.size]? = some (.cells #[.int .i64 1, .int .i64 x.lg, .int .i64 x.ly, .int .i64 x.lt, .int .i64 x.lw, .int .i64 x.moles, .int .i64 x.slo, .int .i64 x.shi, .int .i64 x.wlo, .int .i64 x.whi] 83 (0, 0)) := eo
      have R0_c : V.heap[bc]? = some (.cells #[.int .i64 c.vlo, .int .i64 c.vhi, .int .i64 c.least, .int .i64 c.most, .int .i64 c.f0, .int .i64 c.f1, .int .i64 c.h0, .int .i64 c.h1, .int .i64 c.rock, .int .i64 c.plo, .int .i64 c.phi] 89 (0, 0)) := R0c
      have R0_p : V.heap[bp]? = some (.cells #[.int .i64 q.g, .int .i64 q.y, .int .i64 q.t, .int .i64 q.w] 35 (0, 0)) := R0p
      have R0_s : V.heap[bs]? = some (.cells #[.int .i64 s.g, .int .i64 s.y, .int .i64 s.t, .int .i64 s.w] 35 (0, 0)) := R0s
      have R0_a : V.heap[ba]? = some (.cells #[.slice (some ⟨b1, off1, none⟩) xa.length cap1] 28 (0, 0)) := R0a
      have R0_b : V.heap[bb]? = some (.cells #[.slice (some ⟨b2, off2, none⟩) xb.length cap2] 28 (0, 0)) := R0b
      have E0_o := Lib.hid R0_o
      obtain ⟨z0_o, r0_o, t0_o⟩ := row_cells R0_o
      obtain ⟨q0_o_0, q0_o_1, q0_o_2, q0_o_3, q0_o_4, q0_o_5, q0_o_6, q0_o_7, q0_o_8, q0_o_9⟩ := rc10 R0_o
      clear r0_o t0_o R0_o
      have E0_c := Lib.hid R0_c
      obtain ⟨z0_c, r0_c, t0_c⟩ := row_cells R0_c
      obtain ⟨q0_c_0, q0_c_1, q0_c_2, q0_c_3, q0_c_4, q0_c_5, q0_c_6, q0_c_7, q0_c_8, q0_c_9, q0_c_10⟩ := rc11 R0_c
      clear r0_c t0_c R0_c
      have E0_p := Lib.hid R0_p
      obtain ⟨z0_p, r0_p, t0_p⟩ := row_cells R0_p
      obtain ⟨q0_p_0, q0_p_1, q0_p_2, q0_p_3⟩ := rc4 R0_p
      obtain ⟨f0_p_0, f0_p_1, f0_p_2, f0_p_3⟩ := rf4 R0_p
      clear r0_p t0_p R0_p
      have E0_s := Lib.hid R0_s
      obtain ⟨z0_s, r0_s, t0_s⟩ := row_cells R0_s
      clear r0_s t0_s R0_s
      have E0_a := Lib.hid R0_a
      obtain ⟨z0_a, r0_a, t0_a⟩ := row_cells R0_a
      clear r0_a t0_a R0_a
      have E0_b := Lib.hid R0_b
      obtain ⟨z0_b, r0_b, t0_b⟩ := row_cells R0_b
      clear r0_b t0_b R0_b
      have hgc := grow_cell V
      have hgf := grow_frozen V
      go_wp2_with (go_at_call 81; (with_reducible refine Calls.mono (kI.out _) ?_); rintro e w1 ⟨rfl, hB2⟩; obtain ⟨g, rfl⟩ : ∃ g : Grow V, w1 = g.x := ⟨⟨w1, hB2⟩, rfl⟩; clear hB2)
      clear hgc hgf
      generalize hV1 : World.setCell _ ⟨bp, 3, none⟩ _ = V1
      have gz1 := g.size
      have R1_p : V1.heap[bp]? = some (.cells #[.int .i64 (inject c q x.lot).g, .int .i64 (inject c q x.lot).y, .int .i64 (inject c q x.lot).t, .int .i64 (inject c q x.lot).w] 35 (0, 0)) := by rw [← hV1]; have h2 := (set_one (set_one (set_one (set_one ((g.h.block _ z0_p).trans E0_p.out) 0 (.int .i64 (inject c q x.lot).g)) 1 (.int .i64 (inject c q x.lot).y)) 2 (.int .i64 (inject c q x.lot).t)) 3 (.int .i64 (inject c q x.lot).w)); simp only [List.setIfInBounds_toArray, List.set_cons_zero, List.set_cons_succ] at h2; exact h2
      have R1_s : V1.heap[bs]? = some (.cells #[.int .i64 s.g, .int .i64 s.y, .int .i64 s.t, .int .i64 s.w] 35 (0, 0)) := by rw [← hV1]; have h2 := (set_far (n := bp) 3 (.int .i64 (inject c q x.lot).w) (Ne.symm n3) (set_far (n := bp) 2 (.int .i64 (inject c q x.lot).t) (Ne.symm n3) (set_far (n := bp) 1 (.int .i64 (inject c q x.lot).y) (Ne.symm n3) (set_far (n := bp) 0 (.int .i64 (inject c q x.lot).g) (Ne.symm n3) ((g.h.block _ z0_s).trans E0_s.out))))); exact h2
      have K1 : Kept (fun k => k ≠ bp ∧ k ≠ bs) X V1 := by rw [← hV1]; exact (Kept.setCell (p := ⟨bp, 3, none⟩) (Kept.setCell (p := ⟨bp, 2, none⟩) (Kept.setCell (p := ⟨bp, 1, none⟩) (Kept.setCell (p := ⟨bp, 0, none⟩) (hkV.trans (.all g.h)) (.inl fun h => h.1 rfl) (.int .i64 (inject c q x.lot).g)) (.inl fun h => h.1 rfl) (.int .i64 (inject c q x.lot).y)) (.inl fun h => h.1 rfl) (.int .i64 (inject c q x.lot).t)) (.inl fun h => h.1 rfl) (.int .i64 (inject c q x.lot).w))
      clear hV1 gz1
      clear q0_o_0 q0_o_1 q0_o_2 q0_o_3 q0_o_4 q0_o_5 q0_o_6 q0_o_7 q0_o_8 q0_o_9 q0_c_0 q0_c_1 q0_c_2 q0_c_3 q0_c_4 q0_c_5 q0_c_6 q0_c_7 q0_c_8 q0_c_9 q0_c_10 q0_p_0 f0_p_0 q0_p_1 f0_p_1 q0_p_2 f0_p_2 q0_p_3 f0_p_3
      have E1_p := Lib.hid R1_p
      obtain ⟨z1_p, r1_p, t1_p⟩ := row_cells R1_p
      clear r1_p t1_p R1_p
      have E1_s := Lib.hid R1_s
      obtain ⟨z1_s, r1_s, t1_s⟩ := row_cells R1_s
      clear r1_s t1_s R1_s
      exact ⟨⟨k + 1, inject c q x.lot, s, by omega, by go_num, Lib.hid hyes.out, Lib.hid E1_p.out, Lib.hid E1_s.out, K1⟩, by simp [intOf]; omega⟩
  · skip
    obtain ⟨m, hmx⟩ : ∃ m, x.moles = m := ⟨_, rfl⟩
    rw [hmx] at hm c5
    obtain ⟨V, hV⟩ : ∃ V, wr.alloc (.cells #[.int .i64 2, .int .i64 x.lg, .int .i64 x.ly, .int .i64 x.lt, .int .i64 x.lw, .int .i64 m, .int .i64 x.slo, .int .i64 x.shi, .int .i64 x.wlo, .int .i64 x.whi] 83) = V := ⟨_, rfl⟩
    obtain ⟨eo, bV, sV⟩ := boxed hV
    have R0c := (bV.block _ (Nat.lt_of_lt_of_le zc hsz)).trans gc.out
    have R0p := (bV.block _ (Nat.lt_of_lt_of_le zp hsz)).trans hrp.out
    have R0s := (bV.block _ (Nat.lt_of_lt_of_le zs hsz)).trans hrs.out
    have R0a := (bV.block _ (Nat.lt_of_lt_of_le za hsz)).trans ga.out
    have R0b := (bV.block _ (Nat.lt_of_lt_of_le zb hsz)).trans gb.out
    have hkV : Kept (fun k => k ≠ bp ∧ k ≠ bs) X V := hkp.trans (.all bV)
    have y1 := kept_cell bV d1
    have y2 := kept_cell bV d2
    have zy1 := World.block_lt_of_cell? _ ⟨b1, _, none⟩ y1
    have zy2 := World.block_lt_of_cell? _ ⟨b2, _, none⟩ y2
    simp only at zy1 zy2
    have no1 : (wr.heap.size : Nat) ≠ bp := by omega
    have no2 : (wr.heap.size : Nat) ≠ bs := by omega
    clear sV
    have hm8 : 0 ≤ m ∧ m ≤ 100000000 := hm
    by_cases hone : m ≤ q.g + q.y
    · have kI : Hid (∀ w, Calls Tryz.prog 82 #[cavV c, ptV q, .int .i64 m] w fun e w' => e = .returned (.tuple #[ptV (left q m), ptV (Gas.out q m)]) ∧ Below w.heap.size w w') := Lib.hid (fun w => progWithdrawY c q m w hqo hm8 hone)
      have hyes := Lib.hid (hst.out (left q m) (Gas.out q m) (hmx ▸ one_left hkd (by rw [hmx]; exact hone)))
      obtain ⟨o1, o2, o3, o4⟩ := out_bd hqo hm.1 hone
      replace hmx := Lib.hid hmx
      clear hst hsn hone
      obtain ⟨L, hL⟩ : ∃ L, left q m = L := ⟨_, rfl⟩
      obtain ⟨O, hO⟩ : ∃ O, Gas.out q m = O := ⟨_, rfl⟩
      rw [hL, hO] at hyes kI
      rw [hO] at o1 o2 o3 o4
      clear hL hO
      have R0_o : V.heap[wr.heap.size]? = some (.cells #[.int .i64 2, .int .i64 x.lg, .int .i64 x.ly, .int .i64 x.lt, .int .i64 x.lw, .int .i64 m, .int .i64 x.slo, .int .i64 x.shi, .int .i64 x.wlo, .int .i64 x.whi] 83 (0, 0)) := eo
      have R0_c : V.heap[bc]? = some (.cells #[.int .i64 c.vlo, .int .i64 c.vhi, .int .i64 c.least, .int .i64 c.most, .int .i64 c.f0, .int .i64 c.f1, .int .i64 c.h0, .int .i64 c.h1, .int .i64 c.rock, .int .i64 c.plo, .int .i64 c.phi] 89 (0, 0)) := R0c
      have R0_p : V.heap[bp]? = some (.cells #[.int .i64 q.g, .int .i64 q.y, .int .i64 q.t, .int .i64 q.w] 35 (0, 0)) := R0p
      have R0_s : V.heap[bs]? = some (.cells #[.int .i64 s.g, .int .i64 s.y, .int .i64 s.t, .int .i64 s.w] 35 (0, 0)) := R0s
      have R0_a : V.heap[ba]? = some (.cells #[.slice (some ⟨b1, off1, none⟩) xa.length cap1] 28 (0, 0)) := R0a
      have R0_b : V.heap[bb]? = some (.cells #[.slice (some ⟨b2, off2, none⟩) xb.length cap2] 28 (0, 0)) := R0b
      have E0_o := Lib.hid R0_o
      obtain ⟨z0_o, r0_o, t0_o⟩ := row_cells R0_o
      obtain ⟨q0_o_0, q0_o_1, q0_o_2, q0_o_3, q0_o_4, q0_o_5, q0_o_6, q0_o_7, q0_o_8, q0_o_9⟩ := rc10 R0_o
      clear r0_o t0_o R0_o
      have E0_c := Lib.hid R0_c
      obtain ⟨z0_c, r0_c, t0_c⟩ := row_cells R0_c
      obtain ⟨q0_c_0, q0_c_1, q0_c_2, q0_c_3, q0_c_4, q0_c_5, q0_c_6, q0_c_7, q0_c_8, q0_c_9, q0_c_10⟩ := rc11 R0_c
      clear r0_c t0_c R0_c
      have E0_p := Lib.hid R0_p
      obtain ⟨z0_p, r0_p, t0_p⟩ := row_cells R0_p
      obtain ⟨q0_p_0, q0_p_1, q0_p_2, q0_p_3⟩ := rc4 R0_p
      obtain ⟨f0_p_0, f0_p_1, f0_p_2, f0_p_3⟩ := rf4 R0_p
      clear r0_p t0_p R0_p
      have E0_s := Lib.hid R0_s
      obtain ⟨z0_s, r0_s, t0_s⟩ := row_cells R0_s
      obtain ⟨q0_s_0, q0_s_1, q0_s_2, q0_s_3⟩ := rc4 R0_s
      obtain ⟨f0_s_0, f0_s_1, f0_s_2, f0_s_3⟩ := rf4 R0_s
      clear r0_s t0_s R0_s
      have E0_a := Lib.hid R0_a
      obtain ⟨z0_a, r0_a, t0_a⟩ := row_cells R0_a
      clear r0_a t0_a R0_a
      have E0_b := Lib.hid R0_b
      obtain ⟨z0_b, r0_b, t0_b⟩ := row_cells R0_b
      clear r0_b t0_b R0_b
      have hgc := grow_cell V
      have hgf := grow_frozen V
      go_wp2_with (go_at_call 82; (with_reducible refine Calls.mono (kI.out _) ?_); rintro e w1 ⟨rfl, hB2⟩; obtain ⟨g, rfl⟩ : ∃ g : Grow V, w1 = g.x := ⟨⟨w1, hB2⟩, rfl⟩; clear hB2; have u1 := g.lt z0_p; have u2 := g.lt z0_s; obtain ⟨Z, hZ⟩ : ∃ Z, (g.x.alloc (.cells #[.int .i64 L.g, .int .i64 L.y, .int .i64 L.t, .int .i64 L.w] 35)).alloc (.cells #[.int .i64 O.g, .int .i64 O.y, .int .i64 O.t, .int .i64 O.w] 35) = Z := ⟨_, rfl⟩; obtain ⟨f2, f3, fs, fB⟩ := two_new hZ; obtain ⟨g3, rfl⟩ := g.next fB; obtain ⟨z2, r2, -⟩ := row_cells f2; obtain ⟨z3, r3, -⟩ := row_cells f3; have p2_0 := r2 0; have p2_1 := r2 1; have p2_2 := r2 2; have p2_3 := r2 3; have p3_0 := r3 0; have p3_1 := r3 1; have p3_3 := r3 3; simp only [List.getElem?_toArray, List.getElem?_cons_zero, List.getElem?_cons_succ] at p2_0 p2_1 p2_2 p2_3 p3_0 p3_1 p3_3; clear r2 r3 f2 f3 fs fB; have u4 : V.heap.size ≤ g.x.heap.size := g.size)
      clear hgc hgf
      generalize hV1 : World.setCell _ ⟨bs, 3, none⟩ _ = V1
      have gz1 := g.size
      have R1_p : V1.heap[bp]? = some (.cells #[.int .i64 L.g, .int .i64 L.y, .int .i64 L.t, .int .i64 L.w] 35 (0, 0)) := by rw [← hV1]; have h2 := (set_far (n := bs) 3 (.int .i64 (s.w + O.w)) n3 (set_far (n := bs) 2 (.int .i64 0) n3 (set_far (n := bs) 1 (.int .i64 (s.y + O.y)) n3 (set_far (n := bs) 0 (.int .i64 (s.g + O.g)) n3 (set_one (set_one (set_one (set_one ((g.h.block _ z0_p).trans E0_p.out) 0 (.int .i64 L.g)) 1 (.int .i64 L.y)) 2 (.int .i64 L.t)) 3 (.int .i64 L.w)))))); simp only [List.setIfInBounds_toArray, List.set_cons_zero, List.set_cons_succ] at h2; exact h2
      have R1_s : V1.heap[bs]? = some (.cells #[.int .i64 (s.g + O.g), .int .i64 (s.y + O.y), .int .i64 0, .int .i64 (s.w + O.w)] 35 (0, 0)) := by rw [← hV1]; have h2 := (set_one (set_one (set_one (set_one (set_far (n := bp) 3 (.int .i64 L.w) (Ne.symm n3) (set_far (n := bp) 2 (.int .i64 L.t) (Ne.symm n3) (set_far (n := bp) 1 (.int .i64 L.y) (Ne.symm n3) (set_far (n := bp) 0 (.int .i64 L.g) (Ne.symm n3) ((g.h.block _ z0_s).trans E0_s.out))))) 0 (.int .i64 (s.g + O.g))) 1 (.int .i64 (s.y + O.y))) 2 (.int .i64 0)) 3 (.int .i64 (s.w + O.w))); simp only [List.setIfInBounds_toArray, List.set_cons_zero, List.set_cons_succ] at h2; exact h2
      have K1 : Kept (fun k => k ≠ bp ∧ k ≠ bs) X V1 := by rw [← hV1]; exact (Kept.setCell (p := ⟨bs, 3, none⟩) (Kept.setCell (p := ⟨bs, 2, none⟩) (Kept.setCell (p := ⟨bs, 1, none⟩) (Kept.setCell (p := ⟨bs, 0, none⟩) (Kept.setCell (p := ⟨bp, 3, none⟩) (Kept.setCell (p := ⟨bp, 2, none⟩) (Kept.setCell (p := ⟨bp, 1, none⟩) (Kept.setCell (p := ⟨bp, 0, none⟩) (hkV.trans (.all g.h)) (.inl fun h => h.1 rfl) (.int .i64 L.g)) (.inl fun h => h.1 rfl) (.int .i64 L.y)) (.inl fun h => h.1 rfl) (.int .i64 L.t)) (.inl fun h => h.1 rfl) (.int .i64 L.w)) (.inl fun h => h.2 rfl) (.int .i64 (s.g + O.g))) (.inl fun h => h.2 rfl) (.int .i64 (s.y + O.y))) (.inl fun h => h.2 rfl) (.int .i64 0)) (.inl fun h => h.2 rfl) (.int .i64 (s.w + O.w)))
      clear hV1 gz1
      clear q0_o_0 q0_o_1 q0_o_2 q0_o_3 q0_o_4 q0_o_5 q0_o_6 q0_o_7 q0_o_8 q0_o_9 q0_c_0 q0_c_1 q0_c_2 q0_c_3 q0_c_4 q0_c_5 q0_c_6 q0_c_7 q0_c_8 q0_c_9 q0_c_10 q0_p_0 f0_p_0 q0_p_1 f0_p_1 q0_p_2 f0_p_2 q0_p_3 f0_p_3 q0_s_0 f0_s_0 q0_s_1 f0_s_1 q0_s_2 f0_s_2 q0_s_3 f0_s_3
      have E1_p := Lib.hid R1_p
      obtain ⟨z1_p, r1_p, t1_p⟩ := row_cells R1_p
      clear r1_p t1_p R1_p
      have E1_s := Lib.hid R1_s
      obtain ⟨z1_s, r1_s, t1_s⟩ := row_cells R1_s
      clear r1_s t1_s R1_s
      obtain ⟨Y, hY⟩ : ∃ Y, World.alloc (World.alloc V1 (.cells #[.int .i64 L.g, .int .i64 L.y, .int .i64 L.t, .int .i64 L.w] 35)) (.cells #[.int .i64 O.g, .int .i64 O.y, .int .i64 0, .int .i64 O.w] 35) = Y := ⟨_, rfl⟩
      rw [hY]
      obtain ⟨-, -, -, fB⟩ := two_new hY
      exact ⟨⟨k + 1, L, addPt s O, by omega, by go_num, Lib.hid hyes.out, Lib.hid ((fB.block _ z1_p).trans E1_p.out), Lib.hid ((fB.block _ z1_s).trans E1_s.out), K1.trans (.all fB)⟩, by simp [intOf]; omega⟩
    · have kI : Hid (∀ w, Calls Tryz.prog 82 #[cavV c, ptV q, .int .i64 m] w (GaveUp w)) := Lib.hid (fun w => progWithdrawN c q m w hqo hm8 (by omega))
      have hno := Lib.hid (hsn.out (one_left_no hkd (by rw [hmx]; exact hone)))
      clear hst hsn
      have R0_o : V.heap[wr.heap.size]? = some (.cells #[.int .i64 2, .int .i64 x.lg, .int .i64 x.ly, .int .i64 x.lt, .int .i64 x.lw, .int .i64 m, .int .i64 x.slo, .int .i64 x.shi, .int .i64 x.wlo, .int .i64 x.whi] 83 (0, 0)) := eo
      have R0_c : V.heap[bc]? = some (.cells #[.int .i64 c.vlo, .int .i64 c.vhi, .int .i64 c.least, .int .i64 c.most, .int .i64 c.f0, .int .i64 c.f1, .int .i64 c.h0, .int .i64 c.h1, .int .i64 c.rock, .int .i64 c.plo, .int .i64 c.phi] 89 (0, 0)) := R0c
      have R0_p : V.heap[bp]? = some (.cells #[.int .i64 q.g, .int .i64 q.y, .int .i64 q.t, .int .i64 q.w] 35 (0, 0)) := R0p
      have R0_s : V.heap[bs]? = some (.cells #[.int .i64 s.g, .int .i64 s.y, .int .i64 s.t, .int .i64 s.w] 35 (0, 0)) := R0s
      have R0_a : V.heap[ba]? = some (.cells #[.slice (some ⟨b1, off1, none⟩) xa.length cap1] 28 (0, 0)) := R0a
      have R0_b : V.heap[bb]? = some (.cells #[.slice (some ⟨b2, off2, none⟩) xb.length cap2] 28 (0, 0)) := R0b
      have E0_o := Lib.hid R0_o
      obtain ⟨z0_o, r0_o, t0_o⟩ := row_cells R0_o
      obtain ⟨q0_o_0, q0_o_1, q0_o_2, q0_o_3, q0_o_4, q0_o_5, q0_o_6, q0_o_7, q0_o_8, q0_o_9⟩ := rc10 R0_o
      clear r0_o t0_o R0_o
      have E0_c := Lib.hid R0_c
      obtain ⟨z0_c, r0_c, t0_c⟩ := row_cells R0_c
      obtain ⟨q0_c_0, q0_c_1, q0_c_2, q0_c_3, q0_c_4, q0_c_5, q0_c_6, q0_c_7, q0_c_8, q0_c_9, q0_c_10⟩ := rc11 R0_c
      clear r0_c t0_c R0_c
      have E0_p := Lib.hid R0_p
      obtain ⟨z0_p, r0_p, t0_p⟩ := row_cells R0_p
      obtain ⟨q0_p_0, q0_p_1, q0_p_2, q0_p_3⟩ := rc4 R0_p
      clear r0_p t0_p R0_p
      have E0_s := Lib.hid R0_s
      obtain ⟨z0_s, r0_s, t0_s⟩ := row_cells R0_s
      clear r0_s t0_s R0_s
      have E0_a := Lib.hid R0_a
      obtain ⟨z0_a, r0_a, t0_a⟩ := row_cells R0_a
      clear r0_a t0_a R0_a
      have E0_b := Lib.hid R0_b
      obtain ⟨z0_b, r0_b, t0_b⟩ := row_cells R0_b
      clear r0_b t0_b R0_b
      go_wp2_with (go_at_call 82; (with_reducible refine Calls.mono (kI.out _) ?_); rintro e w1 ⟨str, rfl, hB2⟩)
      exact ⟨rfl, PlayP.no hno.out (hkV.trans (.all hB2))⟩
  · skip
    rw [inB_iff, inB_iff] at hta
    obtain ⟨V, hV⟩ : ∃ V, wr.alloc (.cells #[.int .i64 3, .int .i64 x.lg, .int .i64 x.ly, .int .i64 x.lt, .int .i64 x.lw, .int .i64 x.moles, .int .i64 x.slo, .int .i64 x.shi, .int .i64 x.wlo, .int .i64 x.whi] 83) = V := ⟨_, rfl⟩
    obtain ⟨eo, bV, sV⟩ := boxed hV
    have R0c := (bV.block _ (Nat.lt_of_lt_of_le zc hsz)).trans gc.out
    have R0p := (bV.block _ (Nat.lt_of_lt_of_le zp hsz)).trans hrp.out
    have R0s := (bV.block _ (Nat.lt_of_lt_of_le zs hsz)).trans hrs.out
    have R0a := (bV.block _ (Nat.lt_of_lt_of_le za hsz)).trans ga.out
    have R0b := (bV.block _ (Nat.lt_of_lt_of_le zb hsz)).trans gb.out
    have hkV : Kept (fun k => k ≠ bp ∧ k ≠ bs) X V := hkp.trans (.all bV)
    have y1 := kept_cell bV d1
    have y2 := kept_cell bV d2
    have zy1 := World.block_lt_of_cell? _ ⟨b1, _, none⟩ y1
    have zy2 := World.block_lt_of_cell? _ ⟨b2, _, none⟩ y2
    simp only at zy1 zy2
    have no1 : (wr.heap.size : Nat) ≠ bp := by omega
    have no2 : (wr.heap.size : Nat) ≠ bs := by omega
    clear sV
    have hu : 0 ≤ u ∧ u ≤ 1000 := by omega
    have hv : 0 ≤ v ∧ v ≤ 1000000 := by omega
    cases hone : (rest c q u v).ok
    · have kI : Hid (∀ w, Calls Tryz.prog 83 #[cavV c, ptV q, .int .i64 u, .int .i64 v] w (GaveUp w)) := Lib.hid (fun w => progRestN c q u v w hc hqo hu hv hone)
      have hno := Lib.hid (hsn.out (one_rest_no hkd hone))
      clear hone hst hsn
      have R0_o : V.heap[wr.heap.size]? = some (.cells #[.int .i64 3, .int .i64 x.lg, .int .i64 x.ly, .int .i64 x.lt, .int .i64 x.lw, .int .i64 x.moles, .int .i64 x.slo, .int .i64 x.shi, .int .i64 x.wlo, .int .i64 x.whi] 83 (0, 0)) := eo
      have R0_c : V.heap[bc]? = some (.cells #[.int .i64 c.vlo, .int .i64 c.vhi, .int .i64 c.least, .int .i64 c.most, .int .i64 c.f0, .int .i64 c.f1, .int .i64 c.h0, .int .i64 c.h1, .int .i64 c.rock, .int .i64 c.plo, .int .i64 c.phi] 89 (0, 0)) := R0c
      have R0_p : V.heap[bp]? = some (.cells #[.int .i64 q.g, .int .i64 q.y, .int .i64 q.t, .int .i64 q.w] 35 (0, 0)) := R0p
      have R0_s : V.heap[bs]? = some (.cells #[.int .i64 s.g, .int .i64 s.y, .int .i64 s.t, .int .i64 s.w] 35 (0, 0)) := R0s
      have R0_a : V.heap[ba]? = some (.cells #[.slice (some ⟨b1, off1, none⟩) xa.length cap1] 28 (0, 0)) := R0a
      have R0_b : V.heap[bb]? = some (.cells #[.slice (some ⟨b2, off2, none⟩) xb.length cap2] 28 (0, 0)) := R0b
      have E0_o := Lib.hid R0_o
      obtain ⟨z0_o, r0_o, t0_o⟩ := row_cells R0_o
      obtain ⟨q0_o_0, q0_o_1, q0_o_2, q0_o_3, q0_o_4, q0_o_5, q0_o_6, q0_o_7, q0_o_8, q0_o_9⟩ := rc10 R0_o
      clear r0_o t0_o R0_o
      have E0_c := Lib.hid R0_c
      obtain ⟨z0_c, r0_c, t0_c⟩ := row_cells R0_c
      obtain ⟨q0_c_0, q0_c_1, q0_c_2, q0_c_3, q0_c_4, q0_c_5, q0_c_6, q0_c_7, q0_c_8, q0_c_9, q0_c_10⟩ := rc11 R0_c
      clear r0_c t0_c R0_c
      have E0_p := Lib.hid R0_p
      obtain ⟨z0_p, r0_p, t0_p⟩ := row_cells R0_p
      obtain ⟨q0_p_0, q0_p_1, q0_p_2, q0_p_3⟩ := rc4 R0_p
      obtain ⟨f0_p_0, f0_p_1, f0_p_2, f0_p_3⟩ := rf4 R0_p
      clear r0_p t0_p R0_p
      have E0_s := Lib.hid R0_s
      obtain ⟨z0_s, r0_s, t0_s⟩ := row_cells R0_s
      clear r0_s t0_s R0_s
      have E0_a := Lib.hid R0_a
      obtain ⟨z0_a, r0_a, t0_a⟩ := row_cells R0_a
      have q0_a_0 := rc1 R0_a
      clear r0_a t0_a R0_a
      have E0_b := Lib.hid R0_b
      obtain ⟨z0_b, r0_b, t0_b⟩ := row_cells R0_b
      have q0_b_0 := rc1 R0_b
      clear r0_b t0_b R0_b
      go_wp2
      refine wp_region_held_drew (S := Below V.heap.size V) (by kernel_rfl) (Below.refl _ _).drew (fun hHeld => ?_)
      refine wpAnyH_take (i := 0) (v := cavV c) rfl (by kernel_rfl) (by kernel_rfl) (by kernel_rfl) (fun _ _ _ h => h) (Or.inl ⟨by kernel_rfl, ?_⟩) hHeld ?_
      · intro w' hSw; have c0 := kept_cell hSw q0_c_0; have c1 := kept_cell hSw q0_c_1; have c2 := kept_cell hSw q0_c_2; have c3 := kept_cell hSw q0_c_3; have c4 := kept_cell hSw q0_c_4; have c5 := kept_cell hSw q0_c_5; have c6 := kept_cell hSw q0_c_6; have c7 := kept_cell hSw q0_c_7; have c8 := kept_cell hSw q0_c_8; have c9 := kept_cell hSw q0_c_9; have c10 := kept_cell hSw q0_c_10; go_simp; (try with_reducible rfl)
      try simp only [Act.put, List.setIfInBounds_toArray, List.set_cons_zero, List.set_cons_succ]
      refine wpAnyH_take (i := 1) (v := ptV q) rfl (by kernel_rfl) (by kernel_rfl) (by kernel_rfl) (fun _ _ _ h => h) (Or.inl ⟨by kernel_rfl, ?_⟩) hHeld ?_
      · intro w' hSw; have c0 := kept_cell hSw q0_p_0; have c1 := kept_cell hSw q0_p_1; have c2 := kept_cell hSw q0_p_2; have c3 := kept_cell hSw q0_p_3; go_simp; (try with_reducible rfl)
      try simp only [Act.put, List.setIfInBounds_toArray, List.set_cons_zero, List.set_cons_succ]
      refine wpAnyH_take (i := 2) (v := .slice (some ⟨b1, off1, none⟩) xa.length cap1) rfl (by kernel_rfl) (by kernel_rfl) (by kernel_rfl) (fun _ _ _ h => h) (Or.inl ⟨by kernel_rfl, ?_⟩) hHeld ?_
      · intro w' hSw; have c0 := kept_cell hSw q0_a_0; go_simp; (try with_reducible rfl)
      try simp only [Act.put, List.setIfInBounds_toArray, List.set_cons_zero, List.set_cons_succ]
      refine wpAnyH_take (i := 3) (v := .int .i64 k) rfl (by kernel_rfl) (by kernel_rfl) (by kernel_rfl) (fun _ _ _ h => h) (Or.inl ⟨by kernel_rfl, ?_⟩) hHeld ?_
      · intro w' hSw; go_simp; (try with_reducible rfl)
      try simp only [Act.put, List.setIfInBounds_toArray, List.set_cons_zero, List.set_cons_succ]
      refine wpAnyH_take (i := 4) (v := .pointer (some ⟨b1, off1 + k, none⟩)) rfl (by kernel_rfl) (by kernel_rfl) (by kernel_rfl) (fun _ _ _ h => h) (Or.inl ⟨by kernel_rfl, ?_⟩) hHeld ?_
      · intro w' hSw; go_simp; (try with_reducible rfl)
      try simp only [Act.put, List.setIfInBounds_toArray, List.set_cons_zero, List.set_cons_succ]
      refine wpAnyH_take (i := 5) (v := .int .i64 u) rfl (by kernel_rfl) (by kernel_rfl) (by kernel_rfl) (fun _ _ _ h => h) (Or.inl ⟨by kernel_rfl, ?_⟩) hHeld ?_
      · intro w' hSw; have c0 := kept_cell hSw y1; go_simp; (try with_reducible rfl)
      try simp only [Act.put, List.setIfInBounds_toArray, List.set_cons_zero, List.set_cons_succ]
      refine wpAnyH_take (i := 6) (v := .slice (some ⟨b2, off2, none⟩) xb.length cap2) rfl (by kernel_rfl) (by kernel_rfl) (by kernel_rfl) (fun _ _ _ h => h) (Or.inl ⟨by kernel_rfl, ?_⟩) hHeld ?_
      · intro w' hSw; have c0 := kept_cell hSw q0_b_0; go_simp; (try with_reducible rfl)
      try simp only [Act.put, List.setIfInBounds_toArray, List.set_cons_zero, List.set_cons_succ]
      refine wpAnyH_take (i := 7) (v := .int .i64 k) rfl (by kernel_rfl) (by kernel_rfl) (by kernel_rfl) (fun _ _ _ h => h) (Or.inl ⟨by kernel_rfl, ?_⟩) hHeld ?_
      · intro w' hSw; go_simp; (try with_reducible rfl)
      try simp only [Act.put, List.setIfInBounds_toArray, List.set_cons_zero, List.set_cons_succ]
      refine wpAnyH_take (i := 8) (v := .pointer (some ⟨b2, off2 + k, none⟩)) rfl (by kernel_rfl) (by kernel_rfl) (by kernel_rfl) (fun _ _ _ h => h) (Or.inl ⟨by kernel_rfl, ?_⟩) hHeld ?_
      · intro w' hSw; go_simp; (try with_reducible rfl)
      try simp only [Act.put, List.setIfInBounds_toArray, List.set_cons_zero, List.set_cons_succ]
      refine wpAnyH_take (i := 9) (v := .int .i64 v) rfl (by kernel_rfl) (by kernel_rfl) (by kernel_rfl) (fun _ _ _ h => h) (Or.inl ⟨by kernel_rfl, ?_⟩) hHeld ?_
      · intro w' hSw; have c0 := kept_cell hSw y2; go_simp; (try with_reducible rfl)
      try simp only [Act.put, List.setIfInBounds_toArray, List.set_cons_zero, List.set_cons_succ]
      refine wpAnyH_ready (rs := [10]) (by kernel_rfl) (by simp) ?_
      refine AllReadyH.cons rfl (fun K hK => ?_) AllReadyH.nil
      go_simp
      go_at_call 83
      (with_reducible refine Calls.mono (kI.out _) ?_)
      rintro e w1 ⟨str, rfl, hB2⟩
      go_wp2_with (fail)
      exact ⟨rfl, PlayP.no hno.out (hkV.trans ((Kept.all (Below.refl V.heap.size V).drew).trans (.all hB2)))⟩
    · have kI : Hid (∀ w, Calls Tryz.prog 83 #[cavV c, ptV q, .int .i64 u, .int .i64 v] w fun e w' => e = .returned (ptV (rest c q u v)) ∧ Below w.heap.size w w') := Lib.hid (fun w => progRestY c q u v w hc hqo hu hv hone)
      have hyes := Lib.hid (hst.out (rest c q u v) ⟨0, 0, 0, 0⟩ (one_rest hkd hone))
      rw [add_zero hs0] at hyes
      clear hone hst hsn
      have R0_o : V.heap[wr.heap.size]? = some (.cells #[.int .i64 3, .int .i64 x.lg, .int .i64 x.ly, .int .i64 x.lt, .int .i64 x.lw, .int .i64 x.moles, .int .i64 x.slo, .int .i64 x.shi, .int .i64 x.wlo, .int .i64 x.whi] 83 (0, 0)) := eo
      have R0_c : V.heap[bc]? = some (.cells #[.int .i64 c.vlo, .int .i64 c.vhi, .int .i64 c.least, .int .i64 c.most, .int .i64 c.f0, .int .i64 c.f1, .int .i64 c.h0, .int .i64 c.h1, .int .i64 c.rock, .int .i64 c.plo, .int .i64 c.phi] 89 (0, 0)) := R0c
      have R0_p : V.heap[bp]? = some (.cells #[.int .i64 q.g, .int .i64 q.y, .int .i64 q.t, .int .i64 q.w] 35 (0, 0)) := R0p
      have R0_s : V.heap[bs]? = some (.cells #[.int .i64 s.g, .int .i64 s.y, .int .i64 s.t, .int .i64 s.w] 35 (0, 0)) := R0s
      have R0_a : V.heap[ba]? = some (.cells #[.slice (some ⟨b1, off1, none⟩) xa.length cap1] 28 (0, 0)) := R0a
      have R0_b : V.heap[bb]? = some (.cells #[.slice (some ⟨b2, off2, none⟩) xb.length cap2] 28 (0, 0)) := R0b
      have E0_o := Lib.hid R0_o
      obtain ⟨z0_o, r0_o, t0_o⟩ := row_cells R0_o
      obtain ⟨q0_o_0, q0_o_1, q0_o_2, q0_o_3, q0_o_4, q0_o_5, q0_o_6, q0_o_7, q0_o_8, q0_o_9⟩ := rc10 R0_o
      clear r0_o t0_o R0_o
      have E0_c := Lib.hid R0_c
      obtain ⟨z0_c, r0_c, t0_c⟩ := row_cells R0_c
      obtain ⟨q0_c_0, q0_c_1, q0_c_2, q0_c_3, q0_c_4, q0_c_5, q0_c_6, q0_c_7, q0_c_8, q0_c_9, q0_c_10⟩ := rc11 R0_c
      clear r0_c t0_c R0_c
      have E0_p := Lib.hid R0_p
      obtain ⟨z0_p, r0_p, t0_p⟩ := row_cells R0_p
      obtain ⟨q0_p_0, q0_p_1, q0_p_2, q0_p_3⟩ := rc4 R0_p
      obtain ⟨f0_p_0, f0_p_1, f0_p_2, f0_p_3⟩ := rf4 R0_p
      clear r0_p t0_p R0_p
      have E0_s := Lib.hid R0_s
      obtain ⟨z0_s, r0_s, t0_s⟩ := row_cells R0_s
      clear r0_s t0_s R0_s
      have E0_a := Lib.hid R0_a
      obtain ⟨z0_a, r0_a, t0_a⟩ := row_cells R0_a
      have q0_a_0 := rc1 R0_a
      clear r0_a t0_a R0_a
      have E0_b := Lib.hid R0_b
      obtain ⟨z0_b, r0_b, t0_b⟩ := row_cells R0_b
      have q0_b_0 := rc1 R0_b
      clear r0_b t0_b R0_b
      have hgc := grow_cell V
      have hgf := grow_frozen V
      go_wp2
      refine wp_grow_tail 11 (by kernel_rfl) (by kernel_rfl) ?_
      simp only [List.take_succ_cons, List.take_zero, List.drop_succ_cons, List.drop_zero]
      repeat (go_big_quiet_step ((first | (go_at_call 83; with_reducible exact Calls.grow (kI.out _)))))
      refine wpQuiet_nil ?_
      rintro _ ⟨g, rfl⟩
      go_wp2
      clear hgc hgf
      generalize hV1 : World.setCell _ ⟨bp, 3, none⟩ _ = V1
      have gz1 := g.size
      have R1_p : V1.heap[bp]? = some (.cells #[.int .i64 (rest c q u v).g, .int .i64 (rest c q u v).y, .int .i64 (rest c q u v).t, .int .i64 (rest c q u v).w] 35 (0, 0)) := by rw [← hV1]; have h2 := (set_one (set_one (set_one (set_one ((g.h.block _ z0_p).trans E0_p.out) 0 (.int .i64 (rest c q u v).g)) 1 (.int .i64 (rest c q u v).y)) 2 (.int .i64 (rest c q u v).t)) 3 (.int .i64 (rest c q u v).w)); simp only [List.setIfInBounds_toArray, List.set_cons_zero, List.set_cons_succ] at h2; exact h2
      have R1_s : V1.heap[bs]? = some (.cells #[.int .i64 s.g, .int .i64 s.y, .int .i64 s.t, .int .i64 s.w] 35 (0, 0)) := by rw [← hV1]; have h2 := (set_far (n := bp) 3 (.int .i64 (rest c q u v).w) (Ne.symm n3) (set_far (n := bp) 2 (.int .i64 (rest c q u v).t) (Ne.symm n3) (set_far (n := bp) 1 (.int .i64 (rest c q u v).y) (Ne.symm n3) (set_far (n := bp) 0 (.int .i64 (rest c q u v).g) (Ne.symm n3) ((g.h.block _ z0_s).trans E0_s.out))))); exact h2
      have K1 : Kept (fun k => k ≠ bp ∧ k ≠ bs) X V1 := by rw [← hV1]; exact (Kept.setCell (p := ⟨bp, 3, none⟩) (Kept.setCell (p := ⟨bp, 2, none⟩) (Kept.setCell (p := ⟨bp, 1, none⟩) (Kept.setCell (p := ⟨bp, 0, none⟩) (hkV.trans (.all g.h)) (.inl fun h => h.1 rfl) (.int .i64 (rest c q u v).g)) (.inl fun h => h.1 rfl) (.int .i64 (rest c q u v).y)) (.inl fun h => h.1 rfl) (.int .i64 (rest c q u v).t)) (.inl fun h => h.1 rfl) (.int .i64 (rest c q u v).w))
      clear hV1 gz1
      clear q0_o_0 q0_o_1 q0_o_2 q0_o_3 q0_o_4 q0_o_5 q0_o_6 q0_o_7 q0_o_8 q0_o_9 q0_c_0 q0_c_1 q0_c_2 q0_c_3 q0_c_4 q0_c_5 q0_c_6 q0_c_7 q0_c_8 q0_c_9 q0_c_10 q0_p_0 f0_p_0 q0_p_1 f0_p_1 q0_p_2 f0_p_2 q0_p_3 f0_p_3 q0_a_0 q0_b_0
      have E1_p := Lib.hid R1_p
      obtain ⟨z1_p, r1_p, t1_p⟩ := row_cells R1_p
      clear r1_p t1_p R1_p
      have E1_s := Lib.hid R1_s
      obtain ⟨z1_s, r1_s, t1_s⟩ := row_cells R1_s
      clear r1_s t1_s R1_s
      exact ⟨⟨k + 1, rest c q u v, s, by omega, by go_num, Lib.hid hyes.out, Lib.hid E1_p.out, Lib.hid E1_s.out, K1⟩, by simp [intOf]; omega⟩
end Go.Proofs.YthjmdagonfeneaaGreat.G
