/- Gas: walks: the law package's kept and fine. -/
import Derived.Test.YtgmbolagciaenaaPg
import Derived.Test.YtgmbolagciaenaaLpl
import Derived.Test.YtgmbolagciaenaaHs
import Derived.Test.YtgmbolagciaenaaDo1
set_option linter.unusedVariables false
set_option linter.unusedSimpArgs false
namespace Go.Proofs.Ytgmbolagciaenaa
open Go.RowKit Go.Sd Gas
theorem opsRow1 {X : World} {b : Nat} {t : TypeId} {x : Gas.Op} (e : X.heap[b]? = some (.cells #[.int .i64 x.kind, .int .i64 x.lg, .int .i64 x.ly, .int .i64 x.lt, .int .i64 x.lw, .int .i64 x.moles, .int .i64 x.slo, .int .i64 x.shi, .int .i64 x.wlo, .int .i64 x.whi] t (0, 0))) : OpsAt X (.slice (some ⟨b, 0, none⟩) 1 1) [x] := by
  refine ⟨_, 1, rfl, (by simp [maxLen]), fun _ => ⟨b, 0, rfl, (Array.getElem?_eq_some_iff.1 e).1, fun k hk => ?_⟩⟩
  have hk : k < 1 := hk
  have r := (row_cells e).2.1
  match k, hk with
  | 0, _ => exact ⟨r 0, r 1, r 2, r 3, r 4, r 5, r 6, r 7, r 8, r 9⟩
theorem intsRow1 {X : World} {b : Nat} {t : TypeId} {x : Int} (e : X.heap[b]? = some (.cells #[.int .i64 x] t (0, 0))) : IntsAt X (.slice (some ⟨b, 0, none⟩) 1 1) [x] := by
  refine ⟨_, 1, rfl, (by simp [maxLen]), fun _ => ⟨b, 0, rfl, (Array.getElem?_eq_some_iff.1 e).1, fun k hk => ?_⟩⟩
  have hk : k < 1 := hk
  have r := (row_cells e).2.1
  match k, hk with
  | 0, _ => exact r 0
theorem playErr_ok2 {c : Cav} {p : Pt} {l : List Gas.Op} {xa xb : List Int} (h1 : l.length ≤ 20) (h2 : c.ok = true) (h3 : p.ok = true) (h4 : opsB l = true) (h5 : truthB l xa xb = true) : playErr c p l xa xb = 0 := by
  unfold playErr
  rw [if_neg (by omega), h2, h3, h4, h5]; rfl

set_option maxRecDepth 100000 in
set_option maxHeartbeats 8000000 in
theorem lawKept (c : Cav) (p : Pt) (o : Gas.Op) (v : Int) (w : World) (hc : c.ok = true) (hp : p.ok = true) (hv : 1 ≤ v ∧ v ≤ 1000000) (hkp : ∃ x g, play c p [o] [0] [0] = some (x, g) ∧ x.Ok ∧ keeps c x v = 1 ∧ opsB [o] = true ∧ truthB [o] [0] [0] = true) : Calls Try.prog 47 #[cavV c, ptV p, opV o, .int .i64 v] w fun e w' => e = .returned (.bool true) ∧ Below w.heap.size w w' := by
  obtain ⟨W1, hW1⟩ : ∃ W1, w.alloc (.cells #[.int .i64 c.vlo, .int .i64 c.vhi, .int .i64 c.least, .int .i64 c.most, .int .i64 c.f0, .int .i64 c.f1, .int .i64 c.h0, .int .i64 c.h1, .int .i64 c.rock, .int .i64 c.plo, .int .i64 c.phi] 26) = W1 := ⟨_, rfl⟩
  obtain ⟨e_c, b_c, s_c⟩ := boxed hW1
  obtain ⟨W2, hW2⟩ : ∃ W2, W1.alloc (.cells #[.int .i64 p.g, .int .i64 p.y, .int .i64 p.t, .int .i64 p.w] 31) = W2 := ⟨_, rfl⟩
  obtain ⟨e_p, b_p, s_p⟩ := boxed hW2
  replace e_c := (b_p.block _ (Array.getElem?_eq_some_iff.1 e_c).1).trans e_c
  obtain ⟨W, hW⟩ : ∃ W, W2.alloc (.cells #[.int .i64 o.kind, .int .i64 o.lg, .int .i64 o.ly, .int .i64 o.lt, .int .i64 o.lw, .int .i64 o.moles, .int .i64 o.slo, .int .i64 o.shi, .int .i64 o.wlo, .int .i64 o.whi] 33) = W := ⟨_, rfl⟩
  obtain ⟨e_o, b_o, s_o⟩ := boxed hW
  replace e_c := (b_o.block _ (Array.getElem?_eq_some_iff.1 e_c).1).trans e_c
  replace e_p := (b_o.block _ (Array.getElem?_eq_some_iff.1 e_p).1).trans e_p
  have B0 : Below w.heap.size w W := ((b_c.trans (b_p.mono (by omega))).trans (b_o.mono (by omega)))
  have z0_c := (Array.getElem?_eq_some_iff.1 e_c).1
  have z0_p := (Array.getElem?_eq_some_iff.1 e_p).1
  have z0_o := (Array.getElem?_eq_some_iff.1 e_o).1
  have le_c : w.heap.size ≤ w.heap.size := by omega
  have le_p : w.heap.size ≤ W1.heap.size := by omega
  have le_o : w.heap.size ≤ W2.heap.size := by omega
  clear s_c b_c s_p b_p s_o b_o
  obtain ⟨q0_c_0, q0_c_1, q0_c_2, q0_c_3, q0_c_4, q0_c_5, q0_c_6, q0_c_7, q0_c_8, q0_c_9, q0_c_10⟩ := rc11 e_c
  replace e_c := Lib.hid e_c
  obtain ⟨q0_p_0, q0_p_1, q0_p_2, q0_p_3⟩ := rc4 e_p
  replace e_p := Lib.hid e_p
  obtain ⟨q0_o_0, q0_o_1, q0_o_2, q0_o_3, q0_o_4, q0_o_5, q0_o_6, q0_o_7, q0_o_8, q0_o_9⟩ := rc10 e_o
  replace e_o := Lib.hid e_o
  have hgw0 := grow_cell W
  obtain ⟨x, gg, hpl, hx, hk, hob, htr⟩ := hkp
  have he := playErr_ok2 (c := c) (p := p) (l := [o]) (xa := [0]) (xb := [0]) (by simp) hc hp hob htr
  have kPl := Lib.hid (fun (w1 : World) (lv av bv : Value) (hl : OpsAt w1 lv [o]) (ha : IntsAt w1 av [0]) (hb : IntsAt w1 bv [0]) => progPlaySome w1 hl ha hb he hpl)
  have kKe := Lib.hid (fun w1 => refKeeps c x v w1 (Cav.ok_iff.1 hc) hx hv)
  rw [hk] at kKe
  clear hk hob htr he hpl hx hv
  replace hc := Lib.hid hc; replace hp := Lib.hid hp
  go_enter Try.func47, Try.ntmps47
  go_wp2_with (fail)
  clear q0_c_0 q0_c_1 q0_c_2 q0_c_3 q0_c_4 q0_c_5 q0_c_6 q0_c_7 q0_c_8 q0_c_9 q0_c_10 q0_p_0 q0_p_1 q0_p_2 q0_p_3 q0_o_0 q0_o_1 q0_o_2 q0_o_3 q0_o_4 q0_o_5 q0_o_6 q0_o_7 q0_o_8 q0_o_9
  clear hgw0
  have szo1 := B0.size
  have A_c : W.heap[w.heap.size]? = some (.cells #[.int .i64 c.vlo, .int .i64 c.vhi, .int .i64 c.least, .int .i64 c.most, .int .i64 c.f0, .int .i64 c.f1, .int .i64 c.h0, .int .i64 c.h1, .int .i64 c.rock, .int .i64 c.plo, .int .i64 c.phi] 26 (0, 0)) := e_c.out
  have A_p : W.heap[W1.heap.size]? = some (.cells #[.int .i64 p.g, .int .i64 p.y, .int .i64 p.t, .int .i64 p.w] 31 (0, 0)) := e_p.out
  have A_o : W.heap[W2.heap.size]? = some (.cells #[.int .i64 o.kind, .int .i64 o.lg, .int .i64 o.ly, .int .i64 o.lt, .int .i64 o.lw, .int .i64 o.moles, .int .i64 o.slo, .int .i64 o.shi, .int .i64 o.wlo, .int .i64 o.whi] 33 (0, 0)) := e_o.out
  obtain ⟨U1_ao, hU1_ao⟩ : ∃ Uw, W.alloc (.cells #[.int .i64 o.kind, .int .i64 o.lg, .int .i64 o.ly, .int .i64 o.lt, .int .i64 o.lw, .int .i64 o.moles, .int .i64 o.slo, .int .i64 o.shi, .int .i64 o.wlo, .int .i64 o.whi] 33) = Uw := ⟨_, rfl⟩
  obtain ⟨A_ao, b_ao, s_ao⟩ := boxed hU1_ao
  rw [hU1_ao]
  replace A_c := (b_ao.block _ (Array.getElem?_eq_some_iff.1 A_c).1).trans A_c
  replace A_p := (b_ao.block _ (Array.getElem?_eq_some_iff.1 A_p).1).trans A_p
  replace A_o := (b_ao.block _ (Array.getElem?_eq_some_iff.1 A_o).1).trans A_o
  obtain ⟨blk_ao, hb_ao⟩ : ∃ b, W.heap.size = b := ⟨_, rfl⟩
  rw [hb_ao] at A_ao
  try rw [hb_ao]
  obtain ⟨U1_ab, hU1_ab⟩ : ∃ Uw, U1_ao.alloc (.cells #[.int .i64 0] 3) = Uw := ⟨_, rfl⟩
  obtain ⟨A_ab, b_ab, s_ab⟩ := boxed hU1_ab
  rw [hU1_ab]
  replace A_c := (b_ab.block _ (Array.getElem?_eq_some_iff.1 A_c).1).trans A_c
  replace A_p := (b_ab.block _ (Array.getElem?_eq_some_iff.1 A_p).1).trans A_p
  replace A_o := (b_ab.block _ (Array.getElem?_eq_some_iff.1 A_o).1).trans A_o
  replace A_ao := (b_ab.block _ (Array.getElem?_eq_some_iff.1 A_ao).1).trans A_ao
  obtain ⟨blk_ab, hb_ab⟩ : ∃ b, U1_ao.heap.size = b := ⟨_, rfl⟩
  rw [hb_ab] at A_ab
  have hp_ab : blk_ao + 1 = blk_ab := by omega
  try rw [hp_ab]
  obtain ⟨U1_ac, hU1_ac⟩ : ∃ Uw, U1_ab.alloc (.cells #[.int .i64 0] 3) = Uw := ⟨_, rfl⟩
  obtain ⟨A_ac, b_ac, s_ac⟩ := boxed hU1_ac
  rw [hU1_ac]
  replace A_c := (b_ac.block _ (Array.getElem?_eq_some_iff.1 A_c).1).trans A_c
  replace A_p := (b_ac.block _ (Array.getElem?_eq_some_iff.1 A_p).1).trans A_p
  replace A_o := (b_ac.block _ (Array.getElem?_eq_some_iff.1 A_o).1).trans A_o
  replace A_ao := (b_ac.block _ (Array.getElem?_eq_some_iff.1 A_ao).1).trans A_ao
  replace A_ab := (b_ac.block _ (Array.getElem?_eq_some_iff.1 A_ab).1).trans A_ab
  obtain ⟨blk_ac, hb_ac⟩ : ∃ b, U1_ab.heap.size = b := ⟨_, rfl⟩
  rw [hb_ac] at A_ac
  have hp_ac : blk_ab + 1 = blk_ac := by omega
  try rw [hp_ac]
  have B1 : Below w.heap.size w U1_ac := (((B0.trans (b_ao.mono B0.size)).trans (b_ab.mono (B0.trans (b_ao.mono B0.size)).size)).trans (b_ac.mono ((B0.trans (b_ao.mono B0.size)).trans (b_ab.mono (B0.trans (b_ao.mono B0.size)).size)).size))
  have le_ao : w.heap.size ≤ blk_ao := by omega
  have le_ab : w.heap.size ≤ blk_ab := by omega
  have le_ac : w.heap.size ≤ blk_ac := by omega
  have z1_c := (Array.getElem?_eq_some_iff.1 A_c).1
  have z1_p := (Array.getElem?_eq_some_iff.1 A_p).1
  have z1_o := (Array.getElem?_eq_some_iff.1 A_o).1
  have z1_ao := (Array.getElem?_eq_some_iff.1 A_ao).1
  have z1_ab := (Array.getElem?_eq_some_iff.1 A_ab).1
  have z1_ac := (Array.getElem?_eq_some_iff.1 A_ac).1
  clear hb_ao b_ao s_ao hU1_ao hb_ab b_ab s_ab hU1_ab hb_ac b_ac s_ac hU1_ac hp_ab hp_ac
  obtain ⟨q1_c_0, q1_c_1, q1_c_2, q1_c_3, q1_c_4, q1_c_5, q1_c_6, q1_c_7, q1_c_8, q1_c_9, q1_c_10⟩ := rc11 A_c
  have R1_c := Lib.hid A_c
  clear A_c
  have R1_p := Lib.hid A_p
  clear A_p
  have R1_o := Lib.hid A_o
  clear A_o
  have R1_ao := Lib.hid A_ao
  clear A_ao
  have R1_ab := Lib.hid A_ab
  clear A_ab
  have R1_ac := Lib.hid A_ac
  clear A_ac
  have hgw1 := grow_cell U1_ac
  have kP := Lib.hid (kPl.out U1_ac _ _ _ (opsRow1 R1_ao.out) (intsRow1 R1_ab.out) (intsRow1 R1_ac.out))
  clear kPl
  go_wp2_with (first | (go_at_call 23; (with_reducible refine Calls.mono (kP.out) ?_); rintro e w1 ⟨rfl, hB⟩; (first | (obtain ⟨g, rfl⟩ := g.next hB) | (obtain ⟨g, rfl⟩ : ∃ g : Grow U1_ac, w1 = g.x := ⟨⟨w1, hB⟩, rfl⟩)); clear hB; have hld : ∀ (b o : Nat), b < U1_ac.heap.size → ((g.x.alloc (.cells #[.int .i64 x.g, .int .i64 x.y, .int .i64 x.t, .int .i64 x.w] 31)).alloc (.cells #[.int .i64 gg.g, .int .i64 gg.y, .int .i64 gg.t, .int .i64 gg.w] 31)).cell? ⟨b, o, none⟩ = U1_ac.cell? ⟨b, o, none⟩ := below_cell ((g.h.alloc g.size (.cells #[.int .i64 x.g, .int .i64 x.y, .int .i64 x.t, .int .i64 x.w] 31)).alloc (g.h.alloc g.size (.cells #[.int .i64 x.g, .int .i64 x.y, .int .i64 x.t, .int .i64 x.w] 31)).size (.cells #[.int .i64 gg.g, .int .i64 gg.y, .int .i64 gg.t, .int .i64 gg.w] 31))))
  clear hld
  clear q1_c_0 q1_c_1 q1_c_2 q1_c_3 q1_c_4 q1_c_5 q1_c_6 q1_c_7 q1_c_8 q1_c_9 q1_c_10
  clear hgw1
  have szo2 := B1.size
  have gz2 := g.size
  have A_c : g.x.heap[w.heap.size]? = some (.cells #[.int .i64 c.vlo, .int .i64 c.vhi, .int .i64 c.least, .int .i64 c.most, .int .i64 c.f0, .int .i64 c.f1, .int .i64 c.h0, .int .i64 c.h1, .int .i64 c.rock, .int .i64 c.plo, .int .i64 c.phi] 26 (0, 0)) := (g.h.block _ z1_c).trans R1_c.out
  have A_p : g.x.heap[W1.heap.size]? = some (.cells #[.int .i64 p.g, .int .i64 p.y, .int .i64 p.t, .int .i64 p.w] 31 (0, 0)) := (g.h.block _ z1_p).trans R1_p.out
  have A_o : g.x.heap[W2.heap.size]? = some (.cells #[.int .i64 o.kind, .int .i64 o.lg, .int .i64 o.ly, .int .i64 o.lt, .int .i64 o.lw, .int .i64 o.moles, .int .i64 o.slo, .int .i64 o.shi, .int .i64 o.wlo, .int .i64 o.whi] 33 (0, 0)) := (g.h.block _ z1_o).trans R1_o.out
  have A_ao : g.x.heap[blk_ao]? = some (.cells #[.int .i64 o.kind, .int .i64 o.lg, .int .i64 o.ly, .int .i64 o.lt, .int .i64 o.lw, .int .i64 o.moles, .int .i64 o.slo, .int .i64 o.shi, .int .i64 o.wlo, .int .i64 o.whi] 33 (0, 0)) := (g.h.block _ z1_ao).trans R1_ao.out
  have A_ab : g.x.heap[blk_ab]? = some (.cells #[.int .i64 0] 3 (0, 0)) := (g.h.block _ z1_ab).trans R1_ab.out
  have A_ac : g.x.heap[blk_ac]? = some (.cells #[.int .i64 0] 3 (0, 0)) := (g.h.block _ z1_ac).trans R1_ac.out
  obtain ⟨U2_x, hU2_x⟩ : ∃ Uw, g.x.alloc (.cells #[.int .i64 x.g, .int .i64 x.y, .int .i64 x.t, .int .i64 x.w] 31) = Uw := ⟨_, rfl⟩
  obtain ⟨A_x, b_x, s_x⟩ := boxed hU2_x
  rw [hU2_x]
  replace A_c := (b_x.block _ (Array.getElem?_eq_some_iff.1 A_c).1).trans A_c
  replace A_p := (b_x.block _ (Array.getElem?_eq_some_iff.1 A_p).1).trans A_p
  replace A_o := (b_x.block _ (Array.getElem?_eq_some_iff.1 A_o).1).trans A_o
  replace A_ao := (b_x.block _ (Array.getElem?_eq_some_iff.1 A_ao).1).trans A_ao
  replace A_ab := (b_x.block _ (Array.getElem?_eq_some_iff.1 A_ab).1).trans A_ab
  replace A_ac := (b_x.block _ (Array.getElem?_eq_some_iff.1 A_ac).1).trans A_ac
  obtain ⟨blk_x, hb_x⟩ : ∃ b, g.x.heap.size = b := ⟨_, rfl⟩
  rw [hb_x] at A_x
  try rw [hb_x]
  obtain ⟨U2_u, hU2_u⟩ : ∃ Uw, U2_x.alloc (.cells #[.int .i64 gg.g, .int .i64 gg.y, .int .i64 gg.t, .int .i64 gg.w] 31) = Uw := ⟨_, rfl⟩
  obtain ⟨A_u, b_u, s_u⟩ := boxed hU2_u
  rw [hU2_u]
  replace A_c := (b_u.block _ (Array.getElem?_eq_some_iff.1 A_c).1).trans A_c
  replace A_p := (b_u.block _ (Array.getElem?_eq_some_iff.1 A_p).1).trans A_p
  replace A_o := (b_u.block _ (Array.getElem?_eq_some_iff.1 A_o).1).trans A_o
  replace A_ao := (b_u.block _ (Array.getElem?_eq_some_iff.1 A_ao).1).trans A_ao
  replace A_ab := (b_u.block _ (Array.getElem?_eq_some_iff.1 A_ab).1).trans A_ab
  replace A_ac := (b_u.block _ (Array.getElem?_eq_some_iff.1 A_ac).1).trans A_ac
  replace A_x := (b_u.block _ (Array.getElem?_eq_some_iff.1 A_x).1).trans A_x
  obtain ⟨blk_u, hb_u⟩ : ∃ b, U2_x.heap.size = b := ⟨_, rfl⟩
  rw [hb_u] at A_u
  have hp_u : blk_x + 1 = blk_u := by omega
  try rw [hp_u]
  have B2 : Below w.heap.size w U2_u := (((B1.trans (g.h.mono B1.size)).trans (b_x.mono (B1.trans (g.h.mono B1.size)).size)).trans (b_u.mono ((B1.trans (g.h.mono B1.size)).trans (b_x.mono (B1.trans (g.h.mono B1.size)).size)).size))
  have le_x : w.heap.size ≤ blk_x := by omega
  have le_u : w.heap.size ≤ blk_u := by omega
  have z2_c := (Array.getElem?_eq_some_iff.1 A_c).1
  have z2_p := (Array.getElem?_eq_some_iff.1 A_p).1
  have z2_o := (Array.getElem?_eq_some_iff.1 A_o).1
  have z2_ao := (Array.getElem?_eq_some_iff.1 A_ao).1
  have z2_ab := (Array.getElem?_eq_some_iff.1 A_ab).1
  have z2_ac := (Array.getElem?_eq_some_iff.1 A_ac).1
  have z2_x := (Array.getElem?_eq_some_iff.1 A_x).1
  have z2_u := (Array.getElem?_eq_some_iff.1 A_u).1
  clear hb_x b_x s_x hU2_x hb_u b_u s_u hU2_u hp_u
  obtain ⟨q2_c_0, q2_c_1, q2_c_2, q2_c_3, q2_c_4, q2_c_5, q2_c_6, q2_c_7, q2_c_8, q2_c_9, q2_c_10⟩ := rc11 A_c
  have R2_c := Lib.hid A_c
  clear A_c
  have R2_p := Lib.hid A_p
  clear A_p
  have R2_o := Lib.hid A_o
  clear A_o
  have R2_ao := Lib.hid A_ao
  clear A_ao
  have R2_ab := Lib.hid A_ab
  clear A_ab
  have R2_ac := Lib.hid A_ac
  clear A_ac
  obtain ⟨q2_x_0, q2_x_1, q2_x_2, q2_x_3⟩ := rc4 A_x
  have R2_x := Lib.hid A_x
  clear A_x
  have R2_u := Lib.hid A_u
  clear A_u
  have hgw2 := grow_cell U2_u
  go_wp2_with (first | (go_at_call 37; (with_reducible refine Calls.mono (kKe.out _) ?_); rintro e w1 ⟨rfl, hB⟩; (first | (obtain ⟨g, rfl⟩ := g.next hB) | (obtain ⟨g, rfl⟩ : ∃ g : Grow U2_u, w1 = g.x := ⟨⟨w1, hB⟩, rfl⟩)); clear hB))
  go_ret
  exact ⟨rfl, B2.trans (g.h.mono B2.size)⟩

set_option maxRecDepth 100000 in
set_option maxHeartbeats 8000000 in
theorem lawFine1 (c : Cav) (s : St) (o : Gas.Op) (w : World) (ho : o.ok = false) : Calls Try.prog 49 #[cavV c, stV s, opV o] w fun e w' => e = .returned (.bool false) ∧ Below w.heap.size w w' := by
  obtain ⟨W1, hW1⟩ : ∃ W1, w.alloc (.cells #[.int .i64 c.vlo, .int .i64 c.vhi, .int .i64 c.least, .int .i64 c.most, .int .i64 c.f0, .int .i64 c.f1, .int .i64 c.h0, .int .i64 c.h1, .int .i64 c.rock, .int .i64 c.plo, .int .i64 c.phi] 26) = W1 := ⟨_, rfl⟩
  obtain ⟨e_c, b_c, s_c⟩ := boxed hW1
  obtain ⟨W2, hW2⟩ : ∃ W2, W1.alloc (.cells #[.int .i64 s.glo, .int .i64 s.ghi, .int .i64 s.ylo, .int .i64 s.yhi, .int .i64 s.tlo, .int .i64 s.thi, .int .i64 s.wlo, .int .i64 s.whi] 28) = W2 := ⟨_, rfl⟩
  obtain ⟨e_s, b_s, s_s⟩ := boxed hW2
  replace e_c := (b_s.block _ (Array.getElem?_eq_some_iff.1 e_c).1).trans e_c
  obtain ⟨W, hW⟩ : ∃ W, W2.alloc (.cells #[.int .i64 o.kind, .int .i64 o.lg, .int .i64 o.ly, .int .i64 o.lt, .int .i64 o.lw, .int .i64 o.moles, .int .i64 o.slo, .int .i64 o.shi, .int .i64 o.wlo, .int .i64 o.whi] 33) = W := ⟨_, rfl⟩
  obtain ⟨e_o, b_o, s_o⟩ := boxed hW
  replace e_c := (b_o.block _ (Array.getElem?_eq_some_iff.1 e_c).1).trans e_c
  replace e_s := (b_o.block _ (Array.getElem?_eq_some_iff.1 e_s).1).trans e_s
  have B0 : Below w.heap.size w W := ((b_c.trans (b_s.mono (by omega))).trans (b_o.mono (by omega)))
  have z0_c := (Array.getElem?_eq_some_iff.1 e_c).1
  have z0_s := (Array.getElem?_eq_some_iff.1 e_s).1
  have z0_o := (Array.getElem?_eq_some_iff.1 e_o).1
  have le_c : w.heap.size ≤ w.heap.size := by omega
  have le_s : w.heap.size ≤ W1.heap.size := by omega
  have le_o : w.heap.size ≤ W2.heap.size := by omega
  clear s_c b_c s_s b_s s_o b_o
  obtain ⟨q0_c_0, q0_c_1, q0_c_2, q0_c_3, q0_c_4, q0_c_5, q0_c_6, q0_c_7, q0_c_8, q0_c_9, q0_c_10⟩ := rc11 e_c
  replace e_c := Lib.hid e_c
  obtain ⟨q0_s_0, q0_s_1, q0_s_2, q0_s_3, q0_s_4, q0_s_5, q0_s_6, q0_s_7⟩ := rc8 e_s
  replace e_s := Lib.hid e_s
  obtain ⟨q0_o_0, q0_o_1, q0_o_2, q0_o_3, q0_o_4, q0_o_5, q0_o_6, q0_o_7, q0_o_8, q0_o_9⟩ := rc10 e_o
  replace e_o := Lib.hid e_o
  have hgw0 := grow_cell W
  have hbad : (c.ok && s.ok && o.ok) = false := by simp [ho]
  have kD := Lib.hid (fun w => progDoBad (c := c) (s := s) (o := o) w hbad)
  clear hbad
  replace ho := Lib.hid ho
  go_enter Try.func49, Try.ntmps49
  go_wp2_with (first | (go_at_call 16; (with_reducible refine Calls.mono (kD.out _) ?_); rintro e w1 ⟨rfl, hB⟩; (first | (obtain ⟨g, rfl⟩ := g.next hB) | (obtain ⟨g, rfl⟩ : ∃ g : Grow W, w1 = g.x := ⟨⟨w1, hB⟩, rfl⟩)); clear hB; have hld : ∀ (b o : Nat), b < W.heap.size → ((g.x.alloc (.cells #[.int .i64 0, .int .i64 0, .int .i64 0, .int .i64 0, .int .i64 0, .int .i64 0, .int .i64 0, .int .i64 0] 28)).alloc (.cells #[.int .i64 0, .int .i64 0, .int .i64 0, .int .i64 0, .int .i64 0, .int .i64 0] 35)).cell? ⟨b, o, none⟩ = W.cell? ⟨b, o, none⟩ := below_cell ((g.h.alloc g.size (.cells #[.int .i64 0, .int .i64 0, .int .i64 0, .int .i64 0, .int .i64 0, .int .i64 0, .int .i64 0, .int .i64 0] 28)).alloc (g.h.alloc g.size (.cells #[.int .i64 0, .int .i64 0, .int .i64 0, .int .i64 0, .int .i64 0, .int .i64 0, .int .i64 0, .int .i64 0] 28)).size (.cells #[.int .i64 0, .int .i64 0, .int .i64 0, .int .i64 0, .int .i64 0, .int .i64 0] 35))))
  have hfin : Below w.heap.size w g.x := B0.trans (g.h.mono B0.size)
  go_ret
  exact ⟨rfl, (hfin.alloc hfin.size _).alloc (hfin.alloc hfin.size _).size _⟩

set_option maxRecDepth 100000 in
set_option maxHeartbeats 8000000 in
theorem lawFine2 (c : Cav) (s : St) (o : Gas.Op) (w : World) (hc : c.ok = true) (hs : s.ok = true) (ho : o.ok = true) (ha : act c s o = none) : Calls Try.prog 49 #[cavV c, stV s, opV o] w fun e w' => e = .returned (.bool false) ∧ Below w.heap.size w w' := by
  obtain ⟨W1, hW1⟩ : ∃ W1, w.alloc (.cells #[.int .i64 c.vlo, .int .i64 c.vhi, .int .i64 c.least, .int .i64 c.most, .int .i64 c.f0, .int .i64 c.f1, .int .i64 c.h0, .int .i64 c.h1, .int .i64 c.rock, .int .i64 c.plo, .int .i64 c.phi] 26) = W1 := ⟨_, rfl⟩
  obtain ⟨e_c, b_c, s_c⟩ := boxed hW1
  obtain ⟨W2, hW2⟩ : ∃ W2, W1.alloc (.cells #[.int .i64 s.glo, .int .i64 s.ghi, .int .i64 s.ylo, .int .i64 s.yhi, .int .i64 s.tlo, .int .i64 s.thi, .int .i64 s.wlo, .int .i64 s.whi] 28) = W2 := ⟨_, rfl⟩
  obtain ⟨e_s, b_s, s_s⟩ := boxed hW2
  replace e_c := (b_s.block _ (Array.getElem?_eq_some_iff.1 e_c).1).trans e_c
  obtain ⟨W, hW⟩ : ∃ W, W2.alloc (.cells #[.int .i64 o.kind, .int .i64 o.lg, .int .i64 o.ly, .int .i64 o.lt, .int .i64 o.lw, .int .i64 o.moles, .int .i64 o.slo, .int .i64 o.shi, .int .i64 o.wlo, .int .i64 o.whi] 33) = W := ⟨_, rfl⟩
  obtain ⟨e_o, b_o, s_o⟩ := boxed hW
  replace e_c := (b_o.block _ (Array.getElem?_eq_some_iff.1 e_c).1).trans e_c
  replace e_s := (b_o.block _ (Array.getElem?_eq_some_iff.1 e_s).1).trans e_s
  have B0 : Below w.heap.size w W := ((b_c.trans (b_s.mono (by omega))).trans (b_o.mono (by omega)))
  have z0_c := (Array.getElem?_eq_some_iff.1 e_c).1
  have z0_s := (Array.getElem?_eq_some_iff.1 e_s).1
  have z0_o := (Array.getElem?_eq_some_iff.1 e_o).1
  have le_c : w.heap.size ≤ w.heap.size := by omega
  have le_s : w.heap.size ≤ W1.heap.size := by omega
  have le_o : w.heap.size ≤ W2.heap.size := by omega
  clear s_c b_c s_s b_s s_o b_o
  obtain ⟨q0_c_0, q0_c_1, q0_c_2, q0_c_3, q0_c_4, q0_c_5, q0_c_6, q0_c_7, q0_c_8, q0_c_9, q0_c_10⟩ := rc11 e_c
  replace e_c := Lib.hid e_c
  obtain ⟨q0_s_0, q0_s_1, q0_s_2, q0_s_3, q0_s_4, q0_s_5, q0_s_6, q0_s_7⟩ := rc8 e_s
  replace e_s := Lib.hid e_s
  obtain ⟨q0_o_0, q0_o_1, q0_o_2, q0_o_3, q0_o_4, q0_o_5, q0_o_6, q0_o_7, q0_o_8, q0_o_9⟩ := rc10 e_o
  replace e_o := Lib.hid e_o
  have hgw0 := grow_cell W
  have kD := Lib.hid (fun w => progDoNone (c := c) (s := s) (o := o) w hc hs ho ha)
  replace ho := Lib.hid ho
  go_enter Try.func49, Try.ntmps49
  go_wp2_with (first | (go_at_call 16; (with_reducible refine Calls.mono (kD.out _) ?_); rintro e w1 ⟨rfl, hB⟩; (first | (obtain ⟨g, rfl⟩ := g.next hB) | (obtain ⟨g, rfl⟩ : ∃ g : Grow W, w1 = g.x := ⟨⟨w1, hB⟩, rfl⟩)); clear hB; have hld : ∀ (b o : Nat), b < W.heap.size → ((g.x.alloc (.cells #[.int .i64 0, .int .i64 0, .int .i64 0, .int .i64 0, .int .i64 0, .int .i64 0, .int .i64 0, .int .i64 0] 28)).alloc (.cells #[.int .i64 0, .int .i64 0, .int .i64 0, .int .i64 0, .int .i64 0, .int .i64 0] 35)).cell? ⟨b, o, none⟩ = W.cell? ⟨b, o, none⟩ := below_cell ((g.h.alloc g.size (.cells #[.int .i64 0, .int .i64 0, .int .i64 0, .int .i64 0, .int .i64 0, .int .i64 0, .int .i64 0, .int .i64 0] 28)).alloc (g.h.alloc g.size (.cells #[.int .i64 0, .int .i64 0, .int .i64 0, .int .i64 0, .int .i64 0, .int .i64 0, .int .i64 0, .int .i64 0] 28)).size (.cells #[.int .i64 0, .int .i64 0, .int .i64 0, .int .i64 0, .int .i64 0, .int .i64 0] 35))))
  have hfin : Below w.heap.size w g.x := B0.trans (g.h.mono B0.size)
  go_ret
  exact ⟨rfl, (hfin.alloc hfin.size _).alloc (hfin.alloc hfin.size _).size _⟩

set_option maxRecDepth 100000 in
set_option maxHeartbeats 8000000 in
theorem lawFine3 (c : Cav) (s : St) (o : Gas.Op) (w : World) (hc : c.ok = true) (hs : s.ok = true) (ho : o.ok = true) {n : St} {q : Out} (ha : act c s o = some (n, q)) (hsu : ¬ sure c n = 1) : Calls Try.prog 49 #[cavV c, stV s, opV o] w fun e w' => e = .returned (.bool false) ∧ Below w.heap.size w w' := by
  obtain ⟨W1, hW1⟩ : ∃ W1, w.alloc (.cells #[.int .i64 c.vlo, .int .i64 c.vhi, .int .i64 c.least, .int .i64 c.most, .int .i64 c.f0, .int .i64 c.f1, .int .i64 c.h0, .int .i64 c.h1, .int .i64 c.rock, .int .i64 c.plo, .int .i64 c.phi] 26) = W1 := ⟨_, rfl⟩
  obtain ⟨e_c, b_c, s_c⟩ := boxed hW1
  obtain ⟨W2, hW2⟩ : ∃ W2, W1.alloc (.cells #[.int .i64 s.glo, .int .i64 s.ghi, .int .i64 s.ylo, .int .i64 s.yhi, .int .i64 s.tlo, .int .i64 s.thi, .int .i64 s.wlo, .int .i64 s.whi] 28) = W2 := ⟨_, rfl⟩
  obtain ⟨e_s, b_s, s_s⟩ := boxed hW2
  replace e_c := (b_s.block _ (Array.getElem?_eq_some_iff.1 e_c).1).trans e_c
  obtain ⟨W, hW⟩ : ∃ W, W2.alloc (.cells #[.int .i64 o.kind, .int .i64 o.lg, .int .i64 o.ly, .int .i64 o.lt, .int .i64 o.lw, .int .i64 o.moles, .int .i64 o.slo, .int .i64 o.shi, .int .i64 o.wlo, .int .i64 o.whi] 33) = W := ⟨_, rfl⟩
  obtain ⟨e_o, b_o, s_o⟩ := boxed hW
  replace e_c := (b_o.block _ (Array.getElem?_eq_some_iff.1 e_c).1).trans e_c
  replace e_s := (b_o.block _ (Array.getElem?_eq_some_iff.1 e_s).1).trans e_s
  have B0 : Below w.heap.size w W := ((b_c.trans (b_s.mono (by omega))).trans (b_o.mono (by omega)))
  have z0_c := (Array.getElem?_eq_some_iff.1 e_c).1
  have z0_s := (Array.getElem?_eq_some_iff.1 e_s).1
  have z0_o := (Array.getElem?_eq_some_iff.1 e_o).1
  have le_c : w.heap.size ≤ w.heap.size := by omega
  have le_s : w.heap.size ≤ W1.heap.size := by omega
  have le_o : w.heap.size ≤ W2.heap.size := by omega
  clear s_c b_c s_s b_s s_o b_o
  obtain ⟨q0_c_0, q0_c_1, q0_c_2, q0_c_3, q0_c_4, q0_c_5, q0_c_6, q0_c_7, q0_c_8, q0_c_9, q0_c_10⟩ := rc11 e_c
  replace e_c := Lib.hid e_c
  obtain ⟨q0_s_0, q0_s_1, q0_s_2, q0_s_3, q0_s_4, q0_s_5, q0_s_6, q0_s_7⟩ := rc8 e_s
  replace e_s := Lib.hid e_s
  obtain ⟨q0_o_0, q0_o_1, q0_o_2, q0_o_3, q0_o_4, q0_o_5, q0_o_6, q0_o_7, q0_o_8, q0_o_9⟩ := rc10 e_o
  replace e_o := Lib.hid e_o
  have hgw0 := grow_cell W
  have kD := Lib.hid (fun w => progDoSome (c := c) (s := s) (o := o) w hc hs ho ha)
  have hn := St.ok_iff.2 (act_ok (Cav.ok_iff.1 hc) (St.ok_iff.1 hs) (Op.ok_is ho) ha)
  have kS := Lib.hid (fun w => progSureOk w hc hn)
  generalize sure c n = su at *
  have hsb : (su == 1) = false := by simpa using hsu
  replace ha := Lib.hid ha; replace hn := Lib.hid hn; replace hc := Lib.hid hc; replace hs := Lib.hid hs
  replace ho := Lib.hid ho
  go_enter Try.func49, Try.ntmps49
  go_wp2_with (first | (go_at_call 16; (with_reducible refine Calls.mono (kD.out _) ?_); rintro e w1 ⟨rfl, hB⟩; (first | (obtain ⟨g, rfl⟩ := g.next hB) | (obtain ⟨g, rfl⟩ : ∃ g : Grow W, w1 = g.x := ⟨⟨w1, hB⟩, rfl⟩)); clear hB; have hld : ∀ (b o : Nat), b < W.heap.size → ((g.x.alloc (.cells #[.int .i64 n.glo, .int .i64 n.ghi, .int .i64 n.ylo, .int .i64 n.yhi, .int .i64 n.tlo, .int .i64 n.thi, .int .i64 n.wlo, .int .i64 n.whi] 28)).alloc (.cells #[.int .i64 q.glo, .int .i64 q.ghi, .int .i64 q.ylo, .int .i64 q.yhi, .int .i64 q.wlo, .int .i64 q.whi] 35)).cell? ⟨b, o, none⟩ = W.cell? ⟨b, o, none⟩ := below_cell ((g.h.alloc g.size (.cells #[.int .i64 n.glo, .int .i64 n.ghi, .int .i64 n.ylo, .int .i64 n.yhi, .int .i64 n.tlo, .int .i64 n.thi, .int .i64 n.wlo, .int .i64 n.whi] 28)).alloc (g.h.alloc g.size (.cells #[.int .i64 n.glo, .int .i64 n.ghi, .int .i64 n.ylo, .int .i64 n.yhi, .int .i64 n.tlo, .int .i64 n.thi, .int .i64 n.wlo, .int .i64 n.whi] 28)).size (.cells #[.int .i64 q.glo, .int .i64 q.ghi, .int .i64 q.ylo, .int .i64 q.yhi, .int .i64 q.wlo, .int .i64 q.whi] 35))))
  clear hld
  clear q0_c_0 q0_c_1 q0_c_2 q0_c_3 q0_c_4 q0_c_5 q0_c_6 q0_c_7 q0_c_8 q0_c_9 q0_c_10 q0_s_0 q0_s_1 q0_s_2 q0_s_3 q0_s_4 q0_s_5 q0_s_6 q0_s_7 q0_o_0 q0_o_1 q0_o_2 q0_o_3 q0_o_4 q0_o_5 q0_o_6 q0_o_7 q0_o_8 q0_o_9
  clear hgw0
  have szo1 := B0.size
  have gz1 := g.size
  have A_c : g.x.heap[w.heap.size]? = some (.cells #[.int .i64 c.vlo, .int .i64 c.vhi, .int .i64 c.least, .int .i64 c.most, .int .i64 c.f0, .int .i64 c.f1, .int .i64 c.h0, .int .i64 c.h1, .int .i64 c.rock, .int .i64 c.plo, .int .i64 c.phi] 26 (0, 0)) := (g.h.block _ z0_c).trans e_c.out
  have A_s : g.x.heap[W1.heap.size]? = some (.cells #[.int .i64 s.glo, .int .i64 s.ghi, .int .i64 s.ylo, .int .i64 s.yhi, .int .i64 s.tlo, .int .i64 s.thi, .int .i64 s.wlo, .int .i64 s.whi] 28 (0, 0)) := (g.h.block _ z0_s).trans e_s.out
  have A_o : g.x.heap[W2.heap.size]? = some (.cells #[.int .i64 o.kind, .int .i64 o.lg, .int .i64 o.ly, .int .i64 o.lt, .int .i64 o.lw, .int .i64 o.moles, .int .i64 o.slo, .int .i64 o.shi, .int .i64 o.wlo, .int .i64 o.whi] 33 (0, 0)) := (g.h.block _ z0_o).trans e_o.out
  obtain ⟨U1_x, hU1_x⟩ : ∃ Uw, g.x.alloc (.cells #[.int .i64 n.glo, .int .i64 n.ghi, .int .i64 n.ylo, .int .i64 n.yhi, .int .i64 n.tlo, .int .i64 n.thi, .int .i64 n.wlo, .int .i64 n.whi] 28) = Uw := ⟨_, rfl⟩
  obtain ⟨A_x, b_x, s_x⟩ := boxed hU1_x
  rw [hU1_x]
  replace A_c := (b_x.block _ (Array.getElem?_eq_some_iff.1 A_c).1).trans A_c
  replace A_s := (b_x.block _ (Array.getElem?_eq_some_iff.1 A_s).1).trans A_s
  replace A_o := (b_x.block _ (Array.getElem?_eq_some_iff.1 A_o).1).trans A_o
  obtain ⟨blk_x, hb_x⟩ : ∃ b, g.x.heap.size = b := ⟨_, rfl⟩
  rw [hb_x] at A_x
  try rw [hb_x]
  obtain ⟨U1_u, hU1_u⟩ : ∃ Uw, U1_x.alloc (.cells #[.int .i64 q.glo, .int .i64 q.ghi, .int .i64 q.ylo, .int .i64 q.yhi, .int .i64 q.wlo, .int .i64 q.whi] 35) = Uw := ⟨_, rfl⟩
  obtain ⟨A_u, b_u, s_u⟩ := boxed hU1_u
  rw [hU1_u]
  replace A_c := (b_u.block _ (Array.getElem?_eq_some_iff.1 A_c).1).trans A_c
  replace A_s := (b_u.block _ (Array.getElem?_eq_some_iff.1 A_s).1).trans A_s
  replace A_o := (b_u.block _ (Array.getElem?_eq_some_iff.1 A_o).1).trans A_o
  replace A_x := (b_u.block _ (Array.getElem?_eq_some_iff.1 A_x).1).trans A_x
  obtain ⟨blk_u, hb_u⟩ : ∃ b, U1_x.heap.size = b := ⟨_, rfl⟩
  rw [hb_u] at A_u
  have hp_u : blk_x + 1 = blk_u := by omega
  try rw [hp_u]
  have B1 : Below w.heap.size w U1_u := (((B0.trans (g.h.mono B0.size)).trans (b_x.mono (B0.trans (g.h.mono B0.size)).size)).trans (b_u.mono ((B0.trans (g.h.mono B0.size)).trans (b_x.mono (B0.trans (g.h.mono B0.size)).size)).size))
  have le_x : w.heap.size ≤ blk_x := by omega
  have le_u : w.heap.size ≤ blk_u := by omega
  have z1_c := (Array.getElem?_eq_some_iff.1 A_c).1
  have z1_s := (Array.getElem?_eq_some_iff.1 A_s).1
  have z1_o := (Array.getElem?_eq_some_iff.1 A_o).1
  have z1_x := (Array.getElem?_eq_some_iff.1 A_x).1
  have z1_u := (Array.getElem?_eq_some_iff.1 A_u).1
  clear hb_x b_x s_x hU1_x hb_u b_u s_u hU1_u hp_u
  obtain ⟨q1_c_0, q1_c_1, q1_c_2, q1_c_3, q1_c_4, q1_c_5, q1_c_6, q1_c_7, q1_c_8, q1_c_9, q1_c_10⟩ := rc11 A_c
  have R1_c := Lib.hid A_c
  clear A_c
  have R1_s := Lib.hid A_s
  clear A_s
  have R1_o := Lib.hid A_o
  clear A_o
  obtain ⟨q1_x_0, q1_x_1, q1_x_2, q1_x_3, q1_x_4, q1_x_5, q1_x_6, q1_x_7⟩ := rc8 A_x
  have R1_x := Lib.hid A_x
  clear A_x
  have R1_u := Lib.hid A_u
  clear A_u
  have hgw1 := grow_cell U1_u
  go_wp2_with (first | (go_at_call 36; (with_reducible refine Calls.mono (kS.out _) ?_); rintro e w1 ⟨rfl, hB⟩; (first | (obtain ⟨g, rfl⟩ := g.next hB) | (obtain ⟨g, rfl⟩ : ∃ g : Grow U1_u, w1 = g.x := ⟨⟨w1, hB⟩, rfl⟩)); clear hB))
  go_ret
  exact ⟨rfl, B1.trans (g.h.mono B1.size)⟩

theorem lawFine (c : Cav) (s : St) (o : Gas.Op) (w : World) (hc : c.ok = true) (hs : s.ok = true) (h : fineOp c s o = false) : Calls Try.prog 49 #[cavV c, stV s, opV o] w fun e w' => e = .returned (.bool false) ∧ Below w.heap.size w w' := by
  cases ho : o.ok
  · exact lawFine1 c s o w ho
  cases ha : act c s o with
  | none => exact lawFine2 c s o w hc hs ho ha
  | some r =>
    obtain ⟨n, q⟩ := r
    refine lawFine3 c s o w hc hs ho ha fun hsu => ?_
    unfold fineOp at h
    rw [ha] at h
    exact of_decide_eq_false h hsu
end Go.Proofs.Ytgmbolagciaenaa
