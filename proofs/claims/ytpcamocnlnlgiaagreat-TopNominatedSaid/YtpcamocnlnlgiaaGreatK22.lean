/- Laws and walks: We9, Wea, GExc, GPr2. -/
import Derived.Test.YtpcamocnlnlgiaaGreatK21
set_option maxRecDepth 100000
set_option maxHeartbeats 16000000
set_option linter.unusedVariables false
set_option linter.unusedSimpArgs false
namespace Go.Proofs.YtpcamocnlnlgiaaGreat.B
open Go.RowKit Go.Sd Wl L
attribute [local go_sem] Oper.semAt_some
abbrev weV (pv : Value) (we : We) : Value := .agg #[.int .i64 we.rooms, .int .i64 we.need, pv]
theorem inLit {a b c : Int} {t : Bool} (h : Wl.inB a b c = t) (w : World) : Calls Tryz.prog 94 #[.int .i64 a, .int .i64 b, .int .i64 c] w fun e w' => e = .returned (.bool t) ∧ w = w' :=
 (wellIn a b c w).mono fun e w' ⟨t', he, ht, hw⟩ => ⟨by rw [he, ← ht.out, h], hw⟩
theorem row3 {w : World} {n : Nat} {a0 a1 a2 : Value} {e : TypeId} (h : w.heap[n]? = some (.cells #[a0, a1, a2] e (0, 0))) : w.cell? ⟨n, 0, none⟩ = some a0 ∧ w.cell? ⟨n, 1, none⟩ = some a1 ∧ w.cell? ⟨n, 2, none⟩ = some a2 := by
 have r := (row_cells h).2.1
 exact ⟨r 0, r 1, r 2⟩
theorem progArm (p : Pa) (rooms : Int) (a1 a2 : Value) (wb : Nat) (t : TypeId) (X : World) (hr : -1000 ≤ rooms ∧ rooms ≤ 1000) (hc : X.heap[wb]? = some (.cells #[.int .i64 rooms, a1, a2] t (0, 0))) :
    Calls Tryz.prog 119 #[paV p, .pointer (some ⟨wb, 0, none⟩)] X fun e X' => e = .returned (.bool (!paB rooms p)) ∧ Below X.heap.size X X' := by
 obtain ⟨W, hW⟩ : ∃ W, X.alloc (paO p) = W := ⟨_, rfl⟩
 obtain ⟨e, bW, z⟩ := boxedB hW
 obtain ⟨c0, c1, c2, c3, c4, c5, c6, c7, c8⟩ := row9 e
 have hcW := kept_block bW hc
 obtain ⟨d0, -, -⟩ := row3 hcW
 have zb := (zqo hcW)
 have kP := Lib.hid (progPart p rooms W hr)
 have hbh := Lib.hid bW
 clear e hr hc hcW bW
 go_enter Tryz.func119, Tryz.ntmps119
 go_wp2_with (go_at_call 120; (with_reducible refine Calls.mono kP.out ?_); rintro e w' ⟨t, rfl, ht, hB⟩)
 all_goals
  go_ret
  exact ⟨by rw [ht.out]; first | rfl | simp, below_tr hbh.out hB⟩
theorem progWell (we : We) (pv : Value) (w : World) (hp : PasAt w pv we.parts) : Calls Tryz.prog 93 #[weV pv we] w (BoolB we.ok w) := by
 obtain ⟨W, hW⟩ : ∃ W, w.alloc (.cells #[.int .i64 we.rooms, .int .i64 we.need, pv] 90) = W := ⟨_, rfl⟩
 obtain ⟨e, bW, z⟩ := boxedB hW
 obtain ⟨c0, c1, c2⟩ := row3 e
 have hpW := hp.mono bW
 obtain ⟨pa, pcap, rfl, hpm, -⟩ := hp
 obtain ⟨b1, h1⟩ : ∃ b, inB we.rooms 2 8 = b := ⟨_, rfl⟩
 obtain ⟨b2, h2⟩ : ∃ b, inB we.need 0 12 = b := ⟨_, rfl⟩
 obtain ⟨b3, h3⟩ : ∃ b, inB we.parts.length 1 12 = b := ⟨_, rfl⟩
 have k1 := Lib.hid (inLit h1 W)
 have k2 := Lib.hid (inLit h2 W)
 have k3 := Lib.hid (inLit h3 W)
 have kC : Hid (b1 = true → Calls Tryz.prog 118 #[.slice pa we.parts.length pcap, .func (.func 119) #[] #[.pointer (some ⟨w.heap.size, 0, none⟩)]] W (BoolB (we.parts.any fun p => !paB we.rooms p) W)) :=
  Lib.hid fun hb => containsPas _ we.parts (fun p => !paB we.rooms p) 119 #[.pointer (some ⟨w.heap.size, 0, none⟩)] W hpW (fun args w => by kernel_rfl) fun d _ X hX => progArm d we.rooms _ _ _ _ X (by rw [hb, inB_iff] at h1; omega) (kept_block hX e)
 have h1h := Lib.hid h1
 have h2h := Lib.hid h2
 have h3h := Lib.hid h3
 have hbh := Lib.hid bW
 clear e bW hpW h1 h2 h3 hpm
 cases b1
 · go_enter Tryz.func93, Tryz.ntmps93
   go_wp2_with (go_at_call 94; (with_reducible refine Calls.mono k1.out ?_); rintro e w' ⟨rfl, rfl⟩)
   go_ret
   exact BoolB.mk (by simp [We.ok, h1h.out]) hbh.out
 cases b2
 · go_enter Tryz.func93, Tryz.ntmps93
   go_wp2_with (go_at_call 94; (with_reducible refine Calls.mono (by first | exact k1.out | exact k2.out) ?_); rintro e w' ⟨rfl, rfl⟩)
   go_ret
   exact BoolB.mk (by simp [We.ok, h2h.out]) hbh.out
 cases b3
 · go_enter Tryz.func93, Tryz.ntmps93
   go_wp2_with (go_at_call 94; (first | (with_reducible refine Calls.mono k1.out ?_) | (with_reducible refine Calls.mono k2.out ?_) | (with_reducible refine Calls.mono k3.out ?_)); rintro e w' ⟨rfl, rfl⟩)
   go_ret
   exact BoolB.mk (by simp [We.ok, h3h.out]) hbh.out
 have kD := Lib.hid (kC.out rfl)
 go_enter Tryz.func93, Tryz.ntmps93
 go_wp2_with (first | (go_at_call 94; (first | (with_reducible refine Calls.mono k1.out ?_) | (with_reducible refine Calls.mono k2.out ?_) | (with_reducible refine Calls.mono k3.out ?_)); rintro e w' ⟨rfl, rfl⟩) | (go_at_call 118; (with_reducible refine Calls.mono kD.out ?_); rintro e w' ⟨t, rfl, ht, hB⟩))
 all_goals
  go_ret
  exact BoolB.mk (by rw [← ht.out]; simp [We.ok, h1h.out, h2h.out, h3h.out]) (below_tr hbh.out hB)
def NumIs (we : We) (day n : Int) : Prop := ∃ (N : Nat) (D : List Int), iterQ (tightF (pcOf we day)) we.parts N (farL we.rooms.toNat 0, [0]) = (D, []) ∧ n = if at0 D 1 = 1048576 then (we.parts.length : Int) + 1 else at0 D 1
theorem progNum (we : We) (ok : we.Ok) (day : Int) (lb : Nat) (pv : Value) (w : World) (hl : LkAt w lb pv we day) :
    Calls Tryz.prog 57 #[.pointer (some ⟨lb, 0, none⟩), pcV (pcOf we day)] w fun e w' => ∃ n, e = .returned (.int .i64 n) ∧ Hid (NumIs we day n) ∧ Below w.heap.size w w' := by
 have hp0 := hl.parts
 obtain ⟨pa, pcap, rfl, hpm, -⟩ := hp0
 have hr := ok.rooms
 have hpl := ok.parts
 have hll : IntKind.i64.wrap ((we.parts.length : Int) + 1) = (we.parts.length : Int) + 1 := IntWalk.i64_in _ (by omega)
 obtain ⟨W, hW⟩ : ∃ W, w.alloc (pcO (pcOf we day)) = W := ⟨_, rfl⟩
 obtain ⟨e, bW, z⟩ := boxedB hW
 obtain ⟨m, hm⟩ := Int.eq_ofNat_of_zero_le (show 0 ≤ we.rooms by omega)
 have hmt : we.rooms.toNat = m := by omega
 have kD0 := progDistances we ok day lb _ (pcOf we day) 0 (by omega) W (hl.mono bW)
 unfold DistPost at kD0
 rw [hmt] at kD0
 have kD := Lib.hid kD0
 have hrow := Lib.hid e
 obtain ⟨q0, q1, q2, q3⟩ := row4 (hl.mono bW).row
 have zl := (Array.getElem?_eq_some_iff.1 (hl.mono bW).row).1
 have hlW := Lib.hid (hl.mono bW)
 have hbh := Lib.hid bW
 have hm2 : 1 < m := by omega
 have hmm := Lib.hid hmt
 clear kD0 e bW hl ok hmt hr hpl hpm hm
 go_enter Tryz.func57, Tryz.ntmps57
 go_wp2_with (first | (refine wpList_load_row rfl 138 _ rfl w.heap.size rfl _ _ (0, 0) _ hrow.out Tryz.underlying138 rfl (by show _ = some 24; kernel_rfl) ?_) | (go_at_call 95; (with_reducible refine Calls.mono kD.out ?_); rintro e w' ⟨ob, N, D, rfl, hit, hD, hlen, hB⟩; (have hc := (hD.cell (k := 1) (by omega)).1); (have zob := hD.lt); replace hit := Lib.hid hit; (have hq := row4 (hlW.out.mono hB).row); (have hq2 := hq.2.2.1); (have zl2 := (Array.getElem?_eq_some_iff.1 (hlW.out.mono hB).row).1); clear hq hlen))
 all_goals
  go_ret
  refine ⟨_, rfl, Lib.hid ⟨N, D, by rw [hmm.out]; exact hit.out, ?_⟩, below_tr hbh.out hB⟩
  rename_i hx
  simp at hx
  simp [hx]
def AskIs (we : We) (pv : Value) (day : Int) (w : World) (e : Ending) (w' : World) : Prop :=
 ∃ lb t, e = .returned (.tuple #[.pointer (some ⟨lb, 0, none⟩), .bool t]) ∧ Hid ((we.ok && inB day 0 5000) = t) ∧ Hid (LkAt w' lb pv we day) ∧ Below w.heap.size w w'
def WellRes (we : We) (day n st : Int) : Prop := ((we.ok && inB day 0 5000) = true ∧ NumIs we day n ∧ st = 0) ∨ ((we.ok && inB day 0 5000) = false ∧ n = 0 ∧ st = 2)
abbrev lkO (we : We) (pv : Value) (day : Int) : Obj := .cells #[.int .i64 we.rooms, .int .i64 we.need, pv, .int .i64 day] 168
theorem ask1 {we : We} {pv : Value} {day : Int} {w W w1 : World} (hW : Below w.heap.size w W) (hp : PasAt W pv we.parts) (h1 : Below (W.alloc (lkO we pv day)).drew.heap.size (W.alloc (lkO we pv day)).drew w1) : LkAt w1 W.heap.size pv we day ∧ Below w.heap.size w w1 := by
 have hb : Below W.heap.size W (W.alloc (lkO we pv day)).drew := ((Below.refl _ _).alloc (Nat.le_refl _) _).drew
 have hb2 := below_tr hb h1
 exact ⟨⟨kept_block h1 (World.alloc_heap_new W (lkO we pv day)), hp.mono hb2⟩, below_tr hW hb2⟩
theorem ask2 {we : We} {pv : Value} {day : Int} {w W w1 : World} (hW : Below w.heap.size w W) (hp : PasAt W pv we.parts) (h2 : Below W.heap.size W w1) : LkAt (w1.alloc (lkO we pv day)) w1.heap.size pv we day ∧ Below w.heap.size w (w1.alloc (lkO we pv day)) := by
 have hb : Below w1.heap.size w1 (w1.alloc (lkO we pv day)) := (Below.refl _ _).alloc (Nat.le_refl _) _
 have hb2 := below_tr h2 hb
 exact ⟨⟨World.alloc_heap_new w1 (lkO we pv day), hp.mono hb2⟩, below_tr hW hb2⟩
theorem progAsked (we : We) (pv : Value) (day : Int) (w : World) (hp : PasAt w pv we.parts) : Calls Tryz.prog 56 #[weV pv we, .int .i64 day] w (AskIs we pv day w) := by
 obtain ⟨W, hW⟩ : ∃ W, w.alloc (.cells #[.int .i64 we.rooms, .int .i64 we.need, pv] 90) = W := ⟨_, rfl⟩
 obtain ⟨e, bW, z⟩ := boxedB hW
 obtain ⟨c0, c1, c2⟩ := row3 e
 have hpW := Lib.hid (hp.mono bW)
 have eh := Lib.hid e
 obtain ⟨b1, h1⟩ : ∃ b, we.ok = b := ⟨_, rfl⟩
 obtain ⟨b2, h2⟩ : ∃ b, inB day 0 5000 = b := ⟨_, rfl⟩
 have h1h := Lib.hid h1
 have h2h := Lib.hid h2
 have hbh := Lib.hid bW
 clear e bW hp h1 h2
 have kW : Hid (∀ X, Below W.heap.size W X → Calls Tryz.prog 93 #[weV pv we] X fun e w' => e = .returned (.bool b1) ∧ Below X.heap.size X w') := Lib.hid fun X hX => (progWell we pv X (hpW.out.mono hX)).mono fun e w' h => h.lit h1h.out
 have kI : Hid (∀ X, Calls Tryz.prog 94 #[.int .i64 day, .int .i64 0, .int .i64 5000] X fun e w' => e = .returned (.bool b2) ∧ X = w') := Lib.hid fun X => inLit h2h.out X
 have bb : Hid (∀ X, Below W.heap.size W X → X.cell? ⟨w.heap.size, 0, none⟩ = some (.int .i64 we.rooms) ∧ X.cell? ⟨w.heap.size, 1, none⟩ = some (.int .i64 we.need) ∧ X.cell? ⟨w.heap.size, 2, none⟩ = some pv ∧ w.heap.size < X.heap.size) := Lib.hid fun X hX => ⟨(row3 (kept_block hX eh.out)).1, (row3 (kept_block hX eh.out)).2.1, (row3 (kept_block hX eh.out)).2.2, by have := hX.size; omega⟩
 have zW := z
 cases b1
 · go_enter Tryz.func56, Tryz.ntmps56
   go_wp2
   first | (go_region_with (first | (go_at_call 93; (with_reducible refine Calls.mono (kW.out _ (by first | exact (Below.refl W.heap.size W).drew | exact ((Below.refl W.heap.size W).alloc (Nat.le_refl _) _).drew)) ?_); rintro e w1 ⟨rfl, h1⟩; (have h2 : Below W.heap.size W w1 := below_tr (by first | exact (Below.refl W.heap.size W).drew | exact ((Below.refl W.heap.size W).alloc (Nat.le_refl _) _).drew) h1); obtain ⟨q0, q1, q2, q3⟩ := bb.out _ h2) | (go_at_call 94; (with_reducible refine Calls.mono (kI.out _) ?_); rintro e w2 ⟨rfl, rfl⟩))) | fail
   all_goals
    go_wp2
    go_ret2
    first | exact ⟨_, _, rfl, Lib.hid (by rw [h1h.out, h2h.out]; first | rfl | simp), Lib.hid (ask1 hbh.out hpW.out h1).1, (ask1 hbh.out hpW.out h1).2⟩ | exact ⟨_, _, rfl, Lib.hid (by rw [h1h.out, h2h.out]; first | rfl | simp), Lib.hid (ask2 hbh.out hpW.out h2).1, (ask2 hbh.out hpW.out h2).2⟩
 · go_enter Tryz.func56, Tryz.ntmps56
   go_wp2
   first | (go_region_with (first | (go_at_call 93; (with_reducible refine Calls.mono (kW.out _ (by first | exact (Below.refl W.heap.size W).drew | exact ((Below.refl W.heap.size W).alloc (Nat.le_refl _) _).drew)) ?_); rintro e w1 ⟨rfl, h1⟩; (have h2 : Below W.heap.size W w1 := below_tr (by first | exact (Below.refl W.heap.size W).drew | exact ((Below.refl W.heap.size W).alloc (Nat.le_refl _) _).drew) h1); obtain ⟨q0, q1, q2, q3⟩ := bb.out _ h2) | (go_at_call 94; (with_reducible refine Calls.mono (kI.out _) ?_); rintro e w2 ⟨rfl, rfl⟩))) | fail
   all_goals
    go_wp2
    go_ret2
    first | exact ⟨_, _, rfl, Lib.hid (by rw [h1h.out, h2h.out]; first | rfl | simp), Lib.hid (ask1 hbh.out hpW.out h1).1, (ask1 hbh.out hpW.out h1).2⟩ | exact ⟨_, _, rfl, Lib.hid (by rw [h1h.out, h2h.out]; first | rfl | simp), Lib.hid (ask2 hbh.out hpW.out h2).1, (ask2 hbh.out hpW.out h2).2⟩
def NumberIs (we : We) (day : Int) (w : World) (e : Ending) (w' : World) : Prop := ∃ n st, e = .returned (.tuple #[.int .i64 n, .int .i64 st]) ∧ Hid (WellRes we day n st) ∧ Below w.heap.size w w'
theorem progNumber (we : We) (pv : Value) (day : Int) (w : World) (hp : PasAt w pv we.parts) : Calls Tryz.prog 20 #[weV pv we, .int .i64 day] w (NumberIs we day w) := by
 obtain ⟨W, hW⟩ : ∃ W, w.alloc (.cells #[.int .i64 we.rooms, .int .i64 we.need, pv] 90) = W := ⟨_, rfl⟩
 obtain ⟨e, bW, z⟩ := boxedB hW
 obtain ⟨c0, c1, c2⟩ := row3 e
 have kA := Lib.hid (progAsked we pv day W (hp.mono bW))
 have hbh := Lib.hid bW
 clear e bW hp
 obtain ⟨b, hb⟩ : ∃ b, (we.ok && inB day 0 5000) = b := ⟨_, rfl⟩
 have kB : Hid (Calls Tryz.prog 56 #[weV pv we, .int .i64 day] W fun e w' => ∃ lb, e = .returned (.tuple #[.pointer (some ⟨lb, 0, none⟩), .bool b]) ∧ Hid (LkAt w' lb pv we day) ∧ Below W.heap.size W w') :=
  Lib.hid (kA.out.mono fun e w' ⟨lb, t, he, ht, hl, hB⟩ => ⟨lb, by rw [he, ← ht.out, hb], hl, hB⟩)
 have hbb := Lib.hid hb
 clear kA hb
 cases b
 · go_enter Tryz.func20, Tryz.ntmps20
   go_wp2_with (go_at_call 56; (with_reducible refine Calls.mono kB.out ?_); rintro e w1 ⟨lb, rfl, hl, hB1⟩)
   go_ret2
   exact ⟨_, _, rfl, Lib.hid (.inr ⟨hbb.out, rfl, rfl⟩), below_tr hbh.out hB1⟩
 · have okd : we.Ok ∧ 0 ≤ day ∧ day ≤ 100000 := by
    have h := hbb.out
    rw [Bool.and_eq_true] at h
    exact ⟨We.ok_of h.1, by have := inB_iff.1 h.2; omega⟩
   have kP : Hid (∀ X lb, LkAt X lb pv we day → Calls Tryz.prog 58 #[.pointer (some ⟨lb, 0, none⟩)] X fun e w' => e = .returned (pcV (pcOf we day)) ∧ Below X.heap.size X w') := Lib.hid fun X lb h => progPieces we okd.1 day okd.2 lb pv X h
   have kN : Hid (∀ X lb, LkAt X lb pv we day → Calls Tryz.prog 57 #[.pointer (some ⟨lb, 0, none⟩), pcV (pcOf we day)] X fun e w' => ∃ n, e = .returned (.int .i64 n) ∧ Hid (NumIs we day n) ∧ Below X.heap.size X w') := Lib.hid fun X lb h => progNum we okd.1 day lb pv X h
   clear okd
   go_enter Tryz.func20, Tryz.ntmps20
   go_wp2_with (first | (go_at_call 56; (with_reducible refine Calls.mono kB.out ?_); rintro e w1 ⟨lb, rfl, hl, hB1⟩) | (go_at_call 58; (with_reducible refine Calls.mono (kP.out _ _ hl.out) ?_); rintro e w2 ⟨rfl, hB2⟩) | (go_at_call 57; (with_reducible refine Calls.mono (kN.out _ _ (hl.out.mono hB2)) ?_); rintro e w3 ⟨n, rfl, hn, hB3⟩))
   go_ret2
   exact ⟨_, _, rfl, Lib.hid (.inl ⟨hbb.out, hn.out, rfl⟩), below_tr hbh.out (below_tr hB1 (below_tr hB2 hB3))⟩
end Go.Proofs.YtpcamocnlnlgiaaGreat.B
set_option linter.unusedVariables false
set_option linter.unusedSimpArgs false
namespace Wl
def exWe : We := ⟨5, 2, [⟨0, 2, true, false, 100, 180, false, 2, 30⟩, ⟨2, 4, true, false, 100, 90, false, 1, 10⟩, ⟨4, 1, true, false, 150, 365, false, 1, 10⟩, ⟨0, 3, false, false, 0, 1000, false, 5, 90⟩, ⟨3, 1, false, false, 0, 1000, false, 5, 60⟩, ⟨2, 3, false, false, 0, 300, false, 5, 80⟩]⟩
end Wl
namespace Go.Proofs.YtpcamocnlnlgiaaGreat.B
open Go.RowKit Go.Sd Wl L
attribute [local go_sem] Oper.semAt_some
theorem ex_ok : (exWe.ok && inB 281 0 5000) = true := by decide
theorem ex_num {n : Int} (h : NumIs exWe 281 n) : n = 1 := by
 obtain ⟨N, D, h1, h2⟩ := h
 have h3 := iterQ_same (tight := tightF (pcOf exWe 281)) (l := exWe.parts) (s := (farL exWe.rooms.toNat 0, [0])) (n := N) (m := 20) (by rw [h1]) (by decide +kernel)
 rw [h1] at h3
 have h4 : at0 (iterQ (tightF (pcOf exWe 281)) exWe.parts 20 (farL exWe.rooms.toNat 0, [0])).1 1 = 1 := by decide +kernel
 rw [← h3] at h4
 have h5 : at0 D 1 = 1 := h4
 rw [h5] at h2
 simpa using h2
theorem ex_res {n st : Int} (h : WellRes exWe 281 n st) : n = 1 ∧ st = 0 := by
 rcases h with ⟨-, h, hs⟩ | ⟨h, -⟩
 · exact ⟨ex_num h, hs⟩
 · rw [ex_ok] at h; cases h
theorem progWellEx (w : World) : Calls Tryz.prog 21 #[] w fun e w' => ∃ pv, e = .returned (weV pv exWe) ∧ Hid (PasAt w' pv exWe.parts) ∧ Below w.heap.size w w' := by
 go_enter Tryz.func21, Tryz.ntmps21
 go_wp2
 generalize hW : (w.alloc _).alloc _ = W
 generalize hW1 : w.alloc _ = W1 at hW
 obtain ⟨e1, b1, z1⟩ := boxedB hW1
 obtain ⟨e2, b2, z2⟩ := boxedB hW
 have hz : W1.heap.size = w.heap.size + 1 := by rw [← hW1]; simp
 obtain ⟨a0, a1, a2⟩ := row3 (kept_block b2 e1)
 have hp : PasAt W (.slice (some ⟨w.heap.size + 1, 0, none⟩) 6 6) exWe.parts := by
  refine ⟨_, 6, rfl, by decide, fun _ => ⟨w.heap.size + 1, 0, rfl, by omega, ?_⟩⟩
  rw [hz] at e2
  have d := (row_cells e2).2.1
  intro k i u hk hu
  have hk' : k = 0 ∨ k = 1 ∨ k = 2 ∨ k = 3 ∨ k = 4 ∨ k = 5 := by
   have h6 : k < 6 := hk
   omega
  have hi := (List.getElem?_eq_some_iff.1 hu).1
  have hi' : i = 0 ∨ i = 1 ∨ i = 2 ∨ i = 3 ∨ i = 4 ∨ i = 5 ∨ i = 6 ∨ i = 7 ∨ i = 8 := by
   have h9 : i < 9 := hi
   omega
  rw [d, ← hu]
  clear hu d e2 e1 hW hW1 a0 a1 a2 b1 b2 z1 z2 hz
  rcases hk' with rfl | rfl | rfl | rfl | rfl | rfl <;> rcases hi' with rfl | rfl | rfl | rfl | rfl | rfl | rfl | rfl | rfl <;> rfl
 exact bodyPost_ret (v := weV (.slice (some ⟨w.heap.size + 1, 0, none⟩) 6 6) exWe) (by simp [results, Tryz.results21, go_sem, a0, a1, a2]; exact ⟨rfl, rfl⟩) rfl ⟨_, rfl, Lib.hid hp, below_tr b1 b2⟩
theorem knownNumber (pv : Value) (w : World) (hp : PasAt w pv exWe.parts) : Calls Tryz.prog 20 #[weV pv exWe, .int .i64 281] w fun e w' => e = .returned (.tuple #[.int .i64 1, .int .i64 0]) ∧ Below w.heap.size w w' :=
 (progNumber exWe pv 281 w hp).mono fun e w' ⟨n, st, he, hr, hB⟩ => by
  obtain ⟨h1, h2⟩ := ex_res hr.out
  exact ⟨by rw [he, h1, h2], hB⟩
end Go.Proofs.YtpcamocnlnlgiaaGreat.B
set_option linter.unusedVariables false
set_option linter.unusedSimpArgs false
namespace Gas
def exC : Cav := ⟨1000, 1100, 2000, 9000, 900, 1000, 36, 29, 3200, 0, 100⟩
def exS : St := ⟨2000, 2100, 100, 110, 3000, 3100, 50000, 60000⟩
end Gas
namespace Go.Proofs.YtpcamocnlnlgiaaGreat.G
open Go.RowKit Go.Sd Gas
theorem lawC (w : World) : Calls Tryz.prog 18 #[] w fun e w' => e = .returned (cavV exC) ∧ Below w.heap.size w w' := by
 obtain ⟨W, hW⟩ : ∃ W, w.alloc (.cells #[.int .i64 0, .int .i64 0, .int .i64 0, .int .i64 0, .int .i64 0, .int .i64 0, .int .i64 0, .int .i64 0, .int .i64 0, .int .i64 0, .int .i64 0] 81) = W := ⟨_, rfl⟩
 obtain ⟨eW0, bW0, sW0⟩ := boxed hW
 have hBw : Below w.heap.size w W := bW0
 obtain ⟨zW0, rW0, tW0⟩ := row_cells eW0
 obtain ⟨qW0_0, qW0_1, qW0_2, qW0_3, qW0_4, qW0_5, qW0_6, qW0_7, qW0_8, qW0_9, qW0_10⟩ := rc11 eW0
 obtain ⟨fW0_0, fW0_1, fW0_2, fW0_3, fW0_4, fW0_5, fW0_6, fW0_7, fW0_8, fW0_9, fW0_10⟩ := rf11 eW0
 clear rW0 tW0 eW0
 have xW0 : w.heap.size ≤ w.heap.size := by omega
 clear bW0 sW0
 go_enter Tryz.func18, Tryz.ntmps18
 go_wp2
 refine bodyPost_ret (v := cavV exC) (by simp [results, Tryz.results18, go_sem, exC, *]) rfl ⟨rfl, ?_⟩
 repeat' (first | (with_reducible exact hBw) | (with_reducible exact Nat.le_refl _) | (with_reducible refine Below.setCell ?_ ?_ _))
theorem lawS (w : World) : Calls Tryz.prog 19 #[] w fun e w' => e = .returned (stV exS) ∧ Below w.heap.size w w' := by
 obtain ⟨W, hW⟩ : ∃ W, w.alloc (.cells #[.int .i64 0, .int .i64 0, .int .i64 0, .int .i64 0, .int .i64 0, .int .i64 0, .int .i64 0, .int .i64 0] 84) = W := ⟨_, rfl⟩
 obtain ⟨eW0, bW0, sW0⟩ := boxed hW
 have hBw : Below w.heap.size w W := bW0
 obtain ⟨zW0, rW0, tW0⟩ := row_cells eW0
 obtain ⟨qW0_0, qW0_1, qW0_2, qW0_3, qW0_4, qW0_5, qW0_6, qW0_7⟩ := rc8 eW0
 obtain ⟨fW0_0, fW0_1, fW0_2, fW0_3, fW0_4, fW0_5, fW0_6, fW0_7⟩ := rf8 eW0
 clear rW0 tW0 eW0
 have xW0 : w.heap.size ≤ w.heap.size := by omega
 clear bW0 sW0
 go_enter Tryz.func19, Tryz.ntmps19
 go_wp2
 refine bodyPost_ret (v := stV exS) (by simp [results, Tryz.results19, go_sem, exS, *]) rfl ⟨rfl, ?_⟩
 repeat' (first | (with_reducible exact hBw) | (with_reducible exact Nat.le_refl _) | (with_reducible refine Below.setCell ?_ ?_ _))
end Go.Proofs.YtpcamocnlnlgiaaGreat.G
set_option linter.unusedVariables false
set_option linter.unusedSimpArgs false
namespace Go.Proofs.YtpcamocnlnlgiaaGreat.G
open Go.RowKit Go.Sd Gas
theorem force_bd4 {c : Cav} {p : Pt} (hc : c.Ok) (hg : 0 ≤ p.g ∧ p.g ≤ 1000000) (hy : 0 ≤ p.y ∧ p.y ≤ 1000000) (ht : 0 ≤ p.t ∧ p.t ≤ 5000) : 0 ≤ force c p ∧ force c p ≤ 4000000000000000000 := by
 have := force_nn hc hg hy ht; omega
def presF (c : Cav) (p : Pt) (v : Int) : Fr := frac (force c p) (v * 10000000)
theorem progPressureOk {c : Cav} {s : St} (w : World) (hc : c.ok = true) (hs : s.ok = true) : Calls Tryz.prog 17 #[cavV c, stV s] w fun e w' => e = .returned (.tuple #[frV (presF c s.low c.vhi), frV (presF c s.high c.vlo), .int .i64 0]) ∧ Below w.heap.size w w' := by
 obtain ⟨W1, hW1⟩ : ∃ W1, w.alloc (.cells #[.int .i64 c.vlo, .int .i64 c.vhi, .int .i64 c.least, .int .i64 c.most, .int .i64 c.f0, .int .i64 c.f1, .int .i64 c.h0, .int .i64 c.h1, .int .i64 c.rock, .int .i64 c.plo, .int .i64 c.phi] 81) = W1 := ⟨_, rfl⟩
 obtain ⟨eW0, bW0, sW0⟩ := boxed hW1
 have yW0_0 : w.heap.size < W1.heap.size := by omega
 obtain ⟨mW0_0_0, mW0_0_1, mW0_0_2, mW0_0_3, mW0_0_4, mW0_0_5, mW0_0_6, mW0_0_7, mW0_0_8, mW0_0_9, mW0_0_10⟩ := rc11 eW0
 obtain ⟨W2, hW2⟩ : ∃ W2, W1.alloc (.cells #[.int .i64 s.glo, .int .i64 s.ghi, .int .i64 s.ylo, .int .i64 s.yhi, .int .i64 s.tlo, .int .i64 s.thi, .int .i64 s.wlo, .int .i64 s.whi] 84) = W2 := ⟨_, rfl⟩
 obtain ⟨eW1, bW1, sW1⟩ := boxed hW2
 have yW1_0 : w.heap.size < W2.heap.size := by omega
 replace eW0 := (bW1.block _ (zqo eW0)).trans eW0
 obtain ⟨mW1_0_0, mW1_0_1, mW1_0_2, mW1_0_3, mW1_0_4, mW1_0_5, mW1_0_6, mW1_0_7, mW1_0_8, mW1_0_9, mW1_0_10⟩ := rc11 eW0
 have yW1_1 : W1.heap.size < W2.heap.size := by omega
 obtain ⟨mW1_1_0, mW1_1_1, mW1_1_2, mW1_1_3, mW1_1_4, mW1_1_5, mW1_1_6, mW1_1_7⟩ := rc8 eW1
 obtain ⟨W3, hW3⟩ : ∃ W3, W2.alloc (.cells #[.int .i64 0, .int .i64 0] 76) = W3 := ⟨_, rfl⟩
 obtain ⟨eW2, bW2, sW2⟩ := boxed hW3
 have yW2_0 : w.heap.size < W3.heap.size := by omega
 replace eW0 := (bW2.block _ (zqo eW0)).trans eW0
 obtain ⟨mW2_0_0, mW2_0_1, mW2_0_2, mW2_0_3, mW2_0_4, mW2_0_5, mW2_0_6, mW2_0_7, mW2_0_8, mW2_0_9, mW2_0_10⟩ := rc11 eW0
 have yW2_1 : W1.heap.size < W3.heap.size := by omega
 replace eW1 := (bW2.block _ (zqo eW1)).trans eW1
 obtain ⟨mW2_1_0, mW2_1_1, mW2_1_2, mW2_1_3, mW2_1_4, mW2_1_5, mW2_1_6, mW2_1_7⟩ := rc8 eW1
 have yW2_2 : W2.heap.size < W3.heap.size := by omega
 obtain ⟨mW2_2_0, mW2_2_1⟩ := rc2 eW2
 obtain ⟨W4, hW4⟩ : ∃ W4, W3.alloc (.cells #[.int .i64 0, .int .i64 0] 76) = W4 := ⟨_, rfl⟩
 obtain ⟨eW3, bW3, sW3⟩ := boxed hW4
 have yW3_0 : w.heap.size < W4.heap.size := by omega
 replace eW0 := (bW3.block _ (zqo eW0)).trans eW0
 obtain ⟨mW3_0_0, mW3_0_1, mW3_0_2, mW3_0_3, mW3_0_4, mW3_0_5, mW3_0_6, mW3_0_7, mW3_0_8, mW3_0_9, mW3_0_10⟩ := rc11 eW0
 have yW3_1 : W1.heap.size < W4.heap.size := by omega
 replace eW1 := (bW3.block _ (zqo eW1)).trans eW1
 obtain ⟨mW3_1_0, mW3_1_1, mW3_1_2, mW3_1_3, mW3_1_4, mW3_1_5, mW3_1_6, mW3_1_7⟩ := rc8 eW1
 have yW3_2 : W2.heap.size < W4.heap.size := by omega
 replace eW2 := (bW3.block _ (zqo eW2)).trans eW2
 obtain ⟨mW3_2_0, mW3_2_1⟩ := rc2 eW2
 have yW3_3 : W3.heap.size < W4.heap.size := by omega
 obtain ⟨mW3_3_0, mW3_3_1⟩ := rc2 eW3
 obtain ⟨W, hW⟩ : ∃ W, W4.alloc (.cells #[.int .i64 c.vlo, .int .i64 c.vhi, .int .i64 c.least, .int .i64 c.most, .int .i64 c.f0, .int .i64 c.f1, .int .i64 c.h0, .int .i64 c.h1, .int .i64 c.rock, .int .i64 c.plo, .int .i64 c.phi] 122) = W := ⟨_, rfl⟩
 obtain ⟨eW4, bW4, sW4⟩ := boxed hW
 replace eW0 := (bW4.block _ (zqo eW0)).trans eW0
 replace eW1 := (bW4.block _ (zqo eW1)).trans eW1
 replace eW2 := (bW4.block _ (zqo eW2)).trans eW2
 replace eW3 := (bW4.block _ (zqo eW3)).trans eW3
 have hBw : Below w.heap.size w W := (by have := sW0; have := sW1; have := sW2; have := sW3; have := sW4; exact ((((bW0.trans (bW1.mono (by omega))).trans (bW2.mono (by omega))).trans (bW3.mono (by omega))).trans (bW4.mono (by omega))))
 obtain ⟨zW0, rW0, tW0⟩ := row_cells eW0
 obtain ⟨qW0_0, qW0_1, qW0_2, qW0_3, qW0_4, qW0_5, qW0_6, qW0_7, qW0_8, qW0_9, qW0_10⟩ := rc11 eW0
 obtain ⟨fW0_0, fW0_1, fW0_2, fW0_3, fW0_4, fW0_5, fW0_6, fW0_7, fW0_8, fW0_9, fW0_10⟩ := rf11 eW0
 clear rW0 tW0 eW0
 obtain ⟨zW1, rW1, tW1⟩ := row_cells eW1
 obtain ⟨qW1_0, qW1_1, qW1_2, qW1_3, qW1_4, qW1_5, qW1_6, qW1_7⟩ := rc8 eW1
 obtain ⟨fW1_0, fW1_1, fW1_2, fW1_3, fW1_4, fW1_5, fW1_6, fW1_7⟩ := rf8 eW1
 clear rW1 tW1 eW1
 obtain ⟨zW2, rW2, tW2⟩ := row_cells eW2
 obtain ⟨qW2_0, qW2_1⟩ := rc2 eW2
 obtain ⟨fW2_0, fW2_1⟩ := rf2 eW2
 clear rW2 tW2 eW2
 obtain ⟨zW3, rW3, tW3⟩ := row_cells eW3
 obtain ⟨qW3_0, qW3_1⟩ := rc2 eW3
 obtain ⟨fW3_0, fW3_1⟩ := rf2 eW3
 clear rW3 tW3 eW3
 obtain ⟨zW4, rW4, tW4⟩ := row_cells eW4
 obtain ⟨qW4_0, qW4_1, qW4_2, qW4_3, qW4_4, qW4_5, qW4_6, qW4_7, qW4_8, qW4_9, qW4_10⟩ := rc11 eW4
 obtain ⟨fW4_0, fW4_1, fW4_2, fW4_3, fW4_4, fW4_5, fW4_6, fW4_7, fW4_8, fW4_9, fW4_10⟩ := rf11 eW4
 clear rW4 tW4 eW4
 have xW0 : w.heap.size ≤ w.heap.size := by omega
 have xW1 : w.heap.size ≤ W1.heap.size := by omega
 have xW2 : w.heap.size ≤ W2.heap.size := by omega
 have xW3 : w.heap.size ≤ W3.heap.size := by omega
 have xW4 : w.heap.size ≤ W4.heap.size := by omega
 clear bW0 sW0 bW1 sW1 bW2 sW2 bW3 sW3 bW4 sW4
 have hgc := grow_cell W
 have hgf := grow_frozen W
 have hc' := Cav.ok_iff.1 hc
 have hs' := St.ok_iff.1 hs
 obtain ⟨g1, g2, g3, g4⟩ := gas_bd hs'
 obtain ⟨t1, t2⟩ := lowT hs'
 have hv := hc'.v
 have kV := Lib.hid (fun w => (progValid c w).mono fun e w' hb => BoolB.lit hb hc)
 have kS := Lib.hid (fun w => (progState s w).mono fun e w' hb => BoolB.lit hb hs)
 have kL := Lib.hid (fun w => progLowest s w)
 have kH := Lib.hid (fun w => progHighest s w)
 have kP1 := Lib.hid (fun w => progPress c s.low c.vhi w hc' g1 g3 t1 (by omega))
 have kP2 := Lib.hid (fun w => progPress c s.high c.vlo w hc' g2 g4 t2 (by omega))
 have kR1 := Lib.hid (fun w => progReduced (force c s.low) (c.vhi * 10000000) w (force_bd4 hc' g1 g3 t1) (by omega))
 have kR2 := Lib.hid (fun w => progReduced (force c s.high) (c.vlo * 10000000) w (force_bd4 hc' g2 g4 t2) (by omega))
 go_enter Tryz.func17, Tryz.ntmps17
 go_wp2_with (first | (go_at_call 50; (with_reducible refine Calls.mono (kV.out _) ?_); rintro e w1 ⟨rfl, hB⟩; (first | (obtain ⟨g, rfl⟩ := g.next hB) | (obtain ⟨g, rfl⟩ : ∃ g : Grow W, w1 = g.x := ⟨⟨w1, hB⟩, rfl⟩)); clear hB) | (go_at_call 51; (with_reducible refine Calls.mono (kS.out _) ?_); rintro e w1 ⟨rfl, hB⟩; (first | (obtain ⟨g, rfl⟩ := g.next hB) | (obtain ⟨g, rfl⟩ : ∃ g : Grow W, w1 = g.x := ⟨⟨w1, hB⟩, rfl⟩)); clear hB))
 have hgg : ∀ (h : Grow g.x) (b o : Nat), b < W.heap.size → h.x.cell? ⟨b, o, none⟩ = W.cell? ⟨b, o, none⟩ := fun h b o hb => (grow_cell g.x h b o (Nat.lt_of_lt_of_le hb g.size)).trans (grow_cell W g b o hb)
 refine wp_region_grow (by kernel_rfl) (by kernel_rfl) ?_
 repeat (go_big_quiet_step ((first | (go_at_call 53; with_reducible exact Calls.grow (kL.out _)) | (go_at_call 52; with_reducible exact Calls.grow (kP1.out _)))))
 refine wpQuiet_nil ?_
 rintro _ ⟨gx, rfl⟩
 clear hgg
 obtain ⟨g, hg⟩ := g.next gx.h
 rw [hg]
 clear hg gx
 go_wp2
 have hgg : ∀ (h : Grow g.x) (b o : Nat), b < W.heap.size → h.x.cell? ⟨b, o, none⟩ = W.cell? ⟨b, o, none⟩ := fun h b o hb => (grow_cell g.x h b o (Nat.lt_of_lt_of_le hb g.size)).trans (grow_cell W g b o hb)
 refine wp_region_grow (by kernel_rfl) (by kernel_rfl) ?_
 repeat (go_big_quiet_step ((first | (go_at_call 54; with_reducible exact Calls.grow (kH.out _)) | (go_at_call 52; with_reducible exact Calls.grow (kP2.out _)))))
 refine wpQuiet_nil ?_
 rintro _ ⟨gx, rfl⟩
 clear hgg
 obtain ⟨g, hg⟩ := g.next gx.h
 rw [hg]
 clear hg gx
 go_wp2_with (first | (go_at_call 55; (with_reducible refine Calls.mono (kR1.out _) ?_); rintro e w1 ⟨rfl, hB⟩; (first | (obtain ⟨g, rfl⟩ := g.next hB) | (obtain ⟨g, rfl⟩ : ∃ g : Grow W, w1 = g.x := ⟨⟨w1, hB⟩, rfl⟩)); clear hB) | (go_at_call 55; (with_reducible refine Calls.mono (kR2.out _) ?_); rintro e w1 ⟨rfl, hB⟩; (first | (obtain ⟨g, rfl⟩ := g.next hB) | (obtain ⟨g, rfl⟩ : ∃ g : Grow W, w1 = g.x := ⟨⟨w1, hB⟩, rfl⟩)); clear hB))
 refine bodyPost_ret (v := .tuple #[frV (presF c s.low c.vhi), frV (presF c s.high c.vlo), .int .i64 0]) (by simp [results, Tryz.results17, go_sem, *, presF]) rfl ⟨rfl, ?_⟩
 have hfin : Below w.heap.size w g.x := hBw.trans (g.h.mono hBw.size)
 repeat' (first | (with_reducible exact hfin) | (with_reducible exact xW2) | (with_reducible exact xW3) | (with_reducible refine Below.setCell ?_ ?_ _))
end Go.Proofs.YtpcamocnlnlgiaaGreat.G
