/- Laws and walks: LBwd. -/
import Derived.Test.YthbkcoijafehgaaGreatK24
set_option linter.unusedVariables false
set_option linter.unusedSimpArgs false
namespace Lk
/-- The list of bounds behind k days, backwards. -/
def Bk.partB (b : Bk) (g : Gs) (z : Nat) (l : List Sp) : Nat → List Sp
  | 0 => l
  | k + 1 => (Bk.partB b g z l k).set (b.flows.length - 1 - k) (b.bwd g z k)
theorem partB_len {b : Bk} {g : Gs} {z : Nat} {l : List Sp} : ∀ k, (b.partB g z l k).length = l.length
  | 0 => rfl
  | k + 1 => by simp [Bk.partB, partB_len k]
theorem partB_at {b : Bk} {g : Gs} {z : Nat} {l : List Sp} (hl : l.length = b.flows.length) : ∀ k t, k ≤ b.flows.length → t < b.flows.length →
    spAt (b.partB g z l k) t = if b.flows.length - 1 - t < k then b.bnd g z t else spAt l t
  | 0, t, _, _ => by simp [Bk.partB]
  | k + 1, t, hk, ht => by
    unfold Bk.partB
    rw [spAt_set (by rw [partB_len]; omega)]
    by_cases h : t = b.flows.length - 1 - k
    · rw [if_pos h, if_pos (by omega)]
      unfold Bk.bnd
      congr 1; omega
    · rw [if_neg h, partB_at hl k t (by omega) ht]
      by_cases h2 : b.flows.length - 1 - t < k
      · rw [if_pos h2, if_pos (by omega)]
      · rw [if_neg h2, if_neg (by omega)]
theorem meets_le : ∀ (l : List Sp) (s : Sp), s.lo ≤ (meets s l).lo ∧ (meets s l).hi ≤ s.hi
  | [], s => ⟨Int.le_refl _, Int.le_refl _⟩
  | x :: l, s => by
    have := meets_le l (meet s x)
    have e : meets s (x :: l) = meets (meet s x) l := rfl
    rw [e]
    simp only [meet] at this ⊢
    omega
theorem fwd_le {b : Bk} {g : Gs} {z k : Nat} : (b.fwd g z k).lo + (b.comes g z k).lo ≤ (b.fwd g z (k + 1)).lo ∧ (b.fwd g z (k + 1)).hi ≤ (b.fwd g z k).hi + (b.comes g z k).hi := meets_le _ _
theorem okTo_at {b : Bk} {g : Gs} {z : Nat} {n : Nat} (h : b.okTo g z n = true) : ∀ k, 0 < k → k ≤ n → (b.fwd g z k).lo ≤ (b.fwd g z k).hi := by
  intro k h0 hk
  have := okTo_le h hk
  obtain ⟨k, rfl⟩ : ∃ j, k = j + 1 := ⟨k - 1, by omega⟩
  simp [Bk.okTo] at this
  exact this.2
/-- Backwards nothing is empty, and nothing lies outside of what was found forwards. -/
theorem bwd_in {b : Bk} (ok : Ok b) {g : Gs} (hg : b.gsB g = true) {z : Nat} (hz : z < b.first.length) (h : b.zoneB g z = true) : ∀ j, j < b.flows.length →
    (b.bwd g z j).lo ≤ (b.bwd g z j).hi ∧ (b.fwd g z (b.flows.length - j)).lo ≤ (b.bwd g z j).lo ∧ (b.bwd g z j).hi ≤ (b.fwd g z (b.flows.length - j)).hi := by
  intro j
  have hnd := ok.nd
  induction j with
  | zero => intro _; exact ⟨okTo_at h _ (by omega) (Nat.le_refl _), Int.le_refl _, Int.le_refl _⟩
  | succ j ih =>
    intro hj
    have h1 := ih (by omega)
    have h2 := okTo_at h (b.flows.length - 1 - j) (by omega) (by omega)
    have h3 := fwd_le (b := b) (g := g) (z := z) (k := b.flows.length - 1 - j)
    have h4 := comes_bd ok hg hz (show b.flows.length - 1 - j < b.flows.length by omega)
    rw [show b.flows.length - 1 - j + 1 = b.flows.length - j by omega] at h3
    rw [show b.flows.length - (j + 1) = b.flows.length - 1 - j by omega]
    simp only [Bk.bwd, meet]
    omega
end Lk
namespace Go.Proofs.YthbkcoijafehgaaGreat.L
open Go.RowKit Go.Sd Lk
attribute [local go_sem] Oper.semAt_some
def SpsIs (l : List Sp) : Value → World → Prop := fun v w => SpsAt w v l
theorem pers_sps (l : List Sp) : Pers (SpsIs l) := fun _ _ _ hb h => ElsAt.mono h hb
theorem sps_one (w : World) (s : Sp) : SpsIs [s] (.slice (some ⟨w.heap.size, 0, none⟩) 1 1) (w.alloc (.cells #[.int .i64 s.lo, .int .i64 s.hi] 23)) := by
  have h := BlkAt.sps (w := w.alloc (.cells #[.int .i64 s.lo, .int .i64 s.hi] 23)) (q := w.heap.size) (l := [s]) (World.alloc_heap_new _ _) (show (1 : Nat) ≤ maxLen by decide) 1
  exact h
set_option maxRecDepth 100000 in
set_option maxHeartbeats 8000000 in
theorem progBackwards (p q cap : Nat) (fv wv rv : Value) (b : Bk) (g : Gs) (z : Nat) (l : List Sp) (W0 w : World) (hv : w.heap[p]? = some (viO fv wv rv g z (.slice (some ⟨q, 0, none⟩) b.flows.length cap))) (hq : BlkAt w q l) (hl : l.length = b.flows.length)
    (hL : ∀ t, t < b.flows.length → spAt l t = b.fwd g z (t + 1)) (hb : BookAt W0 fv wv rv b) (h0 : Below W0.heap.size W0 w) (hq0 : W0.heap.size ≤ q) (hpq : p ≠ q) (ok : Ok b) (hg : b.gsB g = true) (hz : z < b.first.length) (hzo : b.zoneB g z = true) :
    Calls Tryz.prog 61 #[.pointer (some ⟨p, 0, none⟩)] w fun e w' => e = .returned (.tuple #[]) ∧ Kept (fun k => k ≠ q) w w' ∧ BlkAt w' q (b.partB g z l b.flows.length) := by
  have hnd := ok.nd
  have hnr := ok.nr
  obtain ⟨X0, hX0⟩ : ∃ X, w.alloc (.cells #[.pointer (some ⟨p, 0, none⟩)] 128) = X := ⟨_, rfl⟩
  obtain ⟨e0, b0, s0⟩ := boxed hX0
  have hv0 := kept_block b0 hv
  obtain ⟨v0, v1, v2, v3, v4, v5, v6, v7⟩ := rc8 hv0
  have o0 := rc1 e0
  have hbX := hb.mono (h0.trans (b0.mono h0.size))
  obtain ⟨fa, fc, rfl, hfm, -⟩ := hbX.first.form
  obtain ⟨wa, wc, rfl, hwm, -⟩ := hbX.flows.form
  obtain ⟨ra, rc, rfl, hrm, -⟩ := hbX.reads.form
  have zp := (Array.getElem?_eq_some_iff.1 hv0).1
  have z0 := (Array.getElem?_eq_some_iff.1 e0).1
  have hqw := hq.lt
  have hpw : p < w.heap.size := (Array.getElem?_eq_some_iff.1 hv).1
  have hqX := BlkAt.mono hq b0
  clear hbX
  obtain ⟨X, hX⟩ : ∃ X, (X0.alloc (bkO (.slice fa b.first.length fc) (.slice wa b.flows.length wc) (.slice ra b.reads.length rc))).alloc (.cells #[.bool true] 4) = X := ⟨_, rfl⟩
  obtain ⟨ei0, ei1, sX, BX⟩ := two_new hX
  have hBX := below_tr b0 BX
  rw [s0] at ei0 ei1
  replace hv0 := kept_block BX hv0
  replace e0 := kept_block BX e0
  replace hqX := BlkAt.mono hqX BX
  refine (callsIn_wide (n := 0)).1 ?_
  refine calls_of_wpAt Tryz.func61 rfl ?_
  simp only [Tryz.ntmps61, List.size_toArray, List.length_cons, List.length_nil, Nat.reduceAdd, Nat.reduceSub, Array.replicate_succ, Array.replicate_zero, List.push_toArray, List.append_toArray, List.nil_append, List.cons_append]
  refine WpAt.seq_k fun K hK => ?_
  go_wp2
  refine WpAt.seq_k fun K hK => ?_
  go_wp2_with (go_at_call 81; refine (progDays _ _ _ _ _).mono ?_; rintro e w1 ⟨rfl, rfl⟩)
  refine WpAt.block ?_
  clear hX v0 v1 v2 v3 v4 v5 v6 v7 o0 zp z0
  have hseq := days_yields b.flows.length wc wa true X (fun k => k < X.heap.size ∧ k ≠ q) (w.heap.size + 1) (w.heap.size + 1 + 1) (by omega) (rc3 ei0).2.1 (rc1 ei1) ⟨by omega, by omega⟩ ⟨by omega, by omega⟩
  refine WpAt.rangeG ⟨_, rfl⟩ rfl enter_days1 hseq (fun k h => h.1) (fun _ => rfl)
    (fun pre W => Kept (fun k => k ≠ q) X W ∧ BlkAt W q (b.partB g z l pre.length)) (fun _ _ => False) (fun _ _ => False) ?hI ?hIx ?h0 ?hround ?hdone ?hpanic ?hstop
  case hI =>
    rintro pre Y Z ⟨h1, h3⟩ hk
    exact ⟨⟨hk.os.trans h1.os, hk.tape.trans h1.tape, hk.output.trans h1.output, Nat.le_trans h1.size hk.size, fun i hi hs => (hk.block i (by have := h1.size; omega) (by omega)).trans (h1.block i hi hs)⟩, h3.kept hk (by omega)⟩
  case hIx => exact fun _ _ _ h _ => h
  case h0 => exact ⟨Kept.refl _ _, hqX⟩
  case hstop => exact fun _ _ _ _ h => h.elim
  case hpanic => exact fun _ _ _ _ h => h.elim
  case hdone =>
    rintro D W hD ⟨hkI, h3⟩ hk hd
    have hln : (daysTo b.flows.length true b.flows.length).length = b.flows.length := by simp [daysTo]
    rw [hln] at h3
    refine leaves_one (by simp) hd ⟨.tuple #[], by simp [results, Tryz.results61, go_sem], rfl, ?_, ?_⟩
    · have k1 : Kept (fun k => k ≠ q ∧ k < w.heap.size) w X := .all hBX
      have k2 : Kept (fun k => k ≠ q ∧ k < w.heap.size) w W := k1.trans (hkI.mono fun k _ h => h.1)
      exact (k2.putObj (.inr (by omega)) _).mono fun k hk hs => ⟨hs, hk⟩
    · exact (World.putObj_heap_other (by omega)).trans h3
  case hround =>
    rintro lo pre d W hl1 hlt hpre hKS ⟨hkI, hqW⟩
    obtain ⟨-, hxk, hkn⟩ := daysTo_pre hpre
    simp only [dayOf, if_true] at hxk
    have hKX := hKS.size
    obtain ⟨k, hpk⟩ : ∃ k, pre.length = k := ⟨_, rfl⟩
    rw [hpk] at hxk hkn hqW
    have hlen1 : Hid ((pre ++ [d]).length = k + 1) := Lib.hid (by simp [hpk])
    clear hpk hpre
    have hdk : d + 1 + k = b.flows.length := by omega
    clear hxk
    gi_wp2
    refine ⟨Kept.refl _ _, ?_⟩
    intro W2 hk2 hs2
    have hkX2 : Kept (fun i => i ≠ q) X W2 := ⟨hk2.os.trans hkI.os, hk2.tape.trans hkI.tape, hk2.output.trans hkI.output, by omega, fun i hi hs => (hk2.block i (by omega) (by omega)).trans (hkI.block i hi hs)⟩
    have gq := hqW.kept hk2 (by omega)
    have gv := (hkX2.block _ (Array.getElem?_eq_some_iff.1 hv0).1 hpq).trans hv0
    have gb := (hkX2.block _ (Array.getElem?_eq_some_iff.1 e0).1 (by omega)).trans e0
    have hW0 : Below W0.heap.size W0 W2 := (h0.trans (hBX.mono h0.size)).trans ⟨hkX2.os, hkX2.tape, hkX2.output, hkX2.size, fun i hi => hkX2.block i (by have := h0.size; have := hBX.size; omega) (by omega)⟩
    clear hkI hqW hk2 hKS
    have hsX2 : X.heap.size ≤ W2.heap.size := hkX2.size
    clear hs2
    obtain ⟨v0, v1, v2, v3, v4, v5, v6, v7⟩ := rc8 gv
    have o0 := rc1 gb
    have zv := (Array.getElem?_eq_some_iff.1 gv).1
    have zb := (Array.getElem?_eq_some_iff.1 gb).1
    by_cases hk0 : k = 0
    · have hdn : (d : Int) + 1 = b.flows.length := by omega
      have hp1 : Hid (b.partB g z l 1 = l) := Lib.hid (by
        apply sps_ext (by rw [partB_len])
        intro t ht
        rw [partB_len] at ht
        rw [partB_at hl 1 t (by omega) (by omega)]
        split
        · rename_i hh
          rw [hL t (by omega), show t = b.flows.length - 1 by omega]
          unfold Bk.bnd
          rw [show b.flows.length - 1 - (b.flows.length - 1) = 0 by omega]
          simp only [Bk.bwd]
          congr 1; omega
        · rfl)
      subst hk0
      have gq' : BlkAt W2 q (b.partB g z l 1) := by rw [hp1.out]; exact gq
      clear hp1 gq
      gi_wp2
      exact ⟨Kept.refl _ _, hkX2, by rw [hlen1.out]; exact gq'⟩
    · have hdn : ((d : Int) + 1 == (b.flows.length : Int)) = false := by simp; omega
      have hd1 : (d : Int) + 1 < (b.flows.length : Int) := by omega
      have hdi : (d : Int) < (b.flows.length : Int) := by omega
      have hplen : (b.partB g z l k).length = b.flows.length := by rw [partB_len]; exact hl
      have hpn : Hid (spAt (b.partB g z l k) (d + 1) = b.bwd g z (k - 1)) := Lib.hid (by
        rw [partB_at hl k (d + 1) (by omega) (by omega), if_pos (by omega)]
        unfold Bk.bnd; congr 1; omega)
      have hpd : Hid (spAt (b.partB g z l k) d = b.fwd g z (d + 1)) := Lib.hid (by
        rw [partB_at hl k d (by omega) (by omega), if_neg (by omega)]
        exact hL d (by omega))
      have hnb := bwd_in ok hg hz hzo (k - 1) (by omega)
      have hkb := bwd_in ok hg hz hzo k (by omega)
      have hf1 := fwd_bd ok hg hz (d + 1) (by omega)
      have hf2 := fwd_bd ok hg hz (d + 2) (by omega)
      rw [show b.flows.length - (k - 1) = d + 2 by omega] at hnb
      rw [show b.flows.length - k = d + 1 by omega] at hkb
      have hcb := comes_bd ok hg hz (show d + 1 < b.flows.length by omega)
      have hbw : Hid (b.bwd g z k = meet (b.fwd g z (d + 1)) ⟨(b.bwd g z (k - 1)).lo - (b.comes g z (d + 1)).hi, (b.bwd g z (k - 1)).hi - (b.comes g z (d + 1)).lo⟩) := Lib.hid (by
        obtain ⟨k', rfl⟩ : ∃ k', k = k' + 1 := ⟨k - 1, by omega⟩
        simp only [Bk.bwd, Nat.add_sub_cancel]
        rw [show b.flows.length - 1 - k' = d + 1 by omega])
      have hpt : Hid (b.partB g z l (k + 1) = (b.partB g z l k).set d (b.bwd g z k)) := Lib.hid (by
        simp only [Bk.partB]; congr 1; omega)
      obtain ⟨⟨y0, y1⟩, -, -⟩ := gq.cell (k := d + 1) (by omega)
      obtain ⟨⟨x0, x1⟩, -, -⟩ := gq.cell (k := d) (by omega)
      rw [hpn.out] at y0 y1
      rw [hpd.out] at x0 x1
      have kC := Lib.hid (show ∀ (x : World), Below W2.heap.size W2 x → Calls Tryz.prog 82 #[.pointer (some ⟨p, 0, none⟩), .int .i64 ((d : Int) + 1)] x fun e w' => e = .returned (spV (b.comes g z (d + 1))) ∧ Below x.heap.size x w' from fun x h => progComes p _ _ _ _ b g z (d + 1) x (kept_block h gv) ((hb.mono hW0).mono h) ok hg hz (by omega))
      have hlo : Hid ((b.bwd g z k).lo ≤ (b.bwd g z k).hi) := Lib.hid hkb.1
      clear hpn hkb
      generalize b.bwd g z k = s1 at *
      generalize b.bwd g z (k - 1) = nx at *
      generalize b.fwd g z (d + 1) = so at *
      generalize b.fwd g z (d + 2) = sn at *
      generalize b.comes g z (d + 1) = cm at *
      have gqh := Lib.hid gq
      have zq := gq.lt
      clear gq
      generalize hlp : b.partB g z l k = lp at *
      gi_wp2
      refine fence_region (.inr ⟨_, rfl⟩) (by kernel_rfl) (by kernel_rfl) (any_region_vars growth_below (va := [⟨12, 3, 23, #[.int .i64 0, .int .i64 0], 14, .tmp 22⟩, ⟨13, 4, 23, #[.int .i64 0, .int .i64 0], 15, .tmp 30⟩]) (by kernel_rfl) ?_ ?_ (by simp) (fun T f hT hf hcl => ?_))
      · intro p hp w
        simp only [List.mem_cons, List.not_mem_nil, or_false] at hp
        rcases hp with rfl | rfl <;> go_simp
      · intro p hp
        simp only [List.mem_cons, List.not_mem_nil, or_false] at hp
        rcases hp with rfl | rfl <;> kernel_rfl
      have hg : ∀ (g : T) (b o : Nat), b < W2.heap.size → (f g).cell? ⟨b, o, none⟩ = W2.cell? ⟨b, o, none⟩ := fun g => below_cell (hf g)
      simp only [lexOf, List.zipIdx_cons, List.zipIdx_nil, List.map_cons, List.map_nil, isMade, List.any_cons, List.any_nil, Nat.reduceAdd, Nat.reduceBEq, Bool.or_false, Bool.false_or, Bool.or_self, Bool.false_eq_true, if_false, if_true, Nat.zero_add, BEq.rfl, Bool.or_true, Bool.true_or]
      simp only [Go.Sd.blank]
      repeat (go_big_quiet_step ((first | (go_at_call 82; (with_reducible refine Calls.mono (kC.out _ (hf _)) ?_); rintro e w1 ⟨rfl, hb1⟩; exact ⟨rfl, hcl _ _ hb1⟩))))
      refine wpQuiet_nil ?_
      refine ⟨?_, ?_⟩
      · intro p hp
        simp only [List.mem_cons, List.not_mem_nil, or_false] at hp
        rcases hp with rfl | rfl <;> (constructor <;> simp [go_sem, Value.cells, Value.oneCell'])
      intro ns w' hB hv
      have hvb := hv.2.2
      obtain ⟨n1, n2, rfl, hne, ⟨hn1, hl1, hc1, hf1⟩, ⟨hn2, hl2, hc2, hf2⟩⟩ := vars_two hv
      have en1 := (hvb 0 _ n1 rfl rfl).2
      have en2 := (hvb 1 _ n2 rfl rfl).2
      simp [go_sem, Value.cells] at en1 en2
      clear hvb
      refine OnlyN.mk ?_
      clear hv hf hcl hg
      simp only [placeV, Act.put, List.setIfInBounds_toArray, List.set_cons_zero, List.set_cons_succ]
      simp [go_sem] at hc1 hc2
      obtain ⟨V, rfl⟩ : ∃ V, V = w' := ⟨_, rfl⟩
      have gvV := kept_block hB gv
      have gbV := kept_block hB gb
      have gqV := BlkAt.mono gqh.out hB
      have hkV : Kept (fun i => i ≠ q) X V := hkX2.trans (Kept.all hB)
      have hk2V : Kept (fun i => i ≠ q) W2 V := Kept.all hB
      have kM := Lib.hid (fun (x : World) (lv : Value) (h : SpsIs [⟨nx.lo - cm.hi, nx.hi - cm.lo⟩] lv x) => progMeet so lv _ x h)
      have kK := Lib.hid (fun (x : World) (h : Below V.heap.size V x) => progKeepYes p q _ _ _ g z d cap s1 lp x (by rw [hplen]; exact kept_block h gvV) (BlkAt.mono gqV h) (by omega) (by omega) hlo.out)
      clear hc1 hf1 hc2 hf2 hn1 hn2 hl1 hl2 v0 v1 v2 v3 v4 v5 v6 v7 o0 x0 x1 y0 y1 zv zb zq kC hB gv gb
      have hm1 : meets so [⟨nx.lo - cm.hi, nx.hi - cm.lo⟩] = s1 := hbw.out.symm
      gi_wp2
      refine fence_region (.inr ⟨_, rfl⟩) (by kernel_rfl) (by kernel_rfl) (any_region_locN 22 54 [] [31, 32, 33, 34, 35, 36, 37, 38, 39, 40, 41, 42, 43, 44, 45, 46, 47, 48, 49, 50, 51, 52] [[], [], [], [2], [3], [4], [], [5, 6], [7], [], [9], [], [11], [10, 12], [], [14], [], [16], [15, 17], [13, 18], [19], [8, 20]] [IsV (.pointer (some ⟨p, 0, none⟩)), IsV (.int .i64 d), IsV (.pointer (some ⟨p, 0, none⟩)), IsV (.pointer (some ⟨p, 0, none⟩)), IsV (.pointer (some ⟨p, 7, none⟩)), IsV (.slice (some ⟨q, 0, none⟩) b.flows.length cap), IsV (.int .i64 d), IsV (.pointer (some ⟨q, d * 2, none⟩)), IsV (spV so), IsV (.pointer (some ⟨n2, 0, none⟩)), IsV (.int .i64 nx.lo), IsV (.pointer (some ⟨n1, 1, none⟩)), IsV (.int .i64 cm.hi), IsV (.int .i64 (nx.lo - cm.hi)), IsV (.pointer (some ⟨n2, 1, none⟩)), IsV (.int .i64 nx.hi), IsV (.pointer (some ⟨n1, 0, none⟩)), IsV (.int .i64 cm.lo), IsV (.int .i64 (nx.hi - cm.lo)), IsV (spV ⟨nx.lo - cm.hi, nx.hi - cm.lo⟩), SpsIs [⟨nx.lo - cm.hi, nx.hi - cm.lo⟩], IsV (spV s1)] [] (by kernel_rfl) (by kernel_rfl) (by kernel_rfl) (by kernel_rfl) (by kernel_rfl) rfl OnlyN.panic ?_ ?_ ?_ (fun j hj => nomatch hj) ?_)
      · exact List.forall_mem_cons.2 ⟨pers_v _, List.forall_mem_cons.2 ⟨pers_v _, List.forall_mem_cons.2 ⟨pers_v _, List.forall_mem_cons.2 ⟨pers_v _, List.forall_mem_cons.2 ⟨pers_v _, List.forall_mem_cons.2 ⟨pers_v _, List.forall_mem_cons.2 ⟨pers_v _, List.forall_mem_cons.2 ⟨pers_v _, List.forall_mem_cons.2 ⟨pers_v _, List.forall_mem_cons.2 ⟨pers_v _, List.forall_mem_cons.2 ⟨pers_v _, List.forall_mem_cons.2 ⟨pers_v _, List.forall_mem_cons.2 ⟨pers_v _, List.forall_mem_cons.2 ⟨pers_v _, List.forall_mem_cons.2 ⟨pers_v _, List.forall_mem_cons.2 ⟨pers_v _, List.forall_mem_cons.2 ⟨pers_v _, List.forall_mem_cons.2 ⟨pers_v _, List.forall_mem_cons.2 ⟨pers_v _, List.forall_mem_cons.2 ⟨pers_v _, List.forall_mem_cons.2 ⟨pers_sps _, List.forall_mem_cons.2 ⟨pers_v _, fun f h => nomatch h⟩⟩⟩⟩⟩⟩⟩⟩⟩⟩⟩⟩⟩⟩⟩⟩⟩⟩⟩⟩⟩⟩
      · intro k hk; cases hk
      · refine ⟨?_, ?_, ?_, ?_, ?_, ?_, ?_, ?_, ?_, ?_, ?_, ?_, ?_, ?_, ?_, ?_, ?_, ?_, ?_, ?_, ?_, ?_, trivial⟩
        · intro vals x hb hf
          simp only [fillS, List.getD_cons_succ, List.getD_cons_zero, Act.put, List.setIfInBounds_toArray, List.set_cons_zero, List.set_cons_succ]
          clear hf
          have gvx := kept_block hb gvV
          obtain ⟨v0, v1, v2, v3, v4, v5, v6, v7⟩ := rc8 gvx
          have o0 := rc1 (kept_block hb gbV)
          obtain ⟨⟨x0, x1⟩, -, -⟩ := (BlkAt.mono gqV hb).cell (k := d) (by omega)
          rw [hpd.out] at x0 x1
          obtain ⟨c0, c1⟩ := rc2 (kept_block hb en1)
          obtain ⟨d0, d1⟩ := rc2 (kept_block hb en2)
          have zv := (Array.getElem?_eq_some_iff.1 gvx).1
          go_wp2
          exact ⟨rfl, rfl, Below.refl _ _, _, rfl, rfl, (fun h => absurd h (by decide))⟩
        · intro vals x hb hf
          simp only [fillS, List.getD_cons_succ, List.getD_cons_zero, Act.put, List.setIfInBounds_toArray, List.set_cons_zero, List.set_cons_succ]
          clear hf
          have gvx := kept_block hb gvV
          obtain ⟨v0, v1, v2, v3, v4, v5, v6, v7⟩ := rc8 gvx
          have o0 := rc1 (kept_block hb gbV)
          obtain ⟨⟨x0, x1⟩, -, -⟩ := (BlkAt.mono gqV hb).cell (k := d) (by omega)
          rw [hpd.out] at x0 x1
          obtain ⟨c0, c1⟩ := rc2 (kept_block hb en1)
          obtain ⟨d0, d1⟩ := rc2 (kept_block hb en2)
          have zv := (Array.getElem?_eq_some_iff.1 gvx).1
          go_wp2
          exact ⟨rfl, rfl, Below.refl _ _, _, rfl, rfl, (fun h => absurd h (by decide))⟩
        · intro vals x hb hf
          simp only [fillS, List.getD_cons_succ, List.getD_cons_zero, Act.put, List.setIfInBounds_toArray, List.set_cons_zero, List.set_cons_succ]
          clear hf
          have gvx := kept_block hb gvV
          obtain ⟨v0, v1, v2, v3, v4, v5, v6, v7⟩ := rc8 gvx
          have o0 := rc1 (kept_block hb gbV)
          obtain ⟨⟨x0, x1⟩, -, -⟩ := (BlkAt.mono gqV hb).cell (k := d) (by omega)
          rw [hpd.out] at x0 x1
          obtain ⟨c0, c1⟩ := rc2 (kept_block hb en1)
          obtain ⟨d0, d1⟩ := rc2 (kept_block hb en2)
          have zv := (Array.getElem?_eq_some_iff.1 gvx).1
          go_wp2
          exact ⟨rfl, rfl, Below.refl _ _, _, rfl, rfl, (fun h => absurd h (by decide))⟩
        · intro vals x hb hf
          simp only [fillS, List.getD_cons_succ, List.getD_cons_zero, Act.put, List.setIfInBounds_toArray, List.set_cons_zero, List.set_cons_succ]
          have h2 : vals 2 = .pointer (some ⟨p, 0, none⟩) := hf.1
          rw [h2]
          clear h2
          clear hf
          have gvx := kept_block hb gvV
          obtain ⟨v0, v1, v2, v3, v4, v5, v6, v7⟩ := rc8 gvx
          have o0 := rc1 (kept_block hb gbV)
          obtain ⟨⟨x0, x1⟩, -, -⟩ := (BlkAt.mono gqV hb).cell (k := d) (by omega)
          rw [hpd.out] at x0 x1
          obtain ⟨c0, c1⟩ := rc2 (kept_block hb en1)
          obtain ⟨d0, d1⟩ := rc2 (kept_block hb en2)
          have zv := (Array.getElem?_eq_some_iff.1 gvx).1
          go_wp2
          exact ⟨rfl, rfl, Below.refl _ _, _, rfl, rfl, (fun h => absurd h (by decide))⟩
        · intro vals x hb hf
          simp only [fillS, List.getD_cons_succ, List.getD_cons_zero, Act.put, List.setIfInBounds_toArray, List.set_cons_zero, List.set_cons_succ]
          have h3 : vals 3 = .pointer (some ⟨p, 0, none⟩) := hf.1
          rw [h3]
          clear h3
          clear hf
          have gvx := kept_block hb gvV
          obtain ⟨v0, v1, v2, v3, v4, v5, v6, v7⟩ := rc8 gvx
          have o0 := rc1 (kept_block hb gbV)
          obtain ⟨⟨x0, x1⟩, -, -⟩ := (BlkAt.mono gqV hb).cell (k := d) (by omega)
          rw [hpd.out] at x0 x1
          obtain ⟨c0, c1⟩ := rc2 (kept_block hb en1)
          obtain ⟨d0, d1⟩ := rc2 (kept_block hb en2)
          have zv := (Array.getElem?_eq_some_iff.1 gvx).1
          go_wp2
          exact ⟨rfl, rfl, Below.refl _ _, _, rfl, rfl, (fun h => absurd h (by decide))⟩
        · intro vals x hb hf
          simp only [fillS, List.getD_cons_succ, List.getD_cons_zero, Act.put, List.setIfInBounds_toArray, List.set_cons_zero, List.set_cons_succ]
          have h4 : vals 4 = .pointer (some ⟨p, 7, none⟩) := hf.1
          rw [h4]
          clear h4
          clear hf
          have gvx := kept_block hb gvV
          obtain ⟨v0, v1, v2, v3, v4, v5, v6, v7⟩ := rc8 gvx
          have o0 := rc1 (kept_block hb gbV)
          obtain ⟨⟨x0, x1⟩, -, -⟩ := (BlkAt.mono gqV hb).cell (k := d) (by omega)
          rw [hpd.out] at x0 x1
          obtain ⟨c0, c1⟩ := rc2 (kept_block hb en1)
          obtain ⟨d0, d1⟩ := rc2 (kept_block hb en2)
          have zv := (Array.getElem?_eq_some_iff.1 gvx).1
          go_wp2
          exact ⟨rfl, rfl, Below.refl _ _, _, rfl, rfl, (fun h => absurd h (by decide))⟩
        · intro vals x hb hf
          simp only [fillS, List.getD_cons_succ, List.getD_cons_zero, Act.put, List.setIfInBounds_toArray, List.set_cons_zero, List.set_cons_succ]
          clear hf
          have gvx := kept_block hb gvV
          obtain ⟨v0, v1, v2, v3, v4, v5, v6, v7⟩ := rc8 gvx
          have o0 := rc1 (kept_block hb gbV)
          obtain ⟨⟨x0, x1⟩, -, -⟩ := (BlkAt.mono gqV hb).cell (k := d) (by omega)
          rw [hpd.out] at x0 x1
          obtain ⟨c0, c1⟩ := rc2 (kept_block hb en1)
          obtain ⟨d0, d1⟩ := rc2 (kept_block hb en2)
          have zv := (Array.getElem?_eq_some_iff.1 gvx).1
          go_wp2
          exact ⟨rfl, rfl, Below.refl _ _, _, rfl, rfl, (fun h => absurd h (by decide))⟩
        · intro vals x hb hf
          simp only [fillS, List.getD_cons_succ, List.getD_cons_zero, Act.put, List.setIfInBounds_toArray, List.set_cons_zero, List.set_cons_succ]
          have h5 : vals 5 = .slice (some ⟨q, 0, none⟩) b.flows.length cap := hf.1
          rw [h5]
          clear h5
          have h6 : vals 6 = .int .i64 d := hf.2.1
          rw [h6]
          clear h6
          clear hf
          have gvx := kept_block hb gvV
          obtain ⟨v0, v1, v2, v3, v4, v5, v6, v7⟩ := rc8 gvx
          have o0 := rc1 (kept_block hb gbV)
          obtain ⟨⟨x0, x1⟩, -, -⟩ := (BlkAt.mono gqV hb).cell (k := d) (by omega)
          rw [hpd.out] at x0 x1
          obtain ⟨c0, c1⟩ := rc2 (kept_block hb en1)
          obtain ⟨d0, d1⟩ := rc2 (kept_block hb en2)
          have zv := (Array.getElem?_eq_some_iff.1 gvx).1
          go_wp2
          exact ⟨rfl, rfl, Below.refl _ _, _, rfl, rfl, (fun h => absurd h (by decide))⟩
        · intro vals x hb hf
          simp only [fillS, List.getD_cons_succ, List.getD_cons_zero, Act.put, List.setIfInBounds_toArray, List.set_cons_zero, List.set_cons_succ]
          have h7 : vals 7 = .pointer (some ⟨q, d * 2, none⟩) := hf.1
          rw [h7]
          clear h7
          clear hf
          have gvx := kept_block hb gvV
          obtain ⟨v0, v1, v2, v3, v4, v5, v6, v7⟩ := rc8 gvx
          have o0 := rc1 (kept_block hb gbV)
          obtain ⟨⟨x0, x1⟩, -, -⟩ := (BlkAt.mono gqV hb).cell (k := d) (by omega)
          rw [hpd.out] at x0 x1
          obtain ⟨c0, c1⟩ := rc2 (kept_block hb en1)
          obtain ⟨d0, d1⟩ := rc2 (kept_block hb en2)
          have zv := (Array.getElem?_eq_some_iff.1 gvx).1
          go_wp2
          exact ⟨rfl, rfl, Below.refl _ _, _, rfl, rfl, (fun h => absurd h (by decide))⟩
        · intro vals x hb hf
          simp only [fillS, List.getD_cons_succ, List.getD_cons_zero, Act.put, List.setIfInBounds_toArray, List.set_cons_zero, List.set_cons_succ]
          clear hf
          have gvx := kept_block hb gvV
          obtain ⟨v0, v1, v2, v3, v4, v5, v6, v7⟩ := rc8 gvx
          have o0 := rc1 (kept_block hb gbV)
          obtain ⟨⟨x0, x1⟩, -, -⟩ := (BlkAt.mono gqV hb).cell (k := d) (by omega)
          rw [hpd.out] at x0 x1
          obtain ⟨c0, c1⟩ := rc2 (kept_block hb en1)
          obtain ⟨d0, d1⟩ := rc2 (kept_block hb en2)
          have zv := (Array.getElem?_eq_some_iff.1 gvx).1
          go_wp2
          exact ⟨rfl, rfl, Below.refl _ _, _, rfl, rfl, (fun h => absurd h (by decide))⟩
        · intro vals x hb hf
          simp only [fillS, List.getD_cons_succ, List.getD_cons_zero, Act.put, List.setIfInBounds_toArray, List.set_cons_zero, List.set_cons_succ]
          have h9 : vals 9 = .pointer (some ⟨n2, 0, none⟩) := hf.1
          rw [h9]
          clear h9
          clear hf
          have gvx := kept_block hb gvV
          obtain ⟨v0, v1, v2, v3, v4, v5, v6, v7⟩ := rc8 gvx
          have o0 := rc1 (kept_block hb gbV)
          obtain ⟨⟨x0, x1⟩, -, -⟩ := (BlkAt.mono gqV hb).cell (k := d) (by omega)
          rw [hpd.out] at x0 x1
          obtain ⟨c0, c1⟩ := rc2 (kept_block hb en1)
          obtain ⟨d0, d1⟩ := rc2 (kept_block hb en2)
          have zv := (Array.getElem?_eq_some_iff.1 gvx).1
          go_wp2
          exact ⟨rfl, rfl, Below.refl _ _, _, rfl, rfl, (fun h => absurd h (by decide))⟩
        · intro vals x hb hf
          simp only [fillS, List.getD_cons_succ, List.getD_cons_zero, Act.put, List.setIfInBounds_toArray, List.set_cons_zero, List.set_cons_succ]
          clear hf
          have gvx := kept_block hb gvV
          obtain ⟨v0, v1, v2, v3, v4, v5, v6, v7⟩ := rc8 gvx
          have o0 := rc1 (kept_block hb gbV)
          obtain ⟨⟨x0, x1⟩, -, -⟩ := (BlkAt.mono gqV hb).cell (k := d) (by omega)
          rw [hpd.out] at x0 x1
          obtain ⟨c0, c1⟩ := rc2 (kept_block hb en1)
          obtain ⟨d0, d1⟩ := rc2 (kept_block hb en2)
          have zv := (Array.getElem?_eq_some_iff.1 gvx).1
          go_wp2
          exact ⟨rfl, rfl, Below.refl _ _, _, rfl, rfl, (fun h => absurd h (by decide))⟩
        · intro vals x hb hf
          simp only [fillS, List.getD_cons_succ, List.getD_cons_zero, Act.put, List.setIfInBounds_toArray, List.set_cons_zero, List.set_cons_succ]
          have h11 : vals 11 = .pointer (some ⟨n1, 1, none⟩) := hf.1
          rw [h11]
          clear h11
          clear hf
          have gvx := kept_block hb gvV
          obtain ⟨v0, v1, v2, v3, v4, v5, v6, v7⟩ := rc8 gvx
          have o0 := rc1 (kept_block hb gbV)
          obtain ⟨⟨x0, x1⟩, -, -⟩ := (BlkAt.mono gqV hb).cell (k := d) (by omega)
          rw [hpd.out] at x0 x1
          obtain ⟨c0, c1⟩ := rc2 (kept_block hb en1)
          obtain ⟨d0, d1⟩ := rc2 (kept_block hb en2)
          have zv := (Array.getElem?_eq_some_iff.1 gvx).1
          go_wp2
          exact ⟨rfl, rfl, Below.refl _ _, _, rfl, rfl, (fun h => absurd h (by decide))⟩
        · intro vals x hb hf
          simp only [fillS, List.getD_cons_succ, List.getD_cons_zero, Act.put, List.setIfInBounds_toArray, List.set_cons_zero, List.set_cons_succ]
          have h10 : vals 10 = .int .i64 nx.lo := hf.1
          rw [h10]
          clear h10
          have h12 : vals 12 = .int .i64 cm.hi := hf.2.1
          rw [h12]
          clear h12
          clear hf
          have gvx := kept_block hb gvV
          obtain ⟨v0, v1, v2, v3, v4, v5, v6, v7⟩ := rc8 gvx
          have o0 := rc1 (kept_block hb gbV)
          obtain ⟨⟨x0, x1⟩, -, -⟩ := (BlkAt.mono gqV hb).cell (k := d) (by omega)
          rw [hpd.out] at x0 x1
          obtain ⟨c0, c1⟩ := rc2 (kept_block hb en1)
          obtain ⟨d0, d1⟩ := rc2 (kept_block hb en2)
          have zv := (Array.getElem?_eq_some_iff.1 gvx).1
          go_wp2
          exact ⟨rfl, rfl, Below.refl _ _, _, rfl, rfl, (fun h => absurd h (by decide))⟩
        · intro vals x hb hf
          simp only [fillS, List.getD_cons_succ, List.getD_cons_zero, Act.put, List.setIfInBounds_toArray, List.set_cons_zero, List.set_cons_succ]
          clear hf
          have gvx := kept_block hb gvV
          obtain ⟨v0, v1, v2, v3, v4, v5, v6, v7⟩ := rc8 gvx
          have o0 := rc1 (kept_block hb gbV)
          obtain ⟨⟨x0, x1⟩, -, -⟩ := (BlkAt.mono gqV hb).cell (k := d) (by omega)
          rw [hpd.out] at x0 x1
          obtain ⟨c0, c1⟩ := rc2 (kept_block hb en1)
          obtain ⟨d0, d1⟩ := rc2 (kept_block hb en2)
          have zv := (Array.getElem?_eq_some_iff.1 gvx).1
          go_wp2
          exact ⟨rfl, rfl, Below.refl _ _, _, rfl, rfl, (fun h => absurd h (by decide))⟩
        · intro vals x hb hf
          simp only [fillS, List.getD_cons_succ, List.getD_cons_zero, Act.put, List.setIfInBounds_toArray, List.set_cons_zero, List.set_cons_succ]
          have h14 : vals 14 = .pointer (some ⟨n2, 1, none⟩) := hf.1
          rw [h14]
          clear h14
          clear hf
          have gvx := kept_block hb gvV
          obtain ⟨v0, v1, v2, v3, v4, v5, v6, v7⟩ := rc8 gvx
          have o0 := rc1 (kept_block hb gbV)
          obtain ⟨⟨x0, x1⟩, -, -⟩ := (BlkAt.mono gqV hb).cell (k := d) (by omega)
          rw [hpd.out] at x0 x1
          obtain ⟨c0, c1⟩ := rc2 (kept_block hb en1)
          obtain ⟨d0, d1⟩ := rc2 (kept_block hb en2)
          have zv := (Array.getElem?_eq_some_iff.1 gvx).1
          go_wp2
          exact ⟨rfl, rfl, Below.refl _ _, _, rfl, rfl, (fun h => absurd h (by decide))⟩
        · intro vals x hb hf
          simp only [fillS, List.getD_cons_succ, List.getD_cons_zero, Act.put, List.setIfInBounds_toArray, List.set_cons_zero, List.set_cons_succ]
          clear hf
          have gvx := kept_block hb gvV
          obtain ⟨v0, v1, v2, v3, v4, v5, v6, v7⟩ := rc8 gvx
          have o0 := rc1 (kept_block hb gbV)
          obtain ⟨⟨x0, x1⟩, -, -⟩ := (BlkAt.mono gqV hb).cell (k := d) (by omega)
          rw [hpd.out] at x0 x1
          obtain ⟨c0, c1⟩ := rc2 (kept_block hb en1)
          obtain ⟨d0, d1⟩ := rc2 (kept_block hb en2)
          have zv := (Array.getElem?_eq_some_iff.1 gvx).1
          go_wp2
          exact ⟨rfl, rfl, Below.refl _ _, _, rfl, rfl, (fun h => absurd h (by decide))⟩
        · intro vals x hb hf
          simp only [fillS, List.getD_cons_succ, List.getD_cons_zero, Act.put, List.setIfInBounds_toArray, List.set_cons_zero, List.set_cons_succ]
          have h16 : vals 16 = .pointer (some ⟨n1, 0, none⟩) := hf.1
          rw [h16]
          clear h16
          clear hf
          have gvx := kept_block hb gvV
          obtain ⟨v0, v1, v2, v3, v4, v5, v6, v7⟩ := rc8 gvx
          have o0 := rc1 (kept_block hb gbV)
          obtain ⟨⟨x0, x1⟩, -, -⟩ := (BlkAt.mono gqV hb).cell (k := d) (by omega)
          rw [hpd.out] at x0 x1
          obtain ⟨c0, c1⟩ := rc2 (kept_block hb en1)
          obtain ⟨d0, d1⟩ := rc2 (kept_block hb en2)
          have zv := (Array.getElem?_eq_some_iff.1 gvx).1
          go_wp2
          exact ⟨rfl, rfl, Below.refl _ _, _, rfl, rfl, (fun h => absurd h (by decide))⟩
        · intro vals x hb hf
          simp only [fillS, List.getD_cons_succ, List.getD_cons_zero, Act.put, List.setIfInBounds_toArray, List.set_cons_zero, List.set_cons_succ]
          have h15 : vals 15 = .int .i64 nx.hi := hf.1
          rw [h15]
          clear h15
          have h17 : vals 17 = .int .i64 cm.lo := hf.2.1
          rw [h17]
          clear h17
          clear hf
          have gvx := kept_block hb gvV
          obtain ⟨v0, v1, v2, v3, v4, v5, v6, v7⟩ := rc8 gvx
          have o0 := rc1 (kept_block hb gbV)
          obtain ⟨⟨x0, x1⟩, -, -⟩ := (BlkAt.mono gqV hb).cell (k := d) (by omega)
          rw [hpd.out] at x0 x1
          obtain ⟨c0, c1⟩ := rc2 (kept_block hb en1)
          obtain ⟨d0, d1⟩ := rc2 (kept_block hb en2)
          have zv := (Array.getElem?_eq_some_iff.1 gvx).1
          go_wp2
          exact ⟨rfl, rfl, Below.refl _ _, _, rfl, rfl, (fun h => absurd h (by decide))⟩
        · intro vals x hb hf
          simp only [fillS, List.getD_cons_succ, List.getD_cons_zero, Act.put, List.setIfInBounds_toArray, List.set_cons_zero, List.set_cons_succ]
          have h13 : vals 13 = .int .i64 (nx.lo - cm.hi) := hf.1
          rw [h13]
          clear h13
          have h18 : vals 18 = .int .i64 (nx.hi - cm.lo) := hf.2.1
          rw [h18]
          clear h18
          clear hf
          have gvx := kept_block hb gvV
          obtain ⟨v0, v1, v2, v3, v4, v5, v6, v7⟩ := rc8 gvx
          have o0 := rc1 (kept_block hb gbV)
          obtain ⟨⟨x0, x1⟩, -, -⟩ := (BlkAt.mono gqV hb).cell (k := d) (by omega)
          rw [hpd.out] at x0 x1
          obtain ⟨c0, c1⟩ := rc2 (kept_block hb en1)
          obtain ⟨d0, d1⟩ := rc2 (kept_block hb en2)
          have zv := (Array.getElem?_eq_some_iff.1 gvx).1
          go_wp2
          exact ⟨rfl, rfl, Below.refl _ _, _, rfl, rfl, (fun h => absurd h (by decide))⟩
        · intro vals x hb hf
          simp only [fillS, List.getD_cons_succ, List.getD_cons_zero, Act.put, List.setIfInBounds_toArray, List.set_cons_zero, List.set_cons_succ]
          have h19 : vals 19 = spV ⟨nx.lo - cm.hi, nx.hi - cm.lo⟩ := hf.1
          rw [h19]
          clear h19
          clear hf
          have gvx := kept_block hb gvV
          obtain ⟨v0, v1, v2, v3, v4, v5, v6, v7⟩ := rc8 gvx
          have o0 := rc1 (kept_block hb gbV)
          obtain ⟨⟨x0, x1⟩, -, -⟩ := (BlkAt.mono gqV hb).cell (k := d) (by omega)
          rw [hpd.out] at x0 x1
          obtain ⟨c0, c1⟩ := rc2 (kept_block hb en1)
          obtain ⟨d0, d1⟩ := rc2 (kept_block hb en2)
          have zv := (Array.getElem?_eq_some_iff.1 gvx).1
          go_wp2
          exact ⟨rfl, rfl, (Below.refl _ _).alloc (Nat.le_refl _) _, _, rfl, sps_one _ _, (fun h => absurd h (by decide))⟩
        · intro vals x hb hf
          simp only [fillS, List.getD_cons_succ, List.getD_cons_zero, Act.put, List.setIfInBounds_toArray, List.set_cons_zero, List.set_cons_succ]
          have h8 : vals 8 = spV so := hf.1
          rw [h8]
          clear h8
          have f20 : (SpsIs [⟨nx.lo - cm.hi, nx.hi - cm.lo⟩]) (vals 20) x := hf.2.1
          clear hf
          have gvx := kept_block hb gvV
          obtain ⟨v0, v1, v2, v3, v4, v5, v6, v7⟩ := rc8 gvx
          have o0 := rc1 (kept_block hb gbV)
          obtain ⟨⟨x0, x1⟩, -, -⟩ := (BlkAt.mono gqV hb).cell (k := d) (by omega)
          rw [hpd.out] at x0 x1
          obtain ⟨c0, c1⟩ := rc2 (kept_block hb en1)
          obtain ⟨d0, d1⟩ := rc2 (kept_block hb en2)
          have zv := (Array.getElem?_eq_some_iff.1 gvx).1
          go_wp2_with (go_at_call 83; (with_reducible refine Calls.mono (kM.out x _ f20) ?_); rintro e y ⟨rfl, hB⟩)
          exact ⟨rfl, rfl, hB, _, rfl, rfl, (fun h => absurd h (by decide))⟩
      intro vals x hb hf hp
      have hrange : List.range 22 = [0, 1, 2, 3, 4, 5, 6, 7, 8, 9, 10, 11, 12, 13, 14, 15, 16, 17, 18, 19, 20, 21] := by rfl
      rw [hrange]
      simp only [fillS, List.getD_cons_succ, List.getD_cons_zero, Act.put, List.setIfInBounds_toArray, List.set_cons_zero, List.set_cons_succ]
      have h0 : vals 0 = .pointer (some ⟨p, 0, none⟩) := hf 0 (by omega)
      have h1 : vals 1 = .int .i64 d := hf 1 (by omega)
      have h2 : vals 2 = .pointer (some ⟨p, 0, none⟩) := hf 2 (by omega)
      have h3 : vals 3 = .pointer (some ⟨p, 0, none⟩) := hf 3 (by omega)
      have h4 : vals 4 = .pointer (some ⟨p, 7, none⟩) := hf 4 (by omega)
      have h5 : vals 5 = .slice (some ⟨q, 0, none⟩) b.flows.length cap := hf 5 (by omega)
      have h6 : vals 6 = .int .i64 d := hf 6 (by omega)
      have h7 : vals 7 = .pointer (some ⟨q, d * 2, none⟩) := hf 7 (by omega)
      have h8 : vals 8 = spV so := hf 8 (by omega)
      have h9 : vals 9 = .pointer (some ⟨n2, 0, none⟩) := hf 9 (by omega)
      have h10 : vals 10 = .int .i64 nx.lo := hf 10 (by omega)
      have h11 : vals 11 = .pointer (some ⟨n1, 1, none⟩) := hf 11 (by omega)
      have h12 : vals 12 = .int .i64 cm.hi := hf 12 (by omega)
      have h13 : vals 13 = .int .i64 (nx.lo - cm.hi) := hf 13 (by omega)
      have h14 : vals 14 = .pointer (some ⟨n2, 1, none⟩) := hf 14 (by omega)
      have h15 : vals 15 = .int .i64 nx.hi := hf 15 (by omega)
      have h16 : vals 16 = .pointer (some ⟨n1, 0, none⟩) := hf 16 (by omega)
      have h17 : vals 17 = .int .i64 cm.lo := hf 17 (by omega)
      have h18 : vals 18 = .int .i64 (nx.hi - cm.lo) := hf 18 (by omega)
      have h19 : vals 19 = spV ⟨nx.lo - cm.hi, nx.hi - cm.lo⟩ := hf 19 (by omega)
      have f20 : (SpsIs [⟨nx.lo - cm.hi, nx.hi - cm.lo⟩]) (vals 20) x := hf 20 (by omega)
      have f21 : (IsV (spV s1)) (vals 21) x := hf 21 (by omega)
      rw [h0, h1, h2, h3, h4, h5, h6, h7, h8, h9, h10, h11, h12, h13, h14, h15, h16, h17, h18, h19]
      clear h0 h1 h2 h3 h4 h5 h6 h7 h8 h9 h10 h11 h12 h13 h14 h15 h16 h17 h18 h19 hf hp hrange
      simp only [List.drop_succ_cons, List.drop_zero]
      have hQ' : Hid (b.partB g z l (k + 1) = lp.set d s1) := hpt
      rw [show vals 21 = spV s1 from f21]
      clear f20 f21 kM hm1 hbw hf1 hf2 hcb hnb
      go_wp2_with (go_at_call 84; (with_reducible refine Calls.mono (kK.out x hb) ?_); rintro e W7 ⟨rfl, hk7, hq7⟩)
      refine OnlyN.mk ?_
      gi_wp2
      have hxW : Kept (fun i => i ≠ q) X W7 := (hkV.trans (Kept.all hb)).trans hk7
      have hqlt := hqX.lt
      exact ⟨((hk2V.trans (Kept.all hb)).trans hk7).mono fun i _ h => by omega, hxW, by rw [hlen1.out, hQ'.out]; exact hq7⟩
end Go.Proofs.YthbkcoijafehgaaGreat.L
