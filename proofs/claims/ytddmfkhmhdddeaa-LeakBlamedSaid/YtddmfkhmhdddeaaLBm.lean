/- Walks: the law LeakBlamed. -/
import Derived.Test.YtddmfkhmhdddeaaTru
import Derived.Test.YtddmfkhmhdddeaaRWi
import Derived.Test.YtddmfkhmhdddeaaKno
import Derived.Test.YtddmfkhmhdddeaaSho
import Derived.Test.YtddmfkhmhdddeaaBok
import Derived.Deep.Cut
import Derived.Deep.CutRange
set_option linter.unusedVariables false
set_option linter.unusedSimpArgs false
namespace Lk
/-- Whether a reading does not hold of what is true. -/
def Bk.lieB (b : Bk) (cs : List (List Int)) (k : Nat) : Bool := !Bk.holdB cs (rdAt b.reads k)
theorem lies_agree {b : Bk} (ok : Ok b) {xs : List Int} {ys : List (List Int)} (hT : b.truthB xs ys = true) : (b.without (b.lieB (conL noGs xs ys ys.length))).agreeB noGs = true := by
  refine true_agree (without_ok ok _) (xs := xs) (ys := ys) hT ?_
  rw [Bk.holdsB, List.all_eq_true]
  intro r hr
  obtain ⟨i, -, hs, rfl⟩ := mem_without.1 hr
  simpa [Bk.lieB] using hs
theorem cntN_succ (n : Nat) (S : Nat → Bool) : cntN (n + 1) S = cntN n S + if S n then 1 else 0 := by
  simp [cntN, List.range_succ, List.countP_append, List.countP_cons]
theorem blame_lt {b : Bk} {k : Nat} (h : k < b.blame.length) : natAt b.blame k < b.reads.length := by
  have hm : b.blame[k] ∈ b.blame := List.getElem_mem h
  have e : natAt b.blame k = b.blame[k] := by simp [natAt, h]
  rw [e]
  unfold Bk.blame at hm
  exact List.mem_range.1 (List.mem_filter.1 hm).1
theorem blame_inc {b : Bk} {k : Nat} (h : k + 1 < b.blame.length) : natAt b.blame k < natAt b.blame (k + 1) := by
  have hp : b.blame.Pairwise (· < ·) := by
    unfold Bk.blame
    exact List.Pairwise.filter _ List.pairwise_lt_range
  have e1 : natAt b.blame k = b.blame[k] := by simp [natAt, show k < b.blame.length by omega]
  have e2 : natAt b.blame (k + 1) = b.blame[k + 1] := by simp [natAt, h]
  rw [e1, e2]
  exact List.pairwise_iff_getElem.1 hp k (k + 1) (by omega) h (by omega)
theorem has_blame {b : Bk} : hasI (b.blame.map fun n : Nat => (n : Int)) = b.blame.contains := by
  funext k
  unfold hasI
  rw [Bool.eq_iff_iff, List.contains_iff_mem, List.contains_iff_mem, List.mem_map]
  constructor
  · rintro ⟨n, hn, e⟩
    have : n = k := by omega
    rw [← this]; exact hn
  · intro h; exact ⟨k, h, rfl⟩
end Lk
namespace Go.Proofs.Ytddmfkhmhdddeaa
open Go.RowKit Go.Sd Lk

theorem agreeFormB (fv wv rv : Value) (b : Bk) (g : Gs) (w : World) (hb : BookAt w fv wv rv b) (h0 : b.err true = 0) (hg : b.gsB g = true) {t : Bool} (ht : b.agreeB g = t) :
    Calls Try.prog 39 #[bkV fv wv rv, gsV g] w fun e w' => e = .returned (.tuple #[.bool t, .int .i64 0]) ∧ Below w.heap.size w w' := by
  have h := progAgree fv wv rv b g w hb
  unfold AgreePost at h
  rw [hg, h0, ht] at h
  simpa using h
theorem without_err {b : Bk} (h : b.err true = 0) (S : Nat → Bool) : (b.without S).err true = 0 := by
  obtain ⟨h1, h2, -⟩ := err_zero h
  have hb : (b.without S).bookB = true := by
    unfold Bk.bookB at h2 ⊢
    simp only [Bool.and_eq_true, List.all_eq_true] at h2 ⊢
    refine ⟨⟨h2.1.1, fun r hr => ?_⟩, h2.2⟩
    obtain ⟨i, hi, -, rfl⟩ := mem_without.1 hr
    exact h2.1.2 _ (by simp [rdAt, hi])
  have hl2 : (b.without S).longB = false := by
    have := without_len (b := b) (S := S)
    have e : (b.without S).flows = b.flows := rfl
    simp only [Bk.longB, Bool.or_eq_false_iff, decide_eq_false_iff_not, e] at h1 ⊢
    omega
  unfold Bk.err
  rw [hl2, hb]
  rfl

set_option maxRecDepth 100000 in
set_option maxHeartbeats 4000000 in
theorem lawBlamed (fv wv rv : Value) (b : Bk) (xv : Value) (xs : List Int) (yv : Value) (ys : List (List Int)) (w : World) (hb : BookAt w fv wv rv b) (hcap : ∀ a n cap, rv = .slice a n cap → n ≤ cap) (hx : IntsAt w xv xs) (hy : ListsAt w yv ys) :
    Calls Try.prog 10 #[bkV fv wv rv, xv, yv] w fun e w' => e = .returned (.bool true) ∧ Below w.heap.size w w' := by
  have kK := Lib.hid (fun X => progKnown X)
  obtain ⟨W, hW⟩ : ∃ W, w.alloc (bkA fv wv rv) = W := ⟨_, rfl⟩
  obtain ⟨e0, BW, s0⟩ := boxed hW
  have hE0 := Lib.hid e0
  have hbW := hb.mono BW
  have hxW := hx.mono BW
  have hyW := hy.mono BW
  obtain ⟨fa, fc, rfl, hfm, -⟩ := hb.first.form
  obtain ⟨wa, ww, rfl, hwm, -⟩ := hb.flows.form
  obtain ⟨ra, rc, rfl, hrm, -⟩ := hb.reads.form
  obtain ⟨xa, xc, rfl, hxm, -⟩ := hx.form
  obtain ⟨ya, yc, rfl, hym, -⟩ := hy.form
  obtain ⟨q0, q1, q2⟩ := rc3 hE0.out
  have z0 := (Array.getElem?_eq_some_iff.1 hE0.out).1
  have kS0 := fun X (h : Below W.heap.size W X) => lawShort _ _ _ b X (hbW.mono h)
  have kI0 := fun X (h : Below W.heap.size W X) => lawSlim _ _ xs ys X (hxW.mono h) (hyW.mono h)
  have kB0 := fun X (h : Below W.heap.size W X) => lawBooked _ _ _ b true X (hbW.mono h)
  have kT1 := fun (ok : Ok b) X (h : Below W.heap.size W X) => refTruth _ _ _ _ _ b xs ys X (hbW.mono h) ok (hxW.mono h) (hyW.mono h)
  have hez := Lib.hid (err_zero (b := b) (f := true))
  have hBW := Lib.hid BW
  have hbh := Lib.hid hbW
  have hxh := Lib.hid hxW
  have hyh := Lib.hid hyW
  have hcaph := Lib.hid hcap
  clear s0 hb hx hy hbW hxW hyW e0 BW hcap
  go_enter Try.func10, Try.ntmps10
  go_upto_region 1 with fail
  clear hW
  have hg := Below.refl W.heap.size W
  go_cut [43] from 17 to 43 (fun c wx => ∃ G : Bool, c = .bool G ∧ Hid (Below W.heap.size W wx ∧ (G = false → slimB xs ys = true ∧ b.err true = 0 ∧ b.truthB xs ys = true)))
  case first =>
    cases hb0 : b.shortB
    · simp only [hb0] at kS0
      have kS := Lib.hid kS0
      go_wp2_with (first | (go_at_call 17; (with_reducible refine Calls.mono (kS.out _ hg) ?_); rintro e w1 ⟨rfl, hB⟩; have hg := below_tr hg hB; obtain ⟨q0, q1, q2⟩ := rc3 (kept_block hg hE0.out); have z0 := (Array.getElem?_eq_some_iff.1 (kept_block hg hE0.out)).1; clear hB))
      go_meet
      exact ⟨true, rfl, Lib.hid ⟨hg, fun h => (by cases h)⟩⟩
    · simp only [hb0] at kS0
      have kS := Lib.hid kS0
      cases hb1 : slimB xs ys
      · simp only [hb1] at kI0
        have kI := Lib.hid kI0
        go_wp2_with (first | (go_at_call 17; (with_reducible refine Calls.mono (kS.out _ hg) ?_); rintro e w1 ⟨rfl, hB⟩; have hg := below_tr hg hB; obtain ⟨q0, q1, q2⟩ := rc3 (kept_block hg hE0.out); have z0 := (Array.getElem?_eq_some_iff.1 (kept_block hg hE0.out)).1; clear hB) | (go_at_call 35; (with_reducible refine Calls.mono (kI.out _ hg) ?_); rintro e w1 ⟨rfl, hB⟩; have hg := below_tr hg hB; obtain ⟨q0, q1, q2⟩ := rc3 (kept_block hg hE0.out); have z0 := (Array.getElem?_eq_some_iff.1 (kept_block hg hE0.out)).1; clear hB))
        go_meet
        exact ⟨true, rfl, Lib.hid ⟨hg, fun h => (by cases h)⟩⟩
      · simp only [hb1] at kI0
        have kI := Lib.hid kI0
        by_cases he : b.err true = 0
        · rw [he] at kB0
          have kT0 := kT1 (ok_of (hez.out he).2.1 (hez.out he).1)
          have kB := Lib.hid kB0
          clear kB0 kT1 hez
          by_cases hp2 : 12 < b.reads.length
          · have hd2 : decide ((12 : Int) < (b.reads.length : Int)) = true := decide_eq_true (by omega)
            have hd3 : decide (12 < b.reads.length) = true := decide_eq_true hp2
            go_wp2_with (first | (go_at_call 17; (with_reducible refine Calls.mono (kS.out _ hg) ?_); rintro e w1 ⟨rfl, hB⟩; have hg := below_tr hg hB; obtain ⟨q0, q1, q2⟩ := rc3 (kept_block hg hE0.out); have z0 := (Array.getElem?_eq_some_iff.1 (kept_block hg hE0.out)).1; clear hB) | (go_at_call 35; (with_reducible refine Calls.mono (kI.out _ hg) ?_); rintro e w1 ⟨rfl, hB⟩; have hg := below_tr hg hB; obtain ⟨q0, q1, q2⟩ := rc3 (kept_block hg hE0.out); have z0 := (Array.getElem?_eq_some_iff.1 (kept_block hg hE0.out)).1; clear hB) | (go_at_call 20; (with_reducible refine Calls.mono (kB.out _ hg) ?_); rintro e w1 ⟨rfl, hB⟩; have hg := below_tr hg hB; obtain ⟨q0, q1, q2⟩ := rc3 (kept_block hg hE0.out); have z0 := (Array.getElem?_eq_some_iff.1 (kept_block hg hE0.out)).1; clear hB))
            go_meet
            exact ⟨true, rfl, Lib.hid ⟨hg, fun h => (by cases h)⟩⟩
          · have hd2 : decide ((12 : Int) < (b.reads.length : Int)) = false := decide_eq_false (by omega)
            have hd3 : decide (12 < b.reads.length) = false := decide_eq_false hp2
            cases hb11 : b.truthB xs ys
            · simp only [hb11] at kT0
              have kT := Lib.hid kT0
              go_wp2_with (first | (go_at_call 17; (with_reducible refine Calls.mono (kS.out _ hg) ?_); rintro e w1 ⟨rfl, hB⟩; have hg := below_tr hg hB; obtain ⟨q0, q1, q2⟩ := rc3 (kept_block hg hE0.out); have z0 := (Array.getElem?_eq_some_iff.1 (kept_block hg hE0.out)).1; clear hB) | (go_at_call 35; (with_reducible refine Calls.mono (kI.out _ hg) ?_); rintro e w1 ⟨rfl, hB⟩; have hg := below_tr hg hB; obtain ⟨q0, q1, q2⟩ := rc3 (kept_block hg hE0.out); have z0 := (Array.getElem?_eq_some_iff.1 (kept_block hg hE0.out)).1; clear hB) | (go_at_call 20; (with_reducible refine Calls.mono (kB.out _ hg) ?_); rintro e w1 ⟨rfl, hB⟩; have hg := below_tr hg hB; obtain ⟨q0, q1, q2⟩ := rc3 (kept_block hg hE0.out); have z0 := (Array.getElem?_eq_some_iff.1 (kept_block hg hE0.out)).1; clear hB) | (go_at_call 36; (with_reducible refine Calls.mono (kT.out _ hg) ?_); rintro e w1 ⟨rfl, hB⟩; have hg := below_tr hg hB; obtain ⟨q0, q1, q2⟩ := rc3 (kept_block hg hE0.out); have z0 := (Array.getElem?_eq_some_iff.1 (kept_block hg hE0.out)).1; clear hB))
              go_meet
              exact ⟨true, rfl, Lib.hid ⟨hg, fun h => (by cases h)⟩⟩
            · simp only [hb11] at kT0
              have kT := Lib.hid kT0
              go_wp2_with (first | (go_at_call 17; (with_reducible refine Calls.mono (kS.out _ hg) ?_); rintro e w1 ⟨rfl, hB⟩; have hg := below_tr hg hB; obtain ⟨q0, q1, q2⟩ := rc3 (kept_block hg hE0.out); have z0 := (Array.getElem?_eq_some_iff.1 (kept_block hg hE0.out)).1; clear hB) | (go_at_call 35; (with_reducible refine Calls.mono (kI.out _ hg) ?_); rintro e w1 ⟨rfl, hB⟩; have hg := below_tr hg hB; obtain ⟨q0, q1, q2⟩ := rc3 (kept_block hg hE0.out); have z0 := (Array.getElem?_eq_some_iff.1 (kept_block hg hE0.out)).1; clear hB) | (go_at_call 20; (with_reducible refine Calls.mono (kB.out _ hg) ?_); rintro e w1 ⟨rfl, hB⟩; have hg := below_tr hg hB; obtain ⟨q0, q1, q2⟩ := rc3 (kept_block hg hE0.out); have z0 := (Array.getElem?_eq_some_iff.1 (kept_block hg hE0.out)).1; clear hB) | (go_at_call 36; (with_reducible refine Calls.mono (kT.out _ hg) ?_); rintro e w1 ⟨rfl, hB⟩; have hg := below_tr hg hB; obtain ⟨q0, q1, q2⟩ := rc3 (kept_block hg hE0.out); have z0 := (Array.getElem?_eq_some_iff.1 (kept_block hg hE0.out)).1; clear hB))
              go_meet
              exact ⟨false, rfl, Lib.hid ⟨hg, fun _ => ⟨hb1, he, hb11⟩⟩⟩
        · have h23 : b.err true = 2 ∨ b.err true = 3 := by have := err_cases b true; omega
          clear he hez kT1
          generalize b.err true = er at *
          rcases h23 with rfl | rfl
          all_goals
            have kB := Lib.hid kB0
            go_wp2_with (first | (go_at_call 17; (with_reducible refine Calls.mono (kS.out _ hg) ?_); rintro e w1 ⟨rfl, hB⟩; have hg := below_tr hg hB; obtain ⟨q0, q1, q2⟩ := rc3 (kept_block hg hE0.out); have z0 := (Array.getElem?_eq_some_iff.1 (kept_block hg hE0.out)).1; clear hB) | (go_at_call 35; (with_reducible refine Calls.mono (kI.out _ hg) ?_); rintro e w1 ⟨rfl, hB⟩; have hg := below_tr hg hB; obtain ⟨q0, q1, q2⟩ := rc3 (kept_block hg hE0.out); have z0 := (Array.getElem?_eq_some_iff.1 (kept_block hg hE0.out)).1; clear hB) | (go_at_call 20; (with_reducible refine Calls.mono (kB.out _ hg) ?_); rintro e w1 ⟨rfl, hB⟩; have hg := below_tr hg hB; obtain ⟨q0, q1, q2⟩ := rc3 (kept_block hg hE0.out); have z0 := (Array.getElem?_eq_some_iff.1 (kept_block hg hE0.out)).1; clear hB))
            go_meet
            exact ⟨true, rfl, Lib.hid ⟨hg, fun h => (by cases h)⟩⟩
  case rest =>
  obtain ⟨G, rfl, hH⟩ := hcut
  obtain ⟨hBV, hF⟩ := hH.out
  clear hH kS0 kI0 kB0 kT1 q0 q1 q2 z0 hg
  have hwx := Lib.hid (below_tr hBW.out hBV)
  have hC0 := Lib.hid (kept_block hBV hE0.out)
  have hbV := Lib.hid (hbh.out.mono hBV)
  have hxV := hxh.out.mono hBV
  have hyV := hyh.out.mono hBV
  clear hE0 hbh hxh hyh hBW hBV
  cases G
  · obtain ⟨hsl, herr, htr⟩ := hF rfl
    clear hF
    have h0 := hez.out herr
    have ok := ok_of h0.2.1 h0.1
    obtain ⟨hl1, hl2, hl3, hl4⟩ := truthB_iff htr
    have hnd := ok.nd
    have hnz := ok.nz
    have hnr := ok.nr
    have hgn : b.gsB noGs = true := agr_none
    have hcb : ∀ i, i < b.first.length → ∀ d, d ≤ ys.length → -1000000000 - 110000000 * (d : Int) ≤ conN noGs xs ys i d ∧ conN noGs xs ys i d ≤ 1000000000 + 110000000 * (d : Int) := fun i hi => conN_bd (g := noGs) ok hgn htr hi
    have kC0 := fun X (h : Below wc.heap.size wc X) => refContents noGs _ _ xs ys X (hxV.mono h) (hyV.mono h) ⟨by omega, by omega⟩ (by omega) (fun d hd => (hl4 d hd).1)
      (fun i d hi hd => by have := hcb i (by omega) d hd; omega)
      (fun d i hd hi => by have a := (hl4 d hd).2 i hi; have f := ok.flows d i (by omega) (by omega); unfold Bk.flowAt at a; omega) (by simp [noGs])
    have hcl := conL_len (g := noGs) (xs := xs) (ys := ys) (d := ys.length)
    have kC : Hid (∀ X, Below wc.heap.size wc X → Calls Try.prog 37 _ X fun e w' => ∃ ca cc, e = .returned (.slice ca ys.length cc) ∧ Below X.heap.size X w' ∧ ListsAt w' (.slice ca ys.length cc) (conL noGs xs ys ys.length)) := Lib.hid fun X h => (kC0 X h).mono (by
      rintro e w' ⟨hB, v, rfl, hv⟩
      have hv0 := hv
      obtain ⟨ca, cc, rfl, -, -⟩ := hv.form
      rw [hcl] at hv0 ⊢
      exact ⟨ca, cc, rfl, hB, hv0⟩)
    have kM : Hid (∀ X, Below wc.heap.size wc X → Calls Try.prog 25 #[bkV (.slice fa b.first.length fc) (.slice wa b.flows.length ww) (.slice ra b.reads.length rc)] X fun e w' => ∃ a cap, e = .returned (.tuple #[.slice a b.blame.length cap, .int .i64 0]) ∧ Below X.heap.size X w' ∧ natsAt w' (.slice a b.blame.length cap) b.blame) := Lib.hid fun X h => (progBlame _ _ _ b X (hbV.out.mono h) hcaph.out).mono (by
      rintro e w' ⟨hB, ⟨h, -⟩ | ⟨-, a, cap, rfl, hv⟩⟩
      · exact absurd herr h
      · exact ⟨a, cap, rfl, hB, hv⟩)
    have hle := blame_least ok (lies_agree ok htr)
    have hag : (b.without (hasI (b.blame.map fun n : Nat => (n : Int)))).agreeB noGs = true := by rw [has_blame]; exact fit_blame ok
    have her2 := without_err herr (hasI (b.blame.map fun n : Nat => (n : Int)))
    have kW : Hid (∀ X lv, Below wc.heap.size wc X → natsAt X lv b.blame → Calls Try.prog 41 #[bkV (.slice fa b.first.length fc) (.slice wa b.flows.length ww) (.slice ra b.reads.length rc), lv] X fun e w' => ∃ v, e = .returned (bkV (.slice fa b.first.length fc) (.slice wa b.flows.length ww) v) ∧ Below X.heap.size X w' ∧ BookAt w' (.slice fa b.first.length fc) (.slice wa b.flows.length ww) v (b.without (hasI (b.blame.map fun n : Nat => (n : Int))))) := Lib.hid fun X lv h hv => refWithout _ _ _ lv b _ X (hbV.out.mono h) hv (by omega)
    have kA : Hid (∀ X v, BookAt X (.slice fa b.first.length fc) (.slice wa b.flows.length ww) v (b.without (hasI (b.blame.map fun n : Nat => (n : Int)))) → Calls Try.prog 39 #[bkV (.slice fa b.first.length fc) (.slice wa b.flows.length ww) v, gsV noGs] X fun e w' => e = .returned (.tuple #[.bool true, .int .i64 0]) ∧ Below X.heap.size X w') := Lib.hid fun X v h => agreeFormB _ _ _ _ noGs X h her2 agr_none hag
    have hok := Lib.hid ok
    have hl1' := Lib.hid hl1
    have hl2' := Lib.hid hl2
    have hcb' := Lib.hid hcb
    have hle' := Lib.hid hle
    clear kC0 hcl hsl herr h0 hl1 hl2 hl3 hl4 hgn hcb hle hag her2 htr hez hcaph ok
    obtain ⟨q0, q1, q2⟩ := rc3 hC0.out
    have z0 := (Array.getElem?_eq_some_iff.1 hC0.out).1
    go_upto_region 4 with (first
      | (go_at_call 40; (with_reducible refine Calls.mono (refNone _) ?_); rintro e w1 ⟨rfl, h1⟩; obtain ⟨q0, q1, q2⟩ := rc3 (kept_block h1 hC0.out); have z0 := (Array.getElem?_eq_some_iff.1 (kept_block h1 hC0.out)).1)
      | (go_at_call 37; (with_reducible refine Calls.mono (kC.out _ h1) ?_); rintro e w2 ⟨ca, cc, rfl, hB2, hcv⟩; have h2 := below_tr h1 hB2; obtain ⟨q0, q1, q2⟩ := rc3 (kept_block h2 hC0.out); have z0 := (Array.getElem?_eq_some_iff.1 (kept_block h2 hC0.out)).1))
    have hcv' := Lib.hid hcv
    have hV2 := Lib.hid h2
    clear hcv hB2 h1 h2 kC hxV hyV q0 q1 q2 z0
    go_wp2_with fail
    go_loopw [8, 9] (fun n i wr => ∃ gg : Grow w2, wr = gg.x ∧ ∃ k : Nat, k ≤ b.reads.length ∧ i = .int .i64 k ∧ n = .int .i64 (cntN k (b.lieB (conL noGs xs ys ys.length)) : Nat)) (fun _ i _ => b.reads.length - (intOf i).toNat)
    case atStart => exact ⟨Grow.self w2, rfl, 0, by omega, rfl, rfl⟩
    case round =>
      obtain ⟨gg, rfl, k, hk, rfl, rfl⟩ := hrel
      obtain ⟨U, hU⟩ : ∃ U, gg.x = U := ⟨_, rfl⟩
      have hXU : Below w2.heap.size w2 U := by rw [← hU]; exact gg.h
      rw [hU]
      clear hU gg
      have hWU := Lib.hid (below_tr hV2.out hXU)
      obtain ⟨q0, q1, q2⟩ := rc3 (kept_block hWU.out hC0.out)
      have z0 := (Array.getElem?_eq_some_iff.1 (kept_block hWU.out hC0.out)).1
      have hcn : cntN k (b.lieB (conL noGs xs ys ys.length)) ≤ k := by
        have := List.countP_le_length (p := b.lieB (conL noGs xs ys ys.length)) (l := List.range k)
        simpa [cntN] using this
      by_cases hkl : k < b.reads.length
      · have hki : (k : Int) < (b.reads.length : Int) := by omega
        obtain ⟨rb, off, d2, hv2, hrb, -, y0, y1, y2, y3⟩ := rd_cells (hbV.out.mono hWU.out).reads (k := k) hkl
        obtain ⟨rfl, rfl⟩ : ra = some ⟨rb, off, none⟩ ∧ rc = d2 := by simpa using hv2
        have hrr := hok.out.reads k hkl
        have hcs := Lib.hid (cntN_succ k (b.lieB (conL noGs xs ys ys.length)))
        have hlie : Hid (b.lieB (conL noGs xs ys ys.length) k = !Bk.holdB (conL noGs xs ys ys.length) (rdAt b.reads k)) := Lib.hid rfl
        generalize rdAt b.reads k = r at *
        generalize cntN k (b.lieB (conL noGs xs ys ys.length)) = N at *
        obtain ⟨rd, rz, ⟨rlo, rhi⟩⟩ := r
        simp only at y0 y1 y2 y3 hrr
        obtain ⟨d, rfl⟩ : ∃ d : Nat, rd = d := ⟨rd.toNat, by omega⟩
        obtain ⟨z, rfl⟩ : ∃ z : Nat, rz = z := ⟨rz.toNat, by omega⟩
        have hd : d < ys.length := by have := hl2'.out; omega
        have hz : z < xs.length := by have := hl1'.out; omega
        obtain ⟨V, hV⟩ : ∃ V, U.alloc (rdO ⟨d, z, ⟨rlo, rhi⟩⟩) = V := ⟨_, rfl⟩
        obtain ⟨eV, bV, sV⟩ := boxed hV
        obtain ⟨v0, v1, v2, v3⟩ := rc4 eV
        have zv := (Array.getElem?_eq_some_iff.1 eV).1
        have hXV := below_tr hXU bV
        obtain ⟨c1, o1, k1, ev1, hv1, hw1, -, t0, hrow1⟩ := list_cell (hcv'.out.mono hXV) (k := d) (by rw [conL_len]; exact hd)
        rw [conL_len] at hv1
        obtain ⟨rfl, rfl⟩ : ca = some ⟨c1, o1, none⟩ ∧ cc = k1 := by simpa using hv1
        rw [conL_at hd] at hrow1
        obtain ⟨r1, n1, rfl, hrm1, -⟩ := hrow1.form
        rw [rowC_len] at t0
        obtain ⟨e1, p1, m1, hx1, hcl1, -, x0⟩ := int_cells hrow1 (k := z) (by rw [rowC_len]; exact hz)
        rw [rowC_len] at hx1
        obtain ⟨rfl, rfl⟩ : r1 = some ⟨e1, p1, none⟩ ∧ n1 = m1 := by simpa using hx1
        rw [rowC_at hz] at x0
        have hho : Bk.holdB (conL noGs xs ys ys.length) ⟨d, z, ⟨rlo, rhi⟩⟩ = inB (conN noGs xs ys z (d + 1)) rlo rhi := by
          unfold Bk.holdB; simp only [Int.toNat_natCast]; rw [conL_at hd, rowC_at hz]
        rw [hho] at hlie
        have hdi : (d : Int) < (ys.length : Int) := by omega
        have hzi : (z : Int) < (xs.length : Int) := by omega
        replace hXU := Lib.hid hXU
        replace hXV := Lib.hid hXV
        clear hv2 hv1 hrow1 hrm1 hx1 hho sV
        generalize conN noGs xs ys z (d + 1) = C at *
        generalize b.lieB (conL noGs xs ys ys.length) = LB at *
        go_upto_region 9 with fail
        clear hV y0 y1 y2 y3 q0 q1 q2 z0
        have hgV := grow_cell V
        refine wp_region_grow (by kernel_rfl) (by kernel_rfl) ?_
        repeat (go_big_quiet_step (fail))
        refine wpQuiet_nil ?_
        rintro _ ⟨g, rfl⟩
        clear hgV
        have hVg := g.h
        obtain ⟨v0, v1, v2, v3⟩ := rc4 (kept_block hVg eV)
        have zv := (Array.getElem?_eq_some_iff.1 (kept_block hVg eV)).1
        generalize g.x = Y at *
        have hXY := Lib.hid (below_tr hXV.out hVg)
        clear hXV hVg eV bV t0 x0
        by_cases hlo : C < rlo
        · have d1 : decide (C < rlo) = true := decide_eq_true hlo
          have hl2 : LB k = true := by rw [hlie.out]; simp [inB]; omega
          rw [hl2] at hcs
          go_wp2_with fail
          exact ⟨⟨⟨Y, hXY.out⟩, rfl, k + 1, by omega, by go_num, by rw [hcs.out]; go_num⟩, by simp [intOf]; omega⟩
        · have d1 : decide (C < rlo) = false := decide_eq_false hlo
          by_cases hhi : rhi < C
          · have d2 : decide (rhi < C) = true := decide_eq_true hhi
            have hl2 : LB k = true := by rw [hlie.out]; simp [inB]; omega
            rw [hl2] at hcs
            go_wp2_with fail
            exact ⟨⟨⟨Y, hXY.out⟩, rfl, k + 1, by omega, by go_num, by rw [hcs.out]; go_num⟩, by simp [intOf]; omega⟩
          · have d2 : decide (rhi < C) = false := decide_eq_false hhi
            have hl2 : LB k = false := by rw [hlie.out]; simp [inB]; omega
            rw [hl2] at hcs
            go_wp2_with fail
            exact ⟨⟨⟨Y, hXY.out⟩, rfl, k + 1, by omega, by go_num, by rw [hcs.out]; simp⟩, by simp [intOf]; omega⟩
      · obtain rfl : k = b.reads.length := by omega
        replace hXU := Lib.hid hXU
        clear hcv' hcn
        have hle := hle'.out
        clear hle'
        generalize cntN b.reads.length (b.lieB (conL noGs xs ys ys.length)) = N at *
        go_upto_region 13 with (go_at_call 25; (with_reducible refine Calls.mono (kM.out _ hWU.out) ?_); rintro e w3 ⟨ba, bc, rfl, hB3, hbl⟩; have h3 := below_tr hWU.out hB3; obtain ⟨q0, q1, q2⟩ := rc3 (kept_block h3 hC0.out); have z0 := (Array.getElem?_eq_some_iff.1 (kept_block h3 hC0.out)).1)
        have hbl' := Lib.hid hbl
        have hV3 := Lib.hid h3
        have d1 : decide ((N : Int) < (b.blame.length : Int)) = false := decide_eq_false (by omega)
        have hC3 := Lib.hid (kept_block h3 hC0.out)
        obtain ⟨-, -, -, hlb, -⟩ := hbl.form
        rw [List.length_map] at hlb
        clear hbl hB3 h3 hXU hWU kM
        have hlt := Lib.hid (fun k h => blame_lt (b := b) (k := k) h)
        have hin := Lib.hid (fun k h => blame_inc (b := b) (k := k) h)
        go_upto_region 15 with fail
        clear d1 hle q0 q1 q2 z0
        go_wp2_with fail
        go_loopw [14] (fun i wr => ∃ gg : Grow w3, wr = gg.x ∧ ∃ j : Nat, j ≤ b.blame.length ∧ i = .int .i64 j) (fun i _ => b.blame.length - (intOf i).toNat)
        case atStart => exact ⟨Grow.self w3, rfl, 0, by omega, rfl⟩
        case round =>
          obtain ⟨u1, rfl, j, hj, rfl⟩ := hrel
          by_cases hjl : j < b.blame.length
          · have hji : (j : Int) < (b.blame.length : Int) := by omega
            obtain ⟨q0, q1, q2⟩ := rc3 hC3.out
            have z0 := (Array.getElem?_eq_some_iff.1 hC3.out).1
            obtain ⟨c1, p1, m1, hw1, hcl1, -, x0⟩ := int_cells hbl'.out (k := j) (by rw [List.length_map]; exact hjl)
            rw [List.length_map] at hw1
            obtain ⟨rfl, rfl⟩ : ba = some ⟨c1, p1, none⟩ ∧ bc = m1 := by simpa using hw1
            rw [at0_map] at x0
            have hm1 := hlt.out j hjl
            clear hw1
            by_cases hj0 : j = 0
            · have d6 : decide ((0 : Int) < (j : Int)) = false := decide_eq_false (by omega)
              have d7 : decide (0 < j) = false := decide_eq_false (by omega)
              clear hj0
              generalize natAt b.blame j = m at *
              have d1 : decide ((m : Int) < 0) = false := decide_eq_false (by omega)
              have d2 : decide ((b.reads.length : Int) ≤ (m : Int)) = false := decide_eq_false (by omega)
              have d3 : decide (b.reads.length ≤ m) = false := decide_eq_false (by omega)
              go_wp2_with fail
              have hgg : ∀ (h : Grow u1.x) (b o : Nat), b < w3.heap.size → h.x.cell? ⟨b, o, none⟩ = w3.cell? ⟨b, o, none⟩ := fun h b o hb => (grow_cell u1.x h b o (Nat.lt_of_lt_of_le hb u1.size)).trans (grow_cell w3 u1 b o hb)
              refine wp_region_grow (by kernel_rfl) (by kernel_rfl) ?_
              repeat (go_big_quiet_step (fail))
              refine wpQuiet_nil ?_
              rintro _ ⟨gx, rfl⟩
              clear hgg
              obtain ⟨u2, hu2⟩ := u1.next gx.h
              rw [hu2]
              clear hu2 gx
              go_wp2_with fail
              exact ⟨⟨u2, rfl, j + 1, by omega, by go_num⟩, by simp [intOf]; omega⟩
            · obtain ⟨j, rfl⟩ : ∃ i, j = i + 1 := ⟨j - 1, by omega⟩
              obtain ⟨c2, p2, m2, hw2, hcl2, -, x1⟩ := int_cells hbl'.out (k := j) (by rw [List.length_map]; omega)
              rw [List.length_map] at hw2
              obtain ⟨⟨rfl, rfl⟩, rfl⟩ : (c1 = c2 ∧ p1 = p2) ∧ bc = m2 := by simpa using hw2
              rw [at0_map] at x1
              have hm2 := hin.out j hjl
              clear hw2
              generalize natAt b.blame j = m' at *
              generalize natAt b.blame (j + 1) = m at *
              have d1 : decide ((m : Int) < 0) = false := decide_eq_false (by omega)
              have d2 : decide ((b.reads.length : Int) ≤ (m : Int)) = false := decide_eq_false (by omega)
              have d3 : decide (b.reads.length ≤ m) = false := decide_eq_false (by omega)
              have d4 : decide ((m : Int) ≤ (m' : Int)) = false := decide_eq_false (by omega)
              have d5 : decide (m ≤ m') = false := decide_eq_false (by omega)
              have d6 : decide ((0 : Int) < ((j + 1 : Nat) : Int)) = true := decide_eq_true (by omega)
              have d7 : decide ((0 : Int) < (j : Int) + 1) = true := decide_eq_true (by omega)
              go_wp2_with fail
              have hgg : ∀ (h : Grow u1.x) (b o : Nat), b < w3.heap.size → h.x.cell? ⟨b, o, none⟩ = w3.cell? ⟨b, o, none⟩ := fun h b o hb => (grow_cell u1.x h b o (Nat.lt_of_lt_of_le hb u1.size)).trans (grow_cell w3 u1 b o hb)
              refine wp_region_grow (by kernel_rfl) (by kernel_rfl) ?_
              repeat (go_big_quiet_step (fail))
              refine wpQuiet_nil ?_
              rintro _ ⟨gx, rfl⟩
              clear hgg
              obtain ⟨u2, hu2⟩ := u1.next gx.h
              rw [hu2]
              clear hu2 gx
              go_wp2_with fail
              exact ⟨⟨u2, rfl, j + 2, by omega, by go_num⟩, by simp [intOf]; omega⟩
          · obtain rfl : j = b.blame.length := by omega
            have hu := Lib.hid (below_tr hV3.out u1.h)
            have hbu := Lib.hid (hbl'.out.mono u1.h)
            generalize u1.x = Y at *
            obtain ⟨q0, q1, q2⟩ := rc3 (kept_block hu.out hC0.out)
            have z0 := (Array.getElem?_eq_some_iff.1 (kept_block hu.out hC0.out)).1
            go_wp2_with (first
              | (go_at_call 41; (with_reducible refine Calls.mono (kW.out _ _ hu.out hbu.out) ?_); rintro e w4 ⟨v4, rfl, hB4, hbk4⟩; have h4 := below_tr hu.out hB4; obtain ⟨q0, q1, q2⟩ := rc3 (kept_block h4 hC0.out); have z0 := (Array.getElem?_eq_some_iff.1 (kept_block h4 hC0.out)).1)
              | (go_at_call 40; (with_reducible refine Calls.mono (refNone _) ?_); rintro e w5 ⟨rfl, hB5⟩; have h5 := below_tr h4 hB5; obtain ⟨q0, q1, q2⟩ := rc3 (kept_block h5 hC0.out); have z0 := (Array.getElem?_eq_some_iff.1 (kept_block h5 hC0.out)).1)
              | (go_at_call 39; (with_reducible refine Calls.mono (kA.out _ _ (hbk4.mono hB5)) ?_); rintro e w6 ⟨rfl, hB6⟩)
              | (go_at_call 18; (with_reducible refine Calls.mono (kK.out _) ?_); rintro e w9 ⟨rfl, hB9⟩))
            go_ret
            exact ⟨rfl, below_tr hwx.out (below_tr h5 (below_tr hB6 hB9))⟩
  · clear hF hbV hxV hyV hC0
    go_wp2_with (go_at_call 18; (with_reducible refine Calls.mono (kK.out _) ?_); rintro e w9 ⟨rfl, hB9⟩)
    go_ret
    exact ⟨rfl, below_tr hwx.out hB9⟩
end Go.Proofs.Ytddmfkhmhdddeaa
