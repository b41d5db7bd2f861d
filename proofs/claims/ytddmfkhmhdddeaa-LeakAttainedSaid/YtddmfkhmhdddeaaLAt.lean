/- Walks: the law LeakAttained. -/
import Derived.Test.YtddmfkhmhdddeaaTol
import Derived.Test.YtddmfkhmhdddeaaApm
import Derived.Test.YtddmfkhmhdddeaaKno
import Derived.Test.YtddmfkhmhdddeaaSho
import Derived.Test.YtddmfkhmhdddeaaBok
import Derived.Deep.Cut
import Derived.Deep.CutRange
set_option linter.unusedVariables false
set_option linter.unusedSimpArgs false
namespace Lk
def atTry (s : Sp) : List Int := [s.lo, s.hi, s.lo - 1, s.hi + 1]
theorem atTry_ok {b : Bk} (ok : Ok b) {g : Gs} (hg : b.gsB g = true) (ha : b.agreeB g = true) {z d k : Nat} (hz : z < b.first.length) (hd : d < b.flows.length) (hk : k < 4) (ok2 : Ok (b.more ⟨d, z, ⟨at0 (atTry (b.bnd g z d)) k, at0 (atTry (b.bnd g z d)) k⟩⟩)) :
    (b.more ⟨d, z, ⟨at0 (atTry (b.bnd g z d)) k, at0 (atTry (b.bnd g z d)) k⟩⟩).agreeB g = decide ((k : Int) < 2) := by
  have h := more_point_agree ok ok2 hz hd ha
  have hb := bnd_bd ok hg ha hz hd
  rw [Bool.eq_iff_iff, h, decide_eq_true_eq]
  generalize b.bnd g z d = s at *
  match k, hk with
  | 0, _ => simp [atTry, at0]; omega
  | 1, _ => simp [atTry, at0]; omega
  | 2, _ => simp [atTry, at0]; omega
  | 3, _ => simp [atTry, at0]; omega
end Lk
namespace Go.Proofs.Ytddmfkhmhdddeaa
open Go.RowKit Go.Sd Lk

theorem agreeFormA (fv wv rv : Value) (b : Bk) (g : Gs) (w : World) (hb : BookAt w fv wv rv b) (h0 : b.err true = 0) (hg : b.gsB g = true) {t : Bool} (ht : b.agreeB g = t) :
    Calls Try.prog 39 #[bkV fv wv rv, gsV g] w fun e w' => e = .returned (.tuple #[.bool t, .int .i64 0]) ∧ Below w.heap.size w w' := by
  have h := progAgree fv wv rv b g w hb
  unfold AgreePost at h
  rw [hg, h0, ht] at h
  simpa using h
theorem grown0A {B : Nat} {w w1 w2 : World} (h : Below B w w1) (hB : B ≤ w1.heap.size) (hg : w1.grownBy w2 none) : Below B w w2 :=
  h.grown hg hB (fun k e => by cases e)
theorem boundsNo (fv wv rv : Value) (b : Bk) (g : Gs) (w : World) (hb : BookAt w fv wv rv b) (h0 : b.err (b.gsB g) = 0) (ha : b.agreeB g = false) :
    Calls Try.prog 19 #[bkV fv wv rv, gsV g] w fun e w' => ∃ a c, e = .returned (.tuple #[.slice a 0 c, .int .i64 5]) ∧ Below w.heap.size w w' :=
  (progBounds fv wv rv b g w hb).mono (by
    rintro e w' ⟨hB, ⟨h, rfl⟩ | ⟨h, h2, rfl⟩ | ⟨h, h2, v, rfl, hv⟩⟩
    · exact absurd h0 h
    · exact ⟨_, _, rfl, hB⟩
    · rw [ha] at h2; cases h2)
theorem boundsYes (fv wv rv : Value) (b : Bk) (g : Gs) (w : World) (hb : BookAt w fv wv rv b) (h0 : b.err (b.gsB g) = 0) (ha : b.agreeB g = true) :
    Calls Try.prog 19 #[bkV fv wv rv, gsV g] w fun e w' => ∃ a c, e = .returned (.tuple #[.slice a b.flows.length c, .int .i64 0]) ∧ Below w.heap.size w w' ∧ SpRowsAt w' (.slice a b.flows.length c) (b.bounds g) :=
  (progBounds fv wv rv b g w hb).mono (by
    rintro e w' ⟨hB, ⟨h, rfl⟩ | ⟨h, h2, rfl⟩ | ⟨h, h2, v, rfl, hv⟩⟩
    · exact absurd h0 h
    · rw [ha] at h2; cases h2
    · have hv0 := hv
      obtain ⟨a, c, rfl, -, -⟩ := hv.form
      rw [bounds_len] at hv0 ⊢
      exact ⟨_, _, rfl, hB, hv0⟩)

set_option maxRecDepth 100000 in
set_option maxHeartbeats 4000000 in
theorem lawAttained (fv wv rv : Value) (b : Bk) (ga : Gs) (day zone : Int) (w : World) (hb : BookAt w fv wv rv b) :
    Calls Try.prog 9 #[bkV fv wv rv, gsV ga, .int .i64 day, .int .i64 zone] w fun e w' => e = .returned (.bool true) ∧ Below w.heap.size w w' := by
  have kK := Lib.hid (fun X => progKnown X)
  obtain ⟨W1, hW1⟩ : ∃ W1, w.alloc (bkA fv wv rv) = W1 := ⟨_, rfl⟩
  obtain ⟨W, hW⟩ : ∃ W, W1.alloc (gsO ga) = W := ⟨_, rfl⟩
  obtain ⟨e0, b0, s0⟩ := boxed hW1
  obtain ⟨e1, b1, s1⟩ := boxed hW
  have BW := below_tr b0 b1
  have hE0 := Lib.hid (kept_block b1 e0)
  have hE1 := Lib.hid e1
  have hbW := hb.mono BW
  obtain ⟨fa, fc, rfl, hfm, -⟩ := hb.first.form
  obtain ⟨wa, ww, rfl, hwm, -⟩ := hb.flows.form
  obtain ⟨ra, rc, rfl, hrm, -⟩ := hb.reads.form
  obtain ⟨q0, q1, q2⟩ := rc3 hE0.out
  obtain ⟨g0, g1, g2⟩ := rc3 hE1.out
  have z0 := (Array.getElem?_eq_some_iff.1 hE0.out).1
  have z1 := (Array.getElem?_eq_some_iff.1 hE1.out).1
  have kS0 := fun g : Grow W => lawShort _ _ _ b g.x (hbW.mono g.h)
  have kG0 := fun g : Grow W => (refGuess _ _ _ b ga g.x (hbW.mono g.h)).mono (fun e w' (h : BoolB _ _ e w') => h.lit rfl)
  have kB0 := fun g : Grow W => lawBooked _ _ _ b (b.gsB ga) g.x (hbW.mono g.h)
  have hez := Lib.hid (err_zero (b := b) (f := b.gsB ga))
  have hBW := Lib.hid BW
  have hbh := Lib.hid hbW
  clear s0 s1 hb hbW e0 e1 b0 b1 BW
  go_enter Try.func9, Try.ntmps9
  go_upto_region 1 with fail
  clear hW hW1
  have hgW := grow_cell W
  go_cut [55] from 17 to 55 (fun c wx => ∃ G : Bool, c = .bool G ∧ Hid (Below W.heap.size W wx ∧ (G = false → b.shortB = true ∧ b.reads.length < 40 ∧ b.err (b.gsB ga) = 0 ∧ 0 ≤ day ∧ day < b.flows.length ∧ 0 ≤ zone ∧ zone < b.first.length)))
  case first =>
    cases hb0 : b.shortB
    · simp only [hb0] at kS0
      have kS := Lib.hid kS0
      go_wp2_with fail
      refine wp_region_grow (by kernel_rfl) (by kernel_rfl) ?_
      repeat (go_big_quiet_step ((first | (with_reducible exact Calls.grow (kS.out _)))))
      refine wpQuiet_nil ?_
      rintro _ ⟨g, rfl⟩
      go_wp2_with fail
      go_meet
      exact ⟨true, rfl, Lib.hid ⟨g.h, fun h => (by cases h)⟩⟩
    · simp only [hb0] at kS0
      have kS := Lib.hid kS0
      by_cases hp2 : 40 ≤ b.reads.length
      · have hd2 : decide ((40 : Int) ≤ (b.reads.length : Int)) = true := decide_eq_true (by omega)
        have hd3 : decide (40 ≤ b.reads.length) = true := decide_eq_true hp2
        go_wp2_with fail
        refine wp_region_grow (by kernel_rfl) (by kernel_rfl) ?_
        repeat (go_big_quiet_step ((first | (with_reducible exact Calls.grow (kS.out _)))))
        refine wpQuiet_nil ?_
        rintro _ ⟨g, rfl⟩
        go_wp2_with fail
        go_meet
        exact ⟨true, rfl, Lib.hid ⟨g.h, fun h => (by cases h)⟩⟩
      · have hd2 : decide ((40 : Int) ≤ (b.reads.length : Int)) = false := decide_eq_false (by omega)
        have hd3 : decide (40 ≤ b.reads.length) = false := decide_eq_false hp2
        by_cases he : b.err (b.gsB ga) = 0
        · rw [he] at kB0
          have hgg := (hez.out he).2.2
          rw [hgg] at kG0 kB0
          have kG := Lib.hid kG0
          have kB := Lib.hid kB0
          clear kG0 kB0 hez hgg
          by_cases hp10 : day < 0
          · have hd10 : decide (day < 0) = true := decide_eq_true hp10
            go_wp2_with fail
            refine wp_region_grow (by kernel_rfl) (by kernel_rfl) ?_
            repeat (go_big_quiet_step ((first | (with_reducible exact Calls.grow (kS.out _)) | (with_reducible exact Calls.grow (kG.out _)) | (with_reducible exact Calls.grow (kB.out _)))))
            refine wpQuiet_nil ?_
            rintro _ ⟨g, rfl⟩
            go_wp2_with fail
            go_meet
            exact ⟨true, rfl, Lib.hid ⟨g.h, fun h => (by cases h)⟩⟩
          · have hd10 : decide (day < 0) = false := decide_eq_false hp10
            by_cases hp11 : (b.flows.length : Int) ≤ day
            · have hd11 : decide ((b.flows.length : Int) ≤ day) = true := decide_eq_true hp11
              go_wp2_with fail
              refine wp_region_grow (by kernel_rfl) (by kernel_rfl) ?_
              repeat (go_big_quiet_step ((first | (with_reducible exact Calls.grow (kS.out _)) | (with_reducible exact Calls.grow (kG.out _)) | (with_reducible exact Calls.grow (kB.out _)))))
              refine wpQuiet_nil ?_
              rintro _ ⟨g, rfl⟩
              go_wp2_with fail
              go_meet
              exact ⟨true, rfl, Lib.hid ⟨g.h, fun h => (by cases h)⟩⟩
            · have hd11 : decide ((b.flows.length : Int) ≤ day) = false := decide_eq_false hp11
              by_cases hp12 : zone < 0
              · have hd12 : decide (zone < 0) = true := decide_eq_true hp12
                go_wp2_with fail
                refine wp_region_grow (by kernel_rfl) (by kernel_rfl) ?_
                repeat (go_big_quiet_step ((first | (with_reducible exact Calls.grow (kS.out _)) | (with_reducible exact Calls.grow (kG.out _)) | (with_reducible exact Calls.grow (kB.out _)))))
                refine wpQuiet_nil ?_
                rintro _ ⟨g, rfl⟩
                go_wp2_with fail
                go_meet
                exact ⟨true, rfl, Lib.hid ⟨g.h, fun h => (by cases h)⟩⟩
              · have hd12 : decide (zone < 0) = false := decide_eq_false hp12
                by_cases hp13 : (b.first.length : Int) ≤ zone
                · have hd13 : decide ((b.first.length : Int) ≤ zone) = true := decide_eq_true hp13
                  go_wp2_with fail
                  refine wp_region_grow (by kernel_rfl) (by kernel_rfl) ?_
                  repeat (go_big_quiet_step ((first | (with_reducible exact Calls.grow (kS.out _)) | (with_reducible exact Calls.grow (kG.out _)) | (with_reducible exact Calls.grow (kB.out _)))))
                  refine wpQuiet_nil ?_
                  rintro _ ⟨g, rfl⟩
                  go_wp2_with fail
                  go_meet
                  exact ⟨true, rfl, Lib.hid ⟨g.h, fun h => (by cases h)⟩⟩
                · have hd13 : decide ((b.first.length : Int) ≤ zone) = false := decide_eq_false hp13
                  go_wp2_with fail
                  refine wp_region_grow (by kernel_rfl) (by kernel_rfl) ?_
                  repeat (go_big_quiet_step ((first | (with_reducible exact Calls.grow (kS.out _)) | (with_reducible exact Calls.grow (kG.out _)) | (with_reducible exact Calls.grow (kB.out _)))))
                  refine wpQuiet_nil ?_
                  rintro _ ⟨g, rfl⟩
                  go_wp2_with fail
                  go_meet
                  exact ⟨false, rfl, Lib.hid ⟨g.h, fun _ => ⟨hb0, by omega, he, by omega, by omega, by omega, by omega⟩⟩⟩
        · have h23 : b.err (b.gsB ga) = 2 ∨ b.err (b.gsB ga) = 3 := by have := err_cases b (b.gsB ga); omega
          clear he hez
          generalize b.gsB ga = G1 at *
          have kG := Lib.hid kG0
          generalize b.err G1 = er at *
          rcases h23 with rfl | rfl
          all_goals
            have kB := Lib.hid kB0
            go_wp2_with fail
            refine wp_region_grow (by kernel_rfl) (by kernel_rfl) ?_
            repeat (go_big_quiet_step ((first | (with_reducible exact Calls.grow (kS.out _)) | (with_reducible exact Calls.grow (kG.out _)) | (with_reducible exact Calls.grow (kB.out _)))))
            refine wpQuiet_nil ?_
            rintro _ ⟨g, rfl⟩
            go_wp2_with fail
            go_meet
            exact ⟨true, rfl, Lib.hid ⟨g.h, fun h => (by cases h)⟩⟩
  case rest =>
  obtain ⟨G, rfl, hH⟩ := hcut
  obtain ⟨hBV, hF⟩ := hH.out
  clear hH kS0 kG0 kB0 q0 q1 q2 g0 g1 g2 z0 z1 hgW
  have hwx := Lib.hid (below_tr hBW.out hBV)
  have hC0 := Lib.hid (kept_block hBV hE0.out)
  have hC1 := Lib.hid (kept_block hBV hE1.out)
  have hbV := Lib.hid (hbh.out.mono hBV)
  have hlt0 : Hid (w.heap.size < wc.heap.size) := Lib.hid (Array.getElem?_eq_some_iff.1 hC0.out).1
  clear hE0 hE1 hbh hBW hBV
  cases G
  · obtain ⟨hs, hl40, hE, hd0, hd1, hzz0, hzz1⟩ := hF rfl
    clear hF
    have h0 := hez.out hE
    have ok := Lib.hid (ok_of h0.2.1 h0.1)
    have hgg := Lib.hid h0.2.2
    have herr : Hid (b.err true = 0) := Lib.hid (by rw [← hE, h0.2.2])
    have hEh := Lib.hid hE
    clear hez h0 hs hE
    obtain ⟨d, rfl⟩ : ∃ d : Nat, day = d := ⟨day.toNat, by omega⟩
    obtain ⟨z, rfl⟩ : ∃ z : Nat, zone = z := ⟨zone.toNat, by omega⟩
    have hd : d < b.flows.length := by omega
    have hz : z < b.first.length := by omega
    obtain ⟨q0, q1, q2⟩ := rc3 hC0.out
    obtain ⟨g0, g1, g2⟩ := rc3 hC1.out
    have z0 := (Array.getElem?_eq_some_iff.1 hC0.out).1
    have z1 := (Array.getElem?_eq_some_iff.1 hC1.out).1
    cases ha : b.agreeB ga
    · have kL := Lib.hid (fun X (h : Below wc.heap.size wc X) => boundsNo _ _ _ b ga X (hbV.out.mono h) hEh.out ha)
      clear ha
      go_wp2_with (first
        | (go_at_call 19; (with_reducible refine Calls.mono (kL.out _ (Below.refl _ _)) ?_); rintro e w2 ⟨la, lc, rfl, h2⟩; obtain ⟨q0, q1, q2⟩ := rc3 (kept_block h2 hC0.out); obtain ⟨g0, g1, g2⟩ := rc3 (kept_block h2 hC1.out); have z0 := (Array.getElem?_eq_some_iff.1 (kept_block h2 hC0.out)).1; have z1 := (Array.getElem?_eq_some_iff.1 (kept_block h2 hC1.out)).1)
        | (go_at_call 18; (with_reducible refine Calls.mono (kK.out _) ?_); rintro e w9 ⟨rfl, hB9⟩))
      go_ret
      exact ⟨rfl, below_tr hwx.out (below_tr h2 hB9)⟩
    · have kL := Lib.hid (fun X (h : Below wc.heap.size wc X) => boundsYes _ _ _ b ga X (hbV.out.mono h) hEh.out ha)
      have hbb := bnd_bd ok.out hgg.out ha hz hd
      have hty : Hid (∀ k, k < 4 → -1000000000 ≤ at0 (atTry (b.bnd ga z d)) k ∧ at0 (atTry (b.bnd ga z d)) k ≤ 1000000000 → (b.more ⟨d, z, ⟨at0 (atTry (b.bnd ga z d)) k, at0 (atTry (b.bnd ga z d)) k⟩⟩).err true = 0 ∧ (b.more ⟨d, z, ⟨at0 (atTry (b.bnd ga z d)) k, at0 (atTry (b.bnd ga z d)) k⟩⟩).agreeB ga = decide ((k : Int) < 2)) := Lib.hid (by
        intro k hk hm
        have her2 : (b.more ⟨d, z, ⟨at0 (atTry (b.bnd ga z d)) k, at0 (atTry (b.bnd ga z d)) k⟩⟩).err true = 0 := more_err herr.out hl40 (by
          simp only [Bk.rdB, Bool.and_eq_true, inB_iff, spB_iff]; omega)
        have hez2 := err_zero her2
        exact ⟨her2, atTry_ok ok.out hgg.out ha hz hd hk (ok_of hez2.2.1 hez2.1)⟩)
      clear ha
      go_upto_region 6 with (go_at_call 19; (with_reducible refine Calls.mono (kL.out _ (Below.refl _ _)) ?_); rintro e w2 ⟨la, lc, rfl, h2, hlv⟩; obtain ⟨q0, q1, q2⟩ := rc3 (kept_block h2 hC0.out); obtain ⟨g0, g1, g2⟩ := rc3 (kept_block h2 hC1.out); have z0 := (Array.getElem?_eq_some_iff.1 (kept_block h2 hC0.out)).1; have z1 := (Array.getElem?_eq_some_iff.1 (kept_block h2 hC1.out)).1)
      obtain ⟨c2, o2, k2, ev2, hv2, hw2, -, y1, hrow2⟩ := sprow_cell hlv (k := d) (by rw [bounds_len]; exact hd)
      rw [bounds_len] at hv2
      obtain ⟨rfl, rfl⟩ : la = some ⟨c2, o2, none⟩ ∧ lc = k2 := by simpa using hv2
      rw [show rwAt (b.bounds ga) d = (List.range b.first.length).map fun z => b.bnd ga z d from rwAt_range hd] at hrow2
      have hrl : ((List.range b.first.length).map fun z => b.bnd ga z d).length = b.first.length := by simp
      obtain ⟨r2, n2, rfl, hrm2, -⟩ := hrow2.form
      rw [hrl] at y1
      obtain ⟨e2, p2, j2, hx2, hcl2, -, x1, x2⟩ := sp_cells hrow2 (k := z) (by rw [hrl]; exact hz)
      rw [hrl] at hx2
      obtain ⟨rfl, rfl⟩ : r2 = some ⟨e2, p2, none⟩ ∧ n2 = j2 := by simpa using hx2
      rw [show spAt ((List.range b.first.length).map fun z => b.bnd ga z d) z = b.bnd ga z d from spAt_range hz] at x1 x2
      have hdi : (d : Int) < (b.flows.length : Int) := by omega
      have hzi : (z : Int) < (b.first.length : Int) := by omega
      have h2' := Lib.hid h2
      have hl40' := Lib.hid hl40
      have hll : Hid ((atTry (b.bnd ga z d)).length = 4) := Lib.hid rfl
      generalize b.bnd ga z d = s at *
      clear hv2 hrow2 hx2 hrm2 hlv hd0 hd1 hzz0 hzz1 hl40 kL hrl h2 herr hEh
      have hgW := grow_cell w2
      refine wp_region_grow (by kernel_rfl) (by kernel_rfl) ?_
      repeat (go_big_quiet_step (fail))
      refine wpQuiet_nil ?_
      rintro _ ⟨g, rfl⟩
      clear hgW
      have hwu := g.h
      generalize g.x = w3 at *
      obtain ⟨q0, q1, q2⟩ := rc3 (kept_block (below_tr h2'.out hwu) hC0.out)
      obtain ⟨g0, g1, g2⟩ := rc3 (kept_block (below_tr h2'.out hwu) hC1.out)
      have z0 := (Array.getElem?_eq_some_iff.1 (kept_block (below_tr h2'.out hwu) hC0.out)).1
      have z1 := (Array.getElem?_eq_some_iff.1 (kept_block (below_tr h2'.out hwu) hC1.out)).1
      replace y1 := kept_cell hwu y1
      replace x1 := kept_cell hwu x1
      replace x2 := kept_cell hwu x2
      have hw2' := Nat.lt_of_lt_of_le hw2 hwu.size
      have hcl2' := Nat.lt_of_lt_of_le hcl2 hwu.size
      go_upto_region 8 with fail
      obtain ⟨N, hN⟩ : ∃ N, w3.alloc (spO s) = N := ⟨_, rfl⟩
      obtain ⟨en, BN, sN⟩ := boxed hN
      obtain ⟨n0, n1⟩ := rc2 en
      have zn := (Array.getElem?_eq_some_iff.1 en).1
      clear sN
      go_upto_region 9 with fail
      obtain ⟨X, hX⟩ : ∃ X, N.alloc (.cells #[.int .i64 s.lo, .int .i64 s.hi, .int .i64 (s.lo - 1), .int .i64 (s.hi + 1)] 3) = X := ⟨_, rfl⟩
      obtain ⟨ex, BX, sX⟩ := boxed hX
      have hels := Lib.hid (els_blk intEnc_len 0 (atTry s) ex rfl (by simp [atTry, maxLen]) 4)
      have h5 := Lib.hid (below_tr (below_tr (below_tr h2'.out hwu) BN) BX)
      clear sX ex y1 x1 x2 hw2 hcl2 hw2' hcl2' q0 q1 q2 g0 g1 g2 z0 z1 hN
      go_upto_region 10 with fail
      clear n0 n1 zn hX BN BX hwu
      obtain ⟨X0, hX0⟩ : ∃ X0, N = X0 := ⟨_, rfl⟩
      rw [hX0] at hels ⊢
      clear hX0 en
      go_wp2_with fail
      go_loopw [13] (fun i wr => ∃ gg : Grow X, wr = gg.x ∧ ∃ k : Nat, k ≤ 4 ∧ i = .int .i64 k) (fun i _ => 4 - (intOf i).toNat)
      case atStart => exact ⟨Grow.self X, rfl, 0, by omega, rfl⟩
      case round =>
        obtain ⟨gg, rfl, k, hk, rfl⟩ := hrel
        obtain ⟨U, hU⟩ : ∃ U, gg.x = U := ⟨_, rfl⟩
        have hXU : Below X.heap.size X U := by rw [← hU]; exact gg.h
        rw [hU]
        clear hU gg
        have hWU := Lib.hid (below_tr h5.out hXU)
        obtain ⟨q0, q1, q2⟩ := rc3 (kept_block hWU.out hC0.out)
        obtain ⟨g0, g1, g2⟩ := rc3 (kept_block hWU.out hC1.out)
        have z0 := (Array.getElem?_eq_some_iff.1 (kept_block hWU.out hC0.out)).1
        have z1 := (Array.getElem?_eq_some_iff.1 (kept_block hWU.out hC1.out)).1
        by_cases hlt : k < 4
        · have hki : (k : Int) < 4 := by omega
          obtain ⟨c1, p1, d1, hw1, hcl1, -, x0⟩ := int_cells (hels.out.mono hXU) (k := k) (by rw [hll.out]; exact hlt)
          obtain ⟨⟨rfl, rfl⟩, rfl⟩ : (X0.heap.size = c1 ∧ 0 = p1) ∧ 4 = d1 := by simpa [hll.out] using hw1
          rw [Nat.zero_add] at x0
          have hty3 := Lib.hid (hty.out k hlt)
          clear hw1
          generalize at0 (atTry s) k = m at *
          have hXU' := Lib.hid hXU
          clear hXU
          rcases Int.lt_or_le m (-1000000000) with hm1 | hm1
          · go_wp2_with fail
            exact ⟨⟨⟨U, hXU'.out⟩, rfl, k + 1, by omega, by go_num⟩, by simp [intOf]; omega⟩
          · rcases Int.lt_or_le 1000000000 m with hm2 | hm2
            · go_wp2_with fail
              exact ⟨⟨⟨U, hXU'.out⟩, rfl, k + 1, by omega, by go_num⟩, by simp [intOf]; omega⟩
            · obtain ⟨her2, hag⟩ := hty3.out ⟨hm1, hm2⟩
              have hl32 : b.reads.length * 32 ≤ 140737488351232 := by have := hl40'.out; omega
              obtain ⟨V, hV⟩ : ∃ V, U.alloc (bkA (.slice fa b.first.length fc) (.slice wa b.flows.length ww) (.slice ra b.reads.length rc)) = V := ⟨_, rfl⟩
              obtain ⟨eV, bV, sV⟩ := boxed hV
              have hVlt : Hid (U.heap.size < V.heap.size) := Lib.hid (by omega)
              have hEV := Lib.hid eV
              have hV5 := Lib.hid (below_tr hWU.out bV)
              have hrd : ∀ Y, Below V.heap.size V Y → RdsAt Y (.slice ra b.reads.length rc) b.reads := fun Y h => ((hbV.out.mono hV5.out).mono h).reads
              have x0V := kept_cell bV x0
              have hcV := Nat.lt_of_lt_of_le hcl1 bV.size
              have hne1 : Hid (w.heap.size ≠ U.heap.size) := Lib.hid (by have := z0; omega)
              have hne2 : Hid (X0.heap.size ≠ U.heap.size) := Lib.hid (Nat.ne_of_lt hcl1)
              go_upto_region 15 with fail
              clear hV sV eV q0 q1 q2 g0 g1 g2 z0 z1 x0
              have kS : ∀ Y, Below V.heap.size V Y → Y.cell? ⟨w.heap.size, 2, none⟩ = some (.slice ra b.reads.length rc) ∧ Y.cell? ⟨X0.heap.size, k, none⟩ = some (.int .i64 m) := fun Y h => by
                obtain ⟨-, -, a⟩ := rc3 (kept_block h (kept_block hV5.out hC0.out))
                exact ⟨a, kept_cell h x0V⟩
              have kSs : ∀ Y v, Below V.heap.size V Y → (Y.setCell ⟨U.heap.size, 2, none⟩ v).cell? ⟨w.heap.size, 2, none⟩ = some (.slice ra b.reads.length rc) ∧ (Y.setCell ⟨U.heap.size, 2, none⟩ v).cell? ⟨X0.heap.size, k, none⟩ = some (.int .i64 m) := fun Y v h => by
                obtain ⟨-, -, a⟩ := rc3 ((Below.heap_setCell Y ⟨U.heap.size, 2, none⟩ v _ hne1.out).trans (kept_block h (kept_block hV5.out hC0.out)))
                refine ⟨a, ?_⟩
                exact (World.cell?_setCell_other Y ⟨U.heap.size, 2, none⟩ ⟨X0.heap.size, k, none⟩ v (by intro e; simp only [Addr.mk.injEq] at e; first | exact hne2.out e.1 | exact hne2.out e.1.symm)).trans (kept_cell h x0V)
              have hBd : Below V.heap.size V V.drew := (Below.refl _ _).drew
              have hBda : ∀ o, Below V.heap.size V (V.drew.alloc o) := fun o => hBd.alloc (Nat.le_refl _) o
              refine wp_region_noPanic ?_
              refine wp_region_held_drew (S := (fun w' => w'.cell? ⟨w.heap.size, 2, none⟩ = some (.slice ra b.reads.length rc) ∧ w'.cell? ⟨X0.heap.size, k, none⟩ = some (.int .i64 m))) (by kernel_rfl) ?_ (fun hHeld => ?_)
              · first | (first | exact kS _ hBd | exact kS _ (hBda _) | exact kS _ hB1 | exact kS _ hB3 | exact kS _ (hB1.alloc hB1.size _) | exact kSs _ _ hB3) | (dsimp only; (first | exact kS _ hBd | exact kS _ (hBda _) | exact kS _ hB1 | exact kS _ hB3 | exact kS _ (hB1.alloc hB1.size _) | exact kSs _ _ hB3))
              refine wpAnyH_take (i := 0) (v := ?_) rfl (by kernel_rfl) (by kernel_rfl) (by kernel_rfl) (fun _ _ _ h => h) (Or.inl ⟨by rfl, ?_⟩) (by assumption) ?_
              rotate_left
              · intro w hSw; (try dsimp only at hSw); go_simp; (try with_reducible rfl)
              try simp only [Act.put, List.getElem_toArray, List.getElem_cons_succ, List.getElem_cons_zero, List.setIfInBounds_toArray, List.set_cons_zero, List.set_cons_succ]
              refine wpAnyH_take (i := 1) (v := ?_) rfl (by kernel_rfl) (by kernel_rfl) (by kernel_rfl) (fun _ _ _ h => h) (Or.inl ⟨by rfl, ?_⟩) (by assumption) ?_
              rotate_left
              · intro w hSw; (try dsimp only at hSw); go_simp; (try with_reducible rfl)
              try simp only [Act.put, List.getElem_toArray, List.getElem_cons_succ, List.getElem_cons_zero, List.setIfInBounds_toArray, List.set_cons_zero, List.set_cons_succ]
              refine wpAnyH_take (i := 3) (v := ?_) rfl (by kernel_rfl) (by kernel_rfl) (by kernel_rfl) (fun _ _ _ h => h) (Or.inl ⟨by rfl, ?_⟩) (by assumption) ?_
              rotate_left
              · intro w hSw; (try dsimp only at hSw); go_simp; (try with_reducible rfl)
              try simp only [Act.put, List.getElem_toArray, List.getElem_cons_succ, List.getElem_cons_zero, List.setIfInBounds_toArray, List.set_cons_zero, List.set_cons_succ]
              refine wpAnyH_take (i := 4) (v := ?_) rfl (by kernel_rfl) (by kernel_rfl) (by kernel_rfl) (fun _ _ _ h => h) (Or.inl ⟨by rfl, ?_⟩) (by assumption) ?_
              rotate_left
              · intro w hSw; (try dsimp only at hSw); go_simp; (try with_reducible rfl)
              try simp only [Act.put, List.getElem_toArray, List.getElem_cons_succ, List.getElem_cons_zero, List.setIfInBounds_toArray, List.set_cons_zero, List.set_cons_succ]
              refine wpAnyH_take (i := 5) (v := ?_) rfl (by kernel_rfl) (by kernel_rfl) (by kernel_rfl) (fun _ _ _ h => h) (Or.inl ⟨by rfl, ?_⟩) (by assumption) ?_
              rotate_left
              · intro w hSw; (try dsimp only at hSw); go_simp; (try with_reducible rfl)
              try simp only [Act.put, List.getElem_toArray, List.getElem_cons_succ, List.getElem_cons_zero, List.setIfInBounds_toArray, List.set_cons_zero, List.set_cons_succ]
              refine wpAnyH_take (i := 6) (v := ?_) rfl (by kernel_rfl) (by kernel_rfl) (by kernel_rfl) (fun _ _ _ h => h) (Or.inl ⟨by rfl, ?_⟩) (by assumption) ?_
              rotate_left
              · intro w hSw; (try dsimp only at hSw); go_simp; (try with_reducible rfl)
              try simp only [Act.put, List.getElem_toArray, List.getElem_cons_succ, List.getElem_cons_zero, List.setIfInBounds_toArray, List.set_cons_zero, List.set_cons_succ]
              refine wpAnyH_take (i := 7) (v := ?_) rfl (by kernel_rfl) (by kernel_rfl) (by kernel_rfl) (fun _ _ _ h => h) (Or.inl ⟨by rfl, ?_⟩) (by assumption) ?_
              rotate_left
              · intro w hSw; (try dsimp only at hSw); go_simp; (try with_reducible rfl)
              try simp only [Act.put, List.getElem_toArray, List.getElem_cons_succ, List.getElem_cons_zero, List.setIfInBounds_toArray, List.set_cons_zero, List.set_cons_succ]
              refine wpAnyH_take (i := 8) (v := ?_) rfl (by kernel_rfl) (by kernel_rfl) (by kernel_rfl) (fun _ _ _ h => h) (Or.inl ⟨by rfl, ?_⟩) (by assumption) ?_
              rotate_left
              · intro w hSw; (try dsimp only at hSw); go_simp; (try with_reducible rfl)
              try simp only [Act.put, List.getElem_toArray, List.getElem_cons_succ, List.getElem_cons_zero, List.setIfInBounds_toArray, List.set_cons_zero, List.set_cons_succ]
              refine wpAnyH_take (i := 9) (v := ?_) rfl (by kernel_rfl) (by kernel_rfl) (by kernel_rfl) (fun _ _ _ h => h) (Or.inl ⟨by rfl, ?_⟩) (by assumption) ?_
              rotate_left
              · intro w hSw; (try dsimp only at hSw); go_simp; (try with_reducible rfl)
              try simp only [Act.put, List.getElem_toArray, List.getElem_cons_succ, List.getElem_cons_zero, List.setIfInBounds_toArray, List.set_cons_zero, List.set_cons_succ]
              refine wpAnyH_take (i := 10) (v := ?_) rfl (by kernel_rfl) (by kernel_rfl) (by kernel_rfl) (fun _ _ _ h => h) (Or.inl ⟨by rfl, ?_⟩) (by assumption) ?_
              rotate_left
              · intro w hSw; (try dsimp only at hSw); go_simp; (try with_reducible rfl)
              try simp only [Act.put, List.getElem_toArray, List.getElem_cons_succ, List.getElem_cons_zero, List.setIfInBounds_toArray, List.set_cons_zero, List.set_cons_succ]
              refine wpAnyH_take (i := 11) (v := ?_) rfl (by kernel_rfl) (by kernel_rfl) (by kernel_rfl) (fun _ _ _ h => h) (Or.inl ⟨by rfl, ?_⟩) (by assumption) ?_
              rotate_left
              · intro w hSw; (try dsimp only at hSw); go_simp; (try with_reducible rfl)
              try simp only [Act.put, List.getElem_toArray, List.getElem_cons_succ, List.getElem_cons_zero, List.setIfInBounds_toArray, List.set_cons_zero, List.set_cons_succ]
              refine wpAnyH_take (i := 12) (v := ?_) rfl (by kernel_rfl) (by kernel_rfl) (by kernel_rfl) (fun _ _ _ h => h) (Or.inl ⟨by rfl, ?_⟩) (by assumption) ?_
              rotate_left
              · intro w hSw; (try dsimp only at hSw); go_simp; (try with_reducible rfl)
              try simp only [Act.put, List.getElem_toArray, List.getElem_cons_succ, List.getElem_cons_zero, List.setIfInBounds_toArray, List.set_cons_zero, List.set_cons_succ]
              refine wpAnyH_take (i := 13) (v := ?_) rfl (by kernel_rfl) (by kernel_rfl) (by kernel_rfl) (fun _ _ _ h => h) (Or.inl ⟨by rfl, ?_⟩) (by assumption) ?_
              rotate_left
              · intro w hSw; (try dsimp only at hSw); go_simp; (try with_reducible rfl)
              try simp only [Act.put, List.getElem_toArray, List.getElem_cons_succ, List.getElem_cons_zero, List.setIfInBounds_toArray, List.set_cons_zero, List.set_cons_succ]
              refine wpAnyH_take (i := 14) (v := ?_) rfl (by kernel_rfl) (by kernel_rfl) (by kernel_rfl) (fun _ _ _ h => h) (Or.inl ⟨by rfl, ?_⟩) (by assumption) ?_
              rotate_left
              · intro w hSw; (try dsimp only at hSw); go_simp; (try with_reducible rfl)
              try simp only [Act.put, List.getElem_toArray, List.getElem_cons_succ, List.getElem_cons_zero, List.setIfInBounds_toArray, List.set_cons_zero, List.set_cons_succ]
              refine wpAnyH_ready (rs := [2, 15]) (by kernel_rfl) (by simp) ?_
              refine AllReadyH.cons rfl (fun K hK => ?wayA20302_1) (AllReadyH.cons rfl (fun K hK => ?wayB20302_1) AllReadyH.nil)
              case' wayA20302_1 =>
                (refine step_app_rds (by rfl) _ _ (by rfl) V.heap.size _ (.slice ra b.reads.length rc) b.reads (by rfl) (by rfl) (hrd _ (by first | exact hBd | exact hBda _)) hl32 (by first | exact hBd.size | exact (hBda _).size) ?_; intro v1 w1 ho1 hg1 hat1; have hB1 : Below V.heap.size V w1 := (by first | exact grown0A hBd hBd.size hg1 | exact grown0A (hBda _) (hBda _).size hg1); try have hy1 := (hg1.block _ (by simp) (by simp)).trans (World.alloc_heap_new V.drew _))
                refine hK.out _ _ ?_ (fun hNow => ?_)
                · first | (first | exact kS _ hBd | exact kS _ (hBda _) | exact kS _ hB1 | exact kS _ hB3 | exact kS _ (hB1.alloc hB1.size _) | exact kSs _ _ hB3) | (dsimp only; (first | exact kS _ hBd | exact kS _ (hBda _) | exact kS _ hB1 | exact kS _ hB3 | exact kS _ (hB1.alloc hB1.size _) | exact kSs _ _ hB3))
                clear hK K hHeld
                have hHeld := hNow
                clear hNow
                try simp only [Act.put, List.getElem_toArray, List.getElem_cons_succ, List.getElem_cons_zero, List.setIfInBounds_toArray, List.set_cons_zero, List.set_cons_succ]
                refine wpAnyH_ready (rs := [15]) (by kernel_rfl) (by simp) ?_
                refine AllReadyH.cons rfl (fun K hK => ?_) AllReadyH.nil
                go_simp
                refine hK.out _ _ ?_ (fun hNow => ?_)
                · first | (first | exact kS _ hBd | exact kS _ (hBda _) | exact kS _ hB1 | exact kS _ hB3 | exact kS _ (hB1.alloc hB1.size _) | exact kSs _ _ hB3) | (dsimp only; (first | exact kS _ hBd | exact kS _ (hBda _) | exact kS _ hB1 | exact kS _ hB3 | exact kS _ (hB1.alloc hB1.size _) | exact kSs _ _ hB3))
                clear hK K hHeld
                have hHeld := hNow
                clear hNow
                try simp only [Act.put, List.getElem_toArray, List.getElem_cons_succ, List.getElem_cons_zero, List.setIfInBounds_toArray, List.set_cons_zero, List.set_cons_succ]
                refine wpAnyH_ready (rs := [16]) (by kernel_rfl) (by simp) ?_
                refine AllReadyH.cons rfl (fun K hK => ?_) AllReadyH.nil
                (refine step_app_rd (by rfl) _ _ (by rfl) V.heap.size _ v1 b.reads ⟨d, z, ⟨m, m⟩⟩ _ (by rfl) (by rfl) (by first | exact ho1 | exact ho1.mono ((Below.refl _ _).alloc (Nat.le_refl _) _)) hl32 (by first | exact hB1.size | exact (hB1.alloc hB1.size _).size) (by first | exact World.alloc_heap_new _ _ | exact hy1) ?_; intro v3 w5 ho3 hg3 hat3; obtain ⟨a3, c3, he3⟩ := ho3.slice; subst he3; have hB3 : Below V.heap.size V w5 := (by first | exact hB1.grown hg3 hB1.size (fun k e => (ho1.lt k e).1) | exact (hB1.alloc hB1.size _).grown hg3 (hB1.alloc hB1.size _).size (fun k e => (ho1.lt k e).1)); obtain ⟨p0, p1, p2⟩ := rc3 (kept_block hB3 hEV.out); obtain ⟨f0, f1, f2⟩ := rf3 (kept_block hB3 hEV.out); have zx := Nat.lt_of_lt_of_le hVlt.out hB3.size)
                refine hK.out _ _ ?_ (fun hNow => ?_)
                · first | (first | exact kS _ hBd | exact kS _ (hBda _) | exact kS _ hB1 | exact kS _ hB3 | exact kS _ (hB1.alloc hB1.size _) | exact kSs _ _ hB3) | (dsimp only; (first | exact kS _ hBd | exact kS _ (hBda _) | exact kS _ hB1 | exact kS _ hB3 | exact kS _ (hB1.alloc hB1.size _) | exact kSs _ _ hB3))
                clear hK K hHeld
                have hHeld := hNow
                clear hNow
                try simp only [Act.put, List.getElem_toArray, List.getElem_cons_succ, List.getElem_cons_zero, List.setIfInBounds_toArray, List.set_cons_zero, List.set_cons_succ]
                refine wpAnyH_take (i := 17) (v := ?_) rfl (by kernel_rfl) (by kernel_rfl) (by kernel_rfl) (fun _ _ _ h => h) (Or.inl ⟨by rfl, ?_⟩) (by assumption) ?_
                rotate_left
                · intro w hSw; (try dsimp only at hSw); go_simp; (try with_reducible rfl)
                try simp only [Act.put, List.getElem_toArray, List.getElem_cons_succ, List.getElem_cons_zero, List.setIfInBounds_toArray, List.set_cons_zero, List.set_cons_succ]
                refine wpAnyH_ready (rs := [18]) (by kernel_rfl) (by simp) ?_
                refine AllReadyH.cons rfl (fun K hK => ?_) AllReadyH.nil
                go_simp
                refine hK.out _ _ ?_ (fun hNow => ?_)
                · first | (first | exact kS _ hBd | exact kS _ (hBda _) | exact kS _ hB1 | exact kS _ hB3 | exact kS _ (hB1.alloc hB1.size _) | exact kSs _ _ hB3) | (dsimp only; (first | exact kS _ hBd | exact kS _ (hBda _) | exact kS _ hB1 | exact kS _ hB3 | exact kS _ (hB1.alloc hB1.size _) | exact kSs _ _ hB3))
                clear hK K hHeld
                have hHeld := hNow
                clear hNow
                try simp only [Act.put, List.getElem_toArray, List.getElem_cons_succ, List.getElem_cons_zero, List.setIfInBounds_toArray, List.set_cons_zero, List.set_cons_succ]
                refine wpAnyH_done (by kernel_rfl) ?_ _
              case' wayB20302_1 =>
                go_simp
                refine hK.out _ _ ?_ (fun hNow => ?_)
                · first | (first | exact kS _ hBd | exact kS _ (hBda _) | exact kS _ hB1 | exact kS _ hB3 | exact kS _ (hB1.alloc hB1.size _) | exact kSs _ _ hB3) | (dsimp only; (first | exact kS _ hBd | exact kS _ (hBda _) | exact kS _ hB1 | exact kS _ hB3 | exact kS _ (hB1.alloc hB1.size _) | exact kSs _ _ hB3))
                clear hK K hHeld
                have hHeld := hNow
                clear hNow
                try simp only [Act.put, List.getElem_toArray, List.getElem_cons_succ, List.getElem_cons_zero, List.setIfInBounds_toArray, List.set_cons_zero, List.set_cons_succ]
                refine wpAnyH_ready (rs := [2]) (by kernel_rfl) (by simp) ?_
                refine AllReadyH.cons rfl (fun K hK => ?_) AllReadyH.nil
                (refine step_app_rds (by rfl) _ _ (by rfl) V.heap.size _ (.slice ra b.reads.length rc) b.reads (by rfl) (by rfl) (hrd _ (by first | exact hBd | exact hBda _)) hl32 (by first | exact hBd.size | exact (hBda _).size) ?_; intro v1 w1 ho1 hg1 hat1; have hB1 : Below V.heap.size V w1 := (by first | exact grown0A hBd hBd.size hg1 | exact grown0A (hBda _) (hBda _).size hg1); try have hy1 := (hg1.block _ (by simp) (by simp)).trans (World.alloc_heap_new V.drew _))
                refine hK.out _ _ ?_ (fun hNow => ?_)
                · first | (first | exact kS _ hBd | exact kS _ (hBda _) | exact kS _ hB1 | exact kS _ hB3 | exact kS _ (hB1.alloc hB1.size _) | exact kSs _ _ hB3) | (dsimp only; (first | exact kS _ hBd | exact kS _ (hBda _) | exact kS _ hB1 | exact kS _ hB3 | exact kS _ (hB1.alloc hB1.size _) | exact kSs _ _ hB3))
                clear hK K hHeld
                have hHeld := hNow
                clear hNow
                try simp only [Act.put, List.getElem_toArray, List.getElem_cons_succ, List.getElem_cons_zero, List.setIfInBounds_toArray, List.set_cons_zero, List.set_cons_succ]
                refine wpAnyH_ready (rs := [16]) (by kernel_rfl) (by simp) ?_
                refine AllReadyH.cons rfl (fun K hK => ?_) AllReadyH.nil
                (refine step_app_rd (by rfl) _ _ (by rfl) V.heap.size _ v1 b.reads ⟨d, z, ⟨m, m⟩⟩ _ (by rfl) (by rfl) (by first | exact ho1 | exact ho1.mono ((Below.refl _ _).alloc (Nat.le_refl _) _)) hl32 (by first | exact hB1.size | exact (hB1.alloc hB1.size _).size) (by first | exact World.alloc_heap_new _ _ | exact hy1) ?_; intro v3 w5 ho3 hg3 hat3; obtain ⟨a3, c3, he3⟩ := ho3.slice; subst he3; have hB3 : Below V.heap.size V w5 := (by first | exact hB1.grown hg3 hB1.size (fun k e => (ho1.lt k e).1) | exact (hB1.alloc hB1.size _).grown hg3 (hB1.alloc hB1.size _).size (fun k e => (ho1.lt k e).1)); obtain ⟨p0, p1, p2⟩ := rc3 (kept_block hB3 hEV.out); obtain ⟨f0, f1, f2⟩ := rf3 (kept_block hB3 hEV.out); have zx := Nat.lt_of_lt_of_le hVlt.out hB3.size)
                refine hK.out _ _ ?_ (fun hNow => ?_)
                · first | (first | exact kS _ hBd | exact kS _ (hBda _) | exact kS _ hB1 | exact kS _ hB3 | exact kS _ (hB1.alloc hB1.size _) | exact kSs _ _ hB3) | (dsimp only; (first | exact kS _ hBd | exact kS _ (hBda _) | exact kS _ hB1 | exact kS _ hB3 | exact kS _ (hB1.alloc hB1.size _) | exact kSs _ _ hB3))
                clear hK K hHeld
                have hHeld := hNow
                clear hNow
                try simp only [Act.put, List.getElem_toArray, List.getElem_cons_succ, List.getElem_cons_zero, List.setIfInBounds_toArray, List.set_cons_zero, List.set_cons_succ]
                refine wpAnyH_take (i := 17) (v := ?_) rfl (by kernel_rfl) (by kernel_rfl) (by kernel_rfl) (fun _ _ _ h => h) (Or.inl ⟨by rfl, ?_⟩) (by assumption) ?_
                rotate_left
                · intro w hSw; (try dsimp only at hSw); go_simp; (try with_reducible rfl)
                try simp only [Act.put, List.getElem_toArray, List.getElem_cons_succ, List.getElem_cons_zero, List.setIfInBounds_toArray, List.set_cons_zero, List.set_cons_succ]
                refine wpAnyH_ready (rs := [18]) (by kernel_rfl) (by simp) ?_
                refine AllReadyH.cons rfl (fun K hK => ?_) AllReadyH.nil
                go_simp
                refine hK.out _ _ ?_ (fun hNow => ?_)
                · first | (first | exact kS _ hBd | exact kS _ (hBda _) | exact kS _ hB1 | exact kS _ hB3 | exact kS _ (hB1.alloc hB1.size _) | exact kSs _ _ hB3) | (dsimp only; (first | exact kS _ hBd | exact kS _ (hBda _) | exact kS _ hB1 | exact kS _ hB3 | exact kS _ (hB1.alloc hB1.size _) | exact kSs _ _ hB3))
                clear hK K hHeld
                have hHeld := hNow
                clear hNow
                try simp only [Act.put, List.getElem_toArray, List.getElem_cons_succ, List.getElem_cons_zero, List.setIfInBounds_toArray, List.set_cons_zero, List.set_cons_succ]
                refine wpAnyH_done (by kernel_rfl) ?_ _
              all_goals
                refine NoPanic.normal ?_
                obtain ⟨R, hR⟩ : ∃ R : Rd, (⟨d, z, ⟨m, m⟩⟩ : Rd) = R := ⟨_, rfl⟩
                rw [hR] at her2 hag ho3
                have hll2 : (b.reads ++ [R]).length = b.reads.length + 1 := by simp
                rw [hll2] at ho3
                obtain ⟨Z, hZ⟩ : ∃ Z, w5.setCell ⟨U.heap.size, 2, none⟩ (.slice a3 (b.reads.length + 1) c3) = Z := ⟨_, rfl⟩
                have eZ := set_one (kept_block hB3 hEV.out) 2 (.slice a3 (b.reads.length + 1) c3)
                simp only [List.setIfInBounds_toArray, List.set_cons_succ, List.set_cons_zero] at eZ
                rw [hZ] at eZ ⊢
                have hBZ : Below U.heap.size U Z := by rw [← hZ]; exact (below_tr bV hB3).setCell (p := ⟨U.heap.size, 2, none⟩) (Nat.le_refl _) _
                have hrZ : RdsAt Z (.slice a3 (b.reads.length + 1) c3) (b.reads ++ [R]) := by rw [← hZ]; exact OwnRds.rds (OwnSt.cellset ho3 (p := ⟨U.heap.size, 2, none⟩) hVlt.out _)
                have hWZ := Lib.hid (below_tr hWU.out hBZ)
                have hXZ := Lib.hid (below_tr hXU'.out hBZ)
                have hb5 := hbV.out.mono hWZ.out
                have hxZ : BookAt Z (.slice fa b.first.length fc) (.slice wa b.flows.length ww) (.slice a3 (b.reads.length + 1) c3) (b.more R) := ⟨hb5.first, hb5.flows, hrZ⟩
                have kY0 := agreeFormA _ _ _ (b.more R) ga Z hxZ her2 (show (b.more R).gsB ga = true from hgg.out) hag
                have hEZ := Lib.hid eZ
                clear hZ ho1 ho3 hg1 hg3 hat1 hat3 hB1 hB3 hBZ hrZ hb5 hxZ her2 hag p0 p1 p2 f0 f1 f2 zx eZ hR hll2 hHeld kS kSs hBd hBda hrd x0V hcV bV
                obtain ⟨q0, q1, q2⟩ := rc3 (kept_block hWZ.out hC0.out)
                obtain ⟨g0, g1, g2⟩ := rc3 (kept_block hWZ.out hC1.out)
                have z0 := (Array.getElem?_eq_some_iff.1 (kept_block hWZ.out hC0.out)).1
                have z1 := (Array.getElem?_eq_some_iff.1 (kept_block hWZ.out hC1.out)).1
                obtain ⟨x0, x1, x2⟩ := rc3 hEZ.out
                have zx := (Array.getElem?_eq_some_iff.1 hEZ.out).1
                by_cases hk2 : (k : Int) < 2
                · rw [decide_eq_true hk2] at kY0
                  have kY := Lib.hid kY0
                  clear kY0
                  go_wp2_with (go_at_call 39; (with_reducible refine Calls.mono kY.out ?_); rintro e w6 ⟨rfl, hB6⟩)
                  exact ⟨⟨⟨w6, below_tr hXZ.out hB6⟩, rfl, k + 1, by omega, by go_num⟩, by simp [intOf]; omega⟩
                · rw [decide_eq_false hk2] at kY0
                  have kY := Lib.hid kY0
                  have hk2d : decide ((k : Int) < 2) = false := by simpa using hk2
                  clear kY0
                  go_wp2_with (go_at_call 39; (with_reducible refine Calls.mono kY.out ?_); rintro e w6 ⟨rfl, hB6⟩)
                  exact ⟨⟨⟨w6, below_tr hXZ.out hB6⟩, rfl, k + 1, by omega, by go_num⟩, by simp [intOf]; omega⟩
        · obtain rfl : k = 4 := by omega
          have hwU := Lib.hid (below_tr hwx.out hWU.out)
          clear hXU
          go_wp2_with (go_at_call 18; (with_reducible refine Calls.mono (kK.out _) ?_); rintro e w9 ⟨rfl, hB9⟩)
          go_ret
          exact ⟨rfl, below_tr hwU.out hB9⟩
  · clear hF hbV hC0 hC1
    go_wp2_with (go_at_call 18; (with_reducible refine Calls.mono (kK.out _) ?_); rintro e w9 ⟨rfl, hB9⟩)
    go_ret
    exact ⟨rfl, below_tr hwx.out hB9⟩
end Go.Proofs.Ytddmfkhmhdddeaa
