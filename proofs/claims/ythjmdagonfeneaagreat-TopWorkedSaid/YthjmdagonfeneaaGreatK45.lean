/- Laws and walks: LFou, Lwa. -/
import Derived.Test.YthjmdagonfeneaaGreatK44
set_option maxRecDepth 100000
set_option maxHeartbeats 16000000
set_option linter.unusedVariables false
set_option linter.unusedSimpArgs false
namespace Lk
def dyBad (d : Dy) : Bool := !inB d.flow 0 10000000 || !inB d.content 0 10000000 || (!d.reads && !decide (d.content = 0))
def watchB (w : List Dy) (size since : Int) : Bool := !w.any dyBad && inB size 1 10000000 && inB since 0 (w.length - 1)
def apart (w : List Dy) (t : Nat) : Nat → Int
 | 0 => 2 * (dyAt w t).content
 | j + 1 => apart w t j + 2 * (dyAt w (t - j)).flow
def missing (size since : Int) (s t : Nat) : Int := size * max 0 ((t : Int) - max (s : Int) (since - 1))
def hitB (w : List Dy) (size since : Int) (t j : Nat) : Bool := (dyAt w (t - 1 - j)).reads && decide (apart w t (j + 1) + 2 * (dyAt w (t - 1 - j)).content < missing size since (t - 1 - j) t)
def foundB (w : List Dy) (size since : Int) (t : Nat) : Bool := (dyAt w t).reads && (List.range t).any (hitB w size since t)
def foundD (w : List Dy) (size since : Int) : Option Nat := (List.range w.length).find? (foundB w size since)
def fdR (w : List Dy) (size since : Int) : Int × Int := if 30 < w.length then (0, 3) else if watchB w size since = false then (0, 2) else match foundD w size since with
 | some t => ((t : Int), 0)
 | none => (0, 5)
structure WOk (w : List Dy) : Prop where
 len : w.length ≤ 30
 day : ∀ k, k < w.length → 0 ≤ (dyAt w k).flow ∧ (dyAt w k).flow ≤ 10000000 ∧ 0 ≤ (dyAt w k).content ∧ (dyAt w k).content ≤ 10000000 ∧ ((dyAt w k).reads = false → (dyAt w k).content = 0)
theorem watch_ok {w : List Dy} {size since : Int} (h : watchB w size since = true) (hl : w.length ≤ 30) : WOk w ∧ (1 ≤ size ∧ size ≤ 10000000) ∧ (0 ≤ since ∧ since < w.length) := by
 simp only [watchB, Bool.and_eq_true, inB_iff, Bool.not_eq_true', List.any_eq_false] at h
 obtain ⟨⟨h1, h2⟩, h3⟩ := h
 refine ⟨⟨hl, fun k hk => ?_⟩, h2, by omega⟩
 have e : dyAt w k = w[k] := by simp [dyAt, hk]
 have := h1 _ (List.getElem_mem hk)
 rw [e]
 simp only [dyBad, Bool.or_eq_true, Bool.and_eq_true, Bool.not_eq_true', not_or, Bool.not_eq_false, inB_iff, decide_eq_false_iff_not, not_and] at this
 refine ⟨this.1.1.1, this.1.1.2, this.1.2.1, this.1.2.2, fun hr => ?_⟩
 have := this.2 hr
 omega
theorem apart_bd {w : List Dy} (ok : WOk w) {t : Nat} (ht : t < w.length) : ∀ j, j ≤ t → 0 ≤ apart w t j ∧ apart w t j ≤ 20000000 + 20000000 * (j : Int) := by
 intro j
 induction j with
 | zero => intro _; have := ok.day t ht; simp only [apart]; omega
 | succ j ih =>
  intro hj
  have := ih (by omega)
  have := ok.day (t - j) (by omega)
  simp only [apart]; push_cast; omega
theorem missing_bd {size since : Int} (h : 1 ≤ size ∧ size ≤ 10000000) {s t : Nat} (hs : 0 ≤ since) (ht : t ≤ 30) : 0 ≤ missing size since s t ∧ missing size since s t ≤ 310000000 := by
 have h1 : 0 ≤ max 0 ((t : Int) - max (s : Int) (since - 1)) ∧ max 0 ((t : Int) - max (s : Int) (since - 1)) ≤ 31 := by omega
 unfold missing
 refine ⟨Int.mul_nonneg (by omega) h1.1, ?_⟩
 calc size * max 0 ((t : Int) - max (s : Int) (since - 1)) ≤ 10000000 * 31 := Int.mul_le_mul h.2 h1.2 h1.1 (by omega)
  _ = 310000000 := by rfl
theorem found_some {w : List Dy} {size since : Int} {t : Nat} (ht : t < w.length) (h : foundB w size since t = true) (hb : ∀ u, u < t → foundB w size since u = false) : foundD w size since = some t := by
 unfold foundD
 rw [List.find?_range_eq_some]
 exact ⟨h, by simpa using ht, fun j hj => by simp [hb j hj]⟩
theorem found_none {w : List Dy} {size since : Int} (hb : ∀ u, u < w.length → foundB w size since u = false) : foundD w size since = none := by
 unfold foundD
 rw [List.find?_eq_none]
 intro u hu
 simp [hb u (by simpa using hu)]
end Lk
namespace Go.Proofs.YthjmdagonfeneaaGreat.L
open Go.RowKit Go.Sd Lk
abbrev dyO (d : Dy) : Obj := .cells #[.int .i64 d.flow, .bool d.reads, .int .i64 d.content] 86
theorem progFound1 (d : Dy) (w : World) : Calls Tryz.prog 62 #[dyV d] w fun e w' => e = .returned (.bool (dyBad d)) ∧ Below w.heap.size w w' := by
 obtain ⟨W, hW⟩ : ∃ W, w.alloc (dyO d) = W := ⟨_, rfl⟩
 obtain ⟨e0, b0, s0⟩ := boxed hW
 obtain ⟨q0, q1, q2⟩ := rc3 e0
 have z0 := (zqo e0)
 obtain ⟨f, r, c⟩ := d
 have k1 := Lib.hid (progIn f 0 10000000)
 have k2 := Lib.hid (progIn c 0 10000000)
 have hd : Hid (dyBad ⟨f, r, c⟩ = (!inB f 0 10000000 || !inB c 0 10000000 || (!r && !decide (c = 0)))) := rfl
 generalize dyBad ⟨f, r, c⟩ = res at *
 clear e0 s0
 simp only at q0 q1 q2
 cases h1 : inB f 0 10000000
 · rw [h1] at k1 hd
   clear h1
   go_enter Tryz.func62, Tryz.ntmps62
   go_wp2_with (go_at_call 63; (with_reducible refine Calls.mono (k1.out _) ?_); rintro e w' ⟨rfl, rfl⟩)
   go_ret
   exact ⟨bool_ret (by rw [hd.out]; simp), b0⟩
 · rw [h1] at k1 hd
   clear h1
   cases h2 : inB c 0 10000000
   · rw [h2] at k2 hd
     clear h2
     go_enter Tryz.func62, Tryz.ntmps62
     go_wp2_with (first | (go_at_call 63; (with_reducible refine Calls.mono (k1.out _) ?_); rintro e w' ⟨rfl, rfl⟩) | (go_at_call 63; (with_reducible refine Calls.mono (k2.out _) ?_); rintro e w' ⟨rfl, rfl⟩))
     go_ret
     exact ⟨bool_ret (by rw [hd.out]; simp), b0⟩
   · rw [h2] at k2 hd
     clear h2
     cases r
     · go_enter Tryz.func62, Tryz.ntmps62
       go_wp2_with (first | (go_at_call 63; (with_reducible refine Calls.mono (k1.out _) ?_); rintro e w' ⟨rfl, rfl⟩) | (go_at_call 63; (with_reducible refine Calls.mono (k2.out _) ?_); rintro e w' ⟨rfl, rfl⟩))
       go_ret
       refine ⟨bool_ret ?_, b0⟩
       rw [hd.out]
       by_cases hc : c = 0 <;> simp [hc]
     · go_enter Tryz.func62, Tryz.ntmps62
       go_wp2_with (first | (go_at_call 63; (with_reducible refine Calls.mono (k1.out _) ?_); rintro e w' ⟨rfl, rfl⟩) | (go_at_call 63; (with_reducible refine Calls.mono (k2.out _) ?_); rintro e w' ⟨rfl, rfl⟩))
       go_ret
       exact ⟨bool_ret (by rw [hd.out]; simp), b0⟩
theorem enter_found1 : ∀ (args : Array Value) (w : World), (callFunc 62 args).run Tryz.prog w = .ok (.enter 62 args) w := fun _ _ => by kernel_rfl
def FoundPost (l : List Dy) (size since : Int) (w : World) (e : Ending) (w' : World) : Prop := e = .returned (.tuple #[.int .i64 (fdR l size since).1, .int .i64 (fdR l size since).2]) ∧ Below w.heap.size w w'
theorem FoundPost.mk {l : List Dy} {size since : Int} {w w' : World} {a c : Int} (h : fdR l size since = (a, c)) (hb : Below w.heap.size w w') : FoundPost l size since w (.returned (.tuple #[.int .i64 a, .int .i64 c])) w' := ⟨by rw [h], hb⟩
theorem fdR_long {l : List Dy} {size since : Int} (h : 30 < l.length) : fdR l size since = (0, 3) := by unfold fdR; rw [if_pos h]
theorem fdR_arg {l : List Dy} {size since : Int} (h : l.length ≤ 30) (h2 : watchB l size since = false) : fdR l size since = (0, 2) := by unfold fdR; rw [if_neg (by omega), if_pos h2]
theorem fdR_yes {l : List Dy} {size since : Int} {t : Nat} (h : l.length ≤ 30) (h2 : watchB l size since = true) (h3 : foundD l size since = some t) : fdR l size since = ((t : Int), 0) := by unfold fdR; rw [if_neg (by omega), if_neg (by simp [h2]), h3]
theorem fdR_no {l : List Dy} {size since : Int} (h : l.length ≤ 30) (h2 : watchB l size since = true) (h3 : foundD l size since = none) : fdR l size since = (0, 5) := by unfold fdR; rw [if_neg (by omega), if_neg (by simp [h2]), h3]
theorem progFound (v : Value) (l : List Dy) (size since : Int) (w : World) (hl : DysAt w v l) :
    Calls Tryz.prog 28 #[v, .int .i64 size, .int .i64 since] w (FoundPost l size since w) := by
 have kA := Lib.hid (containsDys v l dyBad 62 #[] w hl enter_found1 (fun d _ X _ => progFound1 d X))
 obtain ⟨a, cap, rfl, hlm, hx⟩ := hl.form
 have hx2 := Lib.hid hx
 clear hx hl
 by_cases hlong : 30 < l.length
 · have hi : (30 : Int) < (l.length : Int) := by omega
   have hr := Lib.hid (fdR_long (size := size) (since := since) hlong)
   clear kA hx2
   go_enter Tryz.func28, Tryz.ntmps28
   go_wp2
   refine bodyPost_ret (v := .tuple #[_, _]) (by simp [results, Tryz.results28, go_sem]; exact ⟨rfl, rfl⟩) rfl ?_
   exact FoundPost.mk hr.out (Below.refl _ _)
 · have hi : decide ((30 : Int) < (l.length : Int)) = false := by simp; omega
   have hle : l.length ≤ 30 := by omega
   have k2 := Lib.hid (fun X => progIn size 1 10000000 X)
   have k3 := Lib.hid (fun X => progIn since 0 ((l.length : Int) - 1) X)
   have hwb : Hid (watchB l size since = (!l.any dyBad && inB size 1 10000000 && inB since 0 (l.length - 1))) := rfl
   cases h1 : l.any dyBad
   · rw [h1] at hwb
     replace h1 := Lib.hid h1
     cases h2 : inB size 1 10000000
     · rw [h2] at hwb k2
       have hr := Lib.hid (fdR_arg (size := size) (since := since) hle (by rw [hwb.out]; rfl))
       clear h2 hx2 k3
       go_enter Tryz.func28, Tryz.ntmps28
       go_wp2_with (first | (go_at_call 61; refine Calls.mono kA.out ?_; rintro e w1 hq; obtain ⟨rfl, hB1⟩ := hq.lit h1.out) | (go_at_call 63; (with_reducible refine Calls.mono (k2.out _) ?_); rintro e w' ⟨rfl, rfl⟩))
       refine bodyPost_ret (v := .tuple #[_, _]) (by simp [results, Tryz.results28, go_sem]; exact ⟨rfl, rfl⟩) rfl ?_
       exact FoundPost.mk hr.out hB1
     · rw [h2] at hwb k2
       cases h3 : inB since 0 ((l.length : Int) - 1)
       · rw [h3] at hwb k3
         have hr := Lib.hid (fdR_arg (size := size) (since := since) hle (by rw [hwb.out]; rfl))
         clear h2 h3 hx2
         go_enter Tryz.func28, Tryz.ntmps28
         go_wp2_with (first | (go_at_call 61; refine Calls.mono kA.out ?_; rintro e w1 hq; obtain ⟨rfl, hB1⟩ := hq.lit h1.out) | (go_at_call 63; (with_reducible refine Calls.mono (k2.out _) ?_); rintro e w' ⟨rfl, rfl⟩) | (go_at_call 63; (with_reducible refine Calls.mono (k3.out _) ?_); rintro e w' ⟨rfl, rfl⟩))
         refine bodyPost_ret (v := .tuple #[_, _]) (by simp [results, Tryz.results28, go_sem]; exact ⟨rfl, rfl⟩) rfl ?_
         exact FoundPost.mk hr.out hB1
       · rw [h3] at hwb k3
         have hw : watchB l size since = true := by rw [hwb.out]; rfl
         have hok := Lib.hid (watch_ok hw hle)
         have hsz := hok.out.2.1
         have hsn := hok.out.2.2
         have hyes := fun t h => fdR_yes (size := size) (since := since) (t := t) hle hw h
         have hnon := fun h => fdR_no (size := size) (since := since) hle hw h
         replace hyes := Lib.hid hyes
         replace hnon := Lib.hid hnon
         clear h2 h3 hw hwb
         go_enter Tryz.func28, Tryz.ntmps28
         go_wp2_with (first | (go_at_call 61; refine Calls.mono kA.out ?_; rintro e w1 hq; obtain ⟨rfl, hB1⟩ := hq.lit h1.out) | (go_at_call 63; (with_reducible refine Calls.mono (k2.out _) ?_); rintro e w' ⟨rfl, rfl⟩) | (go_at_call 63; (with_reducible refine Calls.mono (k3.out _) ?_); rintro e w' ⟨rfl, rfl⟩))
         clear k2 k3 kA
         go_loopw [32] (fun i wr => ∃ t : Nat, t ≤ l.length ∧ i = .int .i64 t ∧ Hid (Below w.heap.size w wr ∧ ∀ u, u < t → foundB l size since u = false)) (fun i _ => l.length - (intOf i).toNat)
         case atStart => exact ⟨0, by omega, rfl, hB1, fun u h => absurd h (by omega)⟩
         case round =>
          obtain ⟨t, ht, rfl, hH⟩ := hrel
          obtain ⟨hB, hbef⟩ := hH.out
          clear hH hB1
          replace hbef := Lib.hid hbef
          by_cases htl : t < l.length
          · have hti : (t : Int) < (l.length : Int) := by omega
            obtain ⟨lb, off, rfl, hlb, hx⟩ := hx2.out (by omega)
            have hxc : ∀ k i u, k < l.length → (dyEnc (dyAt l k))[i]? = some u → wr.cell? ⟨lb, off + k * 3 + i, none⟩ = some u := fun k i u hk hu => kept_cell hB (hx k i u hk hu)
            have x0 : wr.cell? ⟨lb, off + t * 3, none⟩ = some (.int .i64 (dyAt l t).flow) := hxc t 0 _ htl rfl
            have x1 : wr.cell? ⟨lb, off + t * 3 + 1, none⟩ = some (.bool (dyAt l t).reads) := hxc t 1 _ htl rfl
            have x2 : wr.cell? ⟨lb, off + t * 3 + 2, none⟩ = some (.int .i64 (dyAt l t).content) := hxc t 2 _ htl rfl
            have hdb := hok.out.1.day t htl
            have hf : Hid (foundB l size since t = ((dyAt l t).reads && (List.range t).any (hitB l size since t))) := rfl
            have ha0 : Hid (apart l t 0 = 2 * (dyAt l t).content) := rfl
            replace hxc := Lib.hid hxc
            clear hx
            cases hrd : (dyAt l t).reads
            · rw [hrd] at hf x1
              have hbn : Hid (∀ u, u < t + 1 → foundB l size since u = false) := Lib.hid fun u hu => by
               rcases Nat.lt_succ_iff_lt_or_eq.1 hu with h | rfl
               · exact hbef.out u h
               · rw [hf.out]; rfl
              clear hf hrd
              generalize dyAt l t = d at *
              go_wp2
              exact ⟨⟨t + 1, by omega, by go_num, hB.alloc hB.size _, hbn.out⟩, by simp [intOf]; omega⟩
            · rw [hrd] at hf x1
              obtain ⟨V, hV⟩ : ∃ V, wr.alloc (.cells #[.int .i64 (dyAt l t).flow, .bool true, .int .i64 (dyAt l t).content] 86) = V := ⟨_, rfl⟩
              obtain ⟨e4, B4, s4⟩ := boxed hV
              obtain ⟨n0, n1, n2⟩ := rc3 e4
              have zn := (zqo e4)
              have hBV := Lib.hid (below_tr hB B4)
              have hVc : Hid (∀ k i u, k < l.length → (dyEnc (dyAt l k))[i]? = some u → V.cell? ⟨lb, off + k * 3 + i, none⟩ = some u) := Lib.hid fun k i u hk hu => kept_cell B4 (hxc.out k i u hk hu)
              have hlV : lb < V.heap.size := Nat.lt_of_lt_of_le (World.block_lt_of_cell? wr ⟨lb, _, none⟩ x0) B4.size
              clear hrd e4 B4 s4 hB
              go_wp2
              clear x0 x1 x2 n0 n1 n2 zn hV
              go_loopw [10, 11] (fun a s w2 => ∃ j k : Nat, t = k + j ∧ a = .int .i64 (apart l t j) ∧ s = .int .i64 ((k : Int) - 1) ∧ w2 = V ∧ Hid (∀ i, i < j → hitB l size since t i = false)) (fun _ s _ => (intOf s + 1).toNat)
              case atStart => exact ⟨0, t, by omega, by rw [ha0.out], rfl, rfl, fun i h => absurd h (by omega)⟩
              case round =>
               obtain ⟨j, k, hjk, rfl, hs, rfl, hI⟩ := hrel
               cases k with
               | zero =>
                obtain rfl : t = j := by omega
                clear hjk
                rw [show ((0 : Nat) : Int) - 1 = -1 by omega] at hs
                subst hs
                have hbn : Hid (∀ u, u < t + 1 → foundB l size since u = false) := Lib.hid fun u hu => by
                 rcases Nat.lt_succ_iff_lt_or_eq.1 hu with h | rfl
                 · exact hbef.out u h
                 · rw [hf.out]
                   simp only [Bool.true_and, List.any_eq_false, List.mem_range, Bool.not_eq_true]
                   exact fun i hi => hI.out i hi
                clear hI
                go_wp2
                exact ⟨⟨t + 1, by omega, by go_num, hBV.out, hbn.out⟩, by simp [intOf]; omega⟩
               | succ k =>
                rw [show ((k + 1 : Nat) : Int) - 1 = k by omega] at hs
                subst hs
                have hkl : k < l.length := by omega
                have hki : (k : Int) < (l.length : Int) := by omega
                have hk1 : (k : Int) + 1 < (l.length : Int) := by omega
                have y0 : wr.cell? ⟨lb, off + (k + 1) * 3, none⟩ = some (.int .i64 (dyAt l (k + 1)).flow) := hVc.out (k + 1) 0 _ (by omega) rfl
                have y1 : wr.cell? ⟨lb, off + k * 3 + 1, none⟩ = some (.bool (dyAt l k).reads) := hVc.out k 1 _ hkl rfl
                have y2 : wr.cell? ⟨lb, off + k * 3 + 2, none⟩ = some (.int .i64 (dyAt l k).content) := hVc.out k 2 _ hkl rfl
                have hap : Hid (apart l t (j + 1) = apart l t j + 2 * (dyAt l (k + 1)).flow) := Lib.hid (by simp only [apart]; rw [show t - j = k + 1 by omega])
                have hhit : Hid (hitB l size since t j = ((dyAt l k).reads && decide (apart l t (j + 1) + 2 * (dyAt l k).content < missing size since k t))) := Lib.hid (by unfold hitB; rw [show t - 1 - j = k by omega])
                have ha1 := apart_bd hok.out.1 htl j (by omega)
                have hd1 := hok.out.1.day (k + 1) (by omega)
                have hd2 := hok.out.1.day k hkl
                have hmb := missing_bd hsz hsn.1 (s := k) (t := t) (by omega)
                generalize dyAt l (k + 1) = d1 at *
                generalize dyAt l k = d2 at *
                rw [hap.out] at hhit
                generalize hap2 : apart l t j = ap at *
                replace hap2 := Lib.hid hap2
                obtain ⟨M, hM⟩ : ∃ M, (if (k : Int) < since - 1 then since - 1 else (k : Int)) = M := ⟨_, rfl⟩
                obtain ⟨D, hD⟩ : ∃ D, (if M < (t : Int) then (t : Int) - M else 0) = D := ⟨_, rfl⟩
                obtain ⟨P, hP⟩ : ∃ P, size * D = P := ⟨_, rfl⟩
                have hDb : 0 ≤ D ∧ D ≤ 31 := by
                 have : 0 ≤ M := by rw [← hM]; split <;> omega
                 rw [← hD]; split <;> omega
                have hmi : missing size since k t = P := by
                 have e1 : M = max (k : Int) (since - 1) := by rw [← hM]; split <;> omega
                 have e2 : D = max 0 ((t : Int) - M) := by rw [← hD]; split <;> omega
                 rw [← hP, e2, e1]; rfl
                rw [hmi] at hhit hmb
                clear hmi
                have hj2 : Hid (t = k + (j + 1)) := Lib.hid (by omega)
                have hjb : j ≤ 30 := by omega
                clear hjk
                cases hr2 : d2.reads
                · rw [hr2] at hhit y1
                  have hI2 : Hid (∀ i, i < j + 1 → hitB l size since t i = false) := Lib.hid fun i hi => by
                   rcases Nat.lt_succ_iff_lt_or_eq.1 hi with h | rfl
                   · exact hI.out i h
                   · rw [hhit.out]; rfl
                  clear hI hhit hr2
                  go_wp2
                  exact ⟨⟨j + 1, k, hj2.out, by first | rw [hap.out, hap2.out] | rw [hap.out], rfl, (by first | rfl | trivial), hI2.out⟩, by simp [intOf]⟩
                · rw [hr2] at hhit y1
                  by_cases hc : ap + 2 * d1.flow + 2 * d2.content < P
                  · have hfd : Hid (foundB l size since t = true) := Lib.hid (by
                     rw [hf.out, Bool.true_and, List.any_eq_true]
                     exact ⟨j, List.mem_range.2 (by have := hj2.out; omega), by rw [hhit.out]; simpa using hc⟩)
                    have hr := Lib.hid (hyes.out t (found_some htl hfd.out hbef.out))
                    clear hI hhit hr2 hyes hnon
                    go_wp2
                    refine bodyPost_ret (v := .tuple #[_, _]) (by simp [results, Tryz.results28, go_sem]; exact ⟨rfl, rfl⟩) rfl ?_
                    exact FoundPost.mk hr.out hBV.out
                  · have hcd : decide (ap + 2 * d1.flow + 2 * d2.content < P) = false := by simpa using hc
                    have hI2 : Hid (∀ i, i < j + 1 → hitB l size since t i = false) := Lib.hid fun i hi => by
                     rcases Nat.lt_succ_iff_lt_or_eq.1 hi with h | rfl
                     · exact hI.out i h
                     · rw [hhit.out]; simpa using hc
                    clear hI hhit hr2
                    go_wp2
                    exact ⟨⟨j + 1, k, hj2.out, by first | rw [hap.out, hap2.out] | rw [hap.out], rfl, (by first | rfl | trivial), hI2.out⟩, by simp [intOf]⟩
          · obtain rfl : t = l.length := by omega
            have hr := Lib.hid (hnon.out (found_none hbef.out))
            clear hnon hyes
            go_wp2
            refine bodyPost_ret (v := .tuple #[_, _]) (by simp [results, Tryz.results28, go_sem]; exact ⟨rfl, rfl⟩) rfl ?_
            exact FoundPost.mk hr.out hB
   · rw [h1] at hwb
     have hr := Lib.hid (fdR_arg (size := size) (since := since) hle (by rw [hwb.out]; rfl))
     replace h1 := Lib.hid h1
     clear hx2 k2 k3
     go_enter Tryz.func28, Tryz.ntmps28
     go_wp2_with (go_at_call 61; refine Calls.mono kA.out ?_; rintro e w1 hq; obtain ⟨rfl, hB1⟩ := hq.lit h1.out)
     refine bodyPost_ret (v := .tuple #[_, _]) (by simp [results, Tryz.results28, go_sem]; exact ⟨rfl, rfl⟩) rfl ?_
     exact FoundPost.mk hr.out hB1
end Go.Proofs.YthjmdagonfeneaaGreat.L
set_option linter.unusedVariables false
set_option linter.unusedSimpArgs false
namespace Go.Proofs.YthjmdagonfeneaaGreat.L
open Go.RowKit Go.Sd Lk Lc
theorem elsBlk {α : Type} {m : Nat} {enc : α → List Value} (hm : ∀ x, (enc x).length = m) (d : α) {w : World} {b : Nat} {E : TypeId} {cs : Array Value} (xs : List α) (h : w.heap[b]? = some (.cells cs E)) (hc : cs = (xs.flatMap enc).toArray) (hx : xs.length ≤ maxLen) (cap : Nat) :
    ElsAt m enc d w (.slice (some ⟨b, 0, none⟩) xs.length cap) xs := by
 refine ⟨_, cap, rfl, hx, fun _ => ⟨b, 0, rfl, (zqo h), fun k i u hk hu => ?_⟩⟩
 have hi : i < m := by
  have := (List.getElem?_eq_some_iff.1 hu).1
  rwa [hm] at this
 rw [(row_cells h).2.1, hc, Nat.zero_add]
 have := fl_get hm d xs k i hk hi
 simp only [List.getElem?_toArray]
 rw [this, hu]
theorem lsEn_len (x : Sl) : (lsEn x).length = 7 := rfl
theorem sgEn_len (x : Sg) : (sgEn x).length = 4 := rfl
theorem dyEnc_len1 (x : Dy) : (dyEnc x).length = 3 := rfl
theorem lcC (w : World) : Calls Tryz.prog 23 #[] w fun e w' => (∃ sv, e = .returned (.agg (exCells sv)) ∧ SlsAt w' sv exSls) ∧ Below w.heap.size w w' := by
 obtain ⟨W, hW⟩ : ∃ W, (w.alloc (.cells (exCells (.slice (some ⟨w.heap.size + 1, 0, none⟩) 3 3)) 69)).alloc (.cells #[.int .i64 900000, .int .i64 1000000, .int .i64 1200, .int .i64 100, .int .i64 20, .int .i64 40, .int .i64 1480000, .int .i64 1000000, .int .i64 1000000, .int .i64 1100, .int .i64 50, .int .i64 30, .int .i64 50, .int .i64 3000000, .int .i64 500000, .int .i64 600000, .int .i64 1000, .int .i64 0, .int .i64 40, .int .i64 60, .int .i64 3000000] 126) = W := ⟨_, rfl⟩
 obtain ⟨e0, e1, -, b0⟩ := two_new hW
 replace hW := Lib.hid hW
 obtain ⟨c0, c1, c2⟩ := rc3 e0
 go_enter Tryz.func23, Tryz.ntmps23
 go_wp2
 rw [hW.out]
 refine bodyPost_ret (v := .agg (exCells (.slice (some ⟨w.heap.size + 1, 0, none⟩) 3 3))) (by simp [results, Tryz.results23, go_sem, c0, c1, c2]) rfl ⟨⟨_, rfl, elsBlk lsEn_len _ exSls e1 rfl (by decide) 3⟩, b0⟩
theorem lcB (w : World) : Calls Tryz.prog 24 #[] w fun e w' => e = .returned (.agg #[.int .i64 10, .int .i64 2, .int .i64 0, .int .i64 3]) ∧ Below w.heap.size w w' := by
 obtain ⟨W, hW⟩ : ∃ W, w.alloc (.cells #[.int .i64 10, .int .i64 2, .int .i64 0, .int .i64 3] 72) = W := ⟨_, rfl⟩
 obtain ⟨e0, b0, -⟩ := boxed hW
 replace hW := Lib.hid hW
 obtain ⟨c0, c1, c2, c3⟩ := rc4 e0
 go_enter Tryz.func24, Tryz.ntmps24
 go_wp2
 rw [hW.out]
 refine bodyPost_ret (v := .agg #[.int .i64 10, .int .i64 2, .int .i64 0, .int .i64 3]) (by simp [results, Tryz.results24, go_sem, c0, c1, c2, c3]) rfl ⟨rfl, b0⟩
def exDys : List Dy := [⟨0, true, 2⟩, ⟨0, true, 2⟩]
theorem exFound (v : Value) (X : World) (hb : DysAt X v exDys) : Calls Tryz.prog 28 #[v, .int .i64 9, .int .i64 1] X fun e w' => e = .returned (.tuple #[.int .i64 1, .int .i64 0]) ∧ Below X.heap.size X w' :=
 (progFound v exDys 9 1 X hb).mono (by rintro e w' ⟨rfl, hB⟩; exact ⟨by rw [show fdR exDys 9 1 = (1, 0) by decide], hB⟩)
theorem exWdr (w : World) : Calls Tryz.prog 25 #[G.cavV Gas.exC, G.stV Gas.exS, .agg #[.int .i64 2, .int .i64 0, .int .i64 0, .int .i64 0, .int .i64 0, .int .i64 210, .int .i64 0, .int .i64 0, .int .i64 0, .int .i64 0]] w fun e w' => e = .returned (.tuple #[.agg #[.int .i64 1800, .int .i64 1900, .int .i64 90, .int .i64 100, .int .i64 3000, .int .i64 3100, .int .i64 45000, .int .i64 54299], .agg #[.int .i64 200, .int .i64 201, .int .i64 9, .int .i64 10, .int .i64 4751, .int .i64 6000], .int .i64 0]) ∧ Below w.heap.size w w' :=
 G.progDoSome (o := Gas.exW) w (by rfl) (by rfl) (by rfl) (show Gas.act Gas.exC Gas.exS Gas.exW = some (⟨1800, 1900, 90, 100, 3000, 3100, 45000, 54299⟩, ⟨200, 201, 9, 10, 4751, 6000⟩) from by rfl)
theorem known11 (w : World) : Calls Tryz.prog 10 #[] w fun e w' => e = .returned (.bool true) ∧ Below w.heap.size w w' := by
 have HB : Below w.heap.size w w := Below.refl _ _
 have fC := Lib.hid fun X => G.lawC X
 have fS := Lib.hid fun X => G.lawS X
 have fW := Lib.hid fun X => exWdr X
 go_enter Tryz.func10, Tryz.ntmps10
 go_wp2_with (first
  | (go_at_call 23; (with_reducible refine Calls.mono (lcC _) ?_); rintro e y ⟨⟨sv, rfl, hs⟩, hB⟩; replace HB := below_tr HB hB; clear hB)
  | (go_at_call 24; (with_reducible refine Calls.mono (lcB _) ?_); rintro e y1 ⟨rfl, hB⟩; replace HB := below_tr HB hB; replace hs := ElsAt.mono hs hB; clear hB)
  | (go_at_call 22; (obtain ⟨Y, hY⟩ : ∃ Y, (y1.alloc (.cells #[.int .i64 10, .int .i64 2, .int .i64 0, .int .i64 3] 72)).alloc (.cells #[.int .i64 0, .int .i64 0, .int .i64 0] 3) = Y := ⟨_, rfl⟩); rw [hY]; have hn := two_new hY; clear hY; (refine Calls.mono (exBound sv _ _ Y (hs.mono hn.2.2.2) (elsBlk sgEn_len _ [exB] hn.1 rfl (by decide) 1) (elsBlk intEnc_len _ [0, 0, 0] hn.2.1 rfl (by decide) 3)) ?_); rintro e y2 ⟨rfl, hB⟩; replace HB := below_tr HB (below_tr hn.2.2.2 hB); clear hB hn hs)
  | (go_at_call 26; (with_reducible refine Calls.mono (fC.out _) ?_); rintro e y3 ⟨rfl, hB⟩; have es := kept_block hB (World.alloc_heap_new y2 (spO ⟨20000, 45000⟩)); replace HB := below_tr HB (below_tr ((Below.refl y2.heap.size y2).alloc (Nat.le_refl _) _) hB); obtain ⟨bs, hbs⟩ : ∃ b, b = y2.heap.size := ⟨_, rfl⟩; rw [← hbs] at es ⊢; clear hB hbs)
  | (go_at_call 27; (with_reducible refine Calls.mono (fS.out _) ?_); rintro e y4 ⟨rfl, hB⟩; replace es := kept_block hB es; replace HB := below_tr HB hB; clear hB)
  | (go_at_call 25; (with_reducible refine Calls.mono (fW.out _) ?_); rintro e y5 ⟨rfl, hB⟩; replace es := kept_block hB es; replace HB := below_tr HB hB; clear hB)
  | (go_at_call 28; (obtain ⟨Z, hZ⟩ : ∃ Z, ((y5.alloc (.cells #[.int .i64 1800, .int .i64 1900, .int .i64 90, .int .i64 100, .int .i64 3000, .int .i64 3100, .int .i64 45000, .int .i64 54299] 33)).alloc (.cells #[.int .i64 200, .int .i64 201, .int .i64 9, .int .i64 10, .int .i64 4751, .int .i64 6000] 76)).alloc (.cells #[.int .i64 0, .bool true, .int .i64 2, .int .i64 0, .bool true, .int .i64 2] 86) = Z := ⟨_, rfl⟩); rw [hZ]; have hn := three_new hZ; clear hZ; (refine Calls.mono (exFound _ Z (elsBlk dyEnc_len1 _ exDys hn.2.2.1 rfl (by decide) 2)) ?_); rintro e y6 ⟨rfl, hB⟩; replace es := kept_block hB (kept_block hn.2.2.2.2 es); have ex := kept_block hB hn.1; replace HB := below_tr HB (below_tr hn.2.2.2.2 hB); clear hB hn; obtain ⟨c0, c1⟩ := rc2 es; obtain ⟨d0, d1, -⟩ := rc8 ex; have zs := (zqo es); have zx := (zqo ex); clear es ex))
 go_ret
 exact ⟨rfl, HB⟩
end Go.Proofs.YthjmdagonfeneaaGreat.L
