/- Laws and walks: SW5, STab2. -/
import Derived.Test.YthjmdagonfeneaaGreatK22
set_option maxRecDepth 100000
set_option maxHeartbeats 16000000
set_option linter.unusedVariables false
set_option linter.unusedSimpArgs false
namespace Go.Proofs.YthjmdagonfeneaaGreat.S
open Go.RowKit Go.Sd
theorem last_at {s : Sea.S} {k : Nat} (h : k < s.last.length) : Sea.at0 s.last k = s.lastAt k := by
 simp only [Sea.S.last, List.length_map, List.length_range] at h
 simp [Sea.at0, Sea.S.last, h]
theorem all_range {n : Nat} {f : Nat → Bool} (h : ∀ j, j < n → f j = true) : (List.range n).all f = true := List.all_eq_true.2 fun x hx => h x (List.mem_range.1 hx)
theorem all_range_not {n : Nat} {f : Nat → Bool} {k : Nat} (hk : k < n) (h : f k = false) : (List.range n).all f = false := by
 rw [List.all_eq_false]; exact ⟨k, List.mem_range.2 hk, by rw [h]; exact Bool.false_ne_true⟩
theorem upto_succ {p : Nat → Prop} {k : Nat} (h : ∀ j, j < k → p j) (hk : p k) : ∀ j, j < k + 1 → p j := fun j hj => by
 rcases Nat.lt_succ_iff_lt_or_eq.1 hj with h' | rfl
 · exact h j h'
 · exact hk
theorem refNoms (sv lv : Value) (s : Sea.S) (l : List Int) (w : World) (hs : SeasonAt w sv s) (hl : IntsAt w lv l) :
    Calls Tryz.prog 5 #[sv, lv] w fun e w' => e = .returned (.bool (s.nomsB l)) ∧ Below w.heap.size w w' := by
 have hs' := hs
 obtain ⟨rv, dv, rfl, -, ⟨da, dcap, rfl, hdm, -⟩⟩ := hs'
 obtain ⟨aa, ac, rfl, ham, hac⟩ := hl
 unfold maxLen at ham hdm
 by_cases hlen : l.length = s.days.length
 · have Hl := Lib.hid hlen
   have hl1 : l.length ≤ s.days.length := by omega
   have hbe : ((l.length : Int) == (s.days.length : Int)) = true := by rw [hlen]; simp
   have hbn : ((l.length : Int) != (s.days.length : Int)) = false := by rw [hlen]; simp
   clear hlen
   go_enter Tryz.func5, Tryz.ntmps5
   go_wp2
   generalize hW : w.alloc (sBox s rv (.slice da s.days.length dcap)) = W
   obtain ⟨hsz, hBw, q0, q1, q2, q3, q4, q5⟩ := box_season hW
   clear hW
   have hs2 := hs.mono hBw
   have hg := grow_cell W
   go_loopw [5] (fun i wr => ∃ k : Nat, k ≤ l.length ∧ i = .int .i64 k ∧ Hid (∀ j, j < k → Sea.inB (Sea.at0 l j) (Sea.dayAt s.days j).nlo (Sea.dayAt s.days j).nhi = true) ∧ ∃ g : Grow W, wr = g.x) (fun i _ => l.length - (intOf i).toNat)
   case atStart => exact ⟨0, by omega, rfl, (fun j h => by omega : ∀ j, j < 0 → Sea.inB (Sea.at0 l j) (Sea.dayAt s.days j).nlo (Sea.dayAt s.days j).nhi = true), Grow.self W, rfl⟩
   case round =>
    obtain ⟨k, hk, rfl, hH, g, rfl⟩ := hrel
    by_cases hlt : k < l.length
    · obtain ⟨ab, ao, rfl, hal, hak⟩ := hac (by omega)
      have ca := kept_cell hBw (hak k hlt)
      have hal2 : ab < W.heap.size := by omega
      clear hak hac
      have hlt' : (k : Int) < l.length := by omega
      cases he : Sea.inB (Sea.at0 l k) (Sea.dayAt s.days k).nlo (Sea.dayAt s.days k).nhi
      · have Hf : Hid (s.nomsB l = false) := by
         show _ = _
         unfold Sea.S.nomsB
         rw [all_range_not hlt he, Bool.and_false]
        have hc : ∀ h : Grow W, Calls Tryz.prog 19 #[.agg #[.int .i64 s.space, .int .i64 s.start, .int .i64 s.elo, .int .i64 s.ehi, rv, .slice da s.days.length dcap], .int .i64 k, .int .i64 (Sea.at0 l k)] h.x fun e w' => e = .returned (.bool false) ∧ Below h.x.heap.size h.x w' :=
         fun h => by have := refNom _ s k (Sea.at0 l k) h.x (hs2.mono h.h) (by omega) (by omega); rwa [Int.toNat_natCast, he] at this
        clear he
        go_wp2
        have hgg : ∀ (h : Grow g.x) (b o : Nat), b < W.heap.size → h.x.cell? ⟨b, o, none⟩ = W.cell? ⟨b, o, none⟩ := fun h b o hb => (grow_cell g.x h b o (Nat.lt_of_lt_of_le hb g.size)).trans (grow_cell W g b o hb)
        refine wp_region_grow (by kernel_rfl) (by kernel_rfl) ?_
        repeat (go_big_quiet_step ((first | (go_at_call 19; exact Calls.grow_of hc g))))
        refine wpQuiet_nil ?_
        rintro _ ⟨gx, rfl⟩
        clear hgg
        obtain ⟨g1, hg1⟩ := g.next gx.h
        rw [hg1]
        clear hg1 gx
        go_wp2
        go_ret
        exact ⟨bool_ret Hf.out.symm, hBw.trans (g1.h.mono (by omega))⟩
      · have hc : ∀ h : Grow W, Calls Tryz.prog 19 #[.agg #[.int .i64 s.space, .int .i64 s.start, .int .i64 s.elo, .int .i64 s.ehi, rv, .slice da s.days.length dcap], .int .i64 k, .int .i64 (Sea.at0 l k)] h.x fun e w' => e = .returned (.bool true) ∧ Below h.x.heap.size h.x w' :=
         fun h => by have := refNom _ s k (Sea.at0 l k) h.x (hs2.mono h.h) (by omega) (by omega); rwa [Int.toNat_natCast, he] at this
        have hH' : Hid (∀ j, j < k + 1 → Sea.inB (Sea.at0 l j) (Sea.dayAt s.days j).nlo (Sea.dayAt s.days j).nhi = true) := upto_succ hH.out he
        clear he
        go_wp2
        have hgg : ∀ (h : Grow g.x) (b o : Nat), b < W.heap.size → h.x.cell? ⟨b, o, none⟩ = W.cell? ⟨b, o, none⟩ := fun h b o hb => (grow_cell g.x h b o (Nat.lt_of_lt_of_le hb g.size)).trans (grow_cell W g b o hb)
        refine wp_region_grow (by kernel_rfl) (by kernel_rfl) ?_
        repeat (go_big_quiet_step ((first | (go_at_call 19; exact Calls.grow_of hc g))))
        refine wpQuiet_nil ?_
        rintro _ ⟨gx, rfl⟩
        clear hgg
        obtain ⟨g1, hg1⟩ := g.next gx.h
        rw [hg1]
        clear hg1 gx
        go_wp2
        exact ⟨⟨k + 1, by omega, by go_num, hH', g1, rfl⟩, by simp [intOf]; omega⟩
    · have Hf : Hid (s.nomsB l = true) := by
       show _ = _
       unfold Sea.S.nomsB
       rw [all_range fun j hj => hH.out j (by omega), decide_eq_true Hl.out]
       rfl
      go_wp2
      go_ret
      exact ⟨bool_ret Hf.out.symm, hBw.trans (g.h.mono (by omega))⟩
 · have Hf : Hid (s.nomsB l = false) := by
    show _ = _
    unfold Sea.S.nomsB
    rw [decide_eq_false hlen]; rfl
   go_enter Tryz.func5, Tryz.ntmps5
   go_wp2
   go_ret
   exact ⟨bool_ret Hf.out.symm, (Below.refl _ _).alloc (Nat.le_refl _) _⟩
end Go.Proofs.YthjmdagonfeneaaGreat.S
set_option linter.unusedVariables false
set_option linter.unusedSimpArgs false
namespace Go.Proofs.YthjmdagonfeneaaGreat.S
open Go.RowKit Go.Sd
theorem least_bd {s : Sea.S} (ok : Sea.Ok s) {d : Nat} (hd : d < s.days.length) (fill nom : Int) (next : List Int) (c : Int) (hc : 0 ≤ c) (hc2 : c ≤ 100000000000)
    (hn : ∀ i, -c ≤ Sea.at0 next i) : ∀ k : Nat, (k : Int) ≤ (Sea.dayAt s.days d).take + (Sea.dayAt s.days d).offer + 1 →
    -(c + 100000000) ≤ (Sea.leastTo s d fill nom next k).1 ∧ (Sea.leastTo s d fill nom next k).1 ≤ Sea.never := by
 intro k
 have hb := ok.days d hd
 induction k with
 | zero => intro _; unfold Sea.leastTo Sea.never; omega
 | succ k ih =>
  intro hk
  have ih := ih (by omega)
  rw [Sea.leastTo]
  split
  · have h1 := cost_bd ok hd (x := (k : Int) - (Sea.dayAt s.days d).take) (by omega)
    have h2 := hn (fill + nom + ((k : Int) - (Sea.dayAt s.days d).take)).toNat
    rename_i h
    have := h.2.2
    show -(c + 100000000) ≤ s.cost _ _ + _ ∧ s.cost _ _ + _ ≤ Sea.never
    omega
  · exact ih
theorem at0_out {l : List Int} {i : Nat} (h : l.length ≤ i) : Sea.at0 l i = 0 := by
 unfold Sea.at0; simp [List.getElem?_eq_none h]
theorem at0_map {n : Nat} {f : Nat → Int} {i : Nat} (h : i < n) : Sea.at0 ((List.range n).map f) i = f i := by
 unfold Sea.at0; simp [h]
theorem vals_bd {s : Sea.S} (ok : Sea.Ok s) (noms : List Int) : ∀ j : Nat, j ≤ s.days.length → ∀ i, -(100000000 * (j : Int)) ≤ Sea.at0 (s.vals noms j) i ∧ Sea.at0 (s.vals noms j) i ≤ Sea.never := by
 intro j
 have hl := ok.ndays
 induction j with
 | zero =>
  intro _ i
  by_cases hi : i < (s.space + 1).toNat
  · rw [show s.vals noms 0 = s.last from rfl, last_at (by unfold Sea.S.last; simpa using hi)]
    unfold Sea.S.lastAt Sea.never; split <;> omega
  · rw [at0_out (by rw [Sea.S.vals_length]; omega)]; unfold Sea.never; omega
 | succ j ih =>
  intro hj i
  have ih := ih (by omega)
  by_cases hi : i < (s.space + 1).toNat
  · rw [Sea.S.vals, at0_map hi]
    have hd : s.days.length - 1 - j < s.days.length := by omega
    have hdk := ok.days _ hd
    have := least_bd ok hd (i : Int) (Sea.at0 noms (s.days.length - 1 - j)) (s.vals noms j) (100000000 * (j : Int)) (by omega) (by omega) (fun i => (ih i).1) _ (by rw [Int.toNat_of_nonneg]; exact Int.le_refl _; omega)
    unfold Sea.S.least
    exact ⟨by have := this.1; omega, this.2⟩
  · rw [at0_out (by rw [Sea.S.vals_length]; omega)]; unfold Sea.never; omega
theorem vals_next {s : Sea.S} (ok : Sea.Ok s) (noms : List Int) {j d f : Nat} (hd : d + 1 + j = s.days.length) (hf : (f : Int) ≤ s.space) :
    (s.vals noms (j + 1))[f]? = some (firstOf (withOf s d f (Sea.at0 noms d) (s.vals noms j)) (ordersOf s d f (Sea.at0 noms d))).1 := by
 have hsp := ok.space
 have e : s.days.length - 1 - j = d := by omega
 have h := (first_all s d f (Sea.at0 noms d) (s.vals noms j) (fun i => (vals_bd ok noms j (by omega) i).2)).1
 rw [Sea.S.vals, List.getElem?_map, List.getElem?_range (by omega), Option.map_some, e, h]
theorem noms_bd {s : Sea.S} (ok : Sea.Ok s) {noms : List Int} (h : s.nomsB noms = true) : noms.length = s.days.length ∧ ∀ k, k < s.days.length → -100 ≤ Sea.at0 noms k ∧ Sea.at0 noms k ≤ 100 := by
 unfold Sea.S.nomsB at h
 rw [Bool.and_eq_true, decide_eq_true_eq, List.all_eq_true] at h
 refine ⟨h.1, fun k hk => ?_⟩
 have h1 := Sea.inB_iff.1 (h.2 k (by rw [List.mem_range, h.1]; exact hk))
 have h2 := ok.days k hk
 omega
end Go.Proofs.YthjmdagonfeneaaGreat.S
namespace Go.Proofs.YthjmdagonfeneaaGreat.S
open Go.Sd
def planTo (s : Sea.S) (noms : List Int) : Nat → List Int × Int
 | 0 => ([], s.start)
 | t + 1 =>
  let x := (s.least t (planTo s noms t).2 (Sea.at0 noms t) (s.vals noms (s.days.length - 1 - t))).2
  ((planTo s noms t).1 ++ [x], (planTo s noms t).2 + Sea.at0 noms t + x)
def bestCost (s : Sea.S) (noms : List Int) : Int := Sea.at0 (s.vals noms s.days.length) s.start.toNat
def bestOf (s : Sea.S) (noms : List Int) : List Int × Int × Int :=
 if Sea.validB s = true ∧ s.nomsB noms = true then (if bestCost s noms = Sea.never then ([], 0, 5) else ((planTo s noms s.days.length).1, bestCost s noms, 0)) else ([], 0, 2)
theorem bestOf_no {s : Sea.S} {noms : List Int} (h : Sea.validB s = false ∨ s.nomsB noms = false) : bestOf s noms = ([], 0, 2) := if_neg (by rintro ⟨h1, h2⟩; rcases h with h | h <;> simp_all)
theorem bestOf_none {s : Sea.S} {noms : List Int} (h1 : Sea.validB s = true) (h2 : s.nomsB noms = true) (h : bestCost s noms = Sea.never) : bestOf s noms = ([], 0, 5) := by
 unfold bestOf; rw [if_pos ⟨h1, h2⟩, if_pos h]
theorem bestOf_yes {s : Sea.S} {noms : List Int} (h1 : Sea.validB s = true) (h2 : s.nomsB noms = true) (h : ¬ bestCost s noms = Sea.never) : bestOf s noms = ((planTo s noms s.days.length).1, bestCost s noms, 0) := by
 unfold bestOf; rw [if_pos ⟨h1, h2⟩, if_neg h]
theorem planTo_len (s : Sea.S) (noms : List Int) : ∀ t, (planTo s noms t).1.length = t
 | 0 => rfl
 | t + 1 => by simp [planTo, planTo_len s noms t]
theorem first_val (num : Int → Int) (xs : List Int) : ∀ u, (firstOf num xs).2 = some u → (firstOf num xs).1 = num u := by
 have : ∀ (xs : List Int) (b : Int × Option Int), (∀ u, b.2 = some u → b.1 = num u) → ∀ u, (xs.foldl (pick num) b).2 = some u → (xs.foldl (pick num) b).1 = num u := by
  intro xs
  induction xs with
  | nil => intro b hb u; exact hb u
  | cons x xs ih =>
   intro b hb
   refine ih _ fun u hu => ?_
   unfold pick at hu ⊢
   split at hu
   · rename_i h; rw [if_pos h]; simp at hu; subst hu; rfl
   · rename_i h; rw [if_neg h]; exact hb u hu
 exact this xs (Sea.never, none) (fun u h => by cases h)
theorem step_of {s : Sea.S} (ok : Sea.Ok s) (noms : List Int) {d j : Nat} {f : Int} (hd : d + 1 + j = s.days.length) (hf : 0 ≤ f ∧ f ≤ s.space) (h : Sea.at0 (s.vals noms (j + 1)) f.toNat < Sea.never) :
    ∃ u, u ∈ ordersOf s d f (Sea.at0 noms d) ∧ (firstOf (withOf s d f (Sea.at0 noms d) (s.vals noms j)) (ordersOf s d f (Sea.at0 noms d))).2 = some u ∧
     (s.least d f (Sea.at0 noms d) (s.vals noms j)).2 = u ∧ 0 ≤ f + Sea.at0 noms d + u ∧ f + Sea.at0 noms d + u ≤ s.space ∧ Sea.at0 (s.vals noms j) (f + Sea.at0 noms d + u).toNat < Sea.never ∧
     Sea.at0 (s.vals noms (j + 1)) f.toNat = s.cost d u + Sea.at0 (s.vals noms j) (f + Sea.at0 noms d + u).toNat := by
 obtain ⟨k, rfl⟩ := Int.eq_ofNat_of_zero_le hf.1
 rw [Int.toNat_natCast] at h ⊢
 have hv := vals_next ok noms hd (f := k) hf.2
 have hbd := fun i => vals_bd ok noms j (by omega) i
 obtain ⟨h1, h2⟩ := first_all s d k (Sea.at0 noms d) (s.vals noms j) (fun i => (hbd i).2)
 have hat : Sea.at0 (s.vals noms (j + 1)) k = (firstOf (withOf s d k (Sea.at0 noms d) (s.vals noms j)) (ordersOf s d k (Sea.at0 noms d))).1 := by
  unfold Sea.at0 at hv ⊢; rw [List.getD_eq_getElem?_getD, hv]; rfl
 rw [hat] at h ⊢
 rcases h2 with ⟨-, h3⟩ | ⟨u, h3, h4, h5⟩
 · rw [h3] at h; unfold Sea.never at h; omega
 · have ho := order_in ok (by omega) h4
   have hw := first_val (withOf s d k (Sea.at0 noms d) (s.vals noms j)) (ordersOf s d k (Sea.at0 noms d)) u h3
   have hne : Sea.at0 (s.vals noms j) ((k : Int) + Sea.at0 noms d + u).toNat ≠ Sea.never := by
    intro e
    rw [hw] at h
    unfold withOf at h
    rw [if_pos e] at h
    unfold Sea.never at h; omega
   refine ⟨u, h4, h3, ?_, ho.2.2.2.1, ho.2.2.2.2, ?_, ?_⟩
   · have := congrArg Prod.snd h1
     rw [this, h3]; rfl
   · have := (hbd ((k : Int) + Sea.at0 noms d + u).toNat).2
     omega
   · rw [hw]; unfold withOf; rw [if_neg hne]
end Go.Proofs.YthjmdagonfeneaaGreat.S
namespace Go.Proofs.YthjmdagonfeneaaGreat.S
open Go.Sd
def worstTo (s : Sea.S) (d : Nat) (f : Int) (next : List Int) : Nat → Int × Int
 | 0 => ((Sea.dayAt s.days d).nlo, -Sea.never)
 | k + 1 =>
  if (worstTo s d f next k).2 < (s.least d f ((Sea.dayAt s.days d).nlo + k) next).1 then ((Sea.dayAt s.days d).nlo + k, (s.least d f ((Sea.dayAt s.days d).nlo + k) next).1) else worstTo s d f next k
def worstOf (s : Sea.S) (d : Nat) (f : Int) (next : List Int) : Int × Int := worstTo s d f next ((Sea.dayAt s.days d).nhi - (Sea.dayAt s.days d).nlo + 1).toNat
def wrow (s : Sea.S) : Nat → List Int
 | 0 => s.last
 | j + 1 => (List.range (s.space + 1).toNat).map fun (f : Nat) => (worstOf s (s.days.length - 1 - j) f (wrow s j)).2
theorem wrow_length (s : Sea.S) (j : Nat) : (wrow s j).length = (s.space + 1).toNat := by cases j <;> simp [wrow, Sea.S.last]
theorem worstTo_bd {s : Sea.S} (ok : Sea.Ok s) {d : Nat} (hd : d < s.days.length) (f : Int) (next : List Int) (c : Int) (hc : 0 ≤ c) (hc2 : c ≤ 100000000000) (hn : ∀ i, -c ≤ Sea.at0 next i) :
    ∀ k : Nat, (0 < k → -(c + 100000000) ≤ (worstTo s d f next k).2) ∧ (worstTo s d f next k).2 ≤ Sea.never ∧ -Sea.never ≤ (worstTo s d f next k).2 := by
 intro k
 have hb := ok.days d hd
 induction k with
 | zero => exact ⟨fun h => by omega, by unfold worstTo Sea.never; simp, Int.le_refl _⟩
 | succ k ih =>
  have hl := least_bd ok hd f ((Sea.dayAt s.days d).nlo + k) next c hc hc2 hn ((Sea.dayAt s.days d).take + (Sea.dayAt s.days d).offer + 1).toNat (by rw [Int.toNat_of_nonneg]; exact Int.le_refl _; omega)
  have hle : s.least d f ((Sea.dayAt s.days d).nlo + k) next = Sea.leastTo s d f ((Sea.dayAt s.days d).nlo + k) next ((Sea.dayAt s.days d).take + (Sea.dayAt s.days d).offer + 1).toNat := rfl
  rw [← hle] at hl
  rw [worstTo]
  unfold Sea.never at *
  split
  · refine ⟨fun _ => hl.1, hl.2, ?_⟩
    show _ ≤ (s.least d f ((Sea.dayAt s.days d).nlo + k) next).1
    omega
  · rename_i h
    exact ⟨fun _ => by omega, ih.2⟩
theorem wrow_bd {s : Sea.S} (ok : Sea.Ok s) : ∀ j : Nat, j ≤ s.days.length → ∀ i, -(100000000 * (j : Int)) ≤ Sea.at0 (wrow s j) i ∧ Sea.at0 (wrow s j) i ≤ Sea.never := by
 intro j
 have hl := ok.ndays
 induction j with
 | zero =>
  intro _ i
  by_cases hi : i < (s.space + 1).toNat
  · rw [show wrow s 0 = s.last from rfl, last_at (by unfold Sea.S.last; simpa using hi)]
    unfold Sea.S.lastAt Sea.never; split <;> omega
  · rw [at0_out (by rw [wrow_length]; omega)]; unfold Sea.never; omega
 | succ j ih =>
  intro hj i
  have ih := ih (by omega)
  by_cases hi : i < (s.space + 1).toNat
  · rw [wrow, at0_map hi]
    have hd : s.days.length - 1 - j < s.days.length := by omega
    have hdk := ok.days _ hd
    have := worstTo_bd ok hd (i : Int) (wrow s j) (100000000 * (j : Int)) (by omega) (by omega) (fun i => (ih i).1) ((Sea.dayAt s.days (s.days.length - 1 - j)).nhi - (Sea.dayAt s.days (s.days.length - 1 - j)).nlo + 1).toNat
    unfold worstOf
    exact ⟨by have := this.1 (by omega); omega, this.2.1⟩
  · rw [at0_out (by rw [wrow_length]; omega)]; unfold Sea.never; omega
theorem wrow_next {s : Sea.S} (ok : Sea.Ok s) {j d f : Nat} (hd : d + 1 + j = s.days.length) (hf : (f : Int) ≤ s.space) : Sea.at0 (wrow s (j + 1)) f = (worstOf s d f (wrow s j)).2 := by
 have hsp := ok.space
 rw [wrow, at0_map (by omega), show s.days.length - 1 - j = d by omega]
theorem worst_stop {s : Sea.S} (ok : Sea.Ok s) {d : Nat} (hd : d < s.days.length) (f : Int) (next : List Int) (hn : ∀ i, Sea.at0 next i ≤ Sea.never) {k : Nat} (h : (worstTo s d f next k).2 = Sea.never) :
    ∀ n, worstTo s d f next (k + n) = worstTo s d f next k
 | 0 => rfl
 | n + 1 => by
  have h1 := worst_stop ok hd f next hn h n
  have h2 := (first_all s d f ((Sea.dayAt s.days d).nlo + (k + n : Nat)) next hn)
  have h3 : (s.least d f ((Sea.dayAt s.days d).nlo + (k + n : Nat)) next).1 ≤ Sea.never := by
   rw [h2.1]
   rcases h2.2 with ⟨-, h⟩ | ⟨u, -, -, h⟩
   · simp only [h]; exact Int.le_refl _
   · simp only []; omega
  rw [show k + (n + 1) = (k + n) + 1 by omega, worstTo, h1, h, if_neg (by omega)]
end Go.Proofs.YthjmdagonfeneaaGreat.S
