/- Walks: the reference's search for the least order; comparisons of lists. -/
import Derived.Test.YtacajmpggjgaiaaW1
import Derived.Lib.Hide
set_option linter.unusedVariables false
set_option linter.unusedSimpArgs false
namespace Go.Proofs.Ytacajmpggjgaiaa
open Go.RowKit Go.Sd

theorem int_cell {W : World} {v : Value} {xs : List Int} (h : IntsAt W v xs) (hn : 0 < xs.length) :
    ∃ b off cap, v = .slice (some ⟨b, off, none⟩) xs.length cap ∧ b < W.heap.size ∧ xs.length ≤ 9223372036854775807 ∧ ∀ k, k < xs.length → W.cell? ⟨b, off + k, none⟩ = some (.int .i64 (Sea.at0 xs k)) := by
  obtain ⟨a, cap, rfl, hm, hc⟩ := h
  obtain ⟨b, off, rfl, hlt, hk'⟩ := hc hn
  unfold maxLen at hm
  exact ⟨b, off, cap, rfl, hlt, by omega, hk'⟩

theorem rule_fine {s : Sea.S} {k : Nat} {fill nom x : Int} (h : s.rule k fill nom x = 1) (hg : 0 ≤ (Sea.dayAt s.days k).glo) (hg' : (Sea.dayAt s.days k).ghi ≤ s.space) : 0 ≤ fill + nom + x ∧ fill + nom + x ≤ s.space := by
  unfold Sea.S.rule at h
  by_cases h1 : (Sea.dayAt s.days k).offer < x; · rw [if_pos h1] at h; omega
  rw [if_neg h1] at h
  by_cases h2 : (Sea.dayAt s.days k).take < -x; · rw [if_pos h2] at h; omega
  rw [if_neg h2] at h
  by_cases h3 : (s.lim fill).inn < nom + x; · rw [if_pos h3] at h; omega
  rw [if_neg h3] at h
  by_cases h4 : (s.lim fill).out < -nom - x; · rw [if_pos h4] at h; omega
  rw [if_neg h4] at h
  by_cases h5 : Sea.inB (fill + nom + x) (Sea.dayAt s.days k).glo (Sea.dayAt s.days k).ghi = false; · rw [if_pos h5] at h; omega
  have := Sea.inB_iff.1 (by simpa using h5 : Sea.inB (fill + nom + x) (Sea.dayAt s.days k).glo (Sea.dayAt s.days k).ghi = true)
  omega

theorem least_skip {s : Sea.S} {d k : Nat} {fill nom : Int} {next : List Int}
    (h : ¬ (s.rule d fill nom (k - (Sea.dayAt s.days d).take) = 1 ∧ Sea.at0 next (fill + nom + (k - (Sea.dayAt s.days d).take)).toNat < Sea.never ∧
      s.cost d (k - (Sea.dayAt s.days d).take) + Sea.at0 next (fill + nom + (k - (Sea.dayAt s.days d).take)).toNat < (Sea.leastTo s d fill nom next k).1)) :
    Sea.leastTo s d fill nom next (k + 1) = Sea.leastTo s d fill nom next k := by
  rw [Sea.leastTo]; exact if_neg h
theorem least_take {s : Sea.S} {d k : Nat} {fill nom : Int} {next : List Int}
    (h : s.rule d fill nom (k - (Sea.dayAt s.days d).take) = 1 ∧ Sea.at0 next (fill + nom + (k - (Sea.dayAt s.days d).take)).toNat < Sea.never ∧
      s.cost d (k - (Sea.dayAt s.days d).take) + Sea.at0 next (fill + nom + (k - (Sea.dayAt s.days d).take)).toNat < (Sea.leastTo s d fill nom next k).1) :
    Sea.leastTo s d fill nom next (k + 1) = (s.cost d (k - (Sea.dayAt s.days d).take) + Sea.at0 next (fill + nom + (k - (Sea.dayAt s.days d).take)).toNat, k - (Sea.dayAt s.days d).take) := by
  rw [Sea.leastTo]; exact if_pos h

theorem cost_bd {s : Sea.S} (ok : Sea.Ok s) {d : Nat} (hd : d < s.days.length) {x : Int} (hx : -100 ≤ x ∧ x ≤ 100) : -100000000 ≤ s.cost d x ∧ s.cost d x ≤ 100000000 := by
  have hb := ok.days d hd
  unfold Sea.S.cost
  split
  · exact mul_bd hx ⟨by omega, by omega⟩
  · exact mul_bd hx ⟨by omega, by omega⟩

set_option maxHeartbeats 1000000 in
theorem refLeast (sv nv : Value) (s : Sea.S) (next : List Int) (day fill nom : Int) (w : World) (hs : SeasonAt w sv s) (ok : Sea.Ok s) (hd0 : 0 ≤ day) (hd1 : day < s.days.length)
    (hf : 0 ≤ fill ∧ fill ≤ s.space) (hn : -100 ≤ nom ∧ nom ≤ 100) (hx : IntsAt w nv next) (hl : (next.length : Int) = s.space + 1)
    (hb : ∀ k, k < next.length → -1000000000000000 ≤ Sea.at0 next k ∧ Sea.at0 next k ≤ 1000000000000000) :
    Calls Try.prog 62 #[sv, .int .i64 day, .int .i64 fill, .int .i64 nom, nv] w fun e w' =>
      e = .returned (.tuple #[.int .i64 (s.least day.toNat fill nom next).1, .int .i64 (s.least day.toNat fill nom next).2]) ∧ Below w.heap.size w w' := by
  obtain ⟨d, rfl⟩ := Int.eq_ofNat_of_zero_le hd0
  rw [Int.toNat_natCast]
  have hs' := hs
  obtain ⟨rv, dv, rfl, -, hd⟩ := hs'
  have hsp := ok.space
  obtain ⟨b, off, cap, rfl, hlt, hm, c0, c1, c2, c3, c4, c5, c6, c7⟩ := day_cells hd (k := d) (by omega)
  obtain ⟨xb, xo, xc, rfl, hxl, hxm, hxk⟩ := int_cell hx (by omega)
  clear hd
  have hdk := ok.days d (by omega)
  have hd1' : (d : Int) < (s.days.length : Int) := by omega
  go_enter Try.func62, Try.ntmps62
  go_wp2
  generalize hW : w.alloc (sBox s rv (.slice (some ⟨b, off, none⟩) s.days.length cap)) = W
  obtain ⟨hsz, hBw, q0, q1, q2, q3, q4, q5⟩ := box_season hW
  clear hW
  have hs2 := hs.mono hBw
  have hlt2 : b < W.heap.size := by omega
  have hxl2 : xb < W.heap.size := by omega
  obtain ⟨c0, c1, c2, c3, c4, c5, c6, c7⟩ := DayCells.mono ⟨c0, c1, c2, c3, c4, c5, c6, c7⟩ hBw
  have hxk2 : ∀ k, k < next.length → W.cell? ⟨xb, xo + k, none⟩ = some (.int .i64 (Sea.at0 next k)) := fun k hk => kept_cell hBw (hxk k hk)
  have hg := grow_cell W
  clear hxk hx
  go_loopw [12, 13, 14] (fun p q i wr => ∃ k : Nat, k ≤ ((Sea.dayAt s.days d).take + (Sea.dayAt s.days d).offer + 1).toNat ∧ i = .int .i64 (k - (Sea.dayAt s.days d).take) ∧
      p = .int .i64 (Sea.leastTo s d fill nom next k).1 ∧ q = .int .i64 (Sea.leastTo s d fill nom next k).2 ∧ ∃ g : Grow W, wr = g.x)
    (fun _ _ i _ => ((Sea.dayAt s.days d).offer + 1 - intOf i).toNat)
  case atStart => exact ⟨0, by omega, by simp, rfl, rfl, Grow.self W, rfl⟩
  case round =>
    obtain ⟨k, hk, rfl, rfl, rfl, g, rfl⟩ := hrel
    by_cases hlast : (k : Int) - (Sea.dayAt s.days d).take ≤ (Sea.dayAt s.days d).offer
    · by_cases hr : s.rule d fill nom (k - (Sea.dayAt s.days d).take) = 1
      · have hin := rule_fine hr (by omega) (by omega)
        obtain ⟨x, hxe⟩ : ∃ x : Int, (k : Int) - (Sea.dayAt s.days d).take = x := ⟨_, rfl⟩
        rw [hxe] at hr hlast hin
        have hx1 : -100 ≤ x ∧ x ≤ 100 := by omega
        obtain ⟨j, hj⟩ := Int.eq_ofNat_of_zero_le hin.1
        have hjn : j < next.length := by omega
        have hcell := hxk2 j hjn
        have hbj := hb j hjn
        have hcb := cost_bd ok (d := d) (by omega) hx1
        have hin' : (0 : Int) ≤ fill + nom + x ∧ fill + nom + x < next.length := by omega
        have hjt : (fill + nom + x).toNat = j := by omega
        have Hj := Lib.hid hj
        have Hx := Lib.hid hxe
        clear hj
        rw [hxe]
        clear hxe
        by_cases hv : Sea.at0 next j < Sea.never
        · have hv' : Sea.at0 next j < 1000000000000000 := hv
          go_wp2_with (go_at_call 78; refine Calls.mono (refBreaks _ s _ _ _ _ _ (hs2.mono g.h) ok (by omega) (by omega) (by omega) (by omega) (by omega)) ?_; rintro e w' ⟨rfl, hb'⟩; obtain ⟨g1, rfl⟩ := g.next hb')
          have hgg : ∀ (h : Grow g1.x) (b o : Nat), b < W.heap.size → h.x.cell? ⟨b, o, none⟩ = W.cell? ⟨b, o, none⟩ := fun h b o hb => (grow_cell g1.x h b o (Nat.lt_of_lt_of_le hb g1.size)).trans (grow_cell W g1 b o hb)
          refine wp_region_grow (by kernel_rfl) (by kernel_rfl) ?_
          repeat (go_big_quiet_step ((first | (go_at_call 49; exact Calls.grow (refCost _ s _ _ _ (hs2.mono (g1.h.trans (Below.mono (Grow.h _) g1.size))) ok (by omega) (by omega) hx1)))))
          refine wpQuiet_nil ?_
          rintro _ ⟨gx, rfl⟩
          clear hgg
          obtain ⟨g2, hg2⟩ := g1.next gx.h
          rw [hg2]
          clear hg2 gx
          go_wp2
          · have e : Hid (Sea.leastTo s d fill nom next (k + 1) = (s.cost d x + Sea.at0 next j, x)) := by
              show _ = _
              rw [least_take (by rw [Hx.out, hjt]; exact ⟨hr, hv, by assumption⟩), Hx.out, hjt]
            exact ⟨⟨k + 1, by have := Hx.out; omega, int_val (by have := Hx.out; omega), by rw [e.out], by rw [e.out], g2, rfl⟩, by simp [intOf]; omega⟩
          · have e : Hid (Sea.leastTo s d fill nom next (k + 1) = Sea.leastTo s d fill nom next k) := least_skip fun h => by
              rw [Hx.out, hjt] at h
              have := h.2.2
              omega
            exact ⟨⟨k + 1, by have := Hx.out; omega, int_val (by have := Hx.out; omega), by rw [e.out], by rw [e.out], g2, rfl⟩, by simp [intOf]; omega⟩
        · have hv' : 1000000000000000 ≤ Sea.at0 next j := by unfold Sea.never at hv; omega
          go_wp2_with (go_at_call 78; refine Calls.mono (refBreaks _ s _ _ _ _ _ (hs2.mono g.h) ok (by omega) (by omega) (by omega) (by omega) (by omega)) ?_; rintro e w' ⟨rfl, hb'⟩; obtain ⟨g1, rfl⟩ := g.next hb')
          have e : Hid (Sea.leastTo s d fill nom next (k + 1) = Sea.leastTo s d fill nom next k) := least_skip fun h => by rw [Hx.out, hjt] at h; have := h.2.1; omega
          exact ⟨⟨k + 1, by have := Hx.out; omega, int_val (by have := Hx.out; omega), by rw [e.out], by rw [e.out], g1, rfl⟩, by simp [intOf]; omega⟩
      · have e : Hid (Sea.leastTo s d fill nom next (k + 1) = Sea.leastTo s d fill nom next k) := least_skip fun h => hr h.1
        go_wp2_with (go_at_call 78; refine Calls.mono (refBreaks _ s _ _ _ _ _ (hs2.mono g.h) ok (by omega) (by omega) (by omega) (by omega) (by omega)) ?_; rintro e w' ⟨rfl, hb'⟩; obtain ⟨g1, rfl⟩ := g.next hb')
        exact ⟨⟨k + 1, by omega, by go_num, by rw [e.out], by rw [e.out], g1, rfl⟩, by simp [intOf]; omega⟩
    · obtain rfl : k = ((Sea.dayAt s.days d).take + (Sea.dayAt s.days d).offer + 1).toNat := by omega
      go_wp2
      go_ret2
      exact ⟨rfl, hBw.trans (g.h.mono (by omega))⟩
end Go.Proofs.Ytacajmpggjgaiaa
