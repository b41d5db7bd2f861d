/- Walks of the reference: the worst nomination of a day. -/
import Derived.Test.YtacajmpggjgaiaaTab2
import Derived.Test.YtacajmpggjgaiaaW5
set_option linter.unusedVariables false
set_option linter.unusedSimpArgs false
namespace Go.Proofs.Ytacajmpggjgaiaa
open Go.RowKit Go.Sd

set_option maxHeartbeats 2000000 in
theorem refWorst1 (sv nv : Value) (s : Sea.S) (next : List Int) (day fill : Int) (w : World) (hs : SeasonAt w sv s) (ok : Sea.Ok s) (hd0 : 0 ≤ day) (hd1 : day < s.days.length)
    (hf : 0 ≤ fill ∧ fill ≤ s.space) (hx : IntsAt w nv next) (hl : (next.length : Int) = s.space + 1)
    (hb : ∀ k, k < next.length → -1000000000000000 ≤ Sea.at0 next k ∧ Sea.at0 next k ≤ 1000000000000000) :
    Calls Try.prog 70 #[sv, .int .i64 day, .int .i64 fill, nv] w fun e w' =>
      e = .returned (.tuple #[.int .i64 (worstOf s day.toNat fill next).1, .int .i64 (worstOf s day.toNat fill next).2]) ∧ Below w.heap.size w w' := by
  obtain ⟨d, rfl⟩ := Int.eq_ofNat_of_zero_le hd0
  rw [Int.toNat_natCast]
  have hs' := hs
  obtain ⟨rv, dv, rfl, -, hd⟩ := hs'
  have hsp := ok.space
  obtain ⟨b, off, cap, rfl, hlt, hm, c0, c1, c2, c3, c4, c5, c6, c7⟩ := day_cells hd (k := d) (by omega)
  clear hd
  have hdk := ok.days d (by omega)
  have hd1' : (d : Int) < (s.days.length : Int) := by omega
  have hd2 : (0 : Int) ≤ (d : Int) ∧ (d : Int) < (s.days.length : Int) := by omega
  obtain ⟨lf, hlf⟩ : ∃ lf : Nat → Int × Int, ∀ k : Nat, s.least d fill ((Sea.dayAt s.days d).nlo + k) next = lf k := ⟨_, fun _ => rfl⟩
  have hwt : Hid (∀ k, worstTo s d fill next (k + 1) = if (worstTo s d fill next k).2 < (lf k).1 then ((Sea.dayAt s.days d).nlo + k, (lf k).1) else worstTo s d fill next k) := fun k => by
    rw [← hlf]; rfl
  have hw0 : Hid (worstTo s d fill next 0 = ((Sea.dayAt s.days d).nlo, -1000000000000000)) := rfl
  have hwo : Hid (worstOf s d fill next = worstTo s d fill next ((Sea.dayAt s.days d).nhi - (Sea.dayAt s.days d).nlo + 1).toNat) := rfl
  obtain ⟨wo, hwo1⟩ : ∃ x, worstOf s d fill next = x := ⟨_, rfl⟩
  rw [hwo1] at hwo ⊢
  clear hwo1
  obtain ⟨wt, hwt1⟩ : ∃ wt : Nat → Int × Int, ∀ k, worstTo s d fill next k = wt k := ⟨_, fun _ => rfl⟩
  replace hwt : Hid (∀ k, wt (k + 1) = if (wt k).2 < (lf k).1 then ((Sea.dayAt s.days d).nlo + k, (lf k).1) else wt k) := fun k => by rw [← hwt1, ← hwt1]; exact hwt.out k
  replace hw0 : Hid (wt 0 = ((Sea.dayAt s.days d).nlo, -1000000000000000)) := (hwt1 0).symm.trans hw0.out
  replace hwo : Hid (wo = wt ((Sea.dayAt s.days d).nhi - (Sea.dayAt s.days d).nlo + 1).toNat) := by show _ = _; rw [← hwt1]; exact hwo.out
  go_enter Try.func70, Try.ntmps70
  go_wp2
  generalize hW : w.alloc (sBox s rv (.slice (some ⟨b, off, none⟩) s.days.length cap)) = W
  obtain ⟨hsz, hBw, q0, q1, q2, q3, q4, q5⟩ := box_season hW
  clear hW
  have hlt2 : b < W.heap.size := by omega
  have hL : Hid (∀ (k : Nat) (g : Grow W), (Sea.dayAt s.days d).nlo + k ≤ (Sea.dayAt s.days d).nhi → Calls Try.prog 62 #[_, .int .i64 d, .int .i64 fill, .int .i64 ((Sea.dayAt s.days d).nlo + k), nv] g.x fun e w' =>
      e = .returned (.tuple #[.int .i64 (lf k).1, .int .i64 (lf k).2]) ∧ Below g.x.heap.size g.x w') := fun k g hk => by
    have h := refLeast _ nv s next d fill ((Sea.dayAt s.days d).nlo + k) g.x ((hs.mono hBw).mono g.h) ok hd0 hd1 hf (by omega) ((hx.mono hBw).mono g.h) hl hb
    rw [Int.toNat_natCast, hlf] at h
    exact h
  obtain ⟨c0, c1, c2, c3, c4, c5, c6, c7⟩ := DayCells.mono ⟨c0, c1, c2, c3, c4, c5, c6, c7⟩ hBw
  have hg := grow_cell W
  clear hx hlf hwt1 hs hb hl hd0 hd1
  go_loopw [10, 11, 12] (fun p q i wr => ∃ k : Nat, k ≤ ((Sea.dayAt s.days d).nhi - (Sea.dayAt s.days d).nlo + 1).toNat ∧ i = .int .i64 ((Sea.dayAt s.days d).nlo + k) ∧
      p = .int .i64 (wt k).1 ∧ q = .int .i64 (wt k).2 ∧ ∃ g : Grow W, wr = g.x)
    (fun _ _ i _ => ((Sea.dayAt s.days d).nhi + 1 - intOf i).toNat)
  case atStart => exact ⟨0, by omega, by simp, by rw [hw0.out], by rw [hw0.out], Grow.self W, rfl⟩
  case round =>
    obtain ⟨k, hk, rfl, rfl, rfl, g, rfl⟩ := hrel
    by_cases hlast : (Sea.dayAt s.days d).nlo + k ≤ (Sea.dayAt s.days d).nhi
    · by_cases hgt : (wt k).2 < (lf k).1
      · have e : Hid (wt (k + 1) = ((Sea.dayAt s.days d).nlo + k, (lf k).1)) := by show _ = _; rw [hwt.out, if_pos hgt]
        go_wp2_with (go_at_call 62; refine Calls.mono (hL.out k g hlast) ?_; rintro e w' ⟨rfl, hb'⟩; obtain ⟨g1, rfl⟩ := g.next hb')
        exact ⟨⟨k + 1, by omega, by go_num, by rw [e.out], by rw [e.out], g1, rfl⟩, by simp [intOf]; omega⟩
      · have e : Hid (wt (k + 1) = wt k) := by show _ = _; rw [hwt.out, if_neg hgt]
        go_wp2_with (go_at_call 62; refine Calls.mono (hL.out k g hlast) ?_; rintro e w' ⟨rfl, hb'⟩; obtain ⟨g1, rfl⟩ := g.next hb')
        exact ⟨⟨k + 1, by omega, by go_num, by rw [e.out], by rw [e.out], g1, rfl⟩, by simp [intOf]; omega⟩
    · have hke := Lib.hid (show ((Sea.dayAt s.days d).nhi - (Sea.dayAt s.days d).nlo + 1).toNat = k by omega)
      go_wp2
      go_ret2
      exact ⟨by rw [hwo.out, hke.out]; rfl, hBw.trans (g.h.mono (by omega))⟩
end Go.Proofs.Ytacajmpggjgaiaa
