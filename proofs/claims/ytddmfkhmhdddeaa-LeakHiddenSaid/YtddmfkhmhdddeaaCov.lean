/- Walks: whether some readings can be ignored so that no clash is left (the program). -/
import Derived.Test.YtddmfkhmhdddeaaBit
set_option linter.unusedVariables false
set_option linter.unusedSimpArgs false
namespace Lk
def natAt (l : List Nat) (k : Nat) : Nat := l.getD k 0
/-- Whether a reading is left that clashes with others that are left. -/
def openB (l : List Nat) (ig i : Nat) : Bool := !ig.testBit i && !decide (ndiff (natAt l i) ig = 0)
def manyTo (rest k : Nat) : Nat := (List.range k).countP rest.testBit
/-- What covers computes, with so much fuel. -/
def covF (l : List Nat) : Nat → Nat → Nat → Nat → Bool
  | 0, _, _, _ => true
  | f + 1, ig, kp, more => match (List.range l.length).find? (openB l ig) with
    | none => true
    | some i => if more = 0 then false else
      if (!kp.testBit i && covF l f (ig ||| 2 ^ i) kp (more - 1)) = true then true else
        decide (ndiff (natAt l i) ig &&& kp = 0) && decide (manyTo (ndiff (natAt l i) ig) l.length ≤ more) && covF l f (ig ||| ndiff (natAt l i) ig) (kp ||| 2 ^ i) (more - manyTo (ndiff (natAt l i) ig) l.length)
theorem covF_none {l : List Nat} {f ig kp more : Nat} (h : (List.range l.length).find? (openB l ig) = none) : covF l (f + 1) ig kp more = true := by simp only [covF, h]
theorem covF_some {l : List Nat} {f ig kp more i : Nat} (h : (List.range l.length).find? (openB l ig) = some i) : covF l (f + 1) ig kp more = if more = 0 then false else
      if (!kp.testBit i && covF l f (ig ||| 2 ^ i) kp (more - 1)) = true then true else
        decide (ndiff (natAt l i) ig &&& kp = 0) && decide (manyTo (ndiff (natAt l i) ig) l.length ≤ more) && covF l f (ig ||| ndiff (natAt l i) ig) (kp ||| 2 ^ i) (more - manyTo (ndiff (natAt l i) ig) l.length) := by simp only [covF, h]
theorem manyTo_succ (r k : Nat) : manyTo r (k + 1) = manyTo r k + if r.testBit k then 1 else 0 := by
  simp [manyTo, List.range_succ, List.countP_append, List.countP_cons]
theorem manyTo_le (r k : Nat) : manyTo r k ≤ k := by
  have := List.countP_le_length (p := r.testBit) (l := List.range k)
  simpa [manyTo] using this
theorem many_pos {r n : Nat} (h : r ≠ 0) (hr : r < 2 ^ n) : 0 < manyTo r n := by
  obtain ⟨k, hk⟩ := ne_zero_bit h
  exact List.countP_pos_iff.2 ⟨k, List.mem_range.2 (bit_lt hr hk), hk⟩
theorem find_open {l : List Nat} {ig i : Nat} (hi : i < l.length) (h : openB l ig i = true) (hb : ∀ j, j < i → openB l ig j = false) : (List.range l.length).find? (openB l ig) = some i := by
  rw [List.find?_range_eq_some]
  exact ⟨h, by simpa using hi, fun j hj => by simp [hb j hj]⟩
theorem find_none {l : List Nat} {ig : Nat} (hb : ∀ j, j < l.length → openB l ig j = false) : (List.range l.length).find? (openB l ig) = none := by
  rw [List.find?_eq_none]
  intro u hu
  simp [hb u (by simpa using hu)]
end Lk
namespace Go.Proofs.Ytddmfkhmhdddeaa
open Go.RowKit Go.Sd Lk

abbrev natsAt (w : World) (v : Value) (l : List Nat) : Prop := IntsAt w v (l.map fun n : Nat => (n : Int))
theorem at0_map (l : List Nat) (k : Nat) : at0 (l.map fun n : Nat => (n : Int)) k = natAt l k := by
  unfold at0 natAt
  by_cases h : k < l.length <;> simp [h]

set_option maxRecDepth 100000 in
set_option maxHeartbeats 8000000 in
theorem progCovers (v : Value) (l : List Nat) (w : World) (hl : natsAt w v l) (hm : l.length ≤ 40) (hb : ∀ k, k < l.length → natAt l k < 2 ^ l.length) : ∀ (f more ig kp : Nat), more < f → more ≤ 1000 → ig < 2 ^ l.length → kp < 2 ^ l.length →
    Calls Try.prog 59 #[v, .int .i64 ig, .int .i64 kp, .int .i64 more] w fun e w' => e = .returned (.bool (covF l f ig kp more)) ∧ w = w' := by
  intro f
  induction f with
  | zero => intro more ig kp h; omega
  | succ f ih =>
    intro more ig kp hf hmo hig hkp
    obtain ⟨a, cap, hv, hlm, hx⟩ := hl.form
    rw [List.length_map] at hv hx hlm
    subst hv
    have hx2 := Lib.hid hx
    have hb2 := Lib.hid hb
    have ihh := Lib.hid ih
    have hp62 : 2 ^ l.length ≤ 2 ^ 40 := Nat.pow_le_pow_right (by omega) hm
    have hi62 : ig < 2 ^ 62 := by omega
    have hk62 : kp < 2 ^ 62 := by omega
    have hcn := Lib.hid (covF_none (l := l) (f := f) (ig := ig) (kp := kp) (more := more))
    have hcs := Lib.hid (fun i => covF_some (l := l) (f := f) (ig := ig) (kp := kp) (more := more) (i := i))
    have hig' := Lib.hid hig
    have hkp' := Lib.hid hkp
    clear hx hl hb ih hig hkp hp62 hi62 hk62
    go_enter Try.func59, Try.ntmps59
    go_wp2
    go_step3
    go_wp2
    go_step3
    go_wp2
    go_loopw [16] (fun i wr => ∃ k : Nat, k ≤ l.length ∧ i = .int .i64 k ∧ wr = w ∧ Hid (∀ j, j < k → openB l ig j = false)) (fun i _ => l.length - (intOf i).toNat)
    case atStart => exact ⟨0, by omega, rfl, rfl, fun j h => absurd h (by omega)⟩
    case round =>
      obtain ⟨k, hk, rfl, rfl, hbef⟩ := hrel
      by_cases hkl : k < l.length
      · have hki : (k : Int) < (l.length : Int) := by omega
        obtain ⟨lb, off, rfl, hlb, hx⟩ := hx2.out (by omega)
        have x0 := hx k 0 _ hkl rfl
        rw [Nat.mul_one, Nat.add_zero, show (l.map fun n : Nat => (n : Int)).getD k 0 = natAt l k from at0_map l k] at x0
        clear hx
        have ho := hb2.out k hkl
        have hcf := Lib.hid (hcs.out k)
        have hopen : Hid (openB l ig k = (!ig.testBit k && !decide (ndiff (natAt l k) ig = 0))) := rfl
        have hfind := Lib.hid (find_open (l := l) (ig := ig) hkl)
        have hp62 : 2 ^ l.length ≤ 2 ^ 40 := Nat.pow_le_pow_right (by omega) hm
        have hI := hig'.out
        have hK := hkp'.out
        generalize natAt l k = o at *
        have q1 := i64_bit ig k (by omega)
        have q2 := i64_andNot o ig (by omega) (by omega)
        have hbx := Lib.hid (fun (h : openB l ig k = false) => show ∀ j, j < k + 1 → openB l ig j = false from fun j hj => by
          rcases Nat.lt_succ_iff_lt_or_eq.1 hj with h' | rfl
          · exact hbef.out j h'
          · exact h)
        have hsh : (0 : Int) ≤ (k : Int) ∧ (k : Int) < 64 := by omega
        have hoh := Lib.hid ho
        clear hp62 hI hK ho
        cases hb1 : ig.testBit k
        · rw [hb1] at q1 hopen
          simp only [Bool.false_eq_true, if_false] at q1
          by_cases hd : ndiff o ig = 0
          · have hnx := Lib.hid (hbx.out (by rw [hopen.out]; simp [hd]))
            rw [hd] at q2
            have q2' : bits .andNot .i64 (o : Int) (ig : Int) = 0 := q2
            clear hfind hopen hb1 hd hbx q2
            go_wp2
            exact ⟨⟨k + 1, by omega, by go_num, (by first | rfl | trivial), hnx.out⟩, by simp [intOf]; omega⟩
          · have hfi := Lib.hid (hfind.out (by rw [hopen.out]; simp [hd]) hbef.out)
            have hdi : ((ndiff o ig : Nat) : Int) ≠ 0 := by omega
            have hdb : (((ndiff o ig : Nat) : Int) == 0) = false := by simpa using hd
            replace hcf := Lib.hid (hcf.out hfi.out)
            clear hfind hopen hb1 hbx
            by_cases hm0 : more = 0
            · have hcr : Hid (covF l (f + 1) ig kp more = false) := Lib.hid (by rw [hcf.out]; simp [hm0])
              subst hm0
              clear hcf
              go_wp2
              try rw [Exit.noGoto_ret]
              go_ret
              exact ⟨bool_ret hcr.out.symm, rfl⟩
            · have hmi : ((more : Int) == 0) = false := by simp; omega
              have h40 : 2 ^ l.length ≤ 2 ^ 40 := Nat.pow_le_pow_right (by omega) hm
              have hI2 := hig'.out
              have hK2 := hkp'.out
              have q3 := i64_bit kp k (by omega)
              have q4 := i64_orp ig k (by omega) (by omega)
              clear h40 hI2 hK2
              cases hb2 : kp.testBit k
              · rw [hb2] at q3
                simp only [Bool.false_eq_true, if_false] at q3
                have hc1 := Lib.hid (ihh.out (more - 1) (ig ||| 2 ^ k) kp (by omega) (by omega) (or_lt hig'.out (pow_lt' hkl)) hkp'.out)
                rw [show (((more - 1 : Nat)) : Int) = (more : Int) - 1 by omega] at hc1
                cases ht1 : covF l f (ig ||| 2 ^ k) kp (more - 1)
                · rw [ht1] at hc1
                  have hfst : (!kp.testBit k && covF l f (ig ||| 2 ^ k) kp (more - 1)) = false := by rw [ht1]; simp
                  replace hfst := Lib.hid hfst
                  clear hb2 ht1
                  go_wp2_with (go_at_call 59; (with_reducible refine Calls.mono hc1.out ?_); rintro e w2 ⟨rfl, rfl⟩)
                  have hrb : Hid (ndiff o ig < 2 ^ l.length) := Lib.hid (ndiff_lt hoh.out)
                  have hm0' : Hid (manyTo (ndiff o ig) 0 = 0) := rfl
                  have hpos := Lib.hid (many_pos hd hrb.out)
                  generalize hrest : ndiff o ig = rest at *
                  replace hrest := Lib.hid hrest
                  go_loopw [12, 55] (fun c i w2 => ∃ j : Nat, j ≤ l.length ∧ c = .int .i64 (manyTo rest j) ∧ i = .int .i64 j ∧ w2 = wr) (fun _ i _ => l.length - (intOf i).toNat)
                  case atStart => exact ⟨0, by omega, by rw [hm0'.out]; rfl, rfl, rfl⟩
                  case round =>
                    obtain ⟨j, hj, rfl, rfl, rfl⟩ := hrel
                    by_cases hjl : j < l.length
                    · have hji : (j : Int) < (l.length : Int) := by omega
                      have q5 := i64_bit rest j (by have := hrb.out; have : 2 ^ l.length ≤ 2 ^ 40 := Nat.pow_le_pow_right (by omega) hm; omega)
                      have hms := Lib.hid (manyTo_succ rest j)
                      have hmb := manyTo_le rest j
                      cases hb3 : rest.testBit j
                      · rw [hb3] at q5 hms
                        simp only [Bool.false_eq_true, if_false] at q5
                        clear hb3
                        go_wp2
                        exact ⟨⟨j + 1, by omega, by rw [hms.out]; simp, by go_num, (by first | rfl | trivial)⟩, by simp [intOf]; omega⟩
                      · rw [hb3] at q5 hms
                        simp only [if_true] at q5
                        clear hb3
                        go_wp2
                        exact ⟨⟨j + 1, by omega, by rw [hms.out]; simp, by go_num, (by first | rfl | trivial)⟩, by simp [intOf]; omega⟩
                    · obtain rfl : j = l.length := by omega
                      have hmb := manyTo_le rest l.length
                      have hb62 : rest < 2 ^ 62 ∧ ig < 2 ^ 62 ∧ kp < 2 ^ 62 := by
                        have h1 := hrb.out; have h2 := hig'.out; have h3 := hkp'.out
                        have : 2 ^ l.length ≤ 2 ^ 40 := Nat.pow_le_pow_right (by omega) hm
                        omega
                      have q6 := i64_and rest kp hb62.1 hb62.2.2
                      have q7 := i64_or ig rest hb62.2.1 hb62.1
                      have q8 := i64_orp kp k hb62.2.2 (by omega)
                      have hpos' := hpos.out
                      have hc2 := Lib.hid (fun (h : manyTo rest l.length ≤ more) => ihh.out (more - manyTo rest l.length) (ig ||| rest) (kp ||| 2 ^ k) (by omega) (by omega) (or_lt hig'.out hrb.out) (or_lt hkp'.out (pow_lt' hkl)))
                      generalize manyTo rest l.length = many at *
                      clear hpos'
                      by_cases hz : rest &&& kp = 0
                      · rw [hz] at q6
                        have q6' : bits .and .i64 (rest : Int) (kp : Int) = 0 := q6
                        by_cases hle : many ≤ more
                        · have hlei : (many : Int) ≤ (more : Int) := by omega
                          replace hc2 := Lib.hid (hc2.out hle)
                          have hsub : (((more - many : Nat)) : Int) = (more : Int) - many := by omega
                          have hcr : Hid (covF l (f + 1) ig kp more = covF l f (ig ||| rest) (kp ||| 2 ^ k) (more - many)) := Lib.hid (by rw [hcf.out, if_neg hm0, if_neg (by rw [hfst.out]; simp)]; simp [hz, hle])
                          rw [hsub] at hc2
                          clear hcf q6 hz hle hm0 hmi hsub
                          go_wp2_with (go_at_call 59; (with_reducible refine Calls.mono hc2.out ?_); rintro e w2 ⟨rfl, rfl⟩)
                          try rw [Exit.noGoto_ret]
                          go_ret
                          exact ⟨bool_ret hcr.out.symm, rfl⟩
                        · have hlei : decide ((many : Int) ≤ (more : Int)) = false := by simp; omega
                          have hlen' : decide (many ≤ more) = false := by simp; omega
                          have hlt' : decide (more < many) = true := by simp; omega
                          have hltn : more < many := by omega
                          have hcr : Hid (covF l (f + 1) ig kp more = false) := Lib.hid (by rw [hcf.out, if_neg hm0, if_neg (by rw [hfst.out]; simp)]; simp [hz, hle])
                          clear hcf q6 hz hle hm0 hmi hc2
                          go_wp2
                          try rw [Exit.noGoto_ret]
                          go_ret
                          exact ⟨bool_ret hcr.out.symm, rfl⟩
                      · have q6' : (bits .and .i64 (rest : Int) (kp : Int) == 0) = false := by rw [q6]; simp; omega
                        have hcr : Hid (covF l (f + 1) ig kp more = false) := Lib.hid (by rw [hcf.out, if_neg hm0, if_neg (by rw [hfst.out]; simp)]; simp [hz])
                        clear hcf q6 hz hm0 hmi hc2
                        go_wp2
                        try rw [Exit.noGoto_ret]
                        go_ret
                        exact ⟨bool_ret hcr.out.symm, rfl⟩
                · rw [ht1] at hc1
                  have hcr : Hid (covF l (f + 1) ig kp more = true) := Lib.hid (by rw [hcf.out, if_neg hm0, if_pos (by rw [hb2, ht1]; rfl)])
                  clear hcf hb2 ht1
                  go_wp2_with (go_at_call 59; (with_reducible refine Calls.mono hc1.out ?_); rintro e w2 ⟨rfl, rfl⟩)
                  try rw [Exit.noGoto_ret]
                  go_ret
                  exact ⟨bool_ret hcr.out.symm, rfl⟩
              · rw [hb2] at q3
                simp only [if_true] at q3
                have hfst : (!kp.testBit k && covF l f (ig ||| 2 ^ k) kp (more - 1)) = false := by rw [hb2]; simp
                replace hfst := Lib.hid hfst
                clear hb2
                go_wp2
                have hrb : Hid (ndiff o ig < 2 ^ l.length) := Lib.hid (ndiff_lt hoh.out)
                have hm0' : Hid (manyTo (ndiff o ig) 0 = 0) := rfl
                have hpos := Lib.hid (many_pos hd hrb.out)
                generalize hrest : ndiff o ig = rest at *
                replace hrest := Lib.hid hrest
                go_loopw [12, 55] (fun c i w2 => ∃ j : Nat, j ≤ l.length ∧ c = .int .i64 (manyTo rest j) ∧ i = .int .i64 j ∧ w2 = wr) (fun _ i _ => l.length - (intOf i).toNat)
                case atStart => exact ⟨0, by omega, by rw [hm0'.out]; rfl, rfl, rfl⟩
                case round =>
                  obtain ⟨j, hj, rfl, rfl, rfl⟩ := hrel
                  by_cases hjl : j < l.length
                  · have hji : (j : Int) < (l.length : Int) := by omega
                    have q5 := i64_bit rest j (by have := hrb.out; have : 2 ^ l.length ≤ 2 ^ 40 := Nat.pow_le_pow_right (by omega) hm; omega)
                    have hms := Lib.hid (manyTo_succ rest j)
                    have hmb := manyTo_le rest j
                    cases hb3 : rest.testBit j
                    · rw [hb3] at q5 hms
                      simp only [Bool.false_eq_true, if_false] at q5
                      clear hb3
                      go_wp2
                      exact ⟨⟨j + 1, by omega, by rw [hms.out]; simp, by go_num, (by first | rfl | trivial)⟩, by simp [intOf]; omega⟩
                    · rw [hb3] at q5 hms
                      simp only [if_true] at q5
                      clear hb3
                      go_wp2
                      exact ⟨⟨j + 1, by omega, by rw [hms.out]; simp, by go_num, (by first | rfl | trivial)⟩, by simp [intOf]; omega⟩
                  · obtain rfl : j = l.length := by omega
                    have hmb := manyTo_le rest l.length
                    have hb62 : rest < 2 ^ 62 ∧ ig < 2 ^ 62 ∧ kp < 2 ^ 62 := by
                      have h1 := hrb.out; have h2 := hig'.out; have h3 := hkp'.out
                      have : 2 ^ l.length ≤ 2 ^ 40 := Nat.pow_le_pow_right (by omega) hm
                      omega
                    have q6 := i64_and rest kp hb62.1 hb62.2.2
                    have q7 := i64_or ig rest hb62.2.1 hb62.1
                    have q8 := i64_orp kp k hb62.2.2 (by omega)
                    have hpos' := hpos.out
                    have hc2 := Lib.hid (fun (h : manyTo rest l.length ≤ more) => ihh.out (more - manyTo rest l.length) (ig ||| rest) (kp ||| 2 ^ k) (by omega) (by omega) (or_lt hig'.out hrb.out) (or_lt hkp'.out (pow_lt' hkl)))
                    generalize manyTo rest l.length = many at *
                    clear hpos'
                    by_cases hz : rest &&& kp = 0
                    · rw [hz] at q6
                      have q6' : bits .and .i64 (rest : Int) (kp : Int) = 0 := q6
                      by_cases hle : many ≤ more
                      · have hlei : (many : Int) ≤ (more : Int) := by omega
                        replace hc2 := Lib.hid (hc2.out hle)
                        have hsub : (((more - many : Nat)) : Int) = (more : Int) - many := by omega
                        have hcr : Hid (covF l (f + 1) ig kp more = covF l f (ig ||| rest) (kp ||| 2 ^ k) (more - many)) := Lib.hid (by rw [hcf.out, if_neg hm0, if_neg (by rw [hfst.out]; simp)]; simp [hz, hle])
                        rw [hsub] at hc2
                        clear hcf q6 hz hle hm0 hmi hsub
                        go_wp2_with (go_at_call 59; (with_reducible refine Calls.mono hc2.out ?_); rintro e w2 ⟨rfl, rfl⟩)
                        try rw [Exit.noGoto_ret]
                        go_ret
                        exact ⟨bool_ret hcr.out.symm, rfl⟩
                      · have hlei : decide ((many : Int) ≤ (more : Int)) = false := by simp; omega
                        have hlen' : decide (many ≤ more) = false := by simp; omega
                        have hlt' : decide (more < many) = true := by simp; omega
                        have hltn : more < many := by omega
                        have hcr : Hid (covF l (f + 1) ig kp more = false) := Lib.hid (by rw [hcf.out, if_neg hm0, if_neg (by rw [hfst.out]; simp)]; simp [hz, hle])
                        clear hcf q6 hz hle hm0 hmi hc2
                        go_wp2
                        try rw [Exit.noGoto_ret]
                        go_ret
                        exact ⟨bool_ret hcr.out.symm, rfl⟩
                    · have q6' : (bits .and .i64 (rest : Int) (kp : Int) == 0) = false := by rw [q6]; simp; omega
                      have hcr : Hid (covF l (f + 1) ig kp more = false) := Lib.hid (by rw [hcf.out, if_neg hm0, if_neg (by rw [hfst.out]; simp)]; simp [hz])
                      clear hcf q6 hz hm0 hmi hc2
                      go_wp2
                      try rw [Exit.noGoto_ret]
                      go_ret
                      exact ⟨bool_ret hcr.out.symm, rfl⟩
        · rw [hb1] at q1 hopen
          simp only [if_true] at q1
          have hnx := Lib.hid (hbx.out (by rw [hopen.out]; rfl))
          clear hfind hopen hb1 hbx q2
          go_wp2
          exact ⟨⟨k + 1, by omega, by go_num, (by first | rfl | trivial), hnx.out⟩, by simp [intOf]; omega⟩
      · obtain rfl : k = l.length := by omega
        have hcr : Hid (covF l (f + 1) ig kp more = true) := Lib.hid (hcn.out (find_none hbef.out))
        clear hcn hcs hbef
        go_wp2
        try rw [Exit.noGoto_ret]
        go_ret
        exact ⟨bool_ret hcr.out.symm, rfl⟩
end Go.Proofs.Ytddmfkhmhdddeaa
