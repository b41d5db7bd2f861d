/- Walks: the least blame (the program). -/
import Derived.Test.YtddmfkhmhdddeaaCls
set_option linter.unusedVariables false
set_option linter.unusedSimpArgs false
namespace Lk
/-- How many of the first n numbers are none of a set's. -/
def unign (n ig : Nat) : Nat := (List.range n).countP fun k => !ig.testBit k
theorem unign_or {n ig i : Nat} (hi : i < n) (h : ig.testBit i = false) : unign n (ig ||| 2 ^ i) + 1 = unign n ig := by
  unfold unign
  induction n with
  | zero => omega
  | succ n ih =>
    rw [List.range_succ, List.countP_append, List.countP_append]
    simp only [List.countP_cons, List.countP_nil, or_bit]
    by_cases hin : i = n
    · subst hin
      have e : (List.range i).countP (fun k => !(ig.testBit k || decide (k = i))) = (List.range i).countP fun k => !ig.testBit k := by
        apply List.countP_congr
        intro k hk
        have : k ≠ i := by have := List.mem_range.1 hk; omega
        simp [this]
      rw [e, h]; simp
    · have := ih (by omega)
      simp only [or_bit] at this
      have hn : decide (n = i) = false := by simp; omega
      rw [hn, Bool.or_false]
      omega
theorem cov_all {l : List Nat} : ∀ (u f ig more : Nat), unign l.length ig = u → u ≤ more → more < f → covF l f ig 0 more = true := by
  intro u
  induction u with
  | zero =>
    intro f ig more hu _ hf
    obtain ⟨f, rfl⟩ : ∃ g, f = g + 1 := ⟨f - 1, by omega⟩
    refine covF_none (find_none fun j hj => ?_)
    unfold unign at hu
    have := List.countP_eq_zero.1 hu j (List.mem_range.2 hj)
    simp only [Bool.not_eq_true', Bool.not_eq_false] at this
    simp [openB, this]
  | succ u ih =>
    intro f ig more hu hm hf
    obtain ⟨f, rfl⟩ : ∃ g, f = g + 1 := ⟨f - 1, by omega⟩
    cases hfd : (List.range l.length).find? (openB l ig) with
    | none => exact covF_none hfd
    | some i =>
      have hi := List.find?_some hfd
      have hil := List.mem_range.1 (List.mem_of_find?_eq_some hfd)
      have hb : ig.testBit i = false := by
        simp only [openB, Bool.and_eq_true, Bool.not_eq_true'] at hi
        exact hi.1
      have h1 := unign_or hil hb
      rw [covF_some hfd, if_neg (by omega), if_pos]
      rw [ih f (ig ||| 2 ^ i) (more - 1) (by omega) (by omega) (by omega)]
      simp
theorem unign_le (n ig : Nat) : unign n ig ≤ n := by
  have := List.countP_le_length (p := fun k => !ig.testBit k) (l := List.range n)
  simpa [unign] using this
/-- How many readings must be ignored at least. -/
def Bk.blMore (b : Bk) : Nat := ((List.range (b.reads.length + 1)).find? fun m => covF (b.clO b.reads.length) (m + 1) (b.alo b.reads.length) 0 m).getD 0
structure Bl where
  ig : Nat
  kp : Nat
  more : Nat
def blStep (l : List Nat) (s : Bl) (i : Nat) : Bl := if s.ig.testBit i = true then s else if 0 < s.more ∧ covF l s.more (s.ig ||| 2 ^ i) s.kp (s.more - 1) = true then ⟨s.ig ||| 2 ^ i, s.kp, s.more - 1⟩ else ⟨s.ig, s.kp ||| 2 ^ i, s.more⟩
def Bk.blTo (b : Bk) : Nat → Bl
  | 0 => ⟨b.alo b.reads.length, 0, b.blMore⟩
  | i + 1 => blStep (b.clO b.reads.length) (Bk.blTo b i) i
/-- The least blame, as it is computed. -/
def Bk.blame (b : Bk) : List Nat := (List.range b.reads.length).filter (b.blTo b.reads.length).ig.testBit
theorem blMore_at {b : Bk} {m : Nat} (hm : m ≤ b.reads.length) (h : covF (b.clO b.reads.length) (m + 1) (b.alo b.reads.length) 0 m = true) (hb : ∀ j, j < m → covF (b.clO b.reads.length) (j + 1) (b.alo b.reads.length) 0 j = false) : b.blMore = m := by
  unfold Bk.blMore
  have : (List.range (b.reads.length + 1)).find? (fun m => covF (b.clO b.reads.length) (m + 1) (b.alo b.reads.length) 0 m) = some m := by
    rw [List.find?_range_eq_some]
    exact ⟨h, by simp; omega, fun j hj => by simp [hb j hj]⟩
  rw [this]; rfl
theorem cov_n {b : Bk} : covF (b.clO b.reads.length) (b.reads.length + 1) (b.alo b.reads.length) 0 b.reads.length = true := by
  have hl := (small_clO (b := b) b.reads.length (Nat.le_refl _)).len
  exact cov_all (unign b.reads.length (b.alo b.reads.length)) _ _ _ (by rw [hl]) (unign_le _ _) (by omega)
structure BlOk (n : Nat) (s : Bl) : Prop where
  ig : s.ig < 2 ^ n
  kp : s.kp < 2 ^ n
  more : s.more ≤ n
theorem blTo_ok {b : Bk} (hm : b.blMore ≤ b.reads.length) : ∀ i, i ≤ b.reads.length → BlOk b.reads.length (b.blTo i) := by
  intro i
  induction i with
  | zero => intro _; exact ⟨alo_lt _ (Nat.le_refl _), Nat.two_pow_pos _, hm⟩
  | succ i ih =>
    intro hi
    have h := ih (by omega)
    simp only [Bk.blTo, blStep]
    split
    · exact h
    · split
      · exact ⟨or_lt h.ig (pow_lt' (by omega)), h.kp, by have := h.more; simp only; omega⟩
      · exact ⟨h.ig, or_lt h.kp (pow_lt' (by omega)), h.more⟩
end Lk
namespace Lk
def blOut (ig k : Nat) : List Int := ((List.range k).filter ig.testBit).map fun n : Nat => (n : Int)
theorem blOut_take {ig k : Nat} (h : ig.testBit k = true) : blOut ig (k + 1) = blOut ig k ++ [(k : Int)] := by simp [blOut, List.range_succ, h]
theorem blOut_skip {ig k : Nat} (h : ig.testBit k = false) : blOut ig (k + 1) = blOut ig k := by simp [blOut, List.range_succ, h]
theorem blOut_len (ig k : Nat) : (blOut ig k).length ≤ k := by
  unfold blOut
  rw [List.length_map]
  have := List.length_filter_le ig.testBit (List.range k)
  simpa using this
theorem blStep_in {l : List Nat} {s : Bl} {i : Nat} (h : s.ig.testBit i = true) : blStep l s i = s := by unfold blStep; rw [if_pos h]
theorem blStep_yes {l : List Nat} {s : Bl} {i : Nat} (h : s.ig.testBit i = false) (h2 : 0 < s.more) (h3 : covF l s.more (s.ig ||| 2 ^ i) s.kp (s.more - 1) = true) : blStep l s i = ⟨s.ig ||| 2 ^ i, s.kp, s.more - 1⟩ := by
  unfold blStep; rw [if_neg (by simp [h]), if_pos ⟨h2, h3⟩]
theorem blStep_no {l : List Nat} {s : Bl} {i : Nat} (h : s.ig.testBit i = false) (h2 : ¬ (0 < s.more ∧ covF l s.more (s.ig ||| 2 ^ i) s.kp (s.more - 1) = true)) : blStep l s i = ⟨s.ig, s.kp ||| 2 ^ i, s.more⟩ := by
  unfold blStep; rw [if_neg (by simp [h]), if_neg h2]
end Lk
namespace Go.Proofs.Ytddmfkhmhdddeaa
open Go.RowKit Go.Sd Lk

def BlamePost (b : Bk) (w : World) (e : Ending) (w' : World) : Prop := Below w.heap.size w w' ∧
  ((b.err true ≠ 0 ∧ e = .returned (.tuple #[.slice none 0 0, .int .i64 (b.err true)])) ∨ (b.err true = 0 ∧ ∃ a cap, e = .returned (.tuple #[.slice a (b.blame.length) cap, .int .i64 0]) ∧ natsAt w' (.slice a b.blame.length cap) b.blame))

set_option maxRecDepth 100000 in
set_option maxHeartbeats 8000000 in
theorem progBlame (fv wv rv : Value) (b : Bk) (w : World) (hb : BookAt w fv wv rv b) (hcap : ∀ a n cap, rv = .slice a n cap → n ≤ cap) :
    Calls Try.prog 25 #[bkV fv wv rv] w (BlamePost b w) := by
  obtain ⟨W, hW⟩ : ∃ W, (w.alloc (bkA fv wv rv)).alloc (bkO fv wv rv) = W := ⟨_, rfl⟩
  obtain ⟨e0, e1, s1, B1⟩ := two_new hW
  have hbW := Lib.hid (hb.mono B1)
  have kC := Lib.hid (progChecked fv wv rv b W hbW.out)
  have hez := Lib.hid (err_zero (b := b) (f := true))
  obtain ⟨fa, fc, rfl, hfm, -⟩ := hb.first.form
  obtain ⟨wa, wc, rfl, hwm, -⟩ := hb.flows.form
  obtain ⟨ra, rc, rfl, hrm, -⟩ := hb.reads.form
  have hrc := hcap _ _ _ rfl
  obtain ⟨q0, q1, q2⟩ := rc3 e1
  have z1 := (Array.getElem?_eq_some_iff.1 e1).1
  have hwB := Lib.hid B1
  replace hW := Lib.hid hW
  clear hb e0 e1 s1 B1 hcap
  unfold BlamePost
  generalize b.err true = er at *
  by_cases h : er = 0
  · have ok := Lib.hid (ok_of (hez.out h).2.1 (hez.out h).1)
    have hnr := ok.out.nr
    have kL := Lib.hid (fun X (hX : Below W.heap.size W X) => progClashes _ _ ra rc b X (hbW.out.mono hX) hrc ok.out)
    have hsm := Lib.hid (small_clO (b := b) b.reads.length (Nat.le_refl _))
    have hlen := hsm.out.len
    have hal := Lib.hid (alo_lt (b := b) b.reads.length (Nat.le_refl _))
    subst h
    go_enter Try.func25, Try.ntmps25
    go_wp2_with (first | (go_at_call 57; rw [hW.out]; (with_reducible refine Calls.mono kC.out ?_); rintro e w1 ⟨rfl, hb1⟩; replace q0 := kept_cell hb1 q0; replace q1 := kept_cell hb1 q1; replace q2 := kept_cell hb1 q2; have hb1' := Lib.hid hb1) | (go_at_call 58; (with_reducible refine Calls.mono (kL.out _ hb1'.out) ?_); rintro e w2 ⟨hb2, rfl, hT⟩; obtain ⟨T, hTe⟩ : ∃ T, w1.heap.size + 1 = T := ⟨_, rfl⟩; rw [hTe] at hT ⊢; have hT' := Lib.hid (NatBlk.nats hT (by rw [hlen]; unfold maxLen; omega) b.reads.length); have hTl := Lib.hid hT; clear hT hTe))
    obtain ⟨n, hn⟩ : ∃ n, b.reads.length = n := ⟨_, rfl⟩
    have kV : Hid (∀ (f more ig kp : Nat), more < f → more ≤ 1000 → ig < 2 ^ n → kp < 2 ^ n → Calls Try.prog 59 #[.slice (some ⟨T, 0, none⟩) n n, .int .i64 ig, .int .i64 kp, .int .i64 more] w2 fun e w' => e = .returned (.bool (covF (b.clO n) f ig kp more)) ∧ w2 = w') := Lib.hid (by
      have h1 := hT'.out
      have h2 := hsm.out
      rw [hlen] at h1
      rw [hn] at h1 h2
      have := progCovers (.slice (some ⟨T, 0, none⟩) n n) (b.clO n) w2 h1 (by rw [h2.len]; omega) (by rw [h2.len]; exact h2.lt)
      rw [h2.len] at this
      exact this)
    have hmat := Lib.hid (fun m h1 h2 h3 => blMore_at (b := b) (m := m) h1 h2 h3)
    have hcn := Lib.hid (cov_n (b := b))
    have hbok := Lib.hid (fun h => blTo_ok (b := b) h)
    have hb0e : Hid (b.blTo 0 = ⟨b.alo b.reads.length, 0, b.blMore⟩) := rfl
    have hbs : Hid (∀ i, b.blTo (i + 1) = blStep (b.clO b.reads.length) (b.blTo i) i) := Lib.hid fun _ => rfl
    have hble : Hid (b.blame = (List.range b.reads.length).filter (b.blTo b.reads.length).ig.testBit) := rfl
    rw [hn] at hmat hcn hbok hb0e hbs hble hal hnr ⊢
    have hB2w := Lib.hid (below_tr hwB.out (below_tr hb1'.out hb2))
    have hkp0 : Hid (0 < 2 ^ n) := Lib.hid (Nat.two_pow_pos _)
    clear hn hlen hsm hT' hTl kL kC hb2 hb1 q0 q1 q2
    generalize b.clO n = l at *
    go_loopw [8] (fun m wr => ∃ k : Nat, k ≤ n ∧ m = .int .i64 k ∧ wr = w2 ∧ Hid (∀ j, j < k → covF l (j + 1) (b.alo n) 0 j = false)) (fun m _ => n + 1 - (intOf m).toNat)
    case atStart => exact ⟨0, by omega, rfl, rfl, fun j h => absurd h (by omega)⟩
    case round =>
      obtain ⟨k, hk, rfl, rfl, hI⟩ := hrel
      have kA := Lib.hid (kV.out (k + 1) k (b.alo n) 0 (by omega) (by omega) hal.out hkp0.out)
      cases ht : covF l (k + 1) (b.alo n) 0 k
      · have hkn : k < n := by
          rcases Nat.lt_or_ge k n with h | h
          · exact h
          · obtain rfl : k = n := by omega
            rw [hcn.out] at ht; cases ht
        rw [ht] at kA
        have hI2 : Hid (∀ j, j < k + 1 → covF l (j + 1) (b.alo n) 0 j = false) := Lib.hid fun j hj => by
          rcases Nat.lt_succ_iff_lt_or_eq.1 hj with h | rfl
          · exact hI.out j h
          · exact ht
        replace ht := Lib.hid ht
        clear hI
        go_wp2_with (go_at_call 59; (with_reducible refine Calls.mono kA.out ?_); rintro e w3 ⟨rfl, rfl⟩)
        exact ⟨⟨k + 1, by omega, by go_num, (by first | rfl | trivial), hI2.out⟩, by simp [intOf]; omega⟩
      · have hmo : b.blMore = k := hmat.out k hk ht hI.out
        rw [ht] at kA
        replace ht := Lib.hid ht
        have hok2 := Lib.hid (hbok.out (by rw [hmo]; exact hk))
        rw [hmo] at hb0e
        clear hI hmat hcn hbok hmo
        go_wp2_with (go_at_call 59; (with_reducible refine Calls.mono kA.out ?_); rintro e w3 ⟨rfl, rfl⟩)
        clear kA
        obtain ⟨S, rfl⟩ : ∃ S : World, S = wr := ⟨_, rfl⟩
        go_loopw [7, 8, 9, 34] (fun g m p i wr => ∃ j : Nat, j ≤ n ∧ g = .int .i64 (b.blTo j).ig ∧ m = .int .i64 (b.blTo j).more ∧ p = .int .i64 (b.blTo j).kp ∧ i = .int .i64 j ∧ wr = S) (fun _ _ _ i _ => n - (intOf i).toNat)
        case atStart => exact ⟨0, by omega, by rw [hb0e.out], by rw [hb0e.out], by rw [hb0e.out]; rfl, rfl, rfl⟩
        case round =>
          obtain ⟨j, hj, rfl, rfl, rfl, rfl, rfl⟩ := hrel
          clear hb0e
          by_cases hjl : j < n
          · have hji : (j : Int) < (n : Int) := by omega
            have hok := hok2.out j hj
            have hst := hbs.out j
            generalize hs2e : b.blTo (j + 1) = s2 at *
            replace hs2e := Lib.hid hs2e
            generalize b.blTo j = s at *
            obtain ⟨ig, kp, more⟩ := s
            have hig := hok.ig
            have hkp := hok.kp
            have hmo := hok.more
            simp only at hig hkp hmo
            have h40 : 2 ^ n ≤ 2 ^ 40 := Nat.pow_le_pow_right (by omega) hnr
            have q1 := i64_bit ig j (by omega)
            have q2 := i64_orp ig j (by omega) (by omega)
            have q3 := i64_orp kp j (by omega) (by omega)
            have kV1 := Lib.hid (fun h => kV.out more (more - 1) (ig ||| 2 ^ j) kp h (by omega) (or_lt hig (pow_lt' hjl)) hkp)
            have hs1 := Lib.hid (blStep_in (l := l) (s := ⟨ig, kp, more⟩) (i := j))
            have hs2 := Lib.hid (blStep_yes (l := l) (s := ⟨ig, kp, more⟩) (i := j))
            have hs3 := Lib.hid (blStep_no (l := l) (s := ⟨ig, kp, more⟩) (i := j))
            clear hok hig hkp h40
            cases hb : ig.testBit j
            · rw [hb] at q1
              simp only [Bool.false_eq_true, if_false] at q1
              by_cases hm0 : 0 < more
              · have hmi : (0 : Int) < (more : Int) := by omega
                have kV2 := Lib.hid (kV1.out (by omega))
                rw [show (((more - 1 : Nat)) : Int) = (more : Int) - 1 by omega] at kV2
                cases ht2 : covF l more (ig ||| 2 ^ j) kp (more - 1)
                · have hr : Hid (s2 = ⟨ig, kp ||| 2 ^ j, more⟩) := Lib.hid (by rw [hst]; exact hs3.out hb (by simp [ht2]))
                  rw [ht2] at kV2
                  clear hs1 hs2 hs3 hb ht2 hst kV1
                  go_wp2_with (go_at_call 59; (with_reducible refine Calls.mono kV2.out ?_); rintro e w3 ⟨rfl, rfl⟩)
                  exact ⟨⟨j + 1, by omega, by rw [hs2e.out, hr.out], by rw [hs2e.out, hr.out], by rw [hs2e.out, hr.out], by go_num, (by first | rfl | trivial)⟩, by simp [intOf]; omega⟩
                · have hr : Hid (s2 = ⟨ig ||| 2 ^ j, kp, more - 1⟩) := Lib.hid (by rw [hst]; exact hs2.out hb hm0 ht2)
                  have hsub : (((more - 1 : Nat)) : Int) = (more : Int) - 1 := by omega
                  rw [ht2] at kV2
                  clear hs1 hs2 hs3 hb ht2 hst kV1
                  go_wp2_with (go_at_call 59; (with_reducible refine Calls.mono kV2.out ?_); rintro e w3 ⟨rfl, rfl⟩)
                  exact ⟨⟨j + 1, by omega, by rw [hs2e.out, hr.out], by rw [hs2e.out, hr.out]; simp only [hsub], by rw [hs2e.out, hr.out], by go_num, (by first | rfl | trivial)⟩, by simp [intOf]; omega⟩
              · have hm0e : more = 0 := by omega
                have hr : Hid (s2 = ⟨ig, kp ||| 2 ^ j, more⟩) := Lib.hid (by rw [hst]; exact hs3.out hb (fun h => hm0 h.1))
                clear hs1 hs2 hs3 hb hst kV1 hm0
                subst hm0e
                go_wp2
                exact ⟨⟨j + 1, by omega, by rw [hs2e.out, hr.out], by (rw [hs2e.out, hr.out]), by rw [hs2e.out, hr.out], by go_num, (by first | rfl | trivial)⟩, by simp [intOf]; omega⟩
            · rw [hb] at q1
              simp only [if_true] at q1
              have hr : Hid (s2 = ⟨ig, kp, more⟩) := Lib.hid (by rw [hst]; exact hs1.out hb)
              clear hs1 hs2 hs3 hb hst kV1
              go_wp2
              exact ⟨⟨j + 1, by omega, by rw [hs2e.out, hr.out], by rw [hs2e.out, hr.out], by rw [hs2e.out, hr.out], by go_num, (by first | rfl | trivial)⟩, by simp [intOf]; omega⟩
          · obtain rfl : j = n := by omega
            have hok := hok2.out j (Nat.le_refl _)
            have hig := Lib.hid hok.ig
            clear hok hok2 hbs kV
            generalize b.blTo j = s at *
            obtain ⟨ig, kp, more⟩ := s
            simp only at hig hble
            obtain ⟨S, rfl⟩ : ∃ S : World, S = wr := ⟨_, rfl⟩
            go_wp2
            have hO0 : Hid (OwnInts S.heap.size S (.slice none 0 0) (blOut ig 0)) := Lib.hid (OwnSt.nil _ _ _ _ _)
            go_loopw [11, 70] (fun p i wr => ∃ (k : Nat) (v : Value), k ≤ j ∧ v = p ∧ i = .int .i64 k ∧ Hid (OwnInts S.heap.size wr v (blOut ig k) ∧ Below S.heap.size S wr)) (fun _ i _ => j - (intOf i).toNat)
            case atStart => exact ⟨0, _, by omega, rfl, rfl, hO0.out, Below.refl _ _⟩
            case round =>
              obtain ⟨k, v, hk, rfl, rfl, hJ⟩ := hrel
              obtain ⟨ho, hB⟩ := hJ.out
              clear hJ hO0
              by_cases hkj : k < j
              · have hkji : (k : Int) < (j : Int) := by omega
                have q1 := i64_bit ig k (by have := hig.out; have : 2 ^ j ≤ 2 ^ 40 := Nat.pow_le_pow_right (by omega) hnr; omega)
                have htk := Lib.hid (blOut_take (ig := ig) (k := k))
                have hsk := Lib.hid (blOut_skip (ig := ig) (k := k))
                have hlen : (blOut ig k).length ≤ 1000000 := Nat.le_trans (blOut_len ig k) (by omega)
                obtain ⟨a1, c1, hva⟩ := ho.slice
                subst hva
                have ho' := Lib.hid ho
                have hB' := Lib.hid hB
                have hSw : S.heap.size ≤ wr.heap.size := hB.size
                clear ho hB
                generalize hl1 : blOut ig k = l1 at *
                replace hl1 := Lib.hid hl1
                cases hb : ig.testBit k
                · rw [hb] at q1
                  simp only [Bool.false_eq_true, if_false] at q1
                  have hnx := Lib.hid (hsk.out hb)
                  clear htk hsk hb
                  go_wp2
                  refine ⟨⟨k + 1, _, by omega, rfl, by go_num, ?_, hB'.out⟩, by simp [intOf]; omega⟩
                  rw [hnx.out]; exact ho'.out
                · rw [hb] at q1
                  simp only [if_true] at q1
                  have hnx := Lib.hid (htk.out hb)
                  clear htk hsk hb
                  go_wp2_with (at_builtin; refine wpList_app_st (enc := intEnc) intEnc_len 38 3 _ 8 Try.underlying38 infoInt rfl (by omega) (by omega) intEnc_one (by rfl) _ _ (by rfl) S.heap.size wr (.slice a1 l1.length c1) l1 (k : Int) (by rfl) ho'.out (by rfl) hlen hSw ?_; intro v1 w1 ho1 hg1 hat1; obtain ⟨a2, c2, he1⟩ := ho1.slice; subst he1)
                  refine ⟨⟨k + 1, _, by omega, rfl, by go_num, ?_, hB'.out.grown hg1 hSw (fun k e => (ho'.out.lt k e).1)⟩, by simp [intOf]; omega⟩
                  rw [hnx.out]
                  first | exact ho1 | (rw [List.length_append, List.length_singleton] at ho1; exact ho1)
              · obtain rfl : k = j := by omega
                have hbe : blOut ig k = b.blame.map fun n : Nat => (n : Int) := by unfold blOut; rw [hble.out]
                rw [hbe] at ho
                have hin : IntsAt wr v (b.blame.map fun n : Nat => (n : Int)) := ho.ints
                obtain ⟨a1, c1, hva⟩ := ho.slice
                subst hva
                rw [List.length_map] at hin ⊢
                have hin' := Lib.hid hin
                have hBf := Lib.hid (hB2w.out.trans (hB.mono hB2w.out.size))
                clear hin ho hB hbe hble
                go_wp2
                refine bodyPost_ret (v := .tuple #[_, _]) (by simp [results, Try.results25, go_sem]; exact ⟨rfl, rfl⟩) rfl ?_
                exact ⟨hBf.out, .inr ⟨trivial, _, _, rfl, hin'.out⟩⟩
  · have hd : decide (er = 0) = false := by simpa using h
    go_enter Try.func25, Try.ntmps25
    go_wp2_with (go_at_call 57; rw [hW.out]; (with_reducible refine Calls.mono kC.out ?_); rintro e w1 ⟨rfl, hb1⟩)
    refine bodyPost_ret (v := .tuple #[_, _]) (by simp [results, Try.results25, go_sem]; exact ⟨rfl, rfl⟩) rfl ?_
    exact ⟨below_tr hwB.out hb1, .inl ⟨h, rfl⟩⟩
end Go.Proofs.Ytddmfkhmhdddeaa
