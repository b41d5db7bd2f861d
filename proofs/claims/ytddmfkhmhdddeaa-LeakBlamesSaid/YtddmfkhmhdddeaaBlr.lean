/- The plain law of blames: covers tells whether some set leaves no clash, and blame is the least of them (no Go in sight). -/
import Derived.Test.YtddmfkhmhdddeaaBla
import Derived.Test.YtddmfkhmhdddeaaBnl
set_option linter.unusedVariables false
set_option linter.unusedSimpArgs false
namespace Lk
/-- A set that leaves no clash. -/
def hitsB (l : List Nat) (S : Nat → Bool) : Prop := ∀ i, i < l.length → S i = false → ∀ k, (natAt l i).testBit k = true → S k = true
/-- How many of the first n numbers are in a set beyond another one. -/
def extra (n ig : Nat) (S : Nat → Bool) : Nat := (List.range n).countP fun k => S k && !ig.testBit k
structure Able (l : List Nat) (ig kp more : Nat) (S : Nat → Bool) : Prop where
  fi : ∀ k, ig.testBit k = true → S k = true
  fk : ∀ k, kp.testBit k = true → S k = false
  fm : extra l.length ig S ≤ more
  hits : hitsB l S
theorem cnt_split (p q : Nat → Bool) : ∀ l : List Nat, l.countP p = l.countP (fun k => p k && q k) + l.countP (fun k => p k && !q k)
  | [] => rfl
  | a :: l => by
    have ih := cnt_split p q l
    simp only [List.countP_cons]
    cases hp : p a <;> cases hq : q a <;> simp <;> omega
theorem extra_or {n ig R : Nat} {S : Nat → Bool} (h : ∀ k, R.testBit k = true → S k = true ∧ ig.testBit k = false) : extra n ig S = manyTo R n + extra n (ig ||| R) S := by
  unfold extra manyTo
  rw [cnt_split (fun k => S k && !ig.testBit k) R.testBit]
  congr 1
  · refine List.countP_congr fun k _ => ?_
    cases hk : R.testBit k
    · simp
    · obtain ⟨a, c⟩ := h k hk
      simp [a, c]
  · refine List.countP_congr fun k _ => ?_
    rw [Nat.testBit_or]
    cases S k <;> cases ig.testBit k <;> cases R.testBit k <;> simp
theorem manyTo_pow {i : Nat} : ∀ n, manyTo (2 ^ i) n = if i < n then 1 else 0
  | 0 => by simp [manyTo]
  | n + 1 => by
    rw [manyTo_succ, manyTo_pow n, Nat.testBit_two_pow]
    by_cases h : i = n
    · subst h; simp
    · have : decide (i = n) = false := by simpa using h
      rw [this]
      by_cases h2 : i < n
      · have h3 : i < n + 1 := by omega
        simp [h2, h3]
      · have h3 : ¬ i < n + 1 := by omega
        simp [h2, h3]
theorem cov_able {l : List Nat} (hs : Small l.length l) (hirr : ∀ i, i < l.length → (natAt l i).testBit i = false) : ∀ (f ig kp more : Nat), more < f → (∀ k, ig.testBit k = true → kp.testBit k = false) →
    (covF l f ig kp more = true ↔ ∃ S, Able l ig kp more S) := by
  intro f
  induction f with
  | zero => intro ig kp more h; omega
  | succ f ih =>
    intro ig kp more hm hd
    cases hfd : (List.range l.length).find? (openB l ig) with
    | none =>
      rw [covF_none hfd]
      refine ⟨fun _ => ⟨fun k => ig.testBit k, fun k h => h, fun k h => ?_, ?_, ?_⟩, fun _ => rfl⟩
      · cases hk : ig.testBit k
        · rfl
        · rw [hd k hk] at h; cases h
      · have : extra l.length ig (fun k => ig.testBit k) = 0 := List.countP_eq_zero.2 (fun k _ => by simp)
        omega
      · intro i hi h k hk
        have ho := List.find?_eq_none.1 hfd i (List.mem_range.2 hi)
        simp only at h
        have ho2 : ndiff (natAt l i) ig = 0 := by simpa [openB, h] using ho
        have := ndiff_test (natAt l i) ig k
        rw [ho2, Nat.zero_testBit, hk] at this
        simpa using this
    | some i =>
      have hi := List.find?_some hfd
      have hil := List.mem_range.1 (List.mem_of_find?_eq_some hfd)
      simp only [openB, Bool.and_eq_true, Bool.not_eq_true', decide_eq_false_iff_not] at hi
      obtain ⟨hig, hnz⟩ := hi
      rw [covF_some hfd]
      have hR : ∀ k, (ndiff (natAt l i) ig).testBit k = ((natAt l i).testBit k && !ig.testBit k) := ndiff_test _ _
      have hRlt := ndiff_lt (b := ig) (hs.lt i hil)
      generalize ndiff (natAt l i) ig = R at *
      have hpos := many_pos hnz hRlt
      have key : ∀ S, Able l ig kp more S → S i = false → ∀ k, R.testBit k = true → S k = true ∧ ig.testBit k = false := by
        intro S hS h k hk
        rw [hR, Bool.and_eq_true, Bool.not_eq_true'] at hk
        exact ⟨hS.hits i hil h k hk.1, hk.2⟩
      have one : ∀ S : Nat → Bool, S i = true → extra l.length ig S = 1 + extra l.length (ig ||| 2 ^ i) S := by
        intro S h
        rw [extra_or (R := 2 ^ i), manyTo_pow, if_pos hil]
        intro k hk
        rw [Nat.testBit_two_pow, decide_eq_true_eq] at hk
        subst hk; exact ⟨h, hig⟩
      by_cases h0 : more = 0
      · rw [if_pos h0]
        refine ⟨fun h => (by cases h), fun ⟨S, hS⟩ => ?_⟩
        exfalso
        have hm0 := hS.fm
        cases hSi : S i
        · have := extra_or (n := l.length) (key S hS hSi)
          omega
        · have := one S hSi
          omega
      · rw [if_neg h0]
        by_cases hA : ∃ S, Able l ig kp more S ∧ S i = true
        · obtain ⟨S, hS, hSi⟩ := hA
          have hkp : kp.testBit i = false := by
            cases h : kp.testBit i
            · rfl
            · rw [hS.fk i h] at hSi; cases hSi
          have hc : covF l f (ig ||| 2 ^ i) kp (more - 1) = true := by
            refine (ih _ _ _ (by omega) (fun k hk => ?_)).2 ⟨S, fun k hk => ?_, hS.fk, ?_, hS.hits⟩
            · rw [or_bit, Bool.or_eq_true, decide_eq_true_eq] at hk
              rcases hk with hk | rfl
              · exact hd k hk
              · exact hkp
            · rw [or_bit, Bool.or_eq_true, decide_eq_true_eq] at hk
              rcases hk with hk | rfl
              · exact hS.fi k hk
              · exact hSi
            · have := one S hSi; have := hS.fm; omega
          rw [if_pos (by rw [hkp, hc]; rfl)]
          exact ⟨fun _ => ⟨S, hS⟩, fun _ => rfl⟩
        · have hcf : (!kp.testBit i && covF l f (ig ||| 2 ^ i) kp (more - 1)) = false := by
            cases h : kp.testBit i
            · cases hc : covF l f (ig ||| 2 ^ i) kp (more - 1)
              · rfl
              · exfalso
                obtain ⟨S, hS⟩ := (ih _ _ _ (by omega) (fun k hk => by
                  rw [or_bit, Bool.or_eq_true, decide_eq_true_eq] at hk
                  rcases hk with hk | rfl
                  · exact hd k hk
                  · exact h)).1 hc
                have hSi : S i = true := hS.fi i (by rw [or_bit]; simp)
                refine hA ⟨S, ⟨fun k hk => hS.fi k (by rw [or_bit, hk]; rfl), hS.fk, ?_, hS.hits⟩, hSi⟩
                have := one S hSi; have := hS.fm; omega
            · rfl
          rw [hcf, if_neg (by simp)]
          simp only [Bool.and_eq_true, decide_eq_true_eq]
          have hdisj : R &&& kp = 0 → ∀ k, (ig ||| R).testBit k = true → (kp ||| 2 ^ i).testBit k = false := by
            intro h k hk
            rw [Nat.testBit_or, Bool.or_eq_true] at hk
            rw [or_bit, Bool.or_eq_false_iff, decide_eq_false_iff_not]
            rcases hk with hk | hk
            · exact ⟨hd k hk, fun e => by rw [e, hig] at hk; cases hk⟩
            · have h2 : (R &&& kp).testBit k = false := by rw [h]; exact Nat.zero_testBit k
              rw [Nat.testBit_and, hk, Bool.true_and] at h2
              refine ⟨h2, fun e => ?_⟩
              rw [hR, Bool.and_eq_true] at hk
              rw [e, hirr i hil] at hk; cases hk.1
          constructor
          · rintro ⟨⟨h1, h2⟩, h3⟩
            obtain ⟨S, hS⟩ := (ih _ _ _ (by omega) (hdisj h1)).1 h3
            have hr : ∀ k, R.testBit k = true → S k = true ∧ ig.testBit k = false := fun k hk => ⟨hS.fi k (by rw [Nat.testBit_or, hk]; simp), by rw [hR, Bool.and_eq_true, Bool.not_eq_true'] at hk; exact hk.2⟩
            refine ⟨S, fun k hk => hS.fi k (by rw [Nat.testBit_or, hk]; rfl), fun k hk => hS.fk k (by rw [Nat.testBit_or, hk]; rfl), ?_, hS.hits⟩
            rw [extra_or hr]; have := hS.fm; omega
          · rintro ⟨S, hS⟩
            have hSi : S i = false := by
              cases h : S i
              · rfl
              · exact absurd ⟨S, hS, h⟩ hA
            have hr := key S hS hSi
            have he := extra_or (n := l.length) hr
            have hmo := hS.fm
            have h1 : R &&& kp = 0 := by
              apply Nat.eq_of_testBit_eq
              intro k
              rw [Nat.testBit_and, Nat.zero_testBit]
              cases hk : R.testBit k
              · rfl
              · cases hk2 : kp.testBit k
                · rfl
                · have := (hr k hk).1
                  rw [hS.fk k hk2] at this; cases this
            refine ⟨⟨h1, by omega⟩, (ih _ _ _ (by omega) (hdisj h1)).2 ⟨S, fun k hk => ?_, fun k hk => ?_, by omega, hS.hits⟩⟩
            · rw [Nat.testBit_or, Bool.or_eq_true] at hk
              rcases hk with hk | hk
              · exact hS.fi k hk
              · exact (hr k hk).1
            · rw [or_bit, Bool.or_eq_true, decide_eq_true_eq] at hk
              rcases hk with hk | rfl
              · exact hS.fk k hk
              · exact hSi
theorem able_congr {l : List Nat} (hs : Small l.length l) {ig kp more : Nat} (hig : ig < 2 ^ l.length) (hkp : kp < 2 ^ l.length) {S T : Nat → Bool} (h : ∀ k, k < l.length → S k = T k) (hS : Able l ig kp more S) : Able l ig kp more T := by
  refine ⟨fun k hk => by rw [← h k (bit_lt hig hk)]; exact hS.fi k hk, fun k hk => by rw [← h k (bit_lt hkp hk)]; exact hS.fk k hk, ?_, fun i hi hTi k hk => by rw [← h k (bit_lt (hs.lt i hi) hk)]; exact hS.hits i hi (by rw [h i hi]; exact hTi) k hk⟩
  have : extra l.length ig T = extra l.length ig S := List.countP_congr fun k hk => by simp only [h k (List.mem_range.1 hk)]
  rw [this]; exact hS.fm
end Lk

/-! The plain law of blames, further: the first list, in lexicographic order, of as few readings as can be is the one that is picked reading by reading (no Go in sight). -/
namespace Lk
/-- All strictly increasing lists of m of the d numbers from i on, in lexicographic order. -/
def setsD : Nat → Nat → Nat → List (List Nat)
  | _, _, 0 => [[]]
  | 0, _, _ + 1 => []
  | d + 1, i, m + 1 => (setsD d (i + 1) m).map (i :: ·) ++ setsD d (i + 1) (m + 1)
theorem setsD_zero (d i : Nat) : setsD d i 0 = [[]] := by cases d <;> rfl
theorem mem_setsD : ∀ {d i m : Nat} {l : List Nat}, l ∈ setsD d i m → l.length = m ∧ ∀ x, x ∈ l → i ≤ x ∧ x < i + d
  | d, i, 0, l, h => by
    rw [setsD_zero, List.mem_singleton] at h
    subst h; exact ⟨rfl, fun x hx => by cases hx⟩
  | 0, i, m + 1, l, h => by cases h
  | d + 1, i, m + 1, l, h => by
    simp only [setsD, List.mem_append, List.mem_map] at h
    rcases h with ⟨p, hp, rfl⟩ | h
    · obtain ⟨h1, h2⟩ := mem_setsD hp
      refine ⟨by simp [h1], fun x hx => ?_⟩
      rcases List.mem_cons.1 hx with rfl | hx
      · omega
      · have := h2 x hx; omega
    · obtain ⟨h1, h2⟩ := mem_setsD h
      exact ⟨h1, fun x hx => by have := h2 x hx; omega⟩
theorem setsD_cnt : ∀ {d i m : Nat} {l : List Nat}, l ∈ setsD d i m → (List.range' i d).countP (fun k => l.contains k) = m
  | d, i, 0, l, h => by
    rw [setsD_zero, List.mem_singleton] at h
    subst h
    exact List.countP_eq_zero.2 fun k _ => by simp
  | 0, i, m + 1, l, h => by cases h
  | d + 1, i, m + 1, l, h => by
    simp only [setsD, List.mem_append, List.mem_map] at h
    rw [List.range'_succ, List.countP_cons]
    rcases h with ⟨p, hp, rfl⟩ | h
    · rw [show (List.range' (i + 1) d).countP (fun k => (i :: p).contains k) = (List.range' (i + 1) d).countP (fun k => p.contains k) from List.countP_congr fun k hk => by
        have := List.mem_range'_1.1 hk
        have hne : (k == i) = false := by simp; omega
        simp only [List.contains_cons, hne, Bool.false_or], setsD_cnt hp]
      simp
    · have hni : l.contains i = false := by
        cases hc : l.contains i
        · rfl
        · have := (mem_setsD h).2 i (by simpa using hc); omega
      rw [setsD_cnt h, hni]; simp
/-- From which number on a list is made longer. -/
def frD (i : Nat) (p : List Nat) : Nat := match p.getLast? with
  | none => i
  | some x => x + 1
def extD (e i : Nat) (p : List Nat) : List (List Nat) := (List.range' (frD i p) (e - frD i p)).map fun x => p ++ [x]
theorem frD_cons (i j : Nat) (p : List Nat) : frD i (j :: p) = frD (j + 1) p := by
  unfold frD
  rw [List.getLast?_cons]
  cases p.getLast? <;> rfl
theorem frD_last {p : List Nat} {m i : Nat} (h : p.length = m + 1) : frD i p = natAt p m + 1 := by
  unfold frD natAt
  rw [List.getLast?_eq_getElem?, h, Nat.add_sub_cancel, List.getElem?_eq_getElem (by omega)]
  simp [h]
theorem extD_cons (e i j : Nat) (p : List Nat) : extD e i (j :: p) = (extD e (j + 1) p).map (j :: ·) := by
  unfold extD
  rw [frD_cons, List.map_map]
  rfl
theorem extD_ne {p : List Nat} (e i j : Nat) (h : 0 < p.length) : extD e i p = extD e j p := by
  unfold extD
  obtain ⟨m, hm⟩ : ∃ m, p.length = m + 1 := ⟨p.length - 1, by omega⟩
  rw [frD_last (i := i) hm, frD_last (i := j) hm]
theorem setsD_next : ∀ (d i m : Nat), setsD d i (m + 1) = (setsD d i m).flatMap (extD (i + d) i)
  | 0, i, 0 => by simp [setsD, setsD_zero, extD, frD]
  | 0, i, m + 1 => by simp [setsD]
  | d + 1, i, 0 => by
    have ih := setsD_next d (i + 1) 0
    simp only [setsD_zero, List.flatMap_cons, List.flatMap_nil, List.append_nil] at ih
    simp only [setsD, setsD_zero, List.flatMap_cons, List.flatMap_nil, List.append_nil, ih, List.map_cons, List.map_nil]
    simp only [extD, frD, List.getLast?_nil, List.nil_append]
    rw [show i + (d + 1) - i = d + 1 by omega, List.range'_succ, show i + 1 + d - (i + 1) = d by omega]
    rfl
  | d + 1, i, m + 1 => by
    have ih1 := setsD_next d (i + 1) m
    have ih2 := setsD_next d (i + 1) (m + 1)
    rw [setsD, ih2, ih1, setsD, List.flatMap_append, List.flatMap_map, List.map_flatMap, ← ih1]
    congr 1
    · congr 1
      funext p
      rw [extD_cons, show i + (d + 1) = i + 1 + d by omega]
    · rw [show i + (d + 1) = i + 1 + d by omega]
      have : ∀ L : List (List Nat), (∀ p, p ∈ L → 0 < p.length) → L.flatMap (extD (i + 1 + d) (i + 1)) = L.flatMap (extD (i + 1 + d) i) := by
        intro L
        induction L with
        | nil => intro _; rfl
        | cons p L ih =>
          intro h
          rw [List.flatMap_cons, List.flatMap_cons, extD_ne _ (i + 1) i (h p List.mem_cons_self), ih fun q hq => h q (List.mem_cons_of_mem _ hq)]
      exact this _ fun p hp => by rw [(mem_setsD hp).1]; omega
theorem filt_split {t : Nat → Bool} {i d : Nat} : (List.range (i + d)).filter t = (List.range i).filter t ++ (List.range' i d).filter t := by
  rw [List.range_eq_range', List.range_eq_range', ← List.filter_append, show i + d = d + i by omega]
  congr 1
  have := List.range'_append_1 (s := 0) (m := i) (n := d)
  rw [Nat.zero_add] at this
  rw [this, Nat.add_comm]
/-- What is picked number by number is found first. -/
theorem setsD_find {t : Nat → Bool} {P : List Nat → Bool} {n M : Nat} (hM : ((List.range n).filter t).length = M) (hP : P ((List.range n).filter t) = true)
    (hno : ∀ i d m, i + 1 + d = n → t i = false → ((List.range i).filter t).length + (m + 1) = M → ∀ l, l ∈ setsD d (i + 1) m → P ((List.range i).filter t ++ i :: l) = false) :
    ∀ (d i m : Nat), i + d = n → ((List.range i).filter t).length + m = M → (setsD d i m).find? (fun l => P ((List.range i).filter t ++ l)) = some ((List.range' i d).filter t)
  | d, i, 0, hid, hm => by
    subst hid
    have e : (List.range' i d).filter t = [] := by
      rw [filt_split, List.length_append] at hM
      exact List.length_eq_zero_iff.1 (by omega)
    rw [filt_split, e, List.append_nil] at hP
    rw [setsD_zero, e, List.find?_cons]
    simp only [List.append_nil, hP]
  | 0, i, m + 1, hid, hm => by
    subst hid
    rw [Nat.add_zero] at hM; omega
  | d + 1, i, m + 1, hid, hm => by
    rw [setsD, List.find?_append, List.range'_succ, List.filter_cons]
    cases hti : t i
    · have hn : ((setsD d (i + 1) m).map (i :: ·)).find? (fun l => P ((List.range i).filter t ++ l)) = none := by
        rw [List.find?_eq_none]
        intro x hx
        obtain ⟨l, hl, rfl⟩ := List.mem_map.1 hx
        rw [hno i d m (by omega) hti hm l hl]; simp
      have e : (List.range (i + 1)).filter t = (List.range i).filter t := by simp [List.range_succ, hti]
      have ih := setsD_find hM hP hno d (i + 1) (m + 1) (by omega) (by rw [e]; exact hm)
      rw [e] at ih
      rw [hn, ih]; simp
    · have e : (List.range (i + 1)).filter t = (List.range i).filter t ++ [i] := by simp [List.range_succ, hti]
      have ih := setsD_find hM hP hno d (i + 1) m (by omega) (by rw [e, List.length_append]; simp; omega)
      have e2 : (fun l => P ((List.range (i + 1)).filter t ++ l)) = (fun l => P ((List.range i).filter t ++ i :: l)) := by
        funext l; rw [e, List.append_assoc]; rfl
      rw [e2] at ih
      rw [List.find?_map]
      have e3 : ((fun l => P ((List.range i).filter t ++ l)) ∘ fun x => i :: x) = (fun l => P ((List.range i).filter t ++ i :: l)) := rfl
      rw [e3, ih]; simp
end Lk

/-! The plain law of blames, the last part: what is picked reading by reading leaves a book that agrees without a leak, and nothing less, or earlier in the order, does (no Go in sight). -/
namespace Lk
def cntN (n : Nat) (S : Nat → Bool) : Nat := (List.range n).countP S
theorem cnt_ig {n ig : Nat} {S : Nat → Bool} (h : ∀ k, ig.testBit k = true → S k = true) : cntN n S = manyTo ig n + extra n ig S := by
  unfold cntN extra manyTo
  rw [cnt_split S ig.testBit]
  congr 1
  refine List.countP_congr fun k _ => ?_
  cases hk : ig.testBit k
  · simp
  · simp [h k hk]
theorem many_or {n ig i : Nat} (hi : i < n) (h : ig.testBit i = false) : manyTo (ig ||| 2 ^ i) n = manyTo ig n + 1 := by
  have h1 := cnt_ig (n := n) (ig := ig) (S := (ig ||| 2 ^ i).testBit) (fun k hk => by rw [or_bit, hk]; rfl)
  have h2 := extra_or (n := n) (ig := ig) (R := 2 ^ i) (S := (ig ||| 2 ^ i).testBit) (fun k hk => by
    rw [Nat.testBit_two_pow, decide_eq_true_eq] at hk
    subst hk
    exact ⟨by rw [or_bit]; simp, h⟩)
  have h3 : extra n (ig ||| 2 ^ i) (ig ||| 2 ^ i).testBit = 0 := List.countP_eq_zero.2 fun k _ => by generalize (ig ||| 2 ^ i).testBit k = t; cases t <;> simp
  rw [manyTo_pow, if_pos hi] at h2
  have h4 : cntN n (ig ||| 2 ^ i).testBit = manyTo (ig ||| 2 ^ i) n := rfl
  omega
theorem setOr_bit {L : List Nat} {i k a c : Nat} (hi : i < L.length) : (natAt (setOr L i k) a).testBit c = true ↔ (natAt L a).testBit c = true ∨ (a = i ∧ c = k) := by
  unfold setOr
  rw [natAt_set hi]
  by_cases h : a = i
  · subst h
    rw [if_pos rfl, or_bit, Bool.or_eq_true, decide_eq_true_eq]
    simp
  · rw [if_neg h]; simp [h]
theorem clI_bit {b : Bk} {i : Nat} {L : List Nat} (hs : Small b.reads.length L) (hi : i < b.reads.length) {a c : Nat} : ∀ k, k ≤ i → ((natAt (b.clI i L k) a).testBit c = true ↔
    (natAt L a).testBit c = true ∨ (a = i ∧ c < k ∧ b.clq i c = true) ∨ (c = i ∧ a < k ∧ b.clq i a = true))
  | 0, _ => by simp [Bk.clI]
  | k + 1, hk => by
    have ih := clI_bit hs hi (a := a) (c := c) k (by omega)
    have hl := (small_clI hs hi k (by omega)).len
    unfold Bk.clI
    split
    · rename_i hq
      rw [setOr_bit (by simp [setOr, hl]; omega), setOr_bit (by rw [hl]; exact hi), ih]
      constructor
      · rintro (((h | ⟨h1, h2, h3⟩ | ⟨h1, h2, h3⟩) | ⟨h1, h2⟩) | ⟨h1, h2⟩)
        · exact .inl h
        · exact .inr (.inl ⟨h1, by omega, h3⟩)
        · exact .inr (.inr ⟨h1, by omega, h3⟩)
        · exact .inr (.inl ⟨h1, by omega, by rw [h2]; exact hq⟩)
        · exact .inr (.inr ⟨h2, by omega, by rw [h1]; exact hq⟩)
      · rintro (h | ⟨h1, h2, h3⟩ | ⟨h1, h2, h3⟩)
        · exact .inl (.inl (.inl h))
        · by_cases he : c = k
          · exact .inl (.inr ⟨h1, he⟩)
          · exact .inl (.inl (.inr (.inl ⟨h1, by omega, h3⟩)))
        · by_cases he : a = k
          · exact .inr ⟨he, h1⟩
          · exact .inl (.inl (.inr (.inr ⟨h1, by omega, h3⟩)))
    · rename_i hq
      rw [ih]
      constructor
      · rintro (h | ⟨h1, h2, h3⟩ | ⟨h1, h2, h3⟩)
        · exact .inl h
        · exact .inr (.inl ⟨h1, by omega, h3⟩)
        · exact .inr (.inr ⟨h1, by omega, h3⟩)
      · rintro (h | ⟨h1, h2, h3⟩ | ⟨h1, h2, h3⟩)
        · exact .inl h
        · by_cases he : c = k
          · rw [he] at h3; exact absurd h3 hq
          · exact .inr (.inl ⟨h1, by omega, h3⟩)
        · by_cases he : a = k
          · rw [he] at h3; exact absurd h3 hq
          · exact .inr (.inr ⟨h1, by omega, h3⟩)
theorem clO_bit {b : Bk} {a c : Nat} : ∀ i, i ≤ b.reads.length → ((natAt (b.clO i) a).testBit c = true ↔ (a < i ∧ c < a ∧ b.clq a c = true) ∨ (c < i ∧ a < c ∧ b.clq c a = true))
  | 0, _ => by
    have : natAt (b.clO 0) a = 0 := by
      unfold Bk.clO natAt
      by_cases h : a < b.reads.length <;> simp [h]
    rw [this]; simp
  | i + 1, hi => by
    have ih := clO_bit (b := b) (a := a) (c := c) i (by omega)
    unfold Bk.clO
    rw [clI_bit (small_clO i (by omega)) (by omega) i (Nat.le_refl _), ih]
    constructor
    · rintro ((⟨h1, h2, h3⟩ | ⟨h1, h2, h3⟩) | ⟨h1, h2, h3⟩ | ⟨h1, h2, h3⟩)
      · exact .inl ⟨by omega, h2, h3⟩
      · exact .inr ⟨by omega, h2, h3⟩
      · subst h1; exact .inl ⟨by omega, h2, h3⟩
      · subst h1; exact .inr ⟨by omega, h2, h3⟩
    · rintro (⟨h1, h2, h3⟩ | ⟨h1, h2, h3⟩)
      · by_cases he : a = i
        · subst he; exact .inr (.inl ⟨rfl, h2, h3⟩)
        · exact .inl (.inl ⟨by omega, h2, h3⟩)
      · by_cases he : c = i
        · subst he; exact .inr (.inr ⟨rfl, h2, h3⟩)
        · exact .inl (.inr ⟨by omega, h2, h3⟩)
theorem alo_bit {b : Bk} {k : Nat} : ∀ i, (b.alo i).testBit k = true ↔ k < i ∧ b.alq k = true
  | 0 => by simp [Bk.alo]
  | i + 1 => by
    have ih := alo_bit (b := b) (k := k) i
    unfold Bk.alo
    split
    · rename_i hq
      rw [or_bit, Bool.or_eq_true, decide_eq_true_eq, ih]
      constructor
      · rintro (⟨h1, h2⟩ | rfl)
        · exact ⟨by omega, h2⟩
        · exact ⟨by omega, hq⟩
      · rintro ⟨h1, h2⟩
        by_cases he : k = i
        · exact .inr he
        · exact .inl ⟨by omega, h2⟩
    · rename_i hq
      rw [ih]
      constructor
      · rintro ⟨h1, h2⟩; exact ⟨by omega, h2⟩
      · rintro ⟨h1, h2⟩
        by_cases he : k = i
        · rw [he] at h2; exact absurd h2 hq
        · exact ⟨by omega, h2⟩
/-- What clashes with what, and what is alone. -/
abbrev Bk.cls (b : Bk) : List Nat := b.clO b.reads.length
abbrev Bk.als (b : Bk) : Nat := b.alo b.reads.length
theorem cls_len {b : Bk} : b.cls.length = b.reads.length := (small_clO (b := b) _ (Nat.le_refl _)).len
theorem cls_small {b : Bk} : Small b.cls.length b.cls := by rw [cls_len]; exact small_clO _ (Nat.le_refl _)
theorem cls_irr {b : Bk} (i : Nat) (_ : i < b.cls.length) : (natAt b.cls i).testBit i = false := by
  cases h : (natAt b.cls i).testBit i
  · rfl
  · rcases (clO_bit b.reads.length (Nat.le_refl _)).1 h with h | h <;> omega
theorem blMore_cov {b : Bk} : covF b.cls (b.blMore + 1) b.als 0 b.blMore = true ∧ b.blMore ≤ b.reads.length ∧ ∀ j, j < b.blMore → covF b.cls (j + 1) b.als 0 j = false := by
  unfold Bk.blMore
  cases h : (List.range (b.reads.length + 1)).find? fun m => covF (b.clO b.reads.length) (m + 1) (b.alo b.reads.length) 0 m with
  | none =>
    have := List.find?_eq_none.1 h b.reads.length (by simp)
    rw [cov_n] at this; exact absurd rfl this
  | some m =>
    obtain ⟨h1, h2, h3⟩ := List.find?_range_eq_some.1 h
    refine ⟨h1, by have := List.mem_range.1 h2; simp; omega, fun j hj => ?_⟩
    have := h3 j hj
    simpa using this
theorem blMore_min {b : Bk} {S : Nat → Bool} {m : Nat} (h : Able b.cls b.als 0 m S) : b.blMore ≤ m := by
  rcases Nat.lt_or_ge m b.blMore with hlt | hge
  · have h1 := blMore_cov.2.2 m hlt
    rw [(cov_able cls_small cls_irr (m + 1) b.als 0 m (by omega) (fun k _ => Nat.zero_testBit k)).2 ⟨S, h⟩] at h1
    cases h1
  · exact hge
theorem able_in {l : List Nat} {ig kp more i : Nat} {S : Nat → Bool} (h : Able l ig kp more S) (hS : S i = true) (hi : i < l.length) (hg : ig.testBit i = false) : 0 < more ∧ Able l (ig ||| 2 ^ i) kp (more - 1) S := by
  have he := extra_or (n := l.length) (ig := ig) (R := 2 ^ i) (S := S) (fun k hk => by
    rw [Nat.testBit_two_pow, decide_eq_true_eq] at hk
    subst hk; exact ⟨hS, hg⟩)
  rw [manyTo_pow, if_pos hi] at he
  have hm := h.fm
  refine ⟨by omega, fun k hk => ?_, h.fk, by omega, h.hits⟩
  rw [or_bit, Bool.or_eq_true, decide_eq_true_eq] at hk
  rcases hk with hk | rfl
  · exact h.fi k hk
  · exact hS
structure BlInv (b : Bk) (i : Nat) (s : Bl) : Prop where
  disj : ∀ k, s.ig.testBit k = true → s.kp.testBit k = false
  dec : ∀ k, k < i → s.ig.testBit k = true ∨ s.kp.testBit k = true
  kpl : ∀ k, s.kp.testBit k = true → k < i
  igl : ∀ k, i ≤ k → s.ig.testBit k = true → b.als.testBit k = true
  alo : ∀ k, b.als.testBit k = true → s.ig.testBit k = true
  sum : manyTo s.ig b.reads.length + s.more = manyTo b.als b.reads.length + b.blMore
  able : ∃ S, Able b.cls s.ig s.kp s.more S
theorem blInv_step {b : Bk} {i : Nat} {s : Bl} (hi : i < b.reads.length) (h : BlInv b i s) : BlInv b (i + 1) (blStep b.cls s i) := by
  have hil : i < b.cls.length := by rw [cls_len]; exact hi
  have hki : s.kp.testBit i = false := by
    cases hk : s.kp.testBit i
    · rfl
    · have := h.kpl i hk; omega
  cases hig : s.ig.testBit i
  · have hdj : ∀ k, (s.ig ||| 2 ^ i).testBit k = true → s.kp.testBit k = false := fun k hk => by
      rw [or_bit, Bool.or_eq_true, decide_eq_true_eq] at hk
      rcases hk with hk | rfl
      · exact h.disj k hk
      · exact hki
    by_cases hc : 0 < s.more ∧ covF b.cls s.more (s.ig ||| 2 ^ i) s.kp (s.more - 1) = true
    · rw [blStep_yes hig hc.1 hc.2]
      refine ⟨hdj, fun k hk => ?_, fun k hk => by have := h.kpl k hk; omega, fun k hk hb => ?_, fun k hk => by simp only [or_bit, h.alo k hk, Bool.true_or], ?_, ?_⟩
      · simp only [or_bit, Bool.or_eq_true, decide_eq_true_eq]
        by_cases he : k = i
        · exact .inl (.inr he)
        · rcases h.dec k (by omega) with h1 | h1
          · exact .inl (.inl h1)
          · exact .inr h1
      · simp only [or_bit, Bool.or_eq_true, decide_eq_true_eq] at hb
        rcases hb with hb | rfl
        · exact h.igl k (by omega) hb
        · omega
      · have := h.sum
        have := many_or hi hig
        simp only; omega
      · exact (cov_able cls_small cls_irr s.more (s.ig ||| 2 ^ i) s.kp (s.more - 1) (by omega) hdj).1 hc.2
    · rw [blStep_no hig hc]
      refine ⟨fun k hk => ?_, fun k hk => ?_, fun k hk => ?_, fun k hk hb => h.igl k (by omega) hb, h.alo, h.sum, ?_⟩
      · simp only [or_bit, Bool.or_eq_false_iff, decide_eq_false_iff_not]
        exact ⟨h.disj k hk, fun e => by rw [e, hig] at hk; cases hk⟩
      · simp only [or_bit, Bool.or_eq_true, decide_eq_true_eq]
        by_cases he : k = i
        · exact .inr (.inr he)
        · rcases h.dec k (by omega) with h1 | h1
          · exact .inl h1
          · exact .inr (.inl h1)
      · simp only [or_bit, Bool.or_eq_true, decide_eq_true_eq] at hk
        rcases hk with hk | rfl
        · have := h.kpl k hk; omega
        · omega
      · obtain ⟨S, hS⟩ := h.able
        have hSi : S i = false := by
          cases hh : S i
          · rfl
          · obtain ⟨h1, h2⟩ := able_in hS hh hil hig
            exact absurd ⟨h1, (cov_able cls_small cls_irr s.more (s.ig ||| 2 ^ i) s.kp (s.more - 1) (by omega) hdj).2 ⟨S, h2⟩⟩ hc
        refine ⟨S, hS.fi, fun k hk => ?_, hS.fm, hS.hits⟩
        rw [or_bit, Bool.or_eq_true, decide_eq_true_eq] at hk
        rcases hk with hk | rfl
        · exact hS.fk k hk
        · exact hSi
  · rw [blStep_in hig]
    refine ⟨h.disj, fun k hk => ?_, fun k hk => by have := h.kpl k hk; omega, fun k hk hb => h.igl k (by omega) hb, h.alo, h.sum, h.able⟩
    by_cases he : k = i
    · rw [he]; exact .inl hig
    · exact h.dec k (by omega)
theorem bl_inv {b : Bk} : ∀ i, i ≤ b.reads.length → BlInv b i (b.blTo i)
  | 0, _ => ⟨fun k _ => Nat.zero_testBit k, fun k hk => absurd hk (Nat.not_lt_zero _), fun k hk => by simp [Bk.blTo] at hk, fun k _ hk => hk, fun k hk => hk, rfl,
      (cov_able cls_small cls_irr _ _ _ _ (Nat.lt_succ_self _) (fun k _ => Nat.zero_testBit k)).1 blMore_cov.1⟩
  | i + 1, hi => blInv_step (by omega) (bl_inv i (by omega))
theorem bl_mono1 {s : Bl} {l : List Nat} {i k : Nat} : (s.ig.testBit k = true → (blStep l s i).ig.testBit k = true) ∧ (s.kp.testBit k = true → (blStep l s i).kp.testBit k = true) := by
  unfold blStep
  split
  · exact ⟨id, id⟩
  · split
    · exact ⟨fun h => by simp only [or_bit, h, Bool.true_or], id⟩
    · exact ⟨id, fun h => by simp only [or_bit, h, Bool.true_or]⟩
theorem bl_mono {b : Bk} {i k : Nat} : ∀ {j : Nat}, i ≤ j → ((b.blTo i).ig.testBit k = true → (b.blTo j).ig.testBit k = true) ∧ ((b.blTo i).kp.testBit k = true → (b.blTo j).kp.testBit k = true)
  | 0, h => by obtain rfl : i = 0 := by omega
               exact ⟨id, id⟩
  | j + 1, h => by
    by_cases he : i = j + 1
    · subst he; exact ⟨id, id⟩
    · have ih := bl_mono (b := b) (i := i) (k := k) (j := j) (by omega)
      exact ⟨fun h => bl_mono1.1 (ih.1 h), fun h => bl_mono1.2 (ih.2 h)⟩
/-- What is picked in the end. -/
def Bk.pick (b : Bk) : Nat → Bool := (b.blTo b.reads.length).ig.testBit
theorem pick_able {b : Bk} : Able b.cls (b.blTo b.reads.length).ig (b.blTo b.reads.length).kp (b.blTo b.reads.length).more b.pick := by
  have hI := bl_inv (b := b) _ (Nat.le_refl _)
  have hO := blTo_ok (b := b) blMore_cov.2.1 _ (Nat.le_refl _)
  obtain ⟨S, hS⟩ := hI.able
  refine able_congr cls_small (by rw [cls_len]; exact hO.ig) (by rw [cls_len]; exact hO.kp) (fun k hk => ?_) hS
  rw [cls_len] at hk
  rcases hI.dec k hk with h | h
  · rw [hS.fi k h]; exact h.symm
  · rw [hS.fk k h]
    unfold Bk.pick
    cases hp : (b.blTo b.reads.length).ig.testBit k
    · rfl
    · rw [hI.disj k hp] at h; cases h
theorem pick_cnt {b : Bk} : cntN b.reads.length b.pick = manyTo b.als b.reads.length + b.blMore ∧ (b.blTo b.reads.length).more = 0 := by
  have hI := bl_inv (b := b) _ (Nat.le_refl _)
  have h1 := cnt_ig (n := b.reads.length) (S := b.pick) hI.alo
  have h2 : cntN b.reads.length b.pick = manyTo (b.blTo b.reads.length).ig b.reads.length := rfl
  have h3 : b.blMore ≤ extra b.cls.length b.als b.pick := blMore_min (S := b.pick) ⟨hI.alo, fun k hk => by simp at hk, Nat.le_refl _, pick_able.hits⟩
  rw [cls_len] at h3
  have := hI.sum
  omega
theorem pick_len {b : Bk} : b.blame.length = manyTo b.als b.reads.length + b.blMore := by
  rw [← pick_cnt.1]
  exact List.countP_eq_length_filter.symm
/-- No set of so many that leaves no clash comes ahead. -/
theorem pick_first {b : Bk} {i : Nat} (hi : i < b.reads.length) (hf : b.pick i = false) {S : Nat → Bool} (hb : ∀ k, k < i → S k = b.pick k) (hS : S i = true) (ha : ∀ k, b.als.testBit k = true → S k = true) (hh : hitsB b.cls S) (hc : cntN b.reads.length S = manyTo b.als b.reads.length + b.blMore) : False := by
  have hI := bl_inv (b := b) i (by omega)
  have hN := bl_inv (b := b) _ (Nat.le_refl _)
  have hig : ∀ k, (b.blTo i).ig.testBit k = true → S k = true := fun k hk => by
    by_cases h : k < i
    · rw [hb k h]; exact (bl_mono (k := k) (by omega)).1 hk
    · exact ha k (hI.igl k (by omega) hk)
  have hkp : ∀ k, (b.blTo i).kp.testBit k = true → S k = false := fun k hk => by
    have h1 := hI.kpl k hk
    rw [hb k h1]
    unfold Bk.pick
    cases hp : (b.blTo b.reads.length).ig.testBit k
    · rfl
    · have h2 := (bl_mono (b := b) (k := k) (show i ≤ b.reads.length by omega)).2 hk
      rw [hN.disj k hp] at h2; cases h2
  have hcnt := cnt_ig (n := b.reads.length) hig
  have hsum := hI.sum
  have hgi : (b.blTo i).ig.testBit i = false := by
    cases h : (b.blTo i).ig.testBit i
    · rfl
    · have := (bl_mono (b := b) (k := i) (show i ≤ b.reads.length by omega)).1 h
      unfold Bk.pick at hf
      rw [this] at hf; cases hf
  have hAb : Able b.cls (b.blTo i).ig (b.blTo i).kp (b.blTo i).more S := ⟨hig, hkp, by rw [cls_len]; omega, hh⟩
  obtain ⟨h1, h2⟩ := able_in hAb hS (by rw [cls_len]; exact hi) hgi
  have hki : (b.blTo i).kp.testBit i = false := by
    cases hk : (b.blTo i).kp.testBit i
    · rfl
    · have := hI.kpl i hk; omega
  have hcv := (cov_able cls_small cls_irr (b.blTo i).more _ _ _ (by omega) (fun k hk => by
    rw [or_bit, Bool.or_eq_true, decide_eq_true_eq] at hk
    rcases hk with hk | rfl
    · exact hI.disj k hk
    · exact hki)).2 ⟨S, h2⟩
  have hst : (b.blTo (i + 1)).ig.testBit i = true := by
    show (blStep b.cls (b.blTo i) i).ig.testBit i = true
    rw [blStep_yes hgi h1 hcv]
    simp [or_bit]
  have := (bl_mono (b := b) (k := i) (show i + 1 ≤ b.reads.length by omega)).1 hst
  unfold Bk.pick at hf
  rw [this] at hf; cases hf
/-- A book without some readings. -/
def Bk.without (b : Bk) (S : Nat → Bool) : Bk := ⟨b.first, b.flows, ((List.range b.reads.length).filter fun i => !S i).map (rdAt b.reads)⟩
theorem mem_without {b : Bk} {S : Nat → Bool} {r : Rd} : r ∈ (b.without S).reads ↔ ∃ i, i < b.reads.length ∧ S i = false ∧ r = rdAt b.reads i := by
  simp only [Bk.without, List.mem_map, List.mem_filter, List.mem_range, Bool.not_eq_true']
  constructor
  · rintro ⟨i, ⟨h1, h2⟩, rfl⟩; exact ⟨i, h1, h2, rfl⟩
  · rintro ⟨i, h1, h2, rfl⟩; exact ⟨i, ⟨h1, h2⟩, rfl⟩
theorem without_len {b : Bk} {S : Nat → Bool} : (b.without S).reads.length ≤ b.reads.length := by
  have := List.length_filter_le (fun i => !S i) (List.range b.reads.length)
  simpa [Bk.without] using this
theorem without_ok {b : Bk} (ok : Ok b) (S : Nat → Bool) : Ok (b.without S) := by
  refine ⟨ok.nz, ok.nd, by have := without_len (b := b) (S := S); have := ok.nr; omega, ok.first, ok.rows, ok.flows, fun k hk => ?_⟩
  have hm : rdAt (b.without S).reads k ∈ (b.without S).reads := by simp [rdAt, hk]
  obtain ⟨i, hi, -, e⟩ := mem_without.1 hm
  rw [e]; exact ok.reads i hi
theorem without_cum {b : Bk} {S : Nat → Bool} {g : Gs} {z : Nat} : ∀ k, (b.without S).cumLo g z k = b.cumLo g z k ∧ (b.without S).cumHi g z k = b.cumHi g z k
  | 0 => ⟨rfl, rfl⟩
  | k + 1 => by
    obtain ⟨h1, h2⟩ := without_cum (b := b) (S := S) (g := g) (z := z) k
    simp only [Bk.cumLo, Bk.cumHi, h1, h2]
    exact ⟨rfl, rfl⟩
theorem without_pair {b : Bk} {S : Nat → Bool} {g : Gs} {z : Nat} {x y : Kn} : (b.without S).pairOk g z x y ↔ b.pairOk g z x y := by
  unfold Bk.pairOk
  rw [(without_cum _).1, (without_cum _).1, (without_cum _).2, (without_cum _).2]
theorem clash_pair {b : Bk} {z : Nat} {x y : Kn} (hx : -1 ≤ x.day) (h : x.day ≤ y.day) : b.clashB z x y = false ↔ b.pairOk noGs z x y := by
  rw [clash_le (by omega), Bool.or_eq_false_iff, decide_eq_false_iff_not, decide_eq_false_iff_not, (came_lo hx h).1, (came_lo hx h).2]
  unfold Bk.pairOk
  omega
theorem came_same {b : Bk} {z : Nat} (d : Int) : b.came z d d = ⟨0, 0⟩ := by
  unfold Bk.came; rw [show (d - d).toNat = 0 by omega]; rfl
theorem clash_symm {b : Bk} {z : Nat} {x y : Kn} : b.clashB z x y = b.clashB z y x := by
  by_cases h1 : y.day < x.day
  · rw [clash_gt h1, clash_le (show ¬ x.day < y.day by omega)]
  · by_cases h2 : x.day < y.day
    · rw [clash_le h1, clash_gt h2]
    · rw [clash_le h1, clash_le h2, show y.day = x.day by omega, came_same]
      simp only [Int.add_zero]
      exact Bool.or_comm _ _
/-- A book without some readings agrees without a leak just if these leave no clash. -/
theorem agree_without {b : Bk} (ok : Ok b) (S : Nat → Bool) : (b.without S).agreeB noGs = true ↔ (∀ i, b.als.testBit i = true → S i = true) ∧ hitsB b.cls S := by
  have hzo : ∀ i, i < b.reads.length → b.zoR i < b.first.length ∧ (rdAt b.reads i).zone = (b.zoR i : Int) := fun i hi => by
    have := ok.reads i hi
    unfold Bk.zoR; omega
  rw [Bk.agreeB, List.all_eq_true]
  have hzp : ∀ z, z < b.first.length → ((b.without S).zoneB noGs z = true ↔ ∀ x y, x ∈ (b.without S).allK z → y ∈ (b.without S).allK z → x.day ≤ y.day → b.pairOk noGs z x y) := fun z hz => by
    rw [zone_pairs (without_ok ok S) (show z < (b.without S).first.length from hz)]
    exact ⟨fun h x y hx hy hd => without_pair.1 (h x y hx hy hd), fun h x y hx hy hd => without_pair.2 (h x y hx hy hd)⟩
  have hin : ∀ i, i < b.reads.length → S i = false → b.knR i ∈ (b.without S).allK (b.zoR i) := fun i hi hs =>
    mem_allK_iff.2 (.inr ⟨_, mem_without.2 ⟨i, hi, hs, rfl⟩, (hzo i hi).2, rfl⟩)
  have hd0 : ∀ i, i < b.reads.length → 0 ≤ (b.knR i).day := fun i hi => (ok.reads i hi).1
  constructor
  · intro h
    have hnc : ∀ i k, i < b.reads.length → k < b.reads.length → S i = false → S k = false → (rdAt b.reads k).zone = (rdAt b.reads i).zone → b.clashB (b.zoR i) (b.knR k) (b.knR i) = false := by
      intro i k hi hk hsi hsk hz
      have hZ := (hzp _ (hzo i hi).1).1 (h _ (List.mem_range.2 (hzo i hi).1))
      have ez : b.zoR k = b.zoR i := by unfold Bk.zoR; rw [hz]
      have m1 := hin i hi hsi
      have m2 := hin k hk hsk
      rw [ez] at m2
      have := hd0 i hi
      have := hd0 k hk
      by_cases hd : (b.knR k).day ≤ (b.knR i).day
      · exact (clash_pair (by omega) hd).2 (hZ _ _ m2 m1 hd)
      · rw [clash_symm]; exact (clash_pair (by omega) (by omega)).2 (hZ _ _ m1 m2 (by omega))
    refine ⟨fun i hi => ?_, fun i hi hs k hk => ?_⟩
    · obtain ⟨hi1, hi2⟩ := (alo_bit _).1 hi
      cases hs : S i
      · exfalso
        have hZ := (hzp _ (hzo i hi1).1).1 (h _ (List.mem_range.2 (hzo i hi1).1))
        have hf : (⟨-1, spAt b.first (b.zoR i)⟩ : Kn) ∈ (b.without S).allK (b.zoR i) := mem_allK_iff.2 (.inl rfl)
        have := hd0 i hi1
        have hp := hZ _ _ hf (hin i hi1 hs) (by simp only; omega)
        have := (clash_pair (by simp) (by simp only; omega)).2 hp
        unfold Bk.alq at hi2
        rw [this] at hi2; cases hi2
      · rfl
    · rw [cls_len] at hi
      cases hsk : S k
      · exfalso
        rcases (clO_bit _ (Nat.le_refl _)).1 hk with ⟨h1, h2, h3⟩ | ⟨h1, h2, h3⟩
        · simp only [Bk.clq, Bool.and_eq_true, decide_eq_true_eq] at h3
          have := hnc i k hi (by omega) hs hsk h3.1
          rw [this] at h3; cases h3.2
        · simp only [Bk.clq, Bool.and_eq_true, decide_eq_true_eq] at h3
          have := hnc k i (by omega) hi hsk hs h3.1
          rw [this] at h3; cases h3.2
      · rfl
  · rintro ⟨ha, hh⟩ z hz
    have hz := List.mem_range.1 hz
    refine (hzp z hz).2 fun x y hx hy hd => ?_
    have hal : ∀ i, i < b.reads.length → S i = false → (rdAt b.reads i).zone = (z : Int) → b.pairOk noGs z ⟨-1, spAt b.first z⟩ (b.knR i) := by
      intro i hi hs hzi
      have ez : b.zoR i = z := by unfold Bk.zoR; omega
      have hq : b.alq i = false := by
        cases hq : b.alq i
        · rfl
        · rw [ha i ((alo_bit _).2 ⟨hi, hq⟩)] at hs; cases hs
      unfold Bk.alq at hq
      rw [ez] at hq
      have := hd0 i hi
      exact (clash_pair (by simp) (by simp only; omega)).1 hq
    have hself : ∀ u, u ∈ b.allK z → b.pairOk noGs z u u := by
      intro u hu
      have := mem_allK ok hz hu
      unfold Bk.pairOk; omega
    rcases mem_allK_iff.1 hx with rfl | ⟨r, hr, hrz, rfl⟩
    · rcases mem_allK_iff.1 hy with rfl | ⟨q, hq, hqz, rfl⟩
      · exact hself _ (mem_allK_iff.2 (.inl rfl))
      · obtain ⟨i, hi, hs, rfl⟩ := mem_without.1 hq
        exact hal i hi hs hqz
    · obtain ⟨i, hi, hs, rfl⟩ := mem_without.1 hr
      rcases mem_allK_iff.1 hy with rfl | ⟨q, hq, hqz, rfl⟩
      · have := hd0 i hi
        simp only [Bk.knR] at this
        simp only at hd
        omega
      · obtain ⟨k, hk, hsk, rfl⟩ := mem_without.1 hq
        by_cases hik : i = k
        · subst hik
          exact hself _ (mem_allK_iff.2 (.inr ⟨_, by simp [rdAt, hi], hrz, rfl⟩))
        · have hnot : ∀ i k, i < b.reads.length → k < i → S i = false → S k = false → (rdAt b.reads i).zone = (z : Int) → (rdAt b.reads k).zone = (z : Int) → b.clashB z (b.knR k) (b.knR i) = false := by
            intro i k hi hki hs hsk hzi hzk
            have hq : b.clq i k = false := by
              cases hq : b.clq i k
              · rfl
              · have := hh i (by rw [cls_len]; exact hi) hs k ((clO_bit _ (Nat.le_refl _)).2 (.inl ⟨hi, hki, hq⟩))
                rw [hsk] at this; cases this
            unfold Bk.clq at hq
            rw [show b.zoR i = z by unfold Bk.zoR; omega, hzi, hzk] at hq
            simpa using hq
          have hda := hd0 i hi
          rcases Nat.lt_or_ge i k with hlt | hge
          · exact (clash_pair (by simp only [Bk.knR] at hda; simp only; omega) hd).1 (hnot k i hk hlt hsk hs hqz hrz)
          · have := hnot i k hi (by omega) hs hsk hrz hqz
            rw [clash_symm] at this
            exact (clash_pair (by simp only [Bk.knR] at hda; simp only; omega) hd).1 this
/-- Whether a list of readings, ignored, leaves a book that agrees without a leak. -/
def Bk.fit (b : Bk) (l : List Nat) : Bool := (b.without l.contains).agreeB noGs
theorem without_congr {b : Bk} {S T : Nat → Bool} (h : ∀ k, k < b.reads.length → S k = T k) : b.without S = b.without T := by
  unfold Bk.without
  congr 2
  exact List.filter_congr fun k hk => by rw [h k (List.mem_range.1 hk)]
theorem pick_agree {b : Bk} (ok : Ok b) : (b.without b.pick).agreeB noGs = true :=
  (agree_without ok _).2 ⟨(bl_inv _ (Nat.le_refl _)).alo, pick_able.hits⟩
theorem blame_has {b : Bk} {k : Nat} (hk : k < b.reads.length) : b.blame.contains k = b.pick k := by
  rw [Bool.eq_iff_iff, List.contains_iff_mem]
  unfold Bk.blame Bk.pick
  simp [hk]
theorem fit_blame {b : Bk} (ok : Ok b) : b.fit b.blame = true := by
  unfold Bk.fit
  rw [without_congr (T := b.pick) fun k hk => blame_has hk]
  exact pick_agree ok
/-- No fewer can be ignored. -/
theorem blame_least {b : Bk} (ok : Ok b) {S : Nat → Bool} (h : (b.without S).agreeB noGs = true) : b.blame.length ≤ cntN b.reads.length S := by
  obtain ⟨ha, hh⟩ := (agree_without ok S).1 h
  have h1 : b.blMore ≤ extra b.cls.length b.als S := blMore_min (S := S) ⟨ha, fun k hk => by simp at hk, Nat.le_refl _, hh⟩
  rw [cls_len] at h1
  have h2 := cnt_ig (n := b.reads.length) ha
  rw [pick_len]; omega
theorem cnt_list {n m : Nat} {l : List Nat} (h : l ∈ setsD n 0 m) : cntN n l.contains = m := by
  unfold cntN
  rw [List.range_eq_range']
  exact setsD_cnt h
theorem fit_less {b : Bk} (ok : Ok b) {m : Nat} (hm : m < b.blame.length) {l : List Nat} (hl : l ∈ setsD b.reads.length 0 m) : b.fit l = false := by
  cases h : b.fit l
  · rfl
  · have := blame_least ok h
    rw [cnt_list hl] at this; omega
/-- The least blame is the first list of so many readings that can be ignored. -/
theorem fit_first {b : Bk} (ok : Ok b) : (setsD b.reads.length 0 b.blame.length).find? b.fit = some b.blame := by
  have h := setsD_find (t := b.pick) (P := b.fit) (n := b.reads.length) (M := b.blame.length) rfl (fit_blame ok) ?_ b.reads.length 0 b.blame.length (by omega) (by simp)
  · rw [← List.range_eq_range'] at h
    simp only [List.range_zero, List.filter_nil, List.nil_append] at h
    exact h
  · intro i d m hid ht hM l hl
    cases hf : b.fit ((List.range i).filter b.pick ++ i :: l)
    · rfl
    · exfalso
      obtain ⟨ha, hh⟩ := (agree_without ok _).1 hf
      have hml := mem_setsD hl
      have hlow : ∀ k, k < i → ((List.range i).filter b.pick ++ i :: l).contains k = b.pick k := fun k hk => by
        rw [Bool.eq_iff_iff, List.contains_iff_mem]
        simp only [List.mem_append, List.mem_filter, List.mem_range, List.mem_cons]
        constructor
        · rintro (h | rfl | h)
          · exact h.2
          · omega
          · have := hml.2 k h; omega
        · intro h; exact .inl ⟨hk, h⟩
      have hat : ((List.range i).filter b.pick ++ i :: l).contains i = true := by
        rw [List.contains_iff_mem]; simp
      have hup : ∀ k, i < k → ((List.range i).filter b.pick ++ i :: l).contains k = l.contains k := fun k hk => by
        rw [Bool.eq_iff_iff, List.contains_iff_mem, List.contains_iff_mem]
        simp only [List.mem_append, List.mem_filter, List.mem_range, List.mem_cons]
        constructor
        · rintro (h | rfl | h)
          · omega
          · omega
          · exact h
        · intro h; exact .inr (.inr h)
      refine pick_first (by omega) ht (fun k hk => hlow k hk) hat ha hh ?_
      rw [← pick_len, ← hM]
      unfold cntN
      have er : List.range b.reads.length = List.range i ++ List.range' i (d + 1) := by
        have := filt_split (t := fun _ => true) (i := i) (d := d + 1)
        rw [List.filter_eq_self.2 (fun _ _ => rfl), List.filter_eq_self.2 (fun _ _ => rfl), List.filter_eq_self.2 (fun _ _ => rfl)] at this
        rw [← this]; congr 1; omega
      rw [er, List.countP_append, List.range'_succ, List.countP_cons]
      rw [show (List.range i).countP (((List.range i).filter b.pick ++ i :: l).contains) = ((List.range i).filter b.pick).length by
        rw [← List.countP_eq_length_filter]
        exact List.countP_congr fun k hk => by rw [hlow k (List.mem_range.1 hk)]]
      rw [show (List.range' (i + 1) d).countP (((List.range i).filter b.pick ++ i :: l).contains) = m by
        rw [← setsD_cnt hl]
        exact List.countP_congr fun k hk => by rw [hup k (by have := List.mem_range'_1.1 hk; omega)]]
      rw [hat]; simp
end Lk
