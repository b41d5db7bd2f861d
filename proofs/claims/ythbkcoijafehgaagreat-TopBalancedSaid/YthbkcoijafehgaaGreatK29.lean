/- Laws and walks: GTsp, Tbp, Lix, Lcp. -/
import Derived.Test.YthbkcoijafehgaaGreatK15
import Derived.Test.YthbkcoijafehgaaGreatK17
import Derived.Test.YthbkcoijafehgaaGreatK19
import Derived.Test.YthbkcoijafehgaaGreatK20
import Derived.Test.YthbkcoijafehgaaGreatK28
set_option linter.unusedVariables false
set_option linter.unusedSimpArgs false
namespace Gas
/-- The state ahead of an operation. -/
def stBefore (s : St) (r : List St) (i : Nat) : St := if i = 0 then s else theSt r (i - 1)
theorem stepsFrom_spec {c : Cav} : ∀ (l : List Op) (s : St) (acc : List St) (k : Nat) {r : List St} {n : Int}, stepsFrom c l s acc k = (r, n) →
    ∃ q, r = acc ++ q ∧ ((n = -1 ∧ q.length = l.length) ∨ (n = k + q.length ∧ q.length < l.length)) ∧ ∀ i, i < q.length → ∃ o, act c (stBefore s q i) (theOp l i) = some (theSt q i, o)
  | [], s, acc, k, r, n, h => by
    simp only [stepsFrom, Prod.mk.injEq] at h
    exact ⟨[], by simp [h.1], .inl ⟨h.2.symm, rfl⟩, fun i hi => by simp at hi⟩
  | o :: l, s, acc, k, r, n, h => by
    simp only [stepsFrom] at h
    cases hx : act c s o with
    | none =>
      rw [hx] at h
      simp only [Prod.mk.injEq] at h
      exact ⟨[], by simp [h.1], .inr ⟨by simp [← h.2], by simp⟩, fun i hi => by simp at hi⟩
    | some y =>
      obtain ⟨y, g⟩ := y
      rw [hx] at h
      obtain ⟨q, h1, h2, h3⟩ := stepsFrom_spec l y _ _ h
      refine ⟨y :: q, by simp [h1], ?_, fun i hi => ?_⟩
      · rcases h2 with ⟨h2, h4⟩ | ⟨h2, h4⟩
        · exact .inl ⟨h2, by simp [h4]⟩
        · exact .inr ⟨by simp at h2 ⊢; omega, by simpa using h4⟩
      · match i, hi with
        | 0, _ => exact ⟨g, by simpa [stBefore, theOp, theSt] using hx⟩
        | i + 1, hi =>
          obtain ⟨o', h5⟩ := h3 i (by simpa using hi)
          refine ⟨o', ?_⟩
          have e1 : stBefore s (y :: q) (i + 1) = stBefore y q i := by
            unfold stBefore
            rw [if_neg (by omega)]
            cases i with
            | zero => rfl
            | succ i => rw [if_neg (by omega)]; simp [theSt]
          have e2 : theOp (o :: l) (i + 1) = theOp l i := by simp [theOp]
          have e3 : theSt (y :: q) (i + 1) = theSt q i := by simp [theSt]
          rw [e1, e2, e3]; exact h5
theorem steps_spec {c : Cav} {l : List Op} {s : St} {r : List St} {n : Int} (h : steps c s l = (r, n)) :
    ((n = -1 ∧ r.length = l.length) ∨ (n = r.length ∧ r.length < l.length)) ∧ ∀ i, i < r.length → ∃ o, act c (stBefore s r i) (theOp l i) = some (theSt r i, o) := by
  obtain ⟨q, h1, h2, h3⟩ := stepsFrom_spec l s [] 0 h
  rw [List.nil_append] at h1
  subst h1
  exact ⟨by simpa using h2, h3⟩
theorem playErr_ok1 {c : Cav} {p : Pt} {l : List Gas.Op} {xa xb : List Int} (h1 : l.length ≤ 20) (h2 : c.ok = true) (h3 : p.ok = true) (h4 : opsB l = true) (h5 : truthB l xa xb = true) : playErr c p l xa xb = 0 := by
  unfold playErr
  rw [if_neg (by omega), h2, h3, h4, h5]; rfl
end Gas
namespace Go.Proofs.YthbkcoijafehgaaGreat.G
open Go.RowKit Go.Sd Gas
/-- What 'l[k:k+1]' is. -/
def oneV (b off m k cap : Nat) : Value := .slice (some ⟨b, off + k * m, none⟩) 1 (cap - k)
def oneI (b off k cap : Nat) : Value := .slice (some ⟨b, off + k, none⟩) 1 (cap - k)
theorem ops_one {w : World} {b off cap : Nat} {xs : List Gas.Op} (hm : xs.length ≤ maxLen) {k : Nat} (hk : OpCells w b (off + k * 10) (theOp xs k)) (hb : b < w.heap.size) : OpsAt w (oneV b off 10 k cap) [theOp xs k] := by
  refine ⟨_, _, rfl, by simp [maxLen], fun _ => ⟨b, off + k * 10, rfl, hb, fun j hj => ?_⟩⟩
  obtain rfl : j = 0 := by simp at hj; omega
  simpa [theOp] using hk
theorem ints_one {w : World} {b off cap : Nat} {u : Int} {k : Nat} (hk : w.cell? ⟨b, off + k, none⟩ = some (.int .i64 u)) (hb : b < w.heap.size) : IntsAt w (oneI b off k cap) [u] := by
  refine ⟨_, _, rfl, by simp [maxLen], fun _ => ⟨b, off + k, rfl, hb, fun j hj => ?_⟩⟩
  obtain rfl : j = 0 := by simp at hj; omega
  simpa [at0] using hk
end Go.Proofs.YthbkcoijafehgaaGreat.G
set_option linter.unusedVariables false
set_option linter.unusedSimpArgs false
namespace Tb
open Lk
/-- The book of a cavern: what it has at first, what comes on each day, and a reading at the end of each day. -/
def bk (lo hi : Int) (came m wd : Nat → Int) (n : Nat) : Bk := ⟨[⟨lo, hi⟩], (List.range n).map fun d : Nat => [⟨came d, came d⟩], (List.range n).map fun d : Nat => ⟨(d : Int), 0, ⟨m d - wd d, m d + wd d⟩⟩⟩
structure Bd (lo hi : Int) (came m wd : Nat → Int) (n : Nat) : Prop where
  len : 1 ≤ n ∧ n ≤ 12
  fst : 0 ≤ lo ∧ lo ≤ hi ∧ hi ≤ 2000000
  cm : ∀ d, d < n → -2000000 ≤ came d ∧ came d ≤ 2000000
  ms : ∀ d, d < n → -20000000 ≤ m d ∧ m d ≤ 20000000
  wds : ∀ d, d < n → 0 ≤ wd d ∧ wd d ≤ 1000
variable {lo hi : Int} {came m wd : Nat → Int} {n : Nat}
theorem bk_book (h : Bd lo hi came m wd n) : (bk lo hi came m wd n).bookB = true ∧ (bk lo hi came m wd n).longB = false := by
  have h1 := h.len; have h2 := h.fst
  constructor
  · simp only [Bk.bookB, Bk.flowB, Bk.rdB, Bool.and_eq_true, inB_iff, spB_iff, List.all_eq_true, decide_eq_true_eq, bk, List.length_map, List.length_range, List.length_cons, List.length_nil, List.mem_map, List.mem_range, List.mem_cons, List.not_mem_nil, or_false]
    refine ⟨⟨⟨?_, ?_⟩, ?_⟩, by omega, by omega⟩
    · rintro x rfl; simp only; omega
    · rintro x ⟨d, hd, rfl⟩
      refine ⟨rfl, ?_⟩
      rintro y hy
      obtain rfl : y = ⟨came d, came d⟩ := by simpa using hy
      have := h.cm d hd; simp only; omega
    · rintro x ⟨d, hd, rfl⟩
      have := h.ms d hd; have := h.wds d hd; simp only; omega
  · simp only [Bk.longB, bk, List.length_map, List.length_range, Bool.or_eq_false_iff, decide_eq_false_iff_not]; omega
theorem bk_err (h : Bd lo hi came m wd n) : (bk lo hi came m wd n).err true = 0 := by
  obtain ⟨h1, h2⟩ := bk_book h
  unfold Bk.err; rw [h1, h2]; rfl
theorem bk_okb (h : Bd lo hi came m wd n) : Ok (bk lo hi came m wd n) := ok_of (bk_book h).1 (bk_book h).2
/-- A truth with or without a leak agrees, and lies within the bounds. -/
theorem bk_truth (h : Bd lo hi came m wd n) {g : Gs} {c : Nat → Int} (h0 : lo ≤ c 0 ∧ c 0 ≤ hi) (hs : ∀ k, k < n → c (k + 1) = c k + came k - lost g 0 k) (hm : ∀ k, k < n → m k = c (k + 1)) : TruthZ (bk lo hi came m wd n) g 0 c := by
  refine ⟨fun k hk => ?_, fun x hx => ?_⟩
  · have hk' : k < n := by simpa [bk] using hk
    have e : (bk lo hi came m wd n).flowAt k 0 = ⟨came k, came k⟩ := by
      unfold Bk.flowAt bk
      rw [rwAt_range hk']; rfl
    have := hs k hk'
    simp only [Bk.comes, e]; simp only [Int.natCast_zero] at *; omega
  · rcases mem_allK_iff.1 hx with rfl | ⟨r, hr, _, rfl⟩
    · show (spAt [⟨lo, hi⟩] 0).lo ≤ c ((-1 : Int) + 1).toNat ∧ _
      exact h0
    · simp only [bk, List.mem_map, List.mem_range] at hr
      obtain ⟨d, hd, rfl⟩ := hr
      have h3 := hm d hd
      have h4 := h.wds d hd
      simp only
      rw [show ((d : Int) + 1).toNat = d + 1 by omega]
      omega
theorem bk_agree (h : Bd lo hi came m wd n) {g : Gs} {c : Nat → Int} (h0 : lo ≤ c 0 ∧ c 0 ≤ hi) (hs : ∀ k, k < n → c (k + 1) = c k + came k - lost g 0 k) (hm : ∀ k, k < n → m k = c (k + 1)) : (bk lo hi came m wd n).agreeB g = true := by
  rw [Bk.agreeB, List.all_eq_true]
  intro z hz
  have hz1 : z < 1 := by simpa [bk] using hz
  obtain rfl : z = 0 := by omega
  exact truth_zone (bk_okb h) (by simp [bk]) (bk_truth h h0 hs hm)
theorem bk_bnd (h : Bd lo hi came m wd n) {g : Gs} {c : Nat → Int} (h0 : lo ≤ c 0 ∧ c 0 ≤ hi) (hs : ∀ k, k < n → c (k + 1) = c k + came k - lost g 0 k) (hm : ∀ k, k < n → m k = c (k + 1)) {d : Nat} (hd : d < n) :
    ((bk lo hi came m wd n).bnd g 0 d).lo ≤ m d ∧ m d ≤ ((bk lo hi came m wd n).bnd g 0 d).hi := by
  rw [hm d hd]
  exact truth_bnd (bk_okb h) (by simp [bk]) (by simpa [bk] using hd) (bk_truth h h0 hs hm)
theorem bk_bounds {g : Gs} : (bk lo hi came m wd n).bounds g = (List.range n).map fun d => [(bk lo hi came m wd n).bnd g 0 d] := by
  simp [Bk.bounds, bk]
/-- With a leak of this size since a day. -/
def less (m : Nat → Int) (size since : Int) (d : Nat) : Int := if since ≤ (d : Int) then m d - size * ((d : Int) - since + 1) else m d
end Tb
namespace Gas
/-- The content ahead of an operation. -/
def ptAt (c : Cav) (l : List Op) (xa xb : List Int) (p : Pt) : Nat → Pt
  | 0 => p
  | k + 1 => match one c (ptAt c l xa xb p k) (theOp l k) (at0 xa k) (at0 xb k) with
    | some x => x.1
    | none => p
def cameOf (o : Op) : Int := o.lg + o.ly - o.moles
theorem one_kept {c : Cav} {q x g : Pt} {o : Op} {u v : Int} (ho : o.Is) (h : one c q o u v = some (x, g)) : x.g + x.y = q.g + q.y + cameOf o := by
  cases ho with
  | inject l hl =>
    simp only [one, if_true] at h
    split at h
    · simp only [Option.some.injEq, Prod.mk.injEq] at h
      obtain ⟨rfl, rfl⟩ := h
      simp only [inject, Op.lot, cameOf]
      omega
    · cases h
  | withdraw m hm =>
    simp only [one] at h
    rw [if_neg (by decide), if_pos trivial] at h
    split at h
    · simp only [Option.some.injEq, Prod.mk.injEq] at h
      obtain ⟨rfl, rfl⟩ := h
      simp only [left, cameOf]
      omega
    · cases h
  | rest a b x' y ha hx =>
    simp only [one] at h
    rw [if_neg (by decide), if_neg (by decide)] at h
    split at h
    · simp only [Option.some.injEq, Prod.mk.injEq] at h
      obtain ⟨rfl, rfl⟩ := h
      simp [Gas.rest, cameOf]
    · cases h
theorem came_bd {o : Op} (ho : o.Is) : -2000000 ≤ cameOf o ∧ cameOf o ≤ 2000000 ∧ (0 ≤ o.lg ∧ o.lg ≤ 1000000) ∧ (0 ≤ o.ly ∧ o.ly ≤ 1000000) ∧ (0 ≤ o.moles ∧ o.moles ≤ 2000000) := by
  cases ho with
  | inject p h => have := h.g; have := h.y; simp only [cameOf]; omega
  | withdraw m h => simp only [cameOf]; omega
  | rest a b x y h k => simp only [cameOf]; omega
/-- What is true day by day. -/
theorem pt_seq {c : Cav} {s : St} {p : Pt} {l : List Op} {xa xb : List Int} {R : List St} (hc : c.Ok) (hs : s.Ok) (hp : s.Has p) (ho : opsB l = true) (ht : truthB l xa xb = true) (hR : R.length = l.length)
    (hact : ∀ i, i < R.length → ∃ o, act c (stBefore s R i) (theOp l i) = some (theSt R i, o)) : ∀ k, k ≤ l.length → (stBefore s R k).Ok ∧ (stBefore s R k).Has (ptAt c l xa xb p k) := by
  intro k
  induction k with
  | zero => intro _; exact ⟨hs, hp⟩
  | succ k ih =>
    intro hk
    obtain ⟨h1, h2⟩ := ih (by omega)
    obtain ⟨o, h3⟩ := hact k (by omega)
    have htk := (truth_iff.1 ht).2.2 k (by omega)
    simp only [trueAt, Bool.and_eq_true, inB_iff] at htk
    obtain ⟨x, g, h4, h5, -, h7⟩ := act_sound hc h1 (Op.ok_is (opsB_iff.1 ho k (by omega))) h2 htk.1 htk.2 h3
    have e : stBefore s R (k + 1) = theSt R k := by unfold stBefore; rw [if_neg (by omega), Nat.add_sub_cancel]
    rw [e]
    refine ⟨h7, ?_⟩
    simp only [ptAt, h4]; exact h5
theorem pt_next {c : Cav} {s : St} {p : Pt} {l : List Op} {xa xb : List Int} {R : List St} (hc : c.Ok) (hs : s.Ok) (hp : s.Has p) (ho : opsB l = true) (ht : truthB l xa xb = true) (hR : R.length = l.length)
    (hact : ∀ i, i < R.length → ∃ o, act c (stBefore s R i) (theOp l i) = some (theSt R i, o)) {k : Nat} (hk : k < l.length) :
    (∃ g, one c (ptAt c l xa xb p k) (theOp l k) (at0 xa k) (at0 xb k) = some (ptAt c l xa xb p (k + 1), g)) ∧ (ptAt c l xa xb p k).Ok ∧ (theSt R k).Ok ∧ (theSt R k).Has (ptAt c l xa xb p (k + 1)) ∧
      (ptAt c l xa xb p (k + 1)).g + (ptAt c l xa xb p (k + 1)).y = (ptAt c l xa xb p k).g + (ptAt c l xa xb p k).y + cameOf (theOp l k) := by
  obtain ⟨h1, h2⟩ := pt_seq hc hs hp ho ht hR hact k (by omega)
  obtain ⟨q1, q2⟩ := pt_seq hc hs hp ho ht hR hact (k + 1) hk
  obtain ⟨o, h3⟩ := hact k (by omega)
  have htk := (truth_iff.1 ht).2.2 k (by omega)
  simp only [trueAt, Bool.and_eq_true, inB_iff] at htk
  obtain ⟨x, g, h4, h5, -, h7⟩ := act_sound hc h1 (Op.ok_is (opsB_iff.1 ho k (by omega))) h2 htk.1 htk.2 h3
  have e : ptAt c l xa xb p (k + 1) = x := by simp only [ptAt, h4]
  have e2 : stBefore s R (k + 1) = theSt R k := by unfold stBefore; rw [if_neg (by omega), Nat.add_sub_cancel]
  rw [e2] at q1 q2
  refine ⟨⟨g, by rw [h4, e]⟩, h2.ok h1, q1, q2, ?_⟩
  rw [e]; exact one_kept (Op.ok_is (opsB_iff.1 ho k (by omega))) h4
end Gas
namespace Tb
open Lk
variable {c : Gas.Cav} {s : Gas.St} {p : Gas.Pt} {l : List Gas.Op} {xa xb wd : List Int} {R : List Gas.St}
def mOf (c : Gas.Cav) (l : List Gas.Op) (xa xb : List Int) (p : Gas.Pt) (d : Nat) : Int := (Gas.ptAt c l xa xb p (d + 1)).g + (Gas.ptAt c l xa xb p (d + 1)).y
def cOf (l : List Gas.Op) (d : Nat) : Int := Gas.cameOf (Gas.theOp l d)
def book (c : Gas.Cav) (s : Gas.St) (l : List Gas.Op) (xa xb wd : List Int) (p : Gas.Pt) (n : Nat) : Bk := bk (s.glo + s.ylo) (s.ghi + s.yhi) (cOf l) (mOf c l xa xb p) (Lk.at0 wd) n
def lacks (c : Gas.Cav) (s : Gas.St) (l : List Gas.Op) (xa xb wd : List Int) (p : Gas.Pt) (size since : Int) (n : Nat) : Bk := bk (s.glo + s.ylo) (s.ghi + s.yhi) (cOf l) (less (mOf c l xa xb p) size since) (Lk.at0 wd) n
/-- The contents, that at first included, less what has leaked. -/
def conL (c : Gas.Cav) (l : List Gas.Op) (xa xb : List Int) (p : Gas.Pt) (size since : Int) : Nat → Int
  | 0 => p.g + p.y
  | k + 1 => less (mOf c l xa xb p) size since k
theorem all_bd (hc : c.Ok) (hs : s.Ok) (hp : s.Has p) (ho : Gas.opsB l = true) (ht : Gas.truthB l xa xb = true) (hR : R.length = l.length)
    (hact : ∀ i, i < R.length → ∃ o, Gas.act c (Gas.stBefore s R i) (Gas.theOp l i) = some (Gas.theSt R i, o)) (hn : 1 ≤ l.length ∧ l.length ≤ 12) (hw : ∀ d, d < l.length → 0 ≤ Lk.at0 wd d ∧ Lk.at0 wd d ≤ 1000)
    {size since : Int} (hsz : 1 ≤ size ∧ size ≤ 1000) (hsi : 0 ≤ since) :
    Bd (s.glo + s.ylo) (s.ghi + s.yhi) (cOf l) (mOf c l xa xb p) (Lk.at0 wd) l.length ∧ Bd (s.glo + s.ylo) (s.ghi + s.yhi) (cOf l) (less (mOf c l xa xb p) size since) (Lk.at0 wd) l.length ∧ ∀ d, d < l.length → 0 ≤ mOf c l xa xb p d ∧ mOf c l xa xb p d ≤ 2000000 := by
  have hm : ∀ d, d < l.length → 0 ≤ mOf c l xa xb p d ∧ mOf c l xa xb p d ≤ 2000000 := fun d hd => by
    obtain ⟨-, -, h1, h2, -⟩ := Gas.pt_next hc hs hp ho ht hR hact hd
    have a := h1.g; have b := h1.y; have e := h2.g; have f := h2.y
    unfold mOf; omega
  have hca : ∀ d, d < l.length → -2000000 ≤ cOf l d ∧ cOf l d ≤ 2000000 := fun d hd => by
    have := Gas.came_bd (Gas.Op.ok_is (Gas.opsB_iff.1 ho d hd))
    unfold cOf; omega
  have hfi : 0 ≤ s.glo + s.ylo ∧ s.glo + s.ylo ≤ s.ghi + s.yhi ∧ s.ghi + s.yhi ≤ 2000000 := by have := hs.g; have := hs.y; omega
  refine ⟨⟨hn, hfi, hca, fun d hd => by have := hm d hd; omega, hw⟩, ⟨hn, hfi, hca, fun d hd => ?_, hw⟩, hm⟩
  have := hm d hd
  unfold less
  split
  · rename_i h
    have a1 : 0 ≤ size * ((d : Int) - since + 1) := Int.mul_nonneg (by omega) (by omega)
    have a2 : size * ((d : Int) - since + 1) ≤ 1000 * 12 := Int.mul_le_mul hsz.2 (by omega) (by omega) (by omega)
    omega
  · omega
/-- The three answers. -/
theorem balanced (hc : c.Ok) (hs : s.Ok) (hp : s.Has p) (ho : Gas.opsB l = true) (ht : Gas.truthB l xa xb = true) (hR : R.length = l.length)
    (hact : ∀ i, i < R.length → ∃ o, Gas.act c (Gas.stBefore s R i) (Gas.theOp l i) = some (Gas.theSt R i, o)) (hn : 1 ≤ l.length ∧ l.length ≤ 12) (hw : ∀ d, d < l.length → 0 ≤ Lk.at0 wd d ∧ Lk.at0 wd d ≤ 1000)
    {size since : Int} (hsz : 1 ≤ size ∧ size ≤ 1000) (hsi : 0 ≤ since ∧ since < l.length) :
    (book c s l xa xb wd p l.length).err true = 0 ∧ (book c s l xa xb wd p l.length).agreeB noGs = true ∧ (lacks c s l xa xb wd p size since l.length).err true = 0 ∧ (lacks c s l xa xb wd p size since l.length).gsB ⟨0, size, since⟩ = true ∧
      (lacks c s l xa xb wd p size since l.length).agreeB ⟨0, size, since⟩ = true ∧
      ∀ d, d < l.length → ((book c s l xa xb wd p l.length).bnd noGs 0 d).lo ≤ mOf c l xa xb p d ∧ mOf c l xa xb p d ≤ ((book c s l xa xb wd p l.length).bnd noGs 0 d).hi ∧
        (Gas.theSt R d).glo + (Gas.theSt R d).ylo ≤ mOf c l xa xb p d ∧ mOf c l xa xb p d ≤ (Gas.theSt R d).ghi + (Gas.theSt R d).yhi := by
  obtain ⟨b1, b2, hm⟩ := all_bd hc hs hp ho ht hR hact hn hw hsz hsi.1
  have hstep : ∀ k, k < l.length → mOf c l xa xb p k = (Gas.ptAt c l xa xb p k).g + (Gas.ptAt c l xa xb p k).y + cOf l k := fun k hk => (Gas.pt_next hc hs hp ho ht hR hact hk).2.2.2.2
  have h0 : s.glo + s.ylo ≤ p.g + p.y ∧ p.g + p.y ≤ s.ghi + s.yhi := by have := hp.g; have := hp.y; omega
  let c0 : Nat → Int := fun k => (Gas.ptAt c l xa xb p k).g + (Gas.ptAt c l xa xb p k).y
  have hl0 : ∀ z d, lost noGs z d = 0 := fun z d => by
    unfold lost noGs; split
    · rfl
    · rfl
  have s0 : ∀ k, k < l.length → c0 (k + 1) = c0 k + cOf l k - lost noGs 0 k := fun k hk => by
    rw [hl0]; have := hstep k hk; unfold mOf at this; simp only [c0]; omega
  have s1 : ∀ k, k < l.length → conL c l xa xb p size since (k + 1) = conL c l xa xb p size since k + cOf l k - lost ⟨0, size, since⟩ 0 k := fun k hk => by
    have h1 := hstep k hk
    have e : lost ⟨0, size, since⟩ 0 (k : Int) = if since ≤ (k : Int) then size else 0 := by unfold lost; simp
    rw [e]
    cases k with
    | zero =>
      simp only [conL, less, Gas.ptAt] at h1 ⊢
      split
      · rename_i h
        have : since = 0 := by simp at h; omega
        subst this
        simp only [Int.natCast_zero, Int.sub_zero, Int.zero_add, Int.mul_one]; omega
      · omega
    | succ k =>
      simp only [conL, less]
      have h2 : mOf c l xa xb p k = (Gas.ptAt c l xa xb p (k + 1)).g + (Gas.ptAt c l xa xb p (k + 1)).y := rfl
      rw [← h2] at h1
      by_cases ha : since ≤ ((k + 1 : Nat) : Int)
      · rw [if_pos ha, if_pos ha]
        by_cases hb : since ≤ (k : Int)
        · rw [if_pos hb]
          have : size * (((k + 1 : Nat) : Int) - since + 1) = size * ((k : Int) - since + 1) + size := by
            have : (((k + 1 : Nat) : Int) - since + 1) = ((k : Int) - since + 1) + 1 := by push_cast; omega
            rw [this, Int.mul_add, Int.mul_one]
          omega
        · rw [if_neg hb]
          have : since = ((k + 1 : Nat) : Int) := by push_cast at *; omega
          rw [this, Int.sub_self, Int.zero_add, Int.mul_one]; omega
      · rw [if_neg ha, if_neg ha, if_neg (by push_cast at *; omega)]; omega
  refine ⟨bk_err b1, bk_agree b1 (c := c0) h0 s0 (fun k hk => rfl), bk_err b2, ?_, bk_agree b2 (c := conL c l xa xb p size since) h0 s1 (fun k hk => rfl), fun d hd => ?_⟩
  · simp only [Bk.gsB, lacks, bk, List.length_map, List.length_range, List.length_cons, List.length_nil, Bool.or_eq_true, decide_eq_true_eq, Bool.and_eq_true, inB_iff]
    right; omega
  · have h2 := bk_bnd b1 (g := noGs) (c := c0) h0 s0 (fun k hk => rfl) hd
    obtain ⟨-, -, h4, h5, -⟩ := Gas.pt_next hc hs hp ho ht hR hact hd
    have a := h5.g; have b := h5.y
    refine ⟨h2.1, h2.2, ?_, ?_⟩ <;> unfold mOf <;> omega
end Tb
set_option linter.unusedVariables false
set_option linter.unusedSimpArgs false
namespace Lc
/-- A slice of a cavern that is leached. -/
structure Sl where
  (vlo vhi opn fall rlo rhi most : Int)
structure Sg where
  (water inn out blanket : Int)
def lsAt (l : List Sl) (k : Nat) : Sl := l.getD k ⟨0, 0, 0, 0, 0, 0, 0⟩
def sgAt (l : List Sg) (k : Nat) : Sg := l.getD k ⟨0, 0, 0, 0⟩
end Lc
namespace Go.Proofs.YthbkcoijafehgaaGreat.L
open Go.RowKit Go.Sd Lk Lc
abbrev lsEn (s : Sl) : List Value := [.int .i64 s.vlo, .int .i64 s.vhi, .int .i64 s.opn, .int .i64 s.fall, .int .i64 s.rlo, .int .i64 s.rhi, .int .i64 s.most]
abbrev lsV (s : Sl) : Value := .agg #[.int .i64 s.vlo, .int .i64 s.vhi, .int .i64 s.opn, .int .i64 s.fall, .int .i64 s.rlo, .int .i64 s.rhi, .int .i64 s.most]
abbrev SlsAt (w : World) (v : Value) (xs : List Sl) : Prop := ElsAt 7 lsEn ⟨0, 0, 0, 0, 0, 0, 0⟩ w v xs
abbrev sgEn (s : Sg) : List Value := [.int .i64 s.water, .int .i64 s.inn, .int .i64 s.out, .int .i64 s.blanket]
abbrev sgV (s : Sg) : Value := .agg #[.int .i64 s.water, .int .i64 s.inn, .int .i64 s.out, .int .i64 s.blanket]
abbrev SgsAt (w : World) (v : Value) (xs : List Sg) : Prop := ElsAt 4 sgEn ⟨0, 0, 0, 0⟩ w v xs
abbrev iV (n : Int) : Value := .int .i64 n
theorem lsAt_eq {l : List Sl} {j : Nat} (h : j < l.length) : lsAt l j = l[j] := by simp [lsAt, h]
set_option maxRecDepth 100000 in
set_option maxHeartbeats 2000000 in
theorem indexSls (v : Value) (l : List Sl) (p : Sl → Bool) (nf : Nat) (nb : Array Value) (w : World) (hv : SlsAt w v l) (en : ∀ args w, (callFunc nf args).run Tryz.prog w = .ok (.enter nf args) w)
    (hp : ∀ d, d ∈ l → ∀ X, Below w.heap.size w X → Calls Tryz.prog nf (#[lsV d] ++ nb) X fun e X' => e = .returned (.bool (p d)) ∧ Below X.heap.size X X') :
    Calls Tryz.prog 102 #[v, .func (.func nf) #[] nb] w (FoundP (l.any p) w) := by
  obtain ⟨a, cap, rfl, hm, hc⟩ := hv.form
  clear hv
  replace hp := Lib.hid hp
  go_enter Tryz.func102, Tryz.ntmps102
  go_wp2_with (fail)
  have hg := grow_cell w
  go_loopw [8] (fun i wr => ∃ k : Nat, k ≤ l.length ∧ i = .int .i64 k ∧ Hid (∀ j (hj : j < l.length), j < k → p l[j] = false) ∧ ∃ g : Grow w, wr = g.x) (fun i _ => l.length - (intOf i).toNat)
  case atStart => exact ⟨0, by omega, rfl, (fun j _ h => by omega : ∀ j (hj : j < l.length), j < 0 → p l[j] = false), Grow.self w, rfl⟩
  case round =>
    obtain ⟨k, hk, rfl, hH, g, rfl⟩ := hrel
    by_cases hlt : k < l.length
    · obtain ⟨b, off, rfl, hbl, hx⟩ := hc (by omega)
      have c0 : w.cell? ⟨b, off + k * 7, none⟩ = some (.int .i64 (lsAt l k).vlo) := hx k 0 _ hlt rfl
      have c1 : w.cell? ⟨b, off + k * 7 + 1, none⟩ = some (.int .i64 (lsAt l k).vhi) := hx k 1 _ hlt rfl
      have c2 : w.cell? ⟨b, off + k * 7 + 2, none⟩ = some (.int .i64 (lsAt l k).opn) := hx k 2 _ hlt rfl
      have c3 : w.cell? ⟨b, off + k * 7 + 3, none⟩ = some (.int .i64 (lsAt l k).fall) := hx k 3 _ hlt rfl
      have c4 : w.cell? ⟨b, off + k * 7 + 4, none⟩ = some (.int .i64 (lsAt l k).rlo) := hx k 4 _ hlt rfl
      have c5 : w.cell? ⟨b, off + k * 7 + 5, none⟩ = some (.int .i64 (lsAt l k).rhi) := hx k 5 _ hlt rfl
      have c6 : w.cell? ⟨b, off + k * 7 + 6, none⟩ = some (.int .i64 (lsAt l k).most) := hx k 6 _ hlt rfl
      have hki : (0 : Int) ≤ (k : Int) ∧ (k : Int) < l.length := by omega
      have hcall := hp.out (lsAt l k) (by rw [lsAt_eq hlt]; exact List.getElem_mem hlt) g.x g.h
      rw [lsAt_eq hlt] at c0 c1 c2 c3 c4 c5 c6 hcall
      clear hx hc
      cases ht : p l[k]
      · rw [ht] at hcall
        have hH' : Hid (∀ j (hj : j < l.length), j < k + 1 → p l[j] = false) := fun j hj hjk => by
          rcases Nat.lt_succ_iff_lt_or_eq.1 hjk with h | rfl
          · exact hH.out j hj h
          · exact ht
        replace ht := Lib.hid ht
        replace hcall := Lib.hid hcall
        go_wp2_with ((with_reducible refine Calls.mono hcall.out ?_); rintro e w' ⟨rfl, hb'⟩; obtain ⟨g1, rfl⟩ := g.next hb')
        exact ⟨⟨k + 1, by omega, by go_num, hH', g1, rfl⟩, by simp [intOf]; omega⟩
      · rw [ht] at hcall
        have hany := Lib.hid (any_some hlt ht)
        replace ht := Lib.hid ht
        replace hcall := Lib.hid hcall
        go_wp2_with ((with_reducible refine Calls.mono hcall.out ?_); rintro e w' ⟨rfl, hb'⟩; obtain ⟨g1, rfl⟩ := g.next hb')
        go_ret
        exact ⟨k, rfl, ⟨fun _ => by omega, fun _ => hany.out⟩, g1.h⟩
    · have hany := Lib.hid (any_none fun j hj => hH.out j hj (by omega))
      go_wp2_with (fail)
      go_ret
      exact ⟨-1, rfl, ⟨(fun h => by rw [hany.out] at h; cases h), (fun h => by omega)⟩, g.h⟩
theorem containsSls (v : Value) (l : List Sl) (p : Sl → Bool) (nf : Nat) (nb : Array Value) (w : World) (hv : SlsAt w v l) (en : ∀ args w, (callFunc nf args).run Tryz.prog w = .ok (.enter nf args) w)
    (hp : ∀ d, d ∈ l → ∀ X, Below w.heap.size w X → Calls Tryz.prog nf (#[lsV d] ++ nb) X fun e X' => e = .returned (.bool (p d)) ∧ Below X.heap.size X X') :
    Calls Tryz.prog 85 #[v, .func (.func nf) #[] nb] w (BoolB (l.any p) w) := by
  have hc := Lib.hid (indexSls v l p nf nb w hv en hp)
  obtain ⟨a, cap, rfl, -, -⟩ := hv
  clear hp
  cases ht : l.any p
  all_goals
    replace ht := Lib.hid ht
    go_enter Tryz.func85, Tryz.ntmps85
    go_wp2_with (go_at_call 102; refine Calls.mono hc.out ?_; rintro e w' ⟨n, rfl, hn, hb⟩; rw [ht.out] at hn; have hn' : Hid (_ ↔ (0 : Int) ≤ n) := hn; clear hn)
    go_ret
    refine ⟨_, rfl, ?_, hb⟩
    have := hn'.out
    simp at this
    show _ = _
    simp [this]
theorem sgAt_eq {l : List Sg} {j : Nat} (h : j < l.length) : sgAt l j = l[j] := by simp [sgAt, h]
set_option maxRecDepth 100000 in
set_option maxHeartbeats 2000000 in
theorem indexSgs (v : Value) (l : List Sg) (p : Sg → Bool) (nf : Nat) (nb : Array Value) (w : World) (hv : SgsAt w v l) (en : ∀ args w, (callFunc nf args).run Tryz.prog w = .ok (.enter nf args) w)
    (hp : ∀ d, d ∈ l → ∀ X, Below w.heap.size w X → Calls Tryz.prog nf (#[sgV d] ++ nb) X fun e X' => e = .returned (.bool (p d)) ∧ Below X.heap.size X X') :
    Calls Tryz.prog 103 #[v, .func (.func nf) #[] nb] w (FoundP (l.any p) w) := by
  obtain ⟨a, cap, rfl, hm, hc⟩ := hv.form
  clear hv
  replace hp := Lib.hid hp
  go_enter Tryz.func103, Tryz.ntmps103
  go_wp2_with (fail)
  have hg := grow_cell w
  go_loopw [8] (fun i wr => ∃ k : Nat, k ≤ l.length ∧ i = .int .i64 k ∧ Hid (∀ j (hj : j < l.length), j < k → p l[j] = false) ∧ ∃ g : Grow w, wr = g.x) (fun i _ => l.length - (intOf i).toNat)
  case atStart => exact ⟨0, by omega, rfl, (fun j _ h => by omega : ∀ j (hj : j < l.length), j < 0 → p l[j] = false), Grow.self w, rfl⟩
  case round =>
    obtain ⟨k, hk, rfl, hH, g, rfl⟩ := hrel
    by_cases hlt : k < l.length
    · obtain ⟨b, off, rfl, hbl, hx⟩ := hc (by omega)
      have c0 : w.cell? ⟨b, off + k * 4, none⟩ = some (.int .i64 (sgAt l k).water) := hx k 0 _ hlt rfl
      have c1 : w.cell? ⟨b, off + k * 4 + 1, none⟩ = some (.int .i64 (sgAt l k).inn) := hx k 1 _ hlt rfl
      have c2 : w.cell? ⟨b, off + k * 4 + 2, none⟩ = some (.int .i64 (sgAt l k).out) := hx k 2 _ hlt rfl
      have c3 : w.cell? ⟨b, off + k * 4 + 3, none⟩ = some (.int .i64 (sgAt l k).blanket) := hx k 3 _ hlt rfl
      have hki : (0 : Int) ≤ (k : Int) ∧ (k : Int) < l.length := by omega
      have hcall := hp.out (sgAt l k) (by rw [sgAt_eq hlt]; exact List.getElem_mem hlt) g.x g.h
      rw [sgAt_eq hlt] at c0 c1 c2 c3 hcall
      clear hx hc
      cases ht : p l[k]
      · rw [ht] at hcall
        have hH' : Hid (∀ j (hj : j < l.length), j < k + 1 → p l[j] = false) := fun j hj hjk => by
          rcases Nat.lt_succ_iff_lt_or_eq.1 hjk with h | rfl
          · exact hH.out j hj h
          · exact ht
        replace ht := Lib.hid ht
        replace hcall := Lib.hid hcall
        go_wp2_with ((with_reducible refine Calls.mono hcall.out ?_); rintro e w' ⟨rfl, hb'⟩; obtain ⟨g1, rfl⟩ := g.next hb')
        exact ⟨⟨k + 1, by omega, by go_num, hH', g1, rfl⟩, by simp [intOf]; omega⟩
      · rw [ht] at hcall
        have hany := Lib.hid (any_some hlt ht)
        replace ht := Lib.hid ht
        replace hcall := Lib.hid hcall
        go_wp2_with ((with_reducible refine Calls.mono hcall.out ?_); rintro e w' ⟨rfl, hb'⟩; obtain ⟨g1, rfl⟩ := g.next hb')
        go_ret
        exact ⟨k, rfl, ⟨fun _ => by omega, fun _ => hany.out⟩, g1.h⟩
    · have hany := Lib.hid (any_none fun j hj => hH.out j hj (by omega))
      go_wp2_with (fail)
      go_ret
      exact ⟨-1, rfl, ⟨(fun h => by rw [hany.out] at h; cases h), (fun h => by omega)⟩, g.h⟩
theorem containsSgs (v : Value) (l : List Sg) (p : Sg → Bool) (nf : Nat) (nb : Array Value) (w : World) (hv : SgsAt w v l) (en : ∀ args w, (callFunc nf args).run Tryz.prog w = .ok (.enter nf args) w)
    (hp : ∀ d, d ∈ l → ∀ X, Below w.heap.size w X → Calls Tryz.prog nf (#[sgV d] ++ nb) X fun e X' => e = .returned (.bool (p d)) ∧ Below X.heap.size X X') :
    Calls Tryz.prog 88 #[v, .func (.func nf) #[] nb] w (BoolB (l.any p) w) := by
  have hc := Lib.hid (indexSgs v l p nf nb w hv en hp)
  obtain ⟨a, cap, rfl, -, -⟩ := hv
  clear hp
  cases ht : l.any p
  all_goals
    replace ht := Lib.hid ht
    go_enter Tryz.func88, Tryz.ntmps88
    go_wp2_with (go_at_call 103; refine Calls.mono hc.out ?_; rintro e w' ⟨n, rfl, hn, hb⟩; rw [ht.out] at hn; have hn' : Hid (_ ↔ (0 : Int) ≤ n) := hn; clear hn)
    go_ret
    refine ⟨_, rfl, ?_, hb⟩
    have := hn'.out
    simp at this
    show _ = _
    simp [this]
theorem at0_eq {l : List Int} {j : Nat} (h : j < l.length) : at0 l j = l[j] := by simp [at0, h]
set_option maxRecDepth 100000 in
set_option maxHeartbeats 2000000 in
theorem indexInts (v : Value) (l : List Int) (p : Int → Bool) (nf : Nat) (nb : Array Value) (w : World) (hv : IntsAt w v l) (en : ∀ args w, (callFunc nf args).run Tryz.prog w = .ok (.enter nf args) w)
    (hp : ∀ d, d ∈ l → ∀ X, Below w.heap.size w X → Calls Tryz.prog nf (#[iV d] ++ nb) X fun e X' => e = .returned (.bool (p d)) ∧ Below X.heap.size X X') :
    Calls Tryz.prog 64 #[v, .func (.func nf) #[] nb] w (FoundP (l.any p) w) := by
  obtain ⟨a, cap, rfl, hm, hc⟩ := hv.form
  clear hv
  replace hp := Lib.hid hp
  go_enter Tryz.func64, Tryz.ntmps64
  go_wp2_with (fail)
  have hg := grow_cell w
  go_loopw [8] (fun i wr => ∃ k : Nat, k ≤ l.length ∧ i = .int .i64 k ∧ Hid (∀ j (hj : j < l.length), j < k → p l[j] = false) ∧ ∃ g : Grow w, wr = g.x) (fun i _ => l.length - (intOf i).toNat)
  case atStart => exact ⟨0, by omega, rfl, (fun j _ h => by omega : ∀ j (hj : j < l.length), j < 0 → p l[j] = false), Grow.self w, rfl⟩
  case round =>
    obtain ⟨k, hk, rfl, hH, g, rfl⟩ := hrel
    by_cases hlt : k < l.length
    · obtain ⟨b, off, rfl, hbl, hx⟩ := hc (by omega)
      have c0 : w.cell? ⟨b, off + k, none⟩ = some (.int .i64 (at0 l k)) := by have h := hx k 0 (.int .i64 (at0 l k)) hlt rfl; rwa [Nat.mul_one, Nat.add_zero] at h
      have hki : (0 : Int) ≤ (k : Int) ∧ (k : Int) < l.length := by omega
      have hcall := hp.out (at0 l k) (by rw [at0_eq hlt]; exact List.getElem_mem hlt) g.x g.h
      rw [at0_eq hlt] at c0 hcall
      clear hx hc
      cases ht : p l[k]
      · rw [ht] at hcall
        have hH' : Hid (∀ j (hj : j < l.length), j < k + 1 → p l[j] = false) := fun j hj hjk => by
          rcases Nat.lt_succ_iff_lt_or_eq.1 hjk with h | rfl
          · exact hH.out j hj h
          · exact ht
        replace ht := Lib.hid ht
        replace hcall := Lib.hid hcall
        go_wp2_with ((with_reducible refine Calls.mono hcall.out ?_); rintro e w' ⟨rfl, hb'⟩; obtain ⟨g1, rfl⟩ := g.next hb')
        exact ⟨⟨k + 1, by omega, by go_num, hH', g1, rfl⟩, by simp [intOf]; omega⟩
      · rw [ht] at hcall
        have hany := Lib.hid (any_some hlt ht)
        replace ht := Lib.hid ht
        replace hcall := Lib.hid hcall
        go_wp2_with ((with_reducible refine Calls.mono hcall.out ?_); rintro e w' ⟨rfl, hb'⟩; obtain ⟨g1, rfl⟩ := g.next hb')
        go_ret
        exact ⟨k, rfl, ⟨fun _ => by omega, fun _ => hany.out⟩, g1.h⟩
    · have hany := Lib.hid (any_none fun j hj => hH.out j hj (by omega))
      go_wp2_with (fail)
      go_ret
      exact ⟨-1, rfl, ⟨(fun h => by rw [hany.out] at h; cases h), (fun h => by omega)⟩, g.h⟩
theorem containsInts (v : Value) (l : List Int) (p : Int → Bool) (nf : Nat) (nb : Array Value) (w : World) (hv : IntsAt w v l) (en : ∀ args w, (callFunc nf args).run Tryz.prog w = .ok (.enter nf args) w)
    (hp : ∀ d, d ∈ l → ∀ X, Below w.heap.size w X → Calls Tryz.prog nf (#[iV d] ++ nb) X fun e X' => e = .returned (.bool (p d)) ∧ Below X.heap.size X X') :
    Calls Tryz.prog 42 #[v, .func (.func nf) #[] nb] w (BoolB (l.any p) w) := by
  have hc := Lib.hid (indexInts v l p nf nb w hv en hp)
  obtain ⟨a, cap, rfl, -, -⟩ := hv
  clear hp
  cases ht : l.any p
  all_goals
    replace ht := Lib.hid ht
    go_enter Tryz.func42, Tryz.ntmps42
    go_wp2_with (go_at_call 64; refine Calls.mono hc.out ?_; rintro e w' ⟨n, rfl, hn, hb⟩; rw [ht.out] at hn; have hn' : Hid (_ ↔ (0 : Int) ≤ n) := hn; clear hn)
    go_ret
    refine ⟨_, rfl, ?_, hb⟩
    have := hn'.out
    simp at this
    show _ = _
    simp [this]
end Go.Proofs.YthbkcoijafehgaaGreat.L
set_option linter.unusedVariables false
set_option linter.unusedSimpArgs false
namespace Lc
open Lk
/-- The bounds behind k + 1 amounts from a on. -/
def itN (f : Int → Sp) (g a : Int) : Nat → Sp
  | 0 => ⟨(f a).lo + a * g, (f a).hi + a * g⟩
  | k + 1 => ⟨min (itN f g a k).lo ((f (a + (k + 1))).lo + (a + (k + 1)) * g), max (itN f g a k).hi ((f (a + (k + 1))).hi + (a + (k + 1)) * g)⟩
/-- What water makes of a measure that can still take so much, on the rest of its way: the rates' ends, and what a litre makes. -/
def restP : List (Int × Int × Int) → Int → Sp
  | [], _ => ⟨0, 0⟩
  | (rl, rh, g) :: t, left => itN (fun n => restP t (left - n)) g (min rl left) (min rh left - min rl left).toNat
def WayOk (l : List (Int × Int × Int)) : Prop := ∀ x ∈ l, 0 ≤ x.1 ∧ x.1 ≤ x.2.1 ∧ x.2.1 ≤ 100 ∧ 0 ≤ x.2.2 ∧ x.2.2 ≤ 100
theorem itN_bd {f : Int → Sp} {g a : Int} {M : Int} (hg : 0 ≤ g ∧ g ≤ 100) (ha : 0 ≤ a) : ∀ k : Nat, a + k ≤ 100 → (∀ n, a ≤ n → n ≤ a + k → 0 ≤ (f n).lo ∧ (f n).lo ≤ (f n).hi ∧ (f n).hi ≤ M) → 0 ≤ (itN f g a k).lo ∧ (itN f g a k).lo ≤ (itN f g a k).hi ∧ (itN f g a k).hi ≤ M + 10000
  | 0, hk, h => by
    have h0 := h a (Int.le_refl _) (by omega)
    have m1 : 0 ≤ a * g := Int.mul_nonneg ha hg.1
    have m2 : a * g ≤ 100 * 100 := Int.mul_le_mul (by omega) hg.2 hg.1 (by omega)
    simp only [itN]; omega
  | k + 1, hk, h => by
    have ih := itN_bd hg ha k (by omega) (fun n h1 h2 => h n h1 (by omega))
    have h0 := h (a + (k + 1)) (by omega) (by omega)
    have m1 : 0 ≤ (a + (k + 1)) * g := Int.mul_nonneg (by omega) hg.1
    have m2 : (a + (k + 1)) * g ≤ 100 * 100 := Int.mul_le_mul (by omega) hg.2 hg.1 (by omega)
    simp only [itN]; omega
theorem rest_bd : ∀ (l : List (Int × Int × Int)) (left : Int), WayOk l → 0 ≤ left → left ≤ 100 → 0 ≤ (restP l left).lo ∧ (restP l left).lo ≤ (restP l left).hi ∧ (restP l left).hi ≤ 10000 * (l.length : Int)
  | [], left, _, _, _ => by simp [restP]
  | (rl, rh, g) :: t, left, ok, h0, h1 => by
    have hx := ok (rl, rh, g) (List.mem_cons_self ..)
    simp only at hx
    have ht : WayOk t := fun x hx => ok x (List.mem_cons_of_mem _ hx)
    have := itN_bd (f := fun n => restP t (left - n)) (g := g) (a := min rl left) (M := 10000 * (t.length : Int)) ⟨by omega, by omega⟩ (by omega) (min rh left - min rl left).toNat (by omega)
      (fun n h2 h3 => rest_bd t (left - n) ht (by omega) (by omega))
    rw [restP, List.length_cons]; push_cast; omega
/-- The chapter's example. -/
def exWay : List (Int × Int × Int) := [(40, 60, 0), (30, 50, 50), (20, 40, 100)]
theorem exWay_ok : WayOk exWay := by
  intro x hx
  simp only [exWay, List.mem_cons, List.not_mem_nil, or_false] at hx
  rcases hx with rfl | rfl | rfl <;> simp
theorem exRest : restP exWay 100 = ⟨2000, 4500⟩ := by decide +kernel
end Lc
