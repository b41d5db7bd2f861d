/- A region that draws its order, holds calls whose callees make memory of their own, makes variables, and ends in stores: one walk, in the order of the text. -/
import Derived.Test.YtacajmpggjgaiaaGrow
import Derived.StillTail
import Derived.RangeFuncRecord
import Derived.Laws.Tables
set_option linter.unusedVariables false
set_option linter.unusedSimpArgs false
namespace Go.Sd
open Go Go.RowKit

/-! ### A call has one value -/

/-- A caller at which the machine stops. -/
def stopFrame : Frame := { (default : Frame) with todo := [.code (.refuse "")], mode := .run }

theorem stop_finish (v : Value) : stopFrame.finish v = stopFrame := rfl

theorem stop_step (P : Program) (w : World) : ∃ o, step P (lone stopFrame [] w) = .ended o w :=
  ⟨_, step_lone_ended (by simp only [stepG, stepG.exec, stopFrame, GStep.bare]; rfl)⟩

theorem runN_more {P : Program} : ∀ (n k : Nat) (m m1 : Machine), runN P n m = .next m1 → runN P (n + k) m = runN P k m1
  | 0, k, m, m1, h => by simp [runN] at h; subst h; simp
  | n + 1, k, m, m1, h => by
    rw [Nat.succ_add]
    simp only [runN] at h ⊢
    cases hs : step P m with
    | next m' => rw [hs] at h; exact runN_more n k m' m1 h
    | ended o w => rw [hs] at h; cases h

theorem lone_inj {fr fr' : Frame} {cs cs' : List Frame} {w w' : World} (h : lone fr cs w = lone fr' cs' w') : fr = fr' ∧ cs = cs' ∧ w = w' := by
  unfold lone at h
  injection h with h1 h2
  simp at h2
  exact ⟨h2.1, h2.2, h1⟩

theorem leave_twice {P : Program} {fr1 fr2 : Frame} {w1 w2 : World} {v1 v2 : Value} {n k : Nat} {m : Machine} (h1 : runN P n m = .next (lone fr1 [stopFrame] w1)) (h2 : runN P (n + k) m = .next (lone fr2 [stopFrame] w2))
    (l1 : fr1.leaving P w1 (.returned v1)) (l2 : fr2.leaving P w2 (.returned v2)) : v1 = v2 := by
  rw [runN_more n k m _ h1] at h2
  have hs := step_leave_returned (c := stopFrame) (cs := []) l1
  rw [stop_finish] at hs
  match k with
  | 0 =>
    simp [runN] at h2
    obtain ⟨rfl, -, rfl⟩ := lone_inj h2
    obtain ⟨_, _, _, fn, hf, hr⟩ := l1
    obtain ⟨_, _, _, fn', hf', hr'⟩ := l2
    rw [hf] at hf'
    cases hf'
    rw [hr] at hr'
    cases hr'
    rfl
  | 1 =>
    simp only [runN, hs] at h2
    have := lone_inj (by simpa using h2)
    simp at this
  | k + 2 =>
    obtain ⟨o, ho⟩ := stop_step P w1
    simp only [runN, hs, ho] at h2
    cases h2

theorem Calls.det {P : Program} {f : FuncId} {args : Array Value} {w : World} {v1 v2 : Value} {R1 R2 : World → Prop}
    (h1 : Calls P f args w fun e w' => e = .returned v1 ∧ R1 w') (h2 : Calls P f args w fun e w' => e = .returned v2 ∧ R2 w') : v1 = v2 := by
  obtain ⟨e1, w1, fr1, ⟨rfl, -⟩, ⟨n1, s1⟩, -, l1⟩ := h1 [stopFrame]
  obtain ⟨e2, w2, fr2, ⟨rfl, -⟩, ⟨n2, s2⟩, -, l2⟩ := h2 [stopFrame]
  rcases Nat.le_total n1 n2 with h | h
  · obtain ⟨k, rfl⟩ := Nat.exists_eq_add_of_le h
    exact leave_twice s1 s2 l1 l2
  · obtain ⟨k, rfl⟩ := Nat.exists_eq_add_of_le h
    exact (leave_twice s2 s1 l2 l1).symm

theorem quiet_det {P : Program} {o : Oper} {a : Act} {C1 C2 : World → Prop} {w : World} {v1 v2 : Value} (h1 : o.quietAt P a C1 w v1) (h2 : o.quietAt P a C2 w v2) : v1 = v2 := by
  unfold Oper.quietAt at h1 h2
  generalize (execOp a.eval o).run P w = r at h1 h2
  cases r with
  | ok n w' =>
    cases n <;> simp only [Oper.quietUpon] at h1 h2
    case value u => exact h1.2.symm.trans h2.2
    case skip => exact h1.2.trans h2.2.symm
    case enter f args => exact Calls.det h1.2 h2.2
  | halt x w' => simp only [Oper.quietUpon] at h1

/-! ### What a growth is -/

structure Growth (G : World → World → Prop) : Prop where
  refl : ∀ w, G w w
  trans : ∀ a b c, G a b → G b c → G a c
  alloc : ∀ w o, G w (w.alloc o)
  drew : ∀ w, G w w.drew
  size : ∀ w w', G w w' → w.heap.size ≤ w'.heap.size
  own : ∀ W w (n : Nat) cs, G W w → W.heap.size ≤ n → G W (w.setRow n cs)
  kept : ∀ w w', G w w' → ∀ (n : Nat) c e f, w.heap[n]? = some (.cells c e f) → w'.heap[n]? = some (.cells c e f)

theorem growth_below : Growth fun w w' => Below w.heap.size w w' where
  refl w := Below.refl _ w
  trans a b c h k := h.trans (k.mono h.size)
  alloc w o := (Below.refl _ _).alloc (Nat.le_refl _) _
  drew w := (Below.refl _ _).drew
  size w w' h := h.size
  own W w n cs h hn := h.trans ⟨rfl, rfl, rfl, by simp, fun k hk => setRow_other w n k cs (by omega)⟩
  kept w w' h n c e f hn := (h.block n (Array.getElem?_eq_some_iff.1 hn).1).trans hn

structure Gr (G : World → World → Prop) (w : World) where
  x : World
  h : G w x

/-! ### The region -/

/-- A variable that a region makes: the operation's number, its slot, its type, its cells. -/
structure Al where
  i : Nat
  d : Tmp
  e : TypeId
  c : Array Value

/-- An operation that is left out of the first walk. -/
def blank (o : Oper) : Oper := { o with op := .move (.const undef) }
def blankTail (o : Oper) : Oper := { o with op := .move (.const undef), dst := none, guard := none }

/-- The region with its variables' making and its tail left out. -/
def headOf (n : Nat) (al : List Al) (l : List Oper) : List Oper :=
  l.zipIdx.map fun (o, i) => if n ≤ i then blankTail o else if al.any (·.i == i) then blank o else o

/-- What is asked of the text: by the kernel. -/
def headOk (n : Nat) (al : List Al) (l : List Oper) : Bool :=
  Region.lexTailB .any l.toArray n && Region.lexB .any (headOf n al l).toArray &&
  (al.all fun p => decide (p.i < n) && (match l[p.i]? with
    | some o => (match o.op with | .alloc e => e == p.e | _ => false) && o.dst == some p.d && o.guard.isNone
    | none => false)) &&
  ((List.range l.length).all fun i => match l[i]? with
    | some o => (decide (n ≤ i) || al.any (·.i == i) || (al.all fun p => !(o.looksAt l.toArray).contains p.d && o.dst != some p.d)) &&
        (decide (n ≤ i) || (match o.guard with | some (g, _) => decide (g < n) | none => true)) &&
        o.after.all fun e => !Region.binds .any e || decide (e.on < i)
    | none => true) &&
  decide ((al.map (·.d)).Nodup) && decide ((al.map (·.i)).Nodup)

/-- The variables are there. -/
structure Placed (W w : World) (al : List Al) (ns : List Nat) : Prop where
  len : ns.length = al.length
  apart : ns.Nodup
  cells : ∀ (j : Nat) (p : Al) (m : Nat), al[j]? = some p → ns[j]? = some m → W.heap.size ≤ m ∧ w.heap[m]? = some (.cells p.c p.e)

def place : List Al → List Nat → Act → Act
  | p :: al, m :: ns, a => place al ns (a.put (some p.d) (.pointer (some ⟨m, 0, none⟩)))
  | _, _, a => a

theorem placed_nil (W w : World) : Placed W w [] [] := ⟨rfl, List.nodup_nil, fun j p m h => by simp at h⟩

/-! ### From the walk that leaves the variables out to the region itself -/

theorem head_get {n : Nat} {al : List Al} {l : List Oper} (i : Nat) : (headOf n al l).toArray[i]? = (l[i]?).map fun o => if n ≤ i then blankTail o else if al.any (·.i == i) then blank o else o := by
  simp [headOf, List.getElem?_map, List.getElem?_zipIdx, Option.map_map, Function.comp_def]

theorem head_after {n : Nat} {al : List Al} {l : List Oper} (i : Nat) : ((headOf n al l).toArray[i]?).map (·.after) = (l[i]?).map (·.after) := by
  rw [head_get]
  cases l[i]? with
  | none => rfl
  | some o => simp only [Option.map_some]; split; (· rfl); (· split <;> rfl)

theorem head_ready {n : Nat} {al : List Al} {l : List Oper} {L : Array Bool} : Region.ready .any (headOf n al l).toArray L = Region.ready .any l.toArray L := by
  unfold Region.ready
  have hs : (headOf n al l).toArray.size = l.toArray.size := by simp [headOf]
  rw [hs]
  congr 1
  funext i
  congr 1
  have h := head_after (n := n) (al := al) (l := l) i
  have e : l.toArray[i]? = l[i]? := by simp
  rw [e]
  cases h1 : (headOf n al l).toArray[i]? <;> cases h2 : l[i]? <;> rw [h1, h2] at h <;> simp at h
  simp only [Option.map_some, h]

/-- The real state beside the one of the first walk. -/
structure Rel (al : List Al) (ν : Nat → Nat) (W : World) (L : Array Bool) (a b : Act) (w : World) : Prop where
  size : a.tmps.size = b.tmps.size
  defers : a.defers = b.defers
  same : ∀ t, (∀ p ∈ al, p.d ≠ t) → a.tmps[t]? = b.tmps[t]?
  made : ∀ p ∈ al, L.getD p.i false = true → a.tmps[p.d]? = some (.pointer (some ⟨ν p.i, 0, none⟩)) ∧ W.heap.size ≤ ν p.i ∧ w.heap[ν p.i]? = some (.cells p.c p.e)
  apart : ∀ p ∈ al, ∀ q ∈ al, L.getD p.i false = true → L.getD q.i false = true → p.i ≠ q.i → ν p.i ≠ ν q.i

theorem eval_same {al : List Al} {ν : Nat → Nat} {W w : World} {L : Array Bool} {a b : Act} (h : Rel al ν W L a b w) (x : Operand) (hx : ∀ p ∈ al, x ≠ .tmp p.d) : a.eval x = b.eval x := by
  cases x with
  | tmp t =>
    have := h.same t (fun p hp e => hx p hp (by rw [e]))
    simp only [Act.eval, Array.getD_eq_getD_getElem?, this]
  | _ => rfl

theorem exec_same {al : List Al} {ν : Nat → Nat} {W w : World} {L : Array Bool} {a b : Act} {ops : Array Oper} (h : Rel al ν W L a b w) (o : Oper) (hs : ∀ cs b, o.op ≠ .select cs b)
    (ho : ∀ p ∈ al, p.d ∉ o.looksAt ops) : execOp a.eval o = execOp b.eval o :=
  execOp_congr o hs fun x hx => eval_same h x fun p hp e => ho p hp (List.mem_append_left _ (List.mem_filterMap.2 ⟨x, by simpa using hx, by rw [e]⟩))

theorem wanted_same {al : List Al} {ν : Nat → Nat} {W w : World} {L : Array Bool} {a b : Act} {ops : Array Oper} (h : Rel al ν W L a b w) (o : Oper)
    (ho : ∀ p ∈ al, p.d ∉ o.looksAt ops) : Region.wanted o (yielded ops a.tmps) = Region.wanted o (yielded ops b.tmps) := by
  unfold Region.wanted
  cases hg : o.guard with
  | none => rfl
  | some gw =>
    obtain ⟨g, want⟩ := gw
    have hy : yielded ops a.tmps g = yielded ops b.tmps g := by
      unfold yielded
      cases ht : (ops[g]?).bind (·.dst) with
      | none => rfl
      | some t =>
        have := h.same t (fun p hp e => ho p hp (by subst e; simp [Oper.looksAt, hg, ht]))
        simp only [Option.bind_some, this]
    simp only [hy]

theorem Rel.put {al : List Al} {ν : Nat → Nat} {W w w' : World} {L : Array Bool} {a b : Act} (h : Rel al ν W L a b w) {i : Nat} (dst : Option Tmp) (v : Value)
    (hd : ∀ p ∈ al, dst ≠ some p.d) (hi : ∀ p ∈ al, p.i ≠ i) (hk : ∀ (n : Nat) c e, w.heap[n]? = some (.cells c e) → w'.heap[n]? = some (.cells c e)) : Rel al ν W (L.setIfInBounds i true) (a.put dst v) (b.put dst v) w' := by
  refine ⟨?_, ?_, fun t ht => ?_, fun p hp hl => ?_, fun p hp q hq hl hl' hne => ?_⟩
  · cases dst <;> simp [Act.put, h.size]
  · cases dst <;> simp [Act.put, h.defers]
  · cases dst with
    | none => exact h.same t ht
    | some d => simp only [Act.put, Array.getElem?_setIfInBounds, h.same t ht, h.size]
  · rw [getD_set_ne false (hi p hp).symm] at hl
    obtain ⟨h1, h2, h3⟩ := h.made p hp hl
    refine ⟨?_, h2, hk _ _ _ h3⟩
    cases dst with
    | none => exact h1
    | some d => simp only [Act.put]; rw [Array.getElem?_setIfInBounds_ne (fun e => hd p hp (by rw [e]))]; exact h1
  · rw [getD_set_ne false (hi p hp).symm] at hl
    rw [getD_set_ne false (hi q hq).symm] at hl'
    exact h.apart p hp q hq hl hl' hne

theorem count_set : ∀ (l : List Bool) (i : Nat), l[i]? = some false → (l.set i true).count false + 1 = l.count false
  | [], i, h => by simp at h
  | x :: l, 0, h => by simp at h; subst h; simp
  | x :: l, i + 1, h => by
    have := count_set l i (by simpa using h)
    simp only [List.set_cons_succ, List.count_cons]
    omega

theorem place_get : ∀ (al : List Al) (ns : List Nat) (a : Act) (t : Tmp), (∀ p ∈ al, p.d ≠ t) → (place al ns a).tmps[t]? = a.tmps[t]?
  | [], ns, a, t, _ => by cases ns <;> rfl
  | p :: al, [], a, t, _ => rfl
  | p :: al, m :: ns, a, t, h => by
    simp only [place]
    rw [place_get al ns _ t (fun q hq => h q (List.mem_cons_of_mem _ hq))]
    simp only [Act.put]
    exact Array.getElem?_setIfInBounds_ne (h p (List.mem_cons_self ..))

theorem place_size : ∀ (al : List Al) (ns : List Nat) (a : Act), (place al ns a).tmps.size = a.tmps.size ∧ (place al ns a).defers = a.defers
  | [], ns, a => by cases ns <;> exact ⟨rfl, rfl⟩
  | p :: al, [], a => ⟨rfl, rfl⟩
  | p :: al, m :: ns, a => by
    simp only [place]
    obtain ⟨h1, h2⟩ := place_size al ns (a.put (some p.d) (.pointer (some ⟨m, 0, none⟩)))
    exact ⟨by rw [h1]; simp [Act.put], by rw [h2]; rfl⟩

theorem place_at : ∀ (al : List Al) (f : Nat → Nat) (a : Act), (al.map (·.d)).Nodup → ∀ p ∈ al, p.d < a.tmps.size →
    (place al (al.map fun p => f p.i) a).tmps[p.d]? = some (.pointer (some ⟨f p.i, 0, none⟩))
  | [], f, a, _, p, hp, _ => by cases hp
  | q :: al, f, a, hn, p, hp, hlt => by
    simp only [List.map_cons, List.nodup_cons] at hn
    simp only [List.map_cons, place]
    rcases List.mem_cons.1 hp with rfl | hp
    · rw [place_get al _ _ _ (fun r hr e => hn.1 (List.mem_map.2 ⟨r, hr, e⟩))]
      simp [Act.put, hlt]
    · exact place_at al f _ hn.2 p hp (by simpa [Act.put] using hlt)

theorem act_ext {a b : Act} (h1 : a.tmps = b.tmps) (h2 : a.defers = b.defers) : a = b := by
  cases a; cases b; simp at h1 h2; subst h1; subst h2; rfl

section
variable {P : Program} {G : World → World → Prop} {n : Nat} {al : List Al} {l : List Oper} {Q : Exit → Act → World → Prop} {W : World}

/-- What is left to be shown behind the first walk. -/
def After (P : Program) (G : World → World → Prop) (n : Nat) (al : List Al) (l : List Oper) (Q : Exit → Act → World → Prop) (W : World) (b : Act) : Prop :=
  ∀ ns w', G W w' → Placed W w' al ns → wpList P l.toArray Q (l.drop n) (place al ns b) w'

/-- The operations of the tail are left out one by one. -/
theorem tail_blank {C : World → Prop} {K : Act → Prop} (hC : ∃ w, C w) : ∀ (f k : Nat) (L : Array Bool) (b : Act), n ≤ k → k + f = l.length → Region.seqB .any l.toArray f k L = true →
    wpAnyQ P .any (headOf n al l).toArray C K f L b → K b
  | 0, k, L, b, _, _, _, h => h.2
  | f + 1, k, L, b, hk, hf, hB, h => by
    simp only [Region.seqB, Bool.and_eq_true, decide_eq_true_eq] at hB
    have h1 := h.2 k (by rw [head_ready, hB.1]; simp)
    have hlt : k < l.length := by omega
    have hg : (headOf n al l).toArray[k]? = some (blankTail l[k]) := by
      rw [head_get, List.getElem?_eq_getElem hlt]; simp [hk]
    unfold qOp at h1
    simp only [hg, blankTail, Region.wanted, if_true] at h1
    obtain ⟨v, _, h2⟩ := h1
    exact tail_blank hC f (k + 1) _ b (by omega) (by omega) hB.2 h2

/-- The list of what has come up when the operations k, k + 1, .. (f of them) have. -/
def setAll : Nat → Nat → Array Bool → Array Bool
  | 0, _, L => L
  | f + 1, k, L => setAll f (k + 1) (L.setIfInBounds k true)

theorem setAll_size : ∀ (f k : Nat) (L : Array Bool), (setAll f k L).size = L.size
  | 0, _, _ => rfl
  | f + 1, k, L => by simp [setAll, setAll_size f]

theorem setAll_get : ∀ (f k : Nat) (L : Array Bool) (t : Nat), t < L.size → (setAll f k L)[t]? = if k ≤ t ∧ t < k + f then some true else L[t]?
  | 0, k, L, t, _ => by simp [setAll]; omega
  | f + 1, k, L, t, h => by
    rw [setAll, setAll_get f (k + 1) _ t (by simpa using h)]
    by_cases e : k = t
    · subst e
      rw [if_neg (by omega), if_pos (by omega)]
      simp [h]
    · rw [Array.getElem?_setIfInBounds_ne e]
      by_cases h2 : k + 1 ≤ t ∧ t < k + 1 + f
      · rw [if_pos h2, if_pos (by omega)]
      · rw [if_neg h2, if_neg (by omega)]

theorem seq_of_lexHead {md : Region.Mode} {ops : Array Oper} {g : Nat} : ∀ (f k : Nat) (L : Array Bool), Region.lexHead md ops g f k L = true → Region.seqB md ops g (k + f) (setAll f k L) = true
  | 0, k, L, h => by simpa [Region.lexHead, setAll] using h
  | f + 1, k, L, h => by
    simp only [Region.lexHead, Bool.and_eq_true] at h
    have := seq_of_lexHead f (k + 1) _ h.2
    rw [show k + (f + 1) = k + 1 + f by omega]
    exact this

theorem least_open : ∀ (n : Nat) (L : Array Bool), (∃ i, i < n ∧ L.getD i false = false) → ∃ i, i < n ∧ L.getD i false = false ∧ ∀ j, j < i → L.getD j false = true
  | 0, L, ⟨i, h, _⟩ => by omega
  | n + 1, L, h => by
    by_cases h0 : ∃ i, i < n ∧ L.getD i false = false
    · obtain ⟨i, h1, h2, h3⟩ := least_open n L h0
      exact ⟨i, by omega, h2, h3⟩
    · obtain ⟨i, h1, h2⟩ := h
      have : i = n := by
        rcases Nat.lt_or_ge i n with h | h
        · exact absurd ⟨i, h, h2⟩ h0
        · omega
      subst this
      refine ⟨i, h1, h2, fun j hj => ?_⟩
      cases hb : L.getD j false with
      | true => rfl
      | false => exact absurd ⟨j, hj, hb⟩ h0

theorem nodup_inj {α : Type} (f : α → Nat) : ∀ (l : List α), (l.map f).Nodup → ∀ q ∈ l, ∀ p ∈ l, f q = f p → q = p
  | [], _, q, hq, _, _, _ => by cases hq
  | x :: l, h, q, hq, p, hp, e => by
    simp only [List.map_cons, List.nodup_cons] at h
    rcases List.mem_cons.1 hq with h1 | h1 <;> rcases List.mem_cons.1 hp with h2 | h2
    · rw [h1, h2]
    · subst h1; exact absurd (List.mem_map.2 ⟨p, h2, e.symm⟩) h.1
    · subst h2; exact absurd (List.mem_map.2 ⟨q, h1, e⟩) h.1
    · exact nodup_inj f l h.2 q h1 p h2 e

theorem real_run (hG : Growth G) (hok : headOk n al l = true) (hz : ∀ p ∈ al, ∀ w, (Instr.alloc p.e true (.tuple #[])).run P w = .ok (.pointer (some ⟨w.heap.size, 0, none⟩)) (w.alloc (.cells p.c p.e))) :
    ∀ (F : Nat) (L : Array Bool) (a b : Act) (w : World) (ν : Nat → Nat), L.toList.count false = F → HeadInv .any l.toArray n L → (∀ p ∈ al, p.d < b.tmps.size) →
      (∀ g : Gr G w, wpAnyQ P .any (headOf n al l).toArray (fun w' => ∃ g' : Gr G g.x, w' = g'.x) (After P G n al l Q W) F L b) → Rel al ν W L a b w → G W w → wpAny P .any l.toArray Q F L a w := by
  have hok' := hok
  simp only [headOk, Bool.and_eq_true, decide_eq_true_eq] at hok'
  obtain ⟨⟨⟨⟨⟨hlt, hlb⟩, hal⟩, hops⟩, hnd⟩, hni⟩ := hok'
  simp only [Region.lexTailB, Bool.and_eq_true, decide_eq_true_eq] at hlt
  obtain ⟨⟨⟨⟨hsel, hn⟩, hs⟩, hc⟩, hlex⟩ := hlt
  have hn' : n < l.length := by simpa using hn
  have halp : ∀ p ∈ al, p.i < n ∧ ∃ o, l[p.i]? = some o ∧ o.op = .alloc p.e ∧ o.dst = some p.d ∧ o.guard = none := by
    intro p hp
    have := List.all_eq_true.1 hal p hp
    simp only [Bool.and_eq_true, decide_eq_true_eq] at this
    refine ⟨this.1, ?_⟩
    have h2 := this.2
    cases ho : l[p.i]? with
    | none => rw [ho] at h2; cases h2
    | some o =>
      rw [ho] at h2
      simp only [Bool.and_eq_true, beq_iff_eq, Option.isNone_iff_eq_none] at h2
      refine ⟨o, rfl, ?_, h2.1.2, h2.2⟩
      have h3 := h2.1.1
      cases hop : o.op <;> rw [hop] at h3 <;> first | (simp only [beq_iff_eq] at h3; rw [h3]) | (simp at h3)
  intro F
  induction F with
  | zero =>
    intro L a b w ν hF inv hsz H hrel hw
    exfalso
    have h0 := inv.tail n (Nat.le_refl _) (by simpa using hn')
    have hlL : n < L.size := by rw [inv.size]; simpa using hn'
    have : false ∈ L.toList := by
      rw [Array.getD_eq_getD_getElem?, Array.getElem?_eq_getElem hlL] at h0
      simp at h0
      rw [← h0]
      simp
    have := List.count_pos_iff.2 this
    omega
  | succ F ih =>
    intro L a b w ν hF inv hsz H hrel hw
    by_cases hall : ∃ i, i < n ∧ L.getD i false = false
    · obtain ⟨i0, hi0, hun0, hbefore⟩ := least_open n L hall
      refine ⟨fun h => ?_, fun i hi => ?_⟩
      · exfalso
        have : i0 ∈ Region.ready .any l.toArray L := by
          rw [mem_ready]
          have hi0l : i0 < l.length := by omega
          refine ⟨getD_in (by rw [inv.size]; simpa using hi0l) hun0, l[i0], by simp, fun e he hb => ?_⟩
          have h1 := List.all_eq_true.1 hops i0 (List.mem_range.2 (by omega))
          rw [List.getElem?_eq_getElem (by omega)] at h1
          simp only [Bool.and_eq_true] at h1
          have h2 := Array.all_eq_true_iff_forall_mem.1 h1.2 e he
          simp only [hb, Bool.not_true, Bool.false_or, decide_eq_true_eq] at h2
          exact hbefore _ h2
        rw [h] at this
        cases this
      · have hin : i < n := by
          rcases Nat.lt_or_ge i n with h | h
          · exact h
          · exact absurd hi (tail_waits hs hc hn inv _ i0 rfl hi0 (getD_in (by rw [inv.size]; simp; omega) hun0) i h)
        obtain ⟨hiun, o, ho, hdeps⟩ := mem_ready.1 hi
        have ho' : l[i]? = some o := by simpa using ho
        have hcnt : (L.setIfInBounds i true).toList.count false = F := by
          have hiL : i < L.size := by rw [inv.size]; simp; omega
          have h1 : L.toList[i]? = some false := by
            rw [Array.getD_eq_getD_getElem?, Array.getElem?_eq_getElem hiL] at hiun
            simp at hiun
            rw [← hiun]; simp [hiL]
          have h2 := count_set L.toList i h1
          have h3 : (L.setIfInBounds i true).toList = L.toList.set i true := by simp
          rw [h3]
          omega
        have hgood := List.all_eq_true.1 hops i (List.mem_range.2 (by omega))
        rw [ho'] at hgood
        simp only [Bool.and_eq_true, Bool.or_eq_true, decide_eq_true_eq] at hgood
        have hHi : (headOf n al l).toArray[i]? = some (if al.any (·.i == i) then blank o else o) := by
          rw [head_get, ho']; simp [Nat.not_le.2 hin]
        unfold wpOp
        simp only [ho]
        by_cases hA : al.any (·.i == i) = true
        · -- a variable is made
          obtain ⟨p, hp, hpi⟩ := List.any_eq_true.1 hA
          have hpi' : p.i = i := by simpa using hpi
          obtain ⟨_, o', ho2, hop, hdst, hgd⟩ := halp p hp
          rw [hpi', ho'] at ho2
          cases ho2
          have hwant : Region.wanted o (yielded l.toArray a.tmps) = true := by simp [Region.wanted, hgd]
          simp only [hwant, if_true]
          refine .inl ?_
          unfold Oper.wp
          have hrun : (execOp a.eval o).run P w = .ok (.value (.pointer (some ⟨w.heap.size, 0, none⟩))) (w.alloc (.cells p.c p.e)) := by
            have := hz p hp w
            simp [execOp, hop, this, Result.andThen]
          rw [hrun, Oper.upon_value, hdst]
          have hdz : p.d < b.tmps.size := hsz p hp
          have step : ∀ g : Gr G (w.alloc (.cells p.c p.e)), wpAnyQ P .any (headOf n al l).toArray (fun w' => ∃ g' : Gr G g.x, w' = g'.x) (After P G n al l Q W) F (L.setIfInBounds i true) (b.put (some p.d) undef) := by
            intro g
            have h1 := (H ⟨g.x, hG.trans _ _ _ (hG.alloc _ _) g.h⟩).2 i (by rw [head_ready]; exact hi)
            unfold qOp at h1
            simp only [hHi, hA, if_true, blank, Region.wanted, hgd] at h1
            obtain ⟨v, hv, h2⟩ := h1
            have h3 := hv g.x ⟨⟨g.x, hG.refl _⟩, rfl⟩
            simp only [Oper.quietAt, execOp, pure, Sem.run, Oper.quietUpon, Act.eval] at h3
            rw [← h3.2, hdst] at h2
            exact h2
          refine ih _ _ (b.put (some p.d) undef) _ (fun k => if k = i then w.heap.size else ν k) hcnt (inv.set hi hin) (fun q hq => by simpa [Act.put] using hsz q hq) step ?_ (hG.trans _ _ _ hw (hG.alloc _ _))
          refine ⟨by simp [Act.put, hrel.size], by simp [Act.put, hrel.defers], fun t ht => ?_, fun q hq hl => ?_, fun q hq r hr hl hl' hne => ?_⟩
          · have hpt := ht p hp
            simp only [Act.put]
            rw [Array.getElem?_setIfInBounds_ne hpt, Array.getElem?_setIfInBounds_ne hpt]
            exact hrel.same t ht
          · by_cases hqp : q.i = i
            · have hqe : q = p := by
                exact nodup_inj (·.i) al hni q hq p hp (hqp.trans hpi'.symm)
              subst hqe
              simp only [hqp, if_true]
              refine ⟨by simp [Act.put, hrel.size, hdz], hG.size _ _ hw, ?_⟩
              exact heap_alloc_new w _
            · simp only [hqp, if_false]
              rw [getD_set_ne false (Ne.symm hqp)] at hl
              obtain ⟨g1, g2, g3⟩ := hrel.made q hq hl
              have hdne : q.d ≠ p.d := by
                intro e
                exact hqp (by rw [nodup_inj (·.d) al hnd q hq p hp e]; exact hpi')
              refine ⟨?_, g2, ?_⟩
              · simp only [Act.put]; rw [Array.getElem?_setIfInBounds_ne (Ne.symm hdne)]; exact g1
              · exact (Below.heap_alloc w _ _ (Array.getElem?_eq_some_iff.1 g3).1).trans g3
          · by_cases hqp : q.i = i <;> by_cases hrp : r.i = i
            · exact absurd (hqp.trans hrp.symm) hne
            · simp only [hqp, hrp, if_true, if_false]
              rw [getD_set_ne false (Ne.symm hrp)] at hl'
              have := (Array.getElem?_eq_some_iff.1 (hrel.made r hr hl').2.2).1
              omega
            · simp only [hqp, hrp, if_true, if_false]
              rw [getD_set_ne false (Ne.symm hqp)] at hl
              have := (Array.getElem?_eq_some_iff.1 (hrel.made q hq hl).2.2).1
              omega
            · simp only [hqp, hrp, if_false]
              rw [getD_set_ne false (Ne.symm hqp)] at hl
              rw [getD_set_ne false (Ne.symm hrp)] at hl'
              exact hrel.apart q hq r hr hl hl' hne
        · -- whatever else
          have hA' : al.any (·.i == i) = false := by simpa using hA
          have hcl : ∀ p ∈ al, p.d ∉ o.looksAt l.toArray ∧ o.dst ≠ some p.d := by
            rcases hgood.1.1 with ((h | h) | h)
            · omega
            · exact absurd h hA
            · intro p hp
              have := List.all_eq_true.1 h p hp
              simpa using this
          have hne : ∀ p ∈ al, p.i ≠ i := fun p hp e => hA (List.any_eq_true.2 ⟨p, hp, by simp [e]⟩)
          have hsel' := Region.noSelect_spec hsel i o
          have hex : execOp a.eval o = execOp b.eval o := exec_same hrel o (fun cs b => hsel' cs b ho) (ops := l.toArray) (fun p hp => (hcl p hp).1)
          have hwt : Region.wanted o (yielded l.toArray a.tmps) = Region.wanted o (yielded l.toArray b.tmps) := wanted_same hrel o (fun p hp => (hcl p hp).1)
          have hHi' : (headOf n al l).toArray[i]? = some o := by rw [hHi, hA']; rfl
          have hwt2 : ∀ bt : Array Value, Region.wanted o (yielded (headOf n al l).toArray bt) = Region.wanted o (yielded l.toArray bt) := by
            intro bt
            unfold Region.wanted
            cases hg : o.guard with
            | none => rfl
            | some gw =>
              obtain ⟨g, want⟩ := gw
              have h5 := hgood.1.2
              rw [hg] at h5
              have hgn : g < n := by
                rcases h5 with h5 | h5
                · omega
                · simpa using h5
              have : ((headOf n al l).toArray[g]?).bind (·.dst) = (l.toArray[g]?).bind (·.dst) := by
                rw [head_get]
                simp only [List.getElem?_toArray]
                cases l[g]? with
                | none => rfl
                | some og =>
                  simp only [Option.map_some, Option.bind_some, Nat.not_le.2 hgn, if_false]
                  split <;> rfl
              simp only [yielded, this]
          have kept : ∀ {w' : World}, G w w' → ∀ (n : Nat) c e, w.heap[n]? = some (.cells c e) → w'.heap[n]? = some (.cells c e) := fun h n c e hn => hG.kept _ _ h n c e _ hn
          have go : ∀ v w', G w w' → (∀ g : Gr G w', wpAnyQ P .any (headOf n al l).toArray (fun w' => ∃ g' : Gr G g.x, w' = g'.x) (After P G n al l Q W) F (L.setIfInBounds i true) (b.put o.dst v)) →
              wpAny P .any l.toArray Q F (L.setIfInBounds i true) (a.put o.dst v) w' := fun v w' hg hst =>
            ih _ _ (b.put o.dst v) _ ν hcnt (inv.set hi hin) (fun q hq => by cases hd : o.dst <;> simpa [Act.put] using hsz q hq) hst (hrel.put o.dst v (fun p hp => (hcl p hp).2) hne (kept hg)) (hG.trans _ _ _ hw hg)
          rw [hwt]
          by_cases hwant : Region.wanted o (yielded l.toArray b.tmps) = true
          · simp only [hwant, if_true]
            refine .inl ?_
            -- the value
            have h1 := (H ⟨w, hG.refl _⟩).2 i (by rw [head_ready]; exact hi)
            unfold qOp at h1
            simp only [hHi', hwt2, hwant, if_true] at h1
            obtain ⟨v, hv, -⟩ := h1
            have step : ∀ w', G w w' → ∀ g : Gr G w', wpAnyQ P .any (headOf n al l).toArray (fun w' => ∃ g' : Gr G g.x, w' = g'.x) (After P G n al l Q W) F (L.setIfInBounds i true) (b.put o.dst v) := by
              intro w' hg g
              have h2 := (H ⟨g.x, hG.trans _ _ _ hg g.h⟩).2 i (by rw [head_ready]; exact hi)
              unfold qOp at h2
              simp only [hHi', hwt2, hwant, if_true] at h2
              obtain ⟨u, hu, h3⟩ := h2
              have huv : u = v := quiet_det (hu g.x ⟨⟨g.x, hG.refl _⟩, rfl⟩) (hv g.x ⟨⟨g.x, hG.trans _ _ _ hg g.h⟩, rfl⟩)
              rw [huv] at h3
              exact h3
            have hq := hv w ⟨⟨w, hG.refl _⟩, rfl⟩
            unfold Oper.quietAt at hq
            unfold Oper.wp
            rw [hex]
            generalize (execOp b.eval o).run P w = r at hq
            cases r with
            | ok nx w' =>
              cases nx <;> simp only [Oper.quietUpon] at hq <;> simp only [Oper.upon]
              case value u =>
                obtain ⟨rfl, rfl⟩ := hq
                exact go u _ (hG.refl _) (step _ (hG.refl _))
              case skip =>
                obtain ⟨rfl, rfl⟩ := hq
                exact go undef _ (hG.refl _) (step _ (hG.refl _))
              case enter f args =>
                obtain ⟨rfl, hcall⟩ := hq
                refine hcall.mono fun e w'' ⟨he, hw''⟩ => ?_
                subst he
                obtain ⟨g, rfl⟩ := hw''
                exact go v _ g.h (step _ g.h)
            | halt x w' => simp only [Oper.quietUpon] at hq
          · have hw0 : Region.wanted o (yielded l.toArray b.tmps) = false := by simpa using hwant
            simp only [hw0, Bool.false_eq_true, if_false]
            refine go undef _ (hG.refl _) fun g => ?_
            have h2 := (H g).2 i (by rw [head_ready]; exact hi)
            unfold qOp at h2
            simp only [hHi', hwt2, hw0, Bool.false_eq_true, if_false] at h2
            exact h2
    · -- the tail
      have hfull : ∀ i, i < n → L.getD i false = true := fun i hi => by
        cases hb : L.getD i false with
        | true => rfl
        | false => exact absurd ⟨i, hi, hb⟩ hall
      have hL : L = setAll n 0 (Array.replicate l.toArray.size false) := by
        apply Array.ext_getElem?
        intro t
        by_cases ht : t < l.length
        · rw [setAll_get n 0 _ t (by simpa using ht)]
          have htL : t < L.size := by rw [inv.size]; simpa using ht
          by_cases htn : t < n
          · rw [if_pos (by omega)]
            have := hfull t htn
            rw [Array.getD_eq_getD_getElem?, Array.getElem?_eq_getElem htL] at this
            simp at this
            rw [Array.getElem?_eq_getElem htL, this]
          · rw [if_neg (by omega)]
            have := inv.tail t (by omega) (by simpa using ht)
            rw [Array.getD_eq_getD_getElem?, Array.getElem?_eq_getElem htL] at this
            simp at this
            rw [Array.getElem?_eq_getElem htL, this]
            simp [ht]
        · rw [Array.getElem?_eq_none (by rw [inv.size]; simpa using ht), Array.getElem?_eq_none (by rw [setAll_size]; simpa using ht)]
      have hseq : Region.seqB .any l.toArray (l.length - n) n L = true := by
        have := seq_of_lexHead n 0 _ hlex
        rw [hL]
        simpa using this
      have hcount : F + 1 = l.length - n := by
        have h1 : L.toList = List.replicate n true ++ List.replicate (l.length - n) false := by
          apply List.ext_getElem?
          intro t
          have h2 : L.toList[t]? = L[t]? := by simp
          rw [h2]
          by_cases ht : t < l.length
          · rw [hL, setAll_get n 0 _ t (by simpa using ht)]
            by_cases htn : t < n
            · rw [if_pos (by omega), List.getElem?_append_left (by simpa using htn)]
              simp [htn]
            · rw [if_neg (by omega), List.getElem?_append_right (by rw [List.length_replicate]; omega), List.length_replicate, List.getElem?_replicate, if_pos (by omega)]
              simp [ht]
          · rw [Array.getElem?_eq_none (by rw [inv.size]; simpa using ht)]
            exact (List.getElem?_eq_none (by simp; omega)).symm
        rw [← hF, h1]
        simp [List.count_replicate]
      have hb : After P G n al l Q W b := by
        have h1 := H ⟨w, hG.refl _⟩
        rw [hcount] at h1
        exact tail_blank ⟨w, ⟨w, hG.refl _⟩, rfl⟩ (l.length - n) n L b (Nat.le_refl _) (by omega) hseq h1
      have hmade : ∀ p ∈ al, a.tmps[p.d]? = some (.pointer (some ⟨ν p.i, 0, none⟩)) ∧ W.heap.size ≤ ν p.i ∧ w.heap[ν p.i]? = some (.cells p.c p.e) :=
        fun p hp => hrel.made p hp (hfull _ (halp p hp).1)
      have hpl : Placed W w al (al.map fun p => ν p.i) := by
        refine ⟨by simp, ?_, fun j p m hj hm => ?_⟩
        · have : ∀ al' : List Al, (∀ p ∈ al', p ∈ al) → (al'.map (·.i)).Nodup → (al'.map fun p => ν p.i).Nodup := by
            intro al'
            induction al' with
            | nil => intro _ _; exact List.nodup_nil
            | cons p al' ih' =>
              intro hs hnd'
              simp only [List.map_cons, List.nodup_cons] at hnd' ⊢
              refine ⟨fun hmem => ?_, ih' (fun q hq => hs q (List.mem_cons_of_mem _ hq)) hnd'.2⟩
              obtain ⟨q, hq, e⟩ := List.mem_map.1 hmem
              have hpm := hs p (List.mem_cons_self ..)
              have hqm := hs q (List.mem_cons_of_mem _ hq)
              have hne : p.i ≠ q.i := fun e' => hnd'.1 (List.mem_map.2 ⟨q, hq, e'.symm⟩)
              exact hrel.apart p hpm q hqm (hfull _ (halp p hpm).1) (hfull _ (halp q hqm).1) hne e.symm
          exact this al (fun p hp => hp) hni
        · have hp : p ∈ al := List.mem_of_getElem? hj
          rw [List.getElem?_map, hj] at hm
          cases hm
          exact (hmade p hp).2
      have ha : place al (al.map fun p => ν p.i) b = a := by
        refine act_ext ?_ ((place_size _ _ _).2.trans hrel.defers.symm)
        apply Array.ext_getElem?
        intro t
        by_cases ht : ∃ p ∈ al, p.d = t
        · obtain ⟨p, hp, rfl⟩ := ht
          rw [place_at al ν b hnd p hp (hsz p hp), (hmade p hp).1]
        · rw [place_get al _ b t (fun p hp e => ht ⟨p, hp, e⟩)]
          exact (hrel.same t fun p hp e => ht ⟨p, hp, e⟩).symm
      have hw1 := hb _ w hw hpl
      rw [ha] at hw1
      have := wpAny_of_seq (md := .any) (Q' := Q) (l.drop n) n L a w (fun j => by simp [List.getElem?_drop]) (by rw [List.length_drop]; exact hseq) hw1
      rw [List.length_drop, ← hcount] at this
      exact this

/-- **A REGION THAT DRAWS ITS ORDER**, in one walk: the operations but for the tail, the variables' making left out, in the order of the text, in every world grown out of a grown one; then the variables are somewhere, and the tail is walked. -/
theorem wp_region_made (hG : Growth G) {id : Nat} {a : Act} (hm : P.follows .mixedOrders = true) (hok : headOk n al l = true)
    (hz : ∀ p ∈ al, ∀ w, (Instr.alloc p.e true (.tuple #[])).run P w = .ok (.pointer (some ⟨w.heap.size, 0, none⟩)) (w.alloc (.cells p.c p.e))) (hsz : ∀ p ∈ al, p.d < a.tmps.size)
    (h : ∀ g : Gr G W, wpQuiet P (headOf n al l).toArray (fun w' => ∃ g' : Gr G g.x, w' = g'.x) (After P G n al l Q W) (headOf n al l) a) : (Code.region id l.toArray true).wp P Q a W := by
  have hok' := hok
  simp only [headOk, Bool.and_eq_true, decide_eq_true_eq] at hok'
  obtain ⟨⟨⟨⟨⟨hlt, hlb⟩, hal⟩, hops⟩, hnd⟩, hni⟩ := hok'
  simp only [Region.lexB, Bool.and_eq_true] at hlb
  refine wp_region_any hm ?_
  have hlen : (headOf n al l).length = l.length := by simp [headOf]
  have h1 := real_run (Q := Q) (W := W) hG hok hz l.toArray.size (Array.replicate l.toArray.size false) a a { W with drawn := W.drawn + 1 } (fun _ => 0) (by simp)
    ⟨by simp, fun j oj _ hl => (by rw [getD_replicate_false] at hl; cases hl), fun t _ ht => getD_in (by simpa using ht) (getD_replicate_false _ _)⟩ hsz
    (fun g => by
      have h2 := wpAnyQ_lex (md := .any) (C := fun w' => ∃ g' : Gr G g.x, w' = g'.x) hlb.1 (headOf n al l) 0 (Array.replicate (headOf n al l).toArray.size false) a (by simp) (by simpa using hlb.2) (h ⟨g.x, hG.trans _ _ _ (hG.drew W) g.h⟩)
      simpa [hlen] using h2)
    ⟨rfl, rfl, fun _ _ => rfl, fun p _ hl => (by rw [getD_replicate_false] at hl; cases hl), fun p _ q _ hl => (by rw [getD_replicate_false] at hl; cases hl)⟩ (hG.drew W)
  exact h1
end
end Go.Sd
