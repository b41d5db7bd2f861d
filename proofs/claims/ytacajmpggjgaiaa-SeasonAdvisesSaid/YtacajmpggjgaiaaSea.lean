/- The plain model of a season: no Go in sight. -/
set_option linter.unusedVariables false
set_option linter.unusedSimpArgs false
namespace Sea

structure Row where
  fill : Int
  inn : Int
  out : Int

structure Day where
  buy : Int
  sell : Int
  offer : Int
  take : Int
  glo : Int
  ghi : Int
  nlo : Int
  nhi : Int

structure S where
  space : Int
  start : Int
  elo : Int
  ehi : Int
  rows : List Row
  days : List Day

def rowAt (l : List Row) (k : Nat) : Row := l.getD k ⟨0, 0, 0⟩
def dayAt (l : List Day) (k : Nat) : Day := l.getD k ⟨0, 0, 0, 0, 0, 0, 0, 0⟩
/-- The number at a place of a list; 0 beyond its end. -/
def at0 (l : List Int) (k : Nat) : Int := l.getD k 0

/-- What it costs if nothing is possible. -/
def never : Int := 1000000000000000

def inB (x low high : Int) : Bool := decide (low ≤ x) && decide (x ≤ high)
def spanB (lo hi low high : Int) : Bool := decide (low ≤ lo) && decide (lo ≤ hi) && decide (hi ≤ high)

def rowB (rows : List Row) (i : Nat) : Bool :=
  inB (rowAt rows i).fill 0 100 && inB (rowAt rows i).inn 0 100 && inB (rowAt rows i).out 0 100 &&
    !(decide (i = 0) && decide ((rowAt rows i).fill ≠ 0)) && !(decide (0 < i) && decide ((rowAt rows i).fill ≤ (rowAt rows (i - 1)).fill))
def rowsB (rows : List Row) : Bool := (List.range rows.length).all (rowB rows)

def dayB (space : Int) (d : Day) : Bool :=
  inB d.buy 0 1000000 && inB d.sell 0 1000000 && inB d.offer 0 100 && inB d.take 0 100 && spanB d.glo d.ghi 0 space && spanB d.nlo d.nhi (-100) 100
def daysB (s : S) : Bool := (List.range s.days.length).all fun i => dayB s.space (dayAt s.days i)

def headB (s : S) : Bool :=
  inB s.space 1 100 && inB s.start 0 s.space && spanB s.elo s.ehi 0 s.space && inB s.rows.length 1 8 && inB s.days.length 1 20

/-- Whether a season is as defined. -/
def validB (s : S) : Bool := headB s && rowsB s.rows && daysB s

/-- What a season that is as defined comes to. -/
structure Ok (s : S) : Prop where
  space : 1 ≤ s.space ∧ s.space ≤ 100
  start : 0 ≤ s.start ∧ s.start ≤ s.space
  fin : 0 ≤ s.elo ∧ s.elo ≤ s.ehi ∧ s.ehi ≤ s.space
  nrows : 1 ≤ s.rows.length ∧ s.rows.length ≤ 8
  ndays : 1 ≤ s.days.length ∧ s.days.length ≤ 20
  row0 : (rowAt s.rows 0).fill = 0
  rows : ∀ k, k < s.rows.length → 0 ≤ (rowAt s.rows k).fill ∧ (rowAt s.rows k).fill ≤ 100 ∧ 0 ≤ (rowAt s.rows k).inn ∧ (rowAt s.rows k).inn ≤ 100 ∧ 0 ≤ (rowAt s.rows k).out ∧ (rowAt s.rows k).out ≤ 100
  days : ∀ k, k < s.days.length → 0 ≤ (dayAt s.days k).buy ∧ (dayAt s.days k).buy ≤ 1000000 ∧ 0 ≤ (dayAt s.days k).sell ∧ (dayAt s.days k).sell ≤ 1000000 ∧
    0 ≤ (dayAt s.days k).offer ∧ (dayAt s.days k).offer ≤ 100 ∧ 0 ≤ (dayAt s.days k).take ∧ (dayAt s.days k).take ≤ 100 ∧
    0 ≤ (dayAt s.days k).glo ∧ (dayAt s.days k).glo ≤ (dayAt s.days k).ghi ∧ (dayAt s.days k).ghi ≤ s.space ∧
    -100 ≤ (dayAt s.days k).nlo ∧ (dayAt s.days k).nlo ≤ (dayAt s.days k).nhi ∧ (dayAt s.days k).nhi ≤ 100

theorem inB_iff {x l h : Int} : inB x l h = true ↔ l ≤ x ∧ x ≤ h := by simp [inB]
theorem inB_not {x l h : Int} : inB x l h = false ↔ ¬ (l ≤ x ∧ x ≤ h) := by rw [← inB_iff]; simp
theorem spanB_iff {a b l h : Int} : spanB a b l h = true ↔ l ≤ a ∧ a ≤ b ∧ b ≤ h := by simp [spanB, and_assoc]

theorem ok_of_valid {s : S} (h : validB s = true) : Ok s := by
  simp only [validB, headB, rowsB, daysB, Bool.and_eq_true, inB_iff, spanB_iff, List.all_eq_true, List.mem_range] at h
  obtain ⟨⟨⟨⟨⟨⟨h1, h2⟩, h3⟩, h4⟩, h5⟩, hr⟩, hd⟩ := h
  refine ⟨h1, h2, h3, by omega, by omega, ?_, fun k hk => ?_, fun k hk => ?_⟩
  · have := hr 0 (by omega)
    simp only [rowB, Bool.and_eq_true, inB_iff] at this
    have h6 := this.1.2
    simp at h6
    exact h6
  · have := hr k hk
    simp only [rowB, Bool.and_eq_true, inB_iff] at this
    omega
  · have := hd k hk
    simp only [dayB, Bool.and_eq_true, inB_iff, spanB_iff] at this
    omega

/-- The last row among the first ones whose fill is at most this one; the first row, if there is none. -/
def limTo (rows : List Row) (fill : Int) : Nat → Row
  | 0 => rowAt rows 0
  | k + 1 => if (rowAt rows k).fill ≤ fill then rowAt rows k else limTo rows fill k
/-- The limits of a fill. -/
def S.lim (s : S) (fill : Int) : Row := limTo s.rows fill s.rows.length

/-- The first rule that an order breaks: 1, if it breaks none. -/
def S.rule (s : S) (day : Nat) (fill nom x : Int) : Int :=
  if (dayAt s.days day).offer < x then 2
  else if (dayAt s.days day).take < -x then 3
  else if (s.lim fill).inn < nom + x then 4
  else if (s.lim fill).out < -nom - x then 5
  else if inB (fill + nom + x) (dayAt s.days day).glo (dayAt s.days day).ghi = false then 6
  else if (day : Int) = (s.days.length : Int) - 1 ∧ inB (fill + nom + x) s.elo s.ehi = false then 7
  else 1

/-- The cost of an order. -/
def S.cost (s : S) (day : Nat) (x : Int) : Int := if x < 0 then x * (dayAt s.days day).sell else x * (dayAt s.days day).buy

/-- The least sum among the first k orders from a on of the cost of a possible order and the value of the new fill, and the least order with it. -/
def leastTo (s : S) (day : Nat) (fill nom : Int) (next : List Int) : Nat → Int × Int
  | 0 => (never, 0)
  | k + 1 =>
    let b := leastTo s day fill nom next k
    let x := (k : Int) - (dayAt s.days day).take
    if s.rule day fill nom x = 1 ∧ at0 next (fill + nom + x).toNat < never ∧ s.cost day x + at0 next (fill + nom + x).toNat < b.1
    then (s.cost day x + at0 next (fill + nom + x).toNat, x) else b
/-- The least sum, and the least order with it. -/
def S.least (s : S) (day : Nat) (fill nom : Int) (next : List Int) : Int × Int :=
  leastTo s day fill nom next ((dayAt s.days day).take + (dayAt s.days day).offer + 1).toNat

def lstAt (l : List (List Int)) (k : Nat) : List Int := l.getD k []

structure Span where
  lo : Int
  hi : Int
  deriving DecidableEq

def spanAt (l : List Span) (k : Nat) : Span := l.getD k ⟨0, 0⟩
def spansAt (l : List (List Span)) (k : Nat) : List Span := l.getD k []

/-- Whether a list comes before another one. -/
def before : List Int → List Int → Bool
  | a :: as, b :: bs => if a = b then before as bs else decide (a < b)
  | _, _ => false

/-- Whether a fill lies in some spans. -/
def isSafe (l : List Span) (fill : Int) : Bool := l.any fun x => inB fill x.lo x.hi

/-- The values at the end. -/
def S.lastAt (s : S) (f : Int) : Int := if inB f s.elo s.ehi then 0 else never
def S.last (s : S) : List Int := (List.range (s.space + 1).toNat).map fun (f : Nat) => s.lastAt (f : Int)

def S.nomsB (s : S) (l : List Int) : Bool := decide (l.length = s.days.length) && (List.range l.length).all fun t => inB (at0 l t) (dayAt s.days t).nlo (dayAt s.days t).nhi
def S.planB (s : S) (l : List Int) : Bool := (l.all fun n => inB n (-100) 100) && decide (l.length = s.days.length)
def S.valuesB (s : S) (l : List (List Int)) : Bool :=
  (l.all fun x => decide ((x.length : Int) = s.space + 1) && x.all fun n => inB n (-1000000000000000) 1000000000000000) && decide (l.length = s.days.length + 1)

end Sea
