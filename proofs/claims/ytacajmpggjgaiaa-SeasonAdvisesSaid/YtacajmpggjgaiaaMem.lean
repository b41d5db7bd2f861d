/- How the data of a season lie in memory; what stays when the world grows. -/
import Derived.Test.YtacajmpggjgaiaaSea
import Derived.WalkKit
set_option linter.unusedVariables false
set_option linter.unusedSimpArgs false
namespace Go.Proofs.Ytacajmpggjgaiaa
open Go.RowKit

/-- A list of whole numbers, as a slice. -/
def IntsAt (w : World) (v : Value) (xs : List Int) : Prop :=
  ∃ a cap, v = .slice a xs.length cap ∧ xs.length ≤ maxLen ∧
    (0 < xs.length → ∃ b off, a = some ⟨b, off, none⟩ ∧ b < w.heap.size ∧ ∀ k, k < xs.length → w.cell? ⟨b, off + k, none⟩ = some (.int .i64 (Sea.at0 xs k)))

/-- The three cells of a row. -/
def RowCells (w : World) (b o : Nat) (r : Sea.Row) : Prop :=
  w.cell? ⟨b, o, none⟩ = some (.int .i64 r.fill) ∧ w.cell? ⟨b, o + 1, none⟩ = some (.int .i64 r.inn) ∧ w.cell? ⟨b, o + 2, none⟩ = some (.int .i64 r.out)

/-- The eight cells of a day. -/
def DayCells (w : World) (b o : Nat) (d : Sea.Day) : Prop :=
  w.cell? ⟨b, o, none⟩ = some (.int .i64 d.buy) ∧ w.cell? ⟨b, o + 1, none⟩ = some (.int .i64 d.sell) ∧ w.cell? ⟨b, o + 2, none⟩ = some (.int .i64 d.offer) ∧
  w.cell? ⟨b, o + 3, none⟩ = some (.int .i64 d.take) ∧ w.cell? ⟨b, o + 4, none⟩ = some (.int .i64 d.glo) ∧ w.cell? ⟨b, o + 5, none⟩ = some (.int .i64 d.ghi) ∧
  w.cell? ⟨b, o + 6, none⟩ = some (.int .i64 d.nlo) ∧ w.cell? ⟨b, o + 7, none⟩ = some (.int .i64 d.nhi)

def RowsAt (w : World) (v : Value) (xs : List Sea.Row) : Prop :=
  ∃ a cap, v = .slice a xs.length cap ∧ xs.length ≤ maxLen ∧
    (0 < xs.length → ∃ b off, a = some ⟨b, off, none⟩ ∧ b < w.heap.size ∧ ∀ k, k < xs.length → RowCells w b (off + k * 3) (Sea.rowAt xs k))

def DaysAt (w : World) (v : Value) (xs : List Sea.Day) : Prop :=
  ∃ a cap, v = .slice a xs.length cap ∧ xs.length ≤ maxLen ∧
    (0 < xs.length → ∃ b off, a = some ⟨b, off, none⟩ ∧ b < w.heap.size ∧ ∀ k, k < xs.length → DayCells w b (off + k * 8) (Sea.dayAt xs k))

/-- A list of lists of whole numbers. -/
def ListsAt (w : World) (v : Value) (xs : List (List Int)) : Prop :=
  ∃ a cap, v = .slice a xs.length cap ∧ xs.length ≤ maxLen ∧
    (0 < xs.length → ∃ b off, a = some ⟨b, off, none⟩ ∧ b < w.heap.size ∧ ∀ k, k < xs.length → ∃ ev, w.cell? ⟨b, off + k, none⟩ = some ev ∧ IntsAt w ev (Sea.lstAt xs k))

def SpansAt (w : World) (v : Value) (xs : List Sea.Span) : Prop :=
  ∃ a cap, v = .slice a xs.length cap ∧ xs.length ≤ maxLen ∧
    (0 < xs.length → ∃ b off, a = some ⟨b, off, none⟩ ∧ b < w.heap.size ∧ ∀ k, k < xs.length →
      w.cell? ⟨b, off + k * 2, none⟩ = some (.int .i64 (Sea.spanAt xs k).lo) ∧ w.cell? ⟨b, off + k * 2 + 1, none⟩ = some (.int .i64 (Sea.spanAt xs k).hi))

def SpanListsAt (w : World) (v : Value) (xs : List (List Sea.Span)) : Prop :=
  ∃ a cap, v = .slice a xs.length cap ∧ xs.length ≤ maxLen ∧
    (0 < xs.length → ∃ b off, a = some ⟨b, off, none⟩ ∧ b < w.heap.size ∧ ∀ k, k < xs.length → ∃ ev, w.cell? ⟨b, off + k, none⟩ = some ev ∧ SpansAt w ev (Sea.spansAt xs k))

/-- A season by value. -/
def SeasonAt (w : World) (v : Value) (s : Sea.S) : Prop :=
  ∃ rv dv, v = .agg #[.int .i64 s.space, .int .i64 s.start, .int .i64 s.elo, .int .i64 s.ehi, rv, dv] ∧ RowsAt w rv s.rows ∧ DaysAt w dv s.days

/-- A row as a value. -/
abbrev rowV (r : Sea.Row) : Value := .agg #[.int .i64 r.fill, .int .i64 r.inn, .int .i64 r.out]

/-- A season in a block of its own. -/
abbrev sBox (s : Sea.S) (rv dv : Value) : Obj := .cells #[.int .i64 s.space, .int .i64 s.start, .int .i64 s.elo, .int .i64 s.ehi, rv, dv] 27

theorem box_season {w W : World} {s : Sea.S} {rv dv : Value} (h : w.alloc (sBox s rv dv) = W) :
    w.heap.size < W.heap.size ∧ Below w.heap.size w W ∧
    W.cell? ⟨w.heap.size, 0, none⟩ = some (.int .i64 s.space) ∧ W.cell? ⟨w.heap.size, 1, none⟩ = some (.int .i64 s.start) ∧
    W.cell? ⟨w.heap.size, 2, none⟩ = some (.int .i64 s.elo) ∧ W.cell? ⟨w.heap.size, 3, none⟩ = some (.int .i64 s.ehi) ∧
    W.cell? ⟨w.heap.size, 4, none⟩ = some rv ∧ W.cell? ⟨w.heap.size, 5, none⟩ = some dv := by
  subst h
  refine ⟨by simp, (Below.refl _ _).alloc (Nat.le_refl _) _, ?_, ?_, ?_, ?_, ?_, ?_⟩ <;> simp [sBox]

/-! What stays -/
theorem kept_cell {w w' : World} (hb : Below w.heap.size w w') {b o : Nat} {v : Value} (h : w.cell? ⟨b, o, none⟩ = some v) : w'.cell? ⟨b, o, none⟩ = some v :=
  (hb.cell (p := ⟨b, o, none⟩) (World.block_lt_of_cell? w ⟨b, o, none⟩ h)).trans h

theorem RowCells.mono {w w' : World} {b o : Nat} {r : Sea.Row} (h : RowCells w b o r) (hb : Below w.heap.size w w') : RowCells w' b o r :=
  ⟨kept_cell hb h.1, kept_cell hb h.2.1, kept_cell hb h.2.2⟩

theorem DayCells.mono {w w' : World} {b o : Nat} {r : Sea.Day} (h : DayCells w b o r) (hb : Below w.heap.size w w') : DayCells w' b o r :=
  ⟨kept_cell hb h.1, kept_cell hb h.2.1, kept_cell hb h.2.2.1, kept_cell hb h.2.2.2.1, kept_cell hb h.2.2.2.2.1, kept_cell hb h.2.2.2.2.2.1, kept_cell hb h.2.2.2.2.2.2.1, kept_cell hb h.2.2.2.2.2.2.2⟩

theorem IntsAt.mono {w w' : World} {v : Value} {xs : List Int} (h : IntsAt w v xs) (hb : Below w.heap.size w w') : IntsAt w' v xs := by
  obtain ⟨a, cap, rfl, hm, hc⟩ := h
  refine ⟨a, cap, rfl, hm, fun h0 => ?_⟩
  obtain ⟨b, off, rfl, hlt, hk⟩ := hc h0
  exact ⟨b, off, rfl, Nat.lt_of_lt_of_le hlt hb.size, fun k hk' => kept_cell hb (hk k hk')⟩

theorem RowsAt.mono {w w' : World} {v : Value} {xs : List Sea.Row} (h : RowsAt w v xs) (hb : Below w.heap.size w w') : RowsAt w' v xs := by
  obtain ⟨a, cap, rfl, hm, hc⟩ := h
  refine ⟨a, cap, rfl, hm, fun h0 => ?_⟩
  obtain ⟨b, off, rfl, hlt, hk⟩ := hc h0
  exact ⟨b, off, rfl, Nat.lt_of_lt_of_le hlt hb.size, fun k hk' => (hk k hk').mono hb⟩

theorem DaysAt.mono {w w' : World} {v : Value} {xs : List Sea.Day} (h : DaysAt w v xs) (hb : Below w.heap.size w w') : DaysAt w' v xs := by
  obtain ⟨a, cap, rfl, hm, hc⟩ := h
  refine ⟨a, cap, rfl, hm, fun h0 => ?_⟩
  obtain ⟨b, off, rfl, hlt, hk⟩ := hc h0
  exact ⟨b, off, rfl, Nat.lt_of_lt_of_le hlt hb.size, fun k hk' => (hk k hk').mono hb⟩

theorem SeasonAt.mono {w w' : World} {v : Value} {s : Sea.S} (h : SeasonAt w v s) (hb : Below w.heap.size w w') : SeasonAt w' v s := by
  obtain ⟨rv, dv, rfl, hr, hd⟩ := h
  exact ⟨rv, dv, rfl, hr.mono hb, hd.mono hb⟩

theorem ListsAt.mono {w w' : World} {v : Value} {xs : List (List Int)} (h : ListsAt w v xs) (hb : Below w.heap.size w w') : ListsAt w' v xs := by
  obtain ⟨a, cap, rfl, hm, hc⟩ := h
  refine ⟨a, cap, rfl, hm, fun h0 => ?_⟩
  obtain ⟨b, off, rfl, hlt, hk⟩ := hc h0
  exact ⟨b, off, rfl, Nat.lt_of_lt_of_le hlt hb.size, fun k hk' => let ⟨ev, h1, h2⟩ := hk k hk'; ⟨ev, kept_cell hb h1, h2.mono hb⟩⟩

theorem SpansAt.mono {w w' : World} {v : Value} {xs : List Sea.Span} (h : SpansAt w v xs) (hb : Below w.heap.size w w') : SpansAt w' v xs := by
  obtain ⟨a, cap, rfl, hm, hc⟩ := h
  refine ⟨a, cap, rfl, hm, fun h0 => ?_⟩
  obtain ⟨b, off, rfl, hlt, hk⟩ := hc h0
  exact ⟨b, off, rfl, Nat.lt_of_lt_of_le hlt hb.size, fun k hk' => ⟨kept_cell hb (hk k hk').1, kept_cell hb (hk k hk').2⟩⟩

theorem SpanListsAt.mono {w w' : World} {v : Value} {xs : List (List Sea.Span)} (h : SpanListsAt w v xs) (hb : Below w.heap.size w w') : SpanListsAt w' v xs := by
  obtain ⟨a, cap, rfl, hm, hc⟩ := h
  refine ⟨a, cap, rfl, hm, fun h0 => ?_⟩
  obtain ⟨b, off, rfl, hlt, hk⟩ := hc h0
  exact ⟨b, off, rfl, Nat.lt_of_lt_of_le hlt hb.size, fun k hk' => let ⟨ev, h1, h2⟩ := hk k hk'; ⟨ev, kept_cell hb h1, h2.mono hb⟩⟩

end Go.Proofs.Ytacajmpggjgaiaa
