/- Laws and walks: SOwn, SW5, STab2. -/
import Derived.Test.YtpcamocnlnlgiaaGreatK26
set_option maxRecDepth 100000
set_option maxHeartbeats 16000000
set_option linter.unusedVariables false
set_option linter.unusedSimpArgs false
namespace Go.Proofs.YtpcamocnlnlgiaaGreat.S
open Go.RowKit Go.Sd
theorem infoInt : (Tryz.prog.info? 3).map (fun i => (i.zero, i.size, i.bytes)) = some (some (.int .i64 0), 1, 8) := by kernel_rfl
def OwnInts (B : Nat) (w : World) (v : Value) (xs : List Int) : Prop := w.ownsRow B 3 1 v xs.length (xs.map (Value.int .i64))
theorem OwnInts.nil (B : Nat) (w : World) : OwnInts B w (.slice none 0 0) [] := World.ownsRow_nil w B _ 1
theorem OwnInts.lt {B : Nat} {w : World} {v : Value} {xs : List Int} (h : OwnInts B w v xs) : ∀ k, v.ownBlock = some k → B ≤ k ∧ k < w.heap.size := World.ownsRow.lt h
theorem OwnInts.kept {B : Nat} {w w' : World} {row : Option Nat} {v : Value} {xs : List Int} (h : OwnInts B w v xs) (hg : w.grownBy w' row) (hne : v.ownBlock = none ∨ v.ownBlock ≠ row) : OwnInts B w' v xs := World.ownsRow.kept h hg hne
theorem grown_of_below {w w' : World} (h : Below w.heap.size w w') : w.grownBy w' none :=
 ⟨h.os, h.tape, h.output, h.size, fun k hk _ => h.block k hk⟩
theorem OwnInts.mono {B : Nat} {w w' : World} {v : Value} {xs : List Int} (h : OwnInts B w v xs) (hb : Below w.heap.size w w') : OwnInts B w' v xs :=
 h.kept (grown_of_below hb) (by cases v.ownBlock <;> simp)
theorem OwnInts.from {B B' : Nat} {w : World} {v : Value} {xs : List Int} (h : OwnInts B w v xs) (hB : B' ≤ B) : OwnInts B' w v xs := by
 obtain ⟨h1, h2⟩ := h
 refine ⟨h1, ?_⟩
 rcases h2 with h2 | ⟨g, cap, cur, hv, hg, r⟩
 · exact .inl h2
 · exact .inr ⟨g, cap, cur, hv, by omega, r⟩
theorem OwnInts.at {B : Nat} {w : World} {v : Value} {xs : List Int} (h : OwnInts B w v xs) : IntsAt w v xs := by
 obtain ⟨_, h2⟩ := h
 rcases h2 with ⟨rfl, h0⟩ | ⟨g, cap, cur, rfl, hB, hg, hn, hm, hs, ht⟩
 · refine ⟨none, 0, by rw [h0], by simp [h0], fun h => by omega⟩
 · refine ⟨some ⟨g, 0, none⟩, cap, rfl, by omega, fun _ => ⟨g, 0, rfl, (zqo hg), fun k hk => ?_⟩⟩
   rw [Nat.zero_add, cell_of_row w g k cur _ (0, 0) hg]
   have h1 : (cur.toList.take (xs.length * 1))[k]? = (xs.map (Value.int .i64))[k]? := by rw [ht]
   rw [List.getElem?_take, if_pos (by omega)] at h1
   simp only [List.getElem?_map, List.getElem?_eq_getElem hk, Option.map_some] at h1
   rw [← Array.getElem?_toList, h1]
   simp [Sea.at0, hk]
theorem own_more {B : Nat} {w : World} {v : Value} {xs : List Int} {y : Int} (h : w.ownsRow B 3 1 v (xs.length + 1) (xs.map (Value.int .i64) ++ [.int .i64 y])) : OwnInts B w v (xs ++ [y]) := by
 unfold OwnInts
 simpa using h
theorem below_append {B : Nat} {W w w' : World} {v : Value} {xs : List Int} (hb : Below B W w) (hB : B ≤ w.heap.size) (ho : OwnInts B w v xs) (hg : w.grownBy w' v.ownBlock) : Below B W w' :=
 hb.grown hg hB fun k hk => (ho.lt k hk).1
theorem grownBy_trans {a b c : World} {row : Option Nat} (h : a.grownBy b row) (k : b.grownBy c row) : a.grownBy c row :=
 ⟨k.os.trans h.os, k.tape.trans h.tape, k.output.trans h.output, Nat.le_trans h.size k.size, fun i hi hne => (k.block i (Nat.lt_of_lt_of_le hi h.size) hne).trans (h.block i hi hne)⟩
theorem wpList_app_int {ops : Array Oper} {rest : List Oper} {o : Oper} {a : Act} {Q : Exit → Act → World → Prop} (hgd : o.guard = none) (s x : Operand)
    (ho : o.op = .call { callee := .builtin .append, args := #[s, x], argTypes := #[41, 41] })
    (B : Nat) (w : World) (v : Value) (xs : List Int) (y : Int) (hs : a.eval s = v) (hown : OwnInts B w v xs) (hx : a.eval x = .slice (some ⟨w.heap.size, 0, none⟩) 1 1)
    (hn : xs.length ≤ 1000000) (hB : B ≤ w.heap.size)
    (h : ∀ v' w', OwnInts B w' v' (xs ++ [y]) → w.grownBy w' v.ownBlock → v' ≠ .slice none 0 0 → (v'.ownBlock = v.ownBlock ∨ ∃ m, v'.ownBlock = some m ∧ w.heap.size ≤ m) → wpList Tryz.prog ops Q rest (a.put o.dst v') w') :
    wpList Tryz.prog ops Q (o :: rest) a (w.alloc (.cells #[.int .i64 y] 3)) := by
 obtain ⟨i0, hi, hz0, hz1, hz2⟩ := info_parts infoInt
 refine wpList_append_own_at _ hgd s x 41 ho B 3 i0 (.int .i64 0) 1 8 Tryz.underlying41 hi hz0 hz1 hz2 rfl (by decide) v xs.length _ hs (World.ownsRow.alloc hown _) ⟨w.heap.size, 0, none⟩ 1 1 [.int .i64 y] hx rfl ?_ ?_ ?_ ?_ ?_ ?_
 · exact cell_one_new _ _ _
 · simp [Value.oneCell']
 · unfold maxLen; omega
 · omega
 · simp; omega
 · intro v' w' h1 h2 h3 h4
   refine h v' w' (own_more h1) (grownBy_trans (World.grownBy_alloc w _ _) h2) (fun e => by have := h3.1 e; omega) ?_
   rcases h4 with h4 | h4
   · exact .inl h4
   · exact .inr ⟨_, h4, by simp⟩
end Go.Proofs.YtpcamocnlnlgiaaGreat.S
namespace Go.Proofs.YtpcamocnlnlgiaaGreat.S
open Go.RowKit Go.Sd
def valAt (vs : List Value) (i : Nat) : Value := vs.getD i (.slice none 0 0)
structure OwnMat (B b : Nat) (w : World) (vs : List Value) (rows : List (List Int)) : Prop where
 heap : w.heap[b]? = some (.cells vs.toArray 41)
 len : vs.length = rows.length
 low : B ≤ b
 own : ∀ i, i < rows.length → OwnInts B w (valAt vs i) (Sea.lstAt rows i)
 ne : ∀ i, i < rows.length → (valAt vs i).ownBlock ≠ some b
 apart : ∀ i j, i < rows.length → j < rows.length → i ≠ j → (valAt vs i).ownBlock = none ∨ (valAt vs i).ownBlock ≠ (valAt vs j).ownBlock
theorem OwnMat.grown {B b : Nat} {w w' : World} {vs : List Value} {rows : List (List Int)} (h : OwnMat B b w vs rows) (hg : w.grownBy w' none) : OwnMat B b w' vs rows :=
 ⟨(hg.block b (zqo h.heap) (by simp)).trans h.heap, h.len, h.low, fun i hi => (h.own i hi).kept hg (by cases (valAt vs i).ownBlock <;> simp), h.ne, h.apart⟩
theorem OwnMat.mono {B b : Nat} {w w' : World} {vs : List Value} {rows : List (List Int)} (h : OwnMat B b w vs rows) (hb : Below w.heap.size w w') : OwnMat B b w' vs rows := h.grown (grown_of_below hb)
theorem valAt_set {vs : List Value} {i j : Nat} {v : Value} (hi : i < vs.length) : valAt (vs.set i v) j = if j = i then v else valAt vs j := by
 unfold valAt
 by_cases h : j = i
 · subst h; simp [hi]
 · simp [h, List.getElem?_set, Ne.symm h]
theorem lstAt_set {rows : List (List Int)} {i j : Nat} {v : List Int} (hi : i < rows.length) : Sea.lstAt (rows.set i v) j = if j = i then v else Sea.lstAt rows j := by
 unfold Sea.lstAt
 by_cases h : j = i
 · subst h; simp [hi]
 · simp [h, List.getElem?_set, Ne.symm h]
theorem OwnMat.more {B b : Nat} {w w1 : World} {vs : List Value} {rows : List (List Int)} {i : Nat} {v' : Value} {y : Int} (h : OwnMat B b w vs rows) (hi : i < rows.length)
    (hg : w.grownBy w1 (valAt vs i).ownBlock) (ho : OwnInts B w1 v' (Sea.lstAt rows i ++ [y])) (hat : v'.ownBlock = (valAt vs i).ownBlock ∨ ∃ m, v'.ownBlock = some m ∧ w.heap.size ≤ m) :
    OwnMat B b (w1.setCell ⟨b, i, none⟩ v') (vs.set i v') (rows.set i (Sea.lstAt rows i ++ [y])) := by
 have hiv : i < vs.length := by rw [h.len]; exact hi
 have hlt := (zqo h.heap)
 have hb1 : w1.heap[b]? = some (.cells vs.toArray 41) := (hg.block b hlt (Ne.symm (h.ne i hi))).trans h.heap
 have hv'b : v'.ownBlock ≠ some b := by
  rcases hat with e | ⟨m, e, hm⟩
  · rw [e]; exact h.ne i hi
  · rw [e]; intro h'; cases h'; omega
 have hset : w1.grownBy (w1.setCell ⟨b, i, none⟩ v') (some b) := ⟨rfl, rfl, rfl, by simp [World.setCell], fun k _ hk => Below.heap_setCell _ _ _ _ (fun e => hk (by rw [e]))⟩
 have away : ∀ j, j < rows.length → j ≠ i → (valAt vs j).ownBlock = none ∨ (valAt vs j).ownBlock ≠ v'.ownBlock := by
  intro j hj hji
  rcases hat with e | ⟨m, e, hm⟩
  · rw [e]; exact h.apart j i hj hi hji
  · rw [e]
    cases hq : (valAt vs j).ownBlock with
    | none => exact .inl rfl
    | some q => exact .inr (by have := ((h.own j hj).lt q hq).2; intro h'; cases h'; omega)
 refine ⟨?_, by simp [h.len], h.low, ?_, ?_, ?_⟩
 · simp only [World.setCell, Array.getElem?_modify, if_true, hb1]
   simp
 · intro j hj
   rw [List.length_set] at hj
   rw [valAt_set hiv, lstAt_set hi]
   by_cases hji : j = i
   · rw [if_pos hji, if_pos hji]
     exact ho.kept hset (.inr hv'b)
   · rw [if_neg hji, if_neg hji]
     exact ((h.own j hj).kept hg (h.apart j i hj hi hji)).kept hset (.inr (h.ne j hj))
 · intro j hj
   rw [List.length_set] at hj
   rw [valAt_set hiv]
   by_cases hji : j = i
   · rw [if_pos hji]; exact hv'b
   · rw [if_neg hji]; exact h.ne j hj
 · intro j k hj hk hjk
   rw [List.length_set] at hj hk
   rw [valAt_set hiv, valAt_set hiv]
   by_cases hji : j = i
   · by_cases hki : k = i
     · omega
     · rw [if_pos hji, if_neg hki]
       rcases away k hk hki with e | e
       · rw [e]; cases hq : v'.ownBlock with
         | none => exact .inl rfl
         | some q => exact .inr (by simp)
       · exact .inr (Ne.symm e)
   · by_cases hki : k = i
     · rw [if_neg hji, if_pos hki]; exact away j hj hji
     · rw [if_neg hji, if_neg hki]; exact h.apart j k hj hk hjk
theorem OwnMat.at {B b : Nat} {w : World} {vs : List Value} {rows : List (List Int)} (h : OwnMat B b w vs rows) (hm : rows.length ≤ maxLen) (cap : Nat) : ListsAt w (.slice (some ⟨b, 0, none⟩) rows.length cap) rows := by
 refine ⟨_, cap, rfl, hm, fun _ => ⟨b, 0, rfl, (zqo h.heap), fun k hk => ⟨valAt vs k, ?_, (h.own k hk).at⟩⟩⟩
 rw [(row_cells h.heap).2.1]
 have : k < vs.length := by rw [h.len]; exact hk
 simp [valAt, this]
theorem OwnMat.made (B n : Nat) (w : World) (hB : B ≤ w.heap.size) : OwnMat B w.heap.size (w.alloc (.cells (Array.replicate n (.slice none 0 0)) 41)) (List.replicate n (.slice none 0 0)) (List.replicate n []) := by
 have hv : ∀ i, valAt (List.replicate n (.slice none 0 0)) i = .slice none 0 0 := by
  intro i; unfold valAt; by_cases h : i < n <;> simp [h]
 refine ⟨(World.alloc_heap_new _ _).trans (by simp), by simp, hB, ?_, ?_, ?_⟩
 · intro i hi
   rw [hv]
   have : Sea.lstAt (List.replicate n ([] : List Int)) i = [] := by unfold Sea.lstAt; by_cases h : i < n <;> simp [h]
   rw [this]
   exact OwnInts.nil _ _
 · intro i _; rw [hv]; simp [Value.ownBlock]
 · intro i j _ _ _; rw [hv]; exact .inl rfl
end Go.Proofs.YtpcamocnlnlgiaaGreat.S
namespace Go.Proofs.YtpcamocnlnlgiaaGreat.S
open Go.RowKit Go.Sd
def TabAt (B b : Nat) (bad : List Nat) (w : World) (rows : List (List Int)) : Prop :=
 ∃ vs, OwnMat B b w vs rows ∧ ∀ i, i < rows.length → ∀ k, k ∈ bad → (valAt vs i).ownBlock ≠ some k
theorem TabAt.mono {B b : Nat} {bad : List Nat} {w w' : World} {rows : List (List Int)} (h : TabAt B b bad w rows) (hb : Below w.heap.size w w') : TabAt B b bad w' rows := by
 obtain ⟨vs, h1, h2⟩ := h
 exact ⟨vs, h1.mono hb, h2⟩
theorem TabAt.add {B b : Nat} {bad : List Nat} {w : World} {rows : List (List Int)} (h : TabAt B b bad w rows) {m : Nat} (hm : w.heap.size ≤ m) : TabAt B b (m :: bad) w rows := by
 obtain ⟨vs, h1, h2⟩ := h
 refine ⟨vs, h1, fun i hi k hk e => ?_⟩
 rcases List.mem_cons.1 hk with rfl | hk
 · have := ((h1.own i hi).lt _ e).2; omega
 · exact h2 i hi k hk e
theorem TabAt.less {B b : Nat} {bad bad' : List Nat} {w : World} {rows : List (List Int)} (h : TabAt B b bad w rows) (hs : ∀ k, k ∈ bad' → k ∈ bad) : TabAt B b bad' w rows := by
 obtain ⟨vs, h1, h2⟩ := h
 exact ⟨vs, h1, fun i hi k hk => h2 i hi k (hs k hk)⟩
theorem OwnInts.same {B : Nat} {w w' : World} {v : Value} {xs : List Int} (h : OwnInts B w v xs) (hb : ∀ k, v.ownBlock = some k → w'.heap[k]? = w.heap[k]?) : OwnInts B w' v xs := by
 obtain ⟨h1, h2⟩ := h
 refine ⟨h1, ?_⟩
 rcases h2 with h2 | ⟨g, cap, cur, rfl, hB, hg, r⟩
 · exact .inl h2
 · exact .inr ⟨g, cap, cur, rfl, hB, (hb g rfl).trans hg, r⟩
theorem TabAt.kept {B b : Nat} {bad : List Nat} {w w' : World} {rows : List (List Int)} (h : TabAt B b bad w rows) (hk : Kept (fun k => B ≤ k ∧ k ∉ bad) w w') (hb : b ∉ bad) : TabAt B b bad w' rows := by
 obtain ⟨vs, h1, h2⟩ := h
 refine ⟨vs, ⟨(hk.block b (zqo h1.heap) ⟨h1.low, hb⟩).trans h1.heap, h1.len, h1.low, fun i hi => (h1.own i hi).same fun k e => hk.block k ((h1.own i hi).lt k e).2 ⟨((h1.own i hi).lt k e).1, fun hm => h2 i hi k hm e⟩, h1.ne, h1.apart⟩, h2⟩
theorem TabAt.setCell {B b : Nat} {bad : List Nat} {w : World} {rows : List (List Int)} (h : TabAt B b bad w rows) {p : Addr} (hp : p.block ∈ bad) (hb : b ∉ bad) (u : Value) : TabAt B b bad (w.setCell p u) rows :=
 h.kept ((Kept.refl _ _).setCell (.inl fun h => h.2 hp) u) hb
theorem tab_more {B b : Nat} {bad : List Nat} {w w1 : World} {vs : List Value} {rows : List (List Int)} {i : Nat} {g cap : Nat} {y : Int} (h : OwnMat B b w vs rows) (hbad : ∀ i, i < rows.length → ∀ k, k ∈ bad → (valAt vs i).ownBlock ≠ some k)
    (hi : i < rows.length) (hlt : ∀ k, k ∈ bad → k < w.heap.size) (hbb : b ∉ bad) {n : Nat} (hn : n = (Sea.lstAt rows i).length)
    (hown : w1.ownsRow B 3 1 (.slice (some ⟨g, 0, none⟩) (n + 1) cap) (n + 1) ((Sea.lstAt rows i).map (Value.int .i64) ++ [.int .i64 y]))
    (hg : w.grownBy w1 (valAt vs i).ownBlock) (hat : (valAt vs i).ownBlock = some g ∨ w.heap.size ≤ g) :
    TabAt B b bad (w1.setCell ⟨b, i, none⟩ (.slice (some ⟨g, 0, none⟩) (n + 1) cap)) (rows.set i (Sea.lstAt rows i ++ [y])) ∧
     Kept (fun k => k < B ∨ k ∈ bad) w (w1.setCell ⟨b, i, none⟩ (.slice (some ⟨g, 0, none⟩) (n + 1) cap)) := by
 subst hn
 have hiv : i < vs.length := by rw [h.len]; exact hi
 have hm := h.more (i := i) (y := y) hi hg (own_more hown) (by rcases hat with e | e; exact .inl e.symm; exact .inr ⟨g, rfl, e⟩)
 refine ⟨⟨_, hm, ?_⟩, ?_⟩
 · intro j hj k hk
   rw [List.length_set] at hj
   rw [valAt_set hiv]
   by_cases hji : j = i
   · rw [if_pos hji]
     show some g ≠ _
     rcases hat with e | e
     · rw [← e]; exact hbad i hi k hk
     · intro h'; cases h'; have := hlt g hk; omega
   · rw [if_neg hji]; exact hbad j hj k hk
 · refine (Kept.grown hg ?_).setCell (p := ⟨b, i, none⟩) (.inl ?_) _
   · rintro k - (hk | hk) e
     · have := ((h.own i hi).lt k e.symm).1; omega
     · exact hbad i hi k hk e.symm
   · rintro (hk | hk)
     · have := h.low; have : b < B := hk; omega
     · exact hbb hk
theorem row_len {B b : Nat} {w : World} {vs : List Value} {rows : List (List Int)} (h : OwnMat B b w vs rows) {i : Nat} (hi : i < rows.length) :
    w.cell? ⟨b, i, none⟩ = some (valAt vs i) ∧ w.frozen? ⟨b, i, none⟩ = false := by
 have hvl : i < vs.length := by rw [h.len]; exact hi
 refine ⟨?_, (row_cells h.heap).2.2 _⟩
 rw [(row_cells h.heap).2.1]; simp [valAt, hvl]
theorem below_al {X w1 : World} (h : Below X.heap.size X w1) (o : Obj) : Below X.heap.size X (w1.alloc o) := h.alloc h.size o
theorem below_tr {X w1 w2 : World} (h : Below X.heap.size X w1) (h2 : Below w1.heap.size w1 w2) : Below X.heap.size X w2 := h.trans (h2.mono h.size)
theorem block_on {w w1 : World} {o : Obj} {n : Nat} (h : Below w.heap.size w w1) (hn : w.heap[n]? = some o) : w1.heap[n]? = some o :=
 (h.block _ (zqo hn)).trans hn
def boxInt (p : Value) (w : World) : Int := match p with | .pointer (some a) => intOf ((w.cell? a).getD (.int .i64 0)) | _ => 0
theorem boxInt_of {w : World} {b o : Nat} {n : Int} (h : w.cell? ⟨b, o, none⟩ = some (.int .i64 n)) : boxInt (.pointer (some ⟨b, o, none⟩)) w = n := by
 show intOf ((w.cell? ⟨b, o, none⟩).getD _) = n
 rw [h]; rfl
end Go.Proofs.YtpcamocnlnlgiaaGreat.S
set_option linter.unusedVariables false
set_option linter.unusedSimpArgs false
namespace Go.Proofs.YtpcamocnlnlgiaaGreat.S
open Go.RowKit Go.Sd
theorem last_at {s : Sea.S} {k : Nat} (h : k < s.last.length) : Sea.at0 s.last k = s.lastAt k := by
 simp only [Sea.S.last, List.length_map, List.length_range] at h
 simp [Sea.at0, Sea.S.last, h]
theorem all_range {n : Nat} {f : Nat → Bool} (h : ∀ j, j < n → f j = true) : (List.range n).all f = true := List.all_eq_true.2 fun x hx => h x (List.mem_range.1 hx)
theorem all_range_not {n : Nat} {f : Nat → Bool} {k : Nat} (hk : k < n) (h : f k = false) : (List.range n).all f = false := by
 rw [List.all_eq_false]; exact ⟨k, List.mem_range.2 hk, by rw [h]; exact Bool.false_ne_true⟩
theorem upto_succ {p : Nat → Prop} {k : Nat} (h : ∀ j, j < k → p j) (hk : p k) : ∀ j, j < k + 1 → p j := fun j hj => by
 rcases Nat.lt_succ_iff_lt_or_eq.1 hj with h' | rfl
 · exact h j h'
 · exact hk
end Go.Proofs.YtpcamocnlnlgiaaGreat.S
set_option linter.unusedVariables false
set_option linter.unusedSimpArgs false
namespace Go.Proofs.YtpcamocnlnlgiaaGreat.S
open Go.RowKit Go.Sd
theorem least_bd {s : Sea.S} (ok : Sea.Ok s) {d : Nat} (hd : d < s.days.length) (fill nom : Int) (next : List Int) (c : Int) (hc : 0 ≤ c) (hc2 : c ≤ 100000000000)
    (hn : ∀ i, -c ≤ Sea.at0 next i) : ∀ k : Nat, (k : Int) ≤ (Sea.dayAt s.days d).take + (Sea.dayAt s.days d).offer + 1 →
    -(c + 100000000) ≤ (Sea.leastTo s d fill nom next k).1 ∧ (Sea.leastTo s d fill nom next k).1 ≤ Sea.never := by
 intro k
 have hb := ok.days d hd
 induction k with
 | zero => intro _; unfold Sea.leastTo Sea.never; omega
 | succ k ih =>
  intro hk
  have ih := ih (by omega)
  rw [Sea.leastTo]
  split
  · have h1 := cost_bd ok hd (x := (k : Int) - (Sea.dayAt s.days d).take) (by omega)
    have h2 := hn (fill + nom + ((k : Int) - (Sea.dayAt s.days d).take)).toNat
    rename_i h
    have := h.2.2
    show -(c + 100000000) ≤ s.cost _ _ + _ ∧ s.cost _ _ + _ ≤ Sea.never
    omega
  · exact ih
theorem at0_out {l : List Int} {i : Nat} (h : l.length ≤ i) : Sea.at0 l i = 0 := by
 unfold Sea.at0; simp [List.getElem?_eq_none h]
theorem at0_map {n : Nat} {f : Nat → Int} {i : Nat} (h : i < n) : Sea.at0 ((List.range n).map f) i = f i := by
 unfold Sea.at0; simp [h]
theorem vals_bd {s : Sea.S} (ok : Sea.Ok s) (noms : List Int) : ∀ j : Nat, j ≤ s.days.length → ∀ i, -(100000000 * (j : Int)) ≤ Sea.at0 (s.vals noms j) i ∧ Sea.at0 (s.vals noms j) i ≤ Sea.never := by
 intro j
 have hl := ok.ndays
 induction j with
 | zero =>
  intro _ i
  by_cases hi : i < (s.space + 1).toNat
  · rw [show s.vals noms 0 = s.last from rfl, last_at (by unfold Sea.S.last; simpa using hi)]
    unfold Sea.S.lastAt Sea.never; split <;> omega
  · rw [at0_out (by rw [Sea.S.vals_length]; omega)]; unfold Sea.never; omega
 | succ j ih =>
  intro hj i
  have ih := ih (by omega)
  by_cases hi : i < (s.space + 1).toNat
  · rw [Sea.S.vals, at0_map hi]
    have hd : s.days.length - 1 - j < s.days.length := by omega
    have hdk := ok.days _ hd
    have := least_bd ok hd (i : Int) (Sea.at0 noms (s.days.length - 1 - j)) (s.vals noms j) (100000000 * (j : Int)) (by omega) (by omega) (fun i => (ih i).1) _ (by rw [Int.toNat_of_nonneg]; exact Int.le_refl _; omega)
    unfold Sea.S.least
    exact ⟨by have := this.1; omega, this.2⟩
  · rw [at0_out (by rw [Sea.S.vals_length]; omega)]; unfold Sea.never; omega
theorem vals_next {s : Sea.S} (ok : Sea.Ok s) (noms : List Int) {j d f : Nat} (hd : d + 1 + j = s.days.length) (hf : (f : Int) ≤ s.space) :
    (s.vals noms (j + 1))[f]? = some (firstOf (withOf s d f (Sea.at0 noms d) (s.vals noms j)) (ordersOf s d f (Sea.at0 noms d))).1 := by
 have hsp := ok.space
 have e : s.days.length - 1 - j = d := by omega
 have h := (first_all s d f (Sea.at0 noms d) (s.vals noms j) (fun i => (vals_bd ok noms j (by omega) i).2)).1
 rw [Sea.S.vals, List.getElem?_map, List.getElem?_range (by omega), Option.map_some, e, h]
theorem noms_bd {s : Sea.S} (ok : Sea.Ok s) {noms : List Int} (h : s.nomsB noms = true) : noms.length = s.days.length ∧ ∀ k, k < s.days.length → -100 ≤ Sea.at0 noms k ∧ Sea.at0 noms k ≤ 100 := by
 unfold Sea.S.nomsB at h
 rw [Bool.and_eq_true, decide_eq_true_eq, List.all_eq_true] at h
 refine ⟨h.1, fun k hk => ?_⟩
 have h1 := Sea.inB_iff.1 (h.2 k (by rw [List.mem_range, h.1]; exact hk))
 have h2 := ok.days k hk
 omega
end Go.Proofs.YtpcamocnlnlgiaaGreat.S
namespace Go.Proofs.YtpcamocnlnlgiaaGreat.S
open Go.Sd
def planTo (s : Sea.S) (noms : List Int) : Nat → List Int × Int
 | 0 => ([], s.start)
 | t + 1 =>
  let x := (s.least t (planTo s noms t).2 (Sea.at0 noms t) (s.vals noms (s.days.length - 1 - t))).2
  ((planTo s noms t).1 ++ [x], (planTo s noms t).2 + Sea.at0 noms t + x)
def bestCost (s : Sea.S) (noms : List Int) : Int := Sea.at0 (s.vals noms s.days.length) s.start.toNat
def bestOf (s : Sea.S) (noms : List Int) : List Int × Int × Int :=
 if Sea.validB s = true ∧ s.nomsB noms = true then (if bestCost s noms = Sea.never then ([], 0, 5) else ((planTo s noms s.days.length).1, bestCost s noms, 0)) else ([], 0, 2)
theorem bestOf_no {s : Sea.S} {noms : List Int} (h : Sea.validB s = false ∨ s.nomsB noms = false) : bestOf s noms = ([], 0, 2) := if_neg (by rintro ⟨h1, h2⟩; rcases h with h | h <;> simp_all)
theorem bestOf_none {s : Sea.S} {noms : List Int} (h1 : Sea.validB s = true) (h2 : s.nomsB noms = true) (h : bestCost s noms = Sea.never) : bestOf s noms = ([], 0, 5) := by
 unfold bestOf; rw [if_pos ⟨h1, h2⟩, if_pos h]
theorem bestOf_yes {s : Sea.S} {noms : List Int} (h1 : Sea.validB s = true) (h2 : s.nomsB noms = true) (h : ¬ bestCost s noms = Sea.never) : bestOf s noms = ((planTo s noms s.days.length).1, bestCost s noms, 0) := by
 unfold bestOf; rw [if_pos ⟨h1, h2⟩, if_neg h]
theorem planTo_len (s : Sea.S) (noms : List Int) : ∀ t, (planTo s noms t).1.length = t
 | 0 => rfl
 | t + 1 => by simp [planTo, planTo_len s noms t]
theorem first_val (num : Int → Int) (xs : List Int) : ∀ u, (firstOf num xs).2 = some u → (firstOf num xs).1 = num u := by
 have : ∀ (xs : List Int) (b : Int × Option Int), (∀ u, b.2 = some u → b.1 = num u) → ∀ u, (xs.foldl (pick num) b).2 = some u → (xs.foldl (pick num) b).1 = num u := by
  intro xs
  induction xs with
  | nil => intro b hb u; exact hb u
  | cons x xs ih =>
   intro b hb
   refine ih _ fun u hu => ?_
   unfold pick at hu ⊢
   split at hu
   · rename_i h; rw [if_pos h]; simp at hu; subst hu; rfl
   · rename_i h; rw [if_neg h]; exact hb u hu
 exact this xs (Sea.never, none) (fun u h => by cases h)
theorem step_of {s : Sea.S} (ok : Sea.Ok s) (noms : List Int) {d j : Nat} {f : Int} (hd : d + 1 + j = s.days.length) (hf : 0 ≤ f ∧ f ≤ s.space) (h : Sea.at0 (s.vals noms (j + 1)) f.toNat < Sea.never) :
    ∃ u, u ∈ ordersOf s d f (Sea.at0 noms d) ∧ (firstOf (withOf s d f (Sea.at0 noms d) (s.vals noms j)) (ordersOf s d f (Sea.at0 noms d))).2 = some u ∧
     (s.least d f (Sea.at0 noms d) (s.vals noms j)).2 = u ∧ 0 ≤ f + Sea.at0 noms d + u ∧ f + Sea.at0 noms d + u ≤ s.space ∧ Sea.at0 (s.vals noms j) (f + Sea.at0 noms d + u).toNat < Sea.never ∧
     Sea.at0 (s.vals noms (j + 1)) f.toNat = s.cost d u + Sea.at0 (s.vals noms j) (f + Sea.at0 noms d + u).toNat := by
 obtain ⟨k, rfl⟩ := Int.eq_ofNat_of_zero_le hf.1
 rw [Int.toNat_natCast] at h ⊢
 have hv := vals_next ok noms hd (f := k) hf.2
 have hbd := fun i => vals_bd ok noms j (by omega) i
 obtain ⟨h1, h2⟩ := first_all s d k (Sea.at0 noms d) (s.vals noms j) (fun i => (hbd i).2)
 have hat : Sea.at0 (s.vals noms (j + 1)) k = (firstOf (withOf s d k (Sea.at0 noms d) (s.vals noms j)) (ordersOf s d k (Sea.at0 noms d))).1 := by
  unfold Sea.at0 at hv ⊢; rw [List.getD_eq_getElem?_getD, hv]; rfl
 rw [hat] at h ⊢
 rcases h2 with ⟨-, h3⟩ | ⟨u, h3, h4, h5⟩
 · rw [h3] at h; unfold Sea.never at h; omega
 · have ho := order_in ok (by omega) h4
   have hw := first_val (withOf s d k (Sea.at0 noms d) (s.vals noms j)) (ordersOf s d k (Sea.at0 noms d)) u h3
   have hne : Sea.at0 (s.vals noms j) ((k : Int) + Sea.at0 noms d + u).toNat ≠ Sea.never := by
    intro e
    rw [hw] at h
    unfold withOf at h
    rw [if_pos e] at h
    unfold Sea.never at h; omega
   refine ⟨u, h4, h3, ?_, ho.2.2.2.1, ho.2.2.2.2, ?_, ?_⟩
   · have := congrArg Prod.snd h1
     rw [this, h3]; rfl
   · have := (hbd ((k : Int) + Sea.at0 noms d + u).toNat).2
     omega
   · rw [hw]; unfold withOf; rw [if_neg hne]
end Go.Proofs.YtpcamocnlnlgiaaGreat.S
namespace Go.Proofs.YtpcamocnlnlgiaaGreat.S
open Go.Sd
def worstTo (s : Sea.S) (d : Nat) (f : Int) (next : List Int) : Nat → Int × Int
 | 0 => ((Sea.dayAt s.days d).nlo, -Sea.never)
 | k + 1 =>
  if (worstTo s d f next k).2 < (s.least d f ((Sea.dayAt s.days d).nlo + k) next).1 then ((Sea.dayAt s.days d).nlo + k, (s.least d f ((Sea.dayAt s.days d).nlo + k) next).1) else worstTo s d f next k
def worstOf (s : Sea.S) (d : Nat) (f : Int) (next : List Int) : Int × Int := worstTo s d f next ((Sea.dayAt s.days d).nhi - (Sea.dayAt s.days d).nlo + 1).toNat
def wrow (s : Sea.S) : Nat → List Int
 | 0 => s.last
 | j + 1 => (List.range (s.space + 1).toNat).map fun (f : Nat) => (worstOf s (s.days.length - 1 - j) f (wrow s j)).2
end Go.Proofs.YtpcamocnlnlgiaaGreat.S
