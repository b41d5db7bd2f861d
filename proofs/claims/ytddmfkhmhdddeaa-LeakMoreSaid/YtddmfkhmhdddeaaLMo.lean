/- Walks: the law LeakMore. -/
import Derived.Test.YtddmfkhmhdddeaaMor
import Derived.Test.YtddmfkhmhdddeaaApm
import Derived.Test.YtddmfkhmhdddeaaKno
import Derived.Test.YtddmfkhmhdddeaaSho
import Derived.Test.YtddmfkhmhdddeaaBok
import Derived.Deep.Cut
import Derived.Deep.CutRange
set_option linter.unusedVariables false
set_option linter.unusedSimpArgs false
namespace Lk
/-- A suspect that has all the sizes of another one. -/
def suHas (s x : Su) : Prop := s.zone = x.zone ∧ s.since = x.since ∧ s.s.lo ≤ x.s.lo ∧ x.s.hi ≤ s.s.hi
end Lk
namespace Go.Proofs.Ytddmfkhmhdddeaa
open Go.RowKit Go.Sd Lk

theorem susFormM (fv wv rv : Value) (b : Bk) (w : World) (hb : BookAt w fv wv rv b) (h0 : b.err true = 0) :
    Calls Try.prog 33 #[bkV fv wv rv] w fun e w' => ∃ a c, e = .returned (.tuple #[.slice a b.susL.length c, .int .i64 0]) ∧ Below w.heap.size w w' ∧ SusAt w' (.slice a b.susL.length c) b.susL :=
  (progSuspects fv wv rv b w hb).mono (by
    rintro e w' ⟨hB, ⟨h, rfl⟩ | ⟨h, a, c, rfl, hv⟩⟩
    · exact absurd h0 h
    · exact ⟨_, _, rfl, hB, hv⟩)
theorem certFormM (fv wv rv : Value) (b : Bk) (w : World) (hb : BookAt w fv wv rv b) (h0 : b.err true = 0) :
    Calls Try.prog 34 #[bkV fv wv rv] w fun e w' => e = .returned (.tuple #[.bool b.certB, .int .i64 0]) ∧ Below w.heap.size w w' :=
  (progCertain fv wv rv b w hb).mono (by
    rintro e w' ⟨rfl, hB⟩
    rw [h0]
    exact ⟨by simp, hB⟩)
theorem grown0 {B : Nat} {w w1 w2 : World} (h : Below B w w1) (hB : B ≤ w1.heap.size) (hg : w1.grownBy w2 none) : Below B w w2 :=
  h.grown hg hB (fun k e => by cases e)

set_option maxRecDepth 100000 in
set_option maxHeartbeats 4000000 in
theorem lawMore (fv wv rv : Value) (b : Bk) (r : Rd) (w : World) (hb : BookAt w fv wv rv b) (hsz : b.reads.length * 32 ≤ 140737488351232) :
    Calls Try.prog 7 #[bkV fv wv rv, rdV r] w fun e w' => e = .returned (.bool true) ∧ Below w.heap.size w w' := by
  have kK := Lib.hid (fun X => progKnown X)
  obtain ⟨W1, hW1⟩ : ∃ W1, w.alloc (bkA fv wv rv) = W1 := ⟨_, rfl⟩
  obtain ⟨W2, hW2⟩ : ∃ W2, W1.alloc (rdO r) = W2 := ⟨_, rfl⟩
  obtain ⟨W, hW⟩ : ∃ W, W2.alloc (bkA fv wv rv) = W := ⟨_, rfl⟩
  obtain ⟨e0, b0, s0⟩ := boxed hW1
  obtain ⟨e1, b1, s1⟩ := boxed hW2
  obtain ⟨e2, b2, s2⟩ := boxed hW
  have hlt1 : Hid (w.heap.size < W2.heap.size) := Lib.hid (by omega)
  have hlt2 : Hid (W1.heap.size < W2.heap.size) := Lib.hid (by omega)
  have hlt3 : Hid (W2.heap.size < W.heap.size) := Lib.hid (by omega)
  have hlt4 : Hid (w.heap.size ≤ W.heap.size) := Lib.hid (by omega)
  have B2 := below_tr b0 b1
  have BW := below_tr B2 b2
  have e0' := kept_block b1 e0
  have hE0 := Lib.hid (kept_block b2 e0')
  have hE1 := Lib.hid (kept_block b2 e1)
  have hE2 := Lib.hid e2
  have hbW := hb.mono BW
  obtain ⟨fa, fc, rfl, hfm, -⟩ := hb.first.form
  obtain ⟨wa, ww, rfl, hwm, -⟩ := hb.flows.form
  obtain ⟨ra, rc, rfl, hrm, -⟩ := hb.reads.form
  obtain ⟨q0, q1, q2⟩ := rc3 e0'
  have z0 := (Array.getElem?_eq_some_iff.1 e0').1
  have hBW := Lib.hid BW
  have hB2 := Lib.hid B2
  have hbh := Lib.hid hbW
  have hb0 := Lib.hid hb
  clear s0 s1 s2 hb hbW e0 e1 e2 e0' b0 b1 b2 B2 BW
  go_enter Try.func7, Try.ntmps7
  go_upto_region 2 with fail
  clear q0 q1 q2 z0 hW hW1 hW2
  have kS : ∀ Y, Below W.heap.size W Y → Y.cell? ⟨w.heap.size, 2, none⟩ = some (.slice ra b.reads.length rc) ∧ Y.cell? ⟨W1.heap.size, 0, none⟩ = some (.int .i64 r.day) ∧ Y.cell? ⟨W1.heap.size, 1, none⟩ = some (.int .i64 r.zone) ∧ Y.cell? ⟨W1.heap.size, 2, none⟩ = some (.int .i64 r.v.lo) ∧ Y.cell? ⟨W1.heap.size, 3, none⟩ = some (.int .i64 r.v.hi) := fun Y h => by
    obtain ⟨-, -, a⟩ := rc3 (kept_block h hE0.out)
    obtain ⟨c0, c1, c2, c3⟩ := rc4 (kept_block h hE1.out)
    exact ⟨a, c0, c1, c2, c3⟩
  have kSs : ∀ Y v, Below W.heap.size W Y → (Y.setCell ⟨W2.heap.size, 2, none⟩ v).cell? ⟨w.heap.size, 2, none⟩ = some (.slice ra b.reads.length rc) ∧ (Y.setCell ⟨W2.heap.size, 2, none⟩ v).cell? ⟨W1.heap.size, 0, none⟩ = some (.int .i64 r.day) ∧ (Y.setCell ⟨W2.heap.size, 2, none⟩ v).cell? ⟨W1.heap.size, 1, none⟩ = some (.int .i64 r.zone) ∧ (Y.setCell ⟨W2.heap.size, 2, none⟩ v).cell? ⟨W1.heap.size, 2, none⟩ = some (.int .i64 r.v.lo) ∧ (Y.setCell ⟨W2.heap.size, 2, none⟩ v).cell? ⟨W1.heap.size, 3, none⟩ = some (.int .i64 r.v.hi) := fun Y v h => by
    have n0 : w.heap.size ≠ W2.heap.size := Nat.ne_of_lt hlt1.out
    have n1 : W1.heap.size ≠ W2.heap.size := Nat.ne_of_lt hlt2.out
    obtain ⟨-, -, a⟩ := rc3 ((Below.heap_setCell Y ⟨W2.heap.size, 2, none⟩ v _ n0).trans (kept_block h hE0.out))
    obtain ⟨c0, c1, c2, c3⟩ := rc4 ((Below.heap_setCell Y ⟨W2.heap.size, 2, none⟩ v _ n1).trans (kept_block h hE1.out))
    exact ⟨a, c0, c1, c2, c3⟩
  have hBd : Below W.heap.size W W.drew := (Below.refl _ _).drew
  have hBda : ∀ o, Below W.heap.size W (W.drew.alloc o) := fun o => hBd.alloc (Nat.le_refl _) o
  have hrd : ∀ Y, Below W.heap.size W Y → RdsAt Y (.slice ra b.reads.length rc) b.reads := fun Y h => hbh.out.reads.mono h
  go_cut [] from 17 to 24 (fun wx => ∃ v2, Hid (wx.heap[W2.heap.size]? = some (bkA (.slice fa b.first.length fc) (.slice wa b.flows.length ww) v2) ∧ RdsAt wx v2 (b.reads ++ [r]) ∧ Below W2.heap.size W wx))
  case first =>
    refine wp_region_held_drew (S := (fun w' => w'.cell? ⟨w.heap.size, 2, none⟩ = some (.slice ra b.reads.length rc) ∧ w'.cell? ⟨W1.heap.size, 0, none⟩ = some (.int .i64 r.day) ∧ w'.cell? ⟨W1.heap.size, 1, none⟩ = some (.int .i64 r.zone) ∧ w'.cell? ⟨W1.heap.size, 2, none⟩ = some (.int .i64 r.v.lo) ∧ w'.cell? ⟨W1.heap.size, 3, none⟩ = some (.int .i64 r.v.hi))) (by kernel_rfl) ?_ (fun hHeld => ?_)
    · first | (first | exact kS _ hBd | exact kS _ (hBda _) | exact kS _ hB1 | exact kS _ hB3 | exact kS _ (hB1.alloc hB1.size _) | exact kSs _ _ hB3) | (dsimp only; (first | exact kS _ hBd | exact kS _ (hBda _) | exact kS _ hB1 | exact kS _ hB3 | exact kS _ (hB1.alloc hB1.size _) | exact kSs _ _ hB3))
    refine wpAnyH_take (i := 0) (v := ?_) rfl (by kernel_rfl) (by kernel_rfl) (by kernel_rfl) (fun _ _ _ h => h) (Or.inl ⟨by rfl, ?_⟩) (by assumption) ?_
    rotate_left
    · intro w hSw; (try dsimp only at hSw); go_simp; (try with_reducible rfl)
    try simp only [Act.put, List.setIfInBounds_toArray, List.set_cons_zero, List.set_cons_succ]
    refine wpAnyH_take (i := 1) (v := ?_) rfl (by kernel_rfl) (by kernel_rfl) (by kernel_rfl) (fun _ _ _ h => h) (Or.inl ⟨by rfl, ?_⟩) (by assumption) ?_
    rotate_left
    · intro w hSw; (try dsimp only at hSw); go_simp; (try with_reducible rfl)
    try simp only [Act.put, List.setIfInBounds_toArray, List.set_cons_zero, List.set_cons_succ]
    refine wpAnyH_take (i := 3) (v := ?_) rfl (by kernel_rfl) (by kernel_rfl) (by kernel_rfl) (fun _ _ _ h => h) (Or.inl ⟨by rfl, ?_⟩) (by assumption) ?_
    rotate_left
    · intro w hSw; (try dsimp only at hSw); go_simp; (try with_reducible rfl)
    try simp only [Act.put, List.setIfInBounds_toArray, List.set_cons_zero, List.set_cons_succ]
    refine wpAnyH_ready (rs := [2, 4]) (by kernel_rfl) (by simp) ?_
    refine AllReadyH.cons rfl (fun K hK => ?wayA5091_1) (AllReadyH.cons rfl (fun K hK => ?wayB5091_1) AllReadyH.nil)
    case' wayA5091_1 =>
      (refine step_app_rds (by rfl) _ _ (by rfl) W.heap.size _ (.slice ra b.reads.length rc) b.reads (by rfl) (by rfl) (hrd _ (by first | exact hBd | exact hBda _)) hsz (by first | exact hBd.size | exact (hBda _).size) ?_; intro v1 w1 ho1 hg1 hat1; have hB1 : Below W.heap.size W w1 := (by first | exact grown0 hBd hBd.size hg1 | exact grown0 (hBda _) (hBda _).size hg1); try have hy1 := (hg1.block _ (by simp) (by simp)).trans (World.alloc_heap_new W.drew _))
      refine hK.out _ _ ?_ (fun hNow => ?_)
      · first | (first | exact kS _ hBd | exact kS _ (hBda _) | exact kS _ hB1 | exact kS _ hB3 | exact kS _ (hB1.alloc hB1.size _) | exact kSs _ _ hB3) | (dsimp only; (first | exact kS _ hBd | exact kS _ (hBda _) | exact kS _ hB1 | exact kS _ hB3 | exact kS _ (hB1.alloc hB1.size _) | exact kSs _ _ hB3))
      clear hK K hHeld
      have hHeld := hNow
      clear hNow
      try simp only [Act.put, List.setIfInBounds_toArray, List.set_cons_zero, List.set_cons_succ]
      refine wpAnyH_ready (rs := [4]) (by kernel_rfl) (by simp) ?_
      refine AllReadyH.cons rfl (fun K hK => ?_) AllReadyH.nil
      go_simp
      refine hK.out _ _ ?_ (fun hNow => ?_)
      · first | (first | exact kS _ hBd | exact kS _ (hBda _) | exact kS _ hB1 | exact kS _ hB3 | exact kS _ (hB1.alloc hB1.size _) | exact kSs _ _ hB3) | (dsimp only; (first | exact kS _ hBd | exact kS _ (hBda _) | exact kS _ hB1 | exact kS _ hB3 | exact kS _ (hB1.alloc hB1.size _) | exact kSs _ _ hB3))
      clear hK K hHeld
      have hHeld := hNow
      clear hNow
      try simp only [Act.put, List.setIfInBounds_toArray, List.set_cons_zero, List.set_cons_succ]
      refine wpAnyH_ready (rs := [5]) (by kernel_rfl) (by simp) ?_
      refine AllReadyH.cons rfl (fun K hK => ?_) AllReadyH.nil
      (refine step_app_rd (by rfl) _ _ (by rfl) W.heap.size _ v1 b.reads r _ (by rfl) (by rfl) (by first | exact ho1 | exact ho1.mono ((Below.refl _ _).alloc (Nat.le_refl _) _)) hsz (by first | exact hB1.size | exact (hB1.alloc hB1.size _).size) (by first | exact World.alloc_heap_new _ _ | exact hy1) ?_; intro v3 w3 ho3 hg3 hat3; obtain ⟨a3, c3, he3⟩ := ho3.slice; subst he3; have hB3 : Below W.heap.size W w3 := (by first | exact hB1.grown hg3 hB1.size (fun k e => (ho1.lt k e).1) | exact (hB1.alloc hB1.size _).grown hg3 (hB1.alloc hB1.size _).size (fun k e => (ho1.lt k e).1)); obtain ⟨p0, p1, p2⟩ := rc3 (kept_block hB3 hE2.out); obtain ⟨g0, g1, g2⟩ := rf3 (kept_block hB3 hE2.out); have zx := Nat.lt_of_lt_of_le hlt3.out hB3.size)
      refine hK.out _ _ ?_ (fun hNow => ?_)
      · first | (first | exact kS _ hBd | exact kS _ (hBda _) | exact kS _ hB1 | exact kS _ hB3 | exact kS _ (hB1.alloc hB1.size _) | exact kSs _ _ hB3) | (dsimp only; (first | exact kS _ hBd | exact kS _ (hBda _) | exact kS _ hB1 | exact kS _ hB3 | exact kS _ (hB1.alloc hB1.size _) | exact kSs _ _ hB3))
      clear hK K hHeld
      have hHeld := hNow
      clear hNow
      try simp only [Act.put, List.setIfInBounds_toArray, List.set_cons_zero, List.set_cons_succ]
      refine wpAnyH_take (i := 6) (v := ?_) rfl (by kernel_rfl) (by kernel_rfl) (by kernel_rfl) (fun _ _ _ h => h) (Or.inl ⟨by rfl, ?_⟩) (by assumption) ?_
      rotate_left
      · intro w hSw; (try dsimp only at hSw); go_simp; (try with_reducible rfl)
      try simp only [Act.put, List.setIfInBounds_toArray, List.set_cons_zero, List.set_cons_succ]
      refine wpAnyH_ready (rs := [7]) (by kernel_rfl) (by simp) ?_
      refine AllReadyH.cons rfl (fun K hK => ?_) AllReadyH.nil
      go_simp
      refine hK.out _ _ ?_ (fun hNow => ?_)
      · first | (first | exact kS _ hBd | exact kS _ (hBda _) | exact kS _ hB1 | exact kS _ hB3 | exact kS _ (hB1.alloc hB1.size _) | exact kSs _ _ hB3) | (dsimp only; (first | exact kS _ hBd | exact kS _ (hBda _) | exact kS _ hB1 | exact kS _ hB3 | exact kS _ (hB1.alloc hB1.size _) | exact kSs _ _ hB3))
      clear hK K hHeld
      have hHeld := hNow
      clear hNow
      try simp only [Act.put, List.setIfInBounds_toArray, List.set_cons_zero, List.set_cons_succ]
      refine wpAnyH_done (by kernel_rfl) ?_ _
    case' wayB5091_1 =>
      go_simp
      refine hK.out _ _ ?_ (fun hNow => ?_)
      · first | (first | exact kS _ hBd | exact kS _ (hBda _) | exact kS _ hB1 | exact kS _ hB3 | exact kS _ (hB1.alloc hB1.size _) | exact kSs _ _ hB3) | (dsimp only; (first | exact kS _ hBd | exact kS _ (hBda _) | exact kS _ hB1 | exact kS _ hB3 | exact kS _ (hB1.alloc hB1.size _) | exact kSs _ _ hB3))
      clear hK K hHeld
      have hHeld := hNow
      clear hNow
      try simp only [Act.put, List.setIfInBounds_toArray, List.set_cons_zero, List.set_cons_succ]
      refine wpAnyH_ready (rs := [2]) (by kernel_rfl) (by simp) ?_
      refine AllReadyH.cons rfl (fun K hK => ?_) AllReadyH.nil
      (refine step_app_rds (by rfl) _ _ (by rfl) W.heap.size _ (.slice ra b.reads.length rc) b.reads (by rfl) (by rfl) (hrd _ (by first | exact hBd | exact hBda _)) hsz (by first | exact hBd.size | exact (hBda _).size) ?_; intro v1 w1 ho1 hg1 hat1; have hB1 : Below W.heap.size W w1 := (by first | exact grown0 hBd hBd.size hg1 | exact grown0 (hBda _) (hBda _).size hg1); try have hy1 := (hg1.block _ (by simp) (by simp)).trans (World.alloc_heap_new W.drew _))
      refine hK.out _ _ ?_ (fun hNow => ?_)
      · first | (first | exact kS _ hBd | exact kS _ (hBda _) | exact kS _ hB1 | exact kS _ hB3 | exact kS _ (hB1.alloc hB1.size _) | exact kSs _ _ hB3) | (dsimp only; (first | exact kS _ hBd | exact kS _ (hBda _) | exact kS _ hB1 | exact kS _ hB3 | exact kS _ (hB1.alloc hB1.size _) | exact kSs _ _ hB3))
      clear hK K hHeld
      have hHeld := hNow
      clear hNow
      try simp only [Act.put, List.setIfInBounds_toArray, List.set_cons_zero, List.set_cons_succ]
      refine wpAnyH_ready (rs := [5]) (by kernel_rfl) (by simp) ?_
      refine AllReadyH.cons rfl (fun K hK => ?_) AllReadyH.nil
      (refine step_app_rd (by rfl) _ _ (by rfl) W.heap.size _ v1 b.reads r _ (by rfl) (by rfl) (by first | exact ho1 | exact ho1.mono ((Below.refl _ _).alloc (Nat.le_refl _) _)) hsz (by first | exact hB1.size | exact (hB1.alloc hB1.size _).size) (by first | exact World.alloc_heap_new _ _ | exact hy1) ?_; intro v3 w3 ho3 hg3 hat3; obtain ⟨a3, c3, he3⟩ := ho3.slice; subst he3; have hB3 : Below W.heap.size W w3 := (by first | exact hB1.grown hg3 hB1.size (fun k e => (ho1.lt k e).1) | exact (hB1.alloc hB1.size _).grown hg3 (hB1.alloc hB1.size _).size (fun k e => (ho1.lt k e).1)); obtain ⟨p0, p1, p2⟩ := rc3 (kept_block hB3 hE2.out); obtain ⟨g0, g1, g2⟩ := rf3 (kept_block hB3 hE2.out); have zx := Nat.lt_of_lt_of_le hlt3.out hB3.size)
      refine hK.out _ _ ?_ (fun hNow => ?_)
      · first | (first | exact kS _ hBd | exact kS _ (hBda _) | exact kS _ hB1 | exact kS _ hB3 | exact kS _ (hB1.alloc hB1.size _) | exact kSs _ _ hB3) | (dsimp only; (first | exact kS _ hBd | exact kS _ (hBda _) | exact kS _ hB1 | exact kS _ hB3 | exact kS _ (hB1.alloc hB1.size _) | exact kSs _ _ hB3))
      clear hK K hHeld
      have hHeld := hNow
      clear hNow
      try simp only [Act.put, List.setIfInBounds_toArray, List.set_cons_zero, List.set_cons_succ]
      refine wpAnyH_take (i := 6) (v := ?_) rfl (by kernel_rfl) (by kernel_rfl) (by kernel_rfl) (fun _ _ _ h => h) (Or.inl ⟨by rfl, ?_⟩) (by assumption) ?_
      rotate_left
      · intro w hSw; (try dsimp only at hSw); go_simp; (try with_reducible rfl)
      try simp only [Act.put, List.setIfInBounds_toArray, List.set_cons_zero, List.set_cons_succ]
      refine wpAnyH_ready (rs := [7]) (by kernel_rfl) (by simp) ?_
      refine AllReadyH.cons rfl (fun K hK => ?_) AllReadyH.nil
      go_simp
      refine hK.out _ _ ?_ (fun hNow => ?_)
      · first | (first | exact kS _ hBd | exact kS _ (hBda _) | exact kS _ hB1 | exact kS _ hB3 | exact kS _ (hB1.alloc hB1.size _) | exact kSs _ _ hB3) | (dsimp only; (first | exact kS _ hBd | exact kS _ (hBda _) | exact kS _ hB1 | exact kS _ hB3 | exact kS _ (hB1.alloc hB1.size _) | exact kSs _ _ hB3))
      clear hK K hHeld
      have hHeld := hNow
      clear hNow
      try simp only [Act.put, List.setIfInBounds_toArray, List.set_cons_zero, List.set_cons_succ]
      refine wpAnyH_done (by kernel_rfl) ?_ _
    all_goals
      go_wp2_with fail
      go_meet
      rw [show b.reads.length + 1 = (b.reads ++ [r]).length by simp]
      refine ⟨_, Lib.hid ⟨?_, OwnRds.rds (OwnSt.cellset ho3 (p := ⟨W2.heap.size, 2, none⟩) hlt3.out _), (hB3.mono (Nat.le_of_lt hlt3.out)).setCell (p := ⟨W2.heap.size, 2, none⟩) (Nat.le_refl _) _⟩⟩
      have hs := set_one (kept_block hB3 hE2.out) 2 (.slice a3 (b.reads ++ [r]).length c3)
      simp only [List.setIfInBounds_toArray, List.set_cons_succ, List.set_cons_zero] at hs
      exact hs
  case rest =>
  obtain ⟨v2, hH⟩ := hcut
  obtain ⟨hx0, hxr, hBV⟩ := hH.out
  have hC0 := Lib.hid ((hBV.block _ hlt1.out).trans hE0.out)
  have hC2 := Lib.hid hx0
  have hBw := hBW.out.trans (hBV.mono (Nat.le_of_lt hlt1.out))
  have hbV := hb0.out.mono hBw
  obtain ⟨xa, xc, hv2, hxm, -⟩ := hxr.form
  rw [show (b.reads ++ [r]).length = b.reads.length + 1 by simp] at hv2
  subst hv2
  have hxV : BookAt wc (.slice fa b.first.length fc) (.slice wa b.flows.length ww) (.slice xa (b.reads.length + 1) xc) (b.more r) := ⟨hbV.first, hbV.flows, hxr⟩
  have hBw' := Lib.hid hBw
  have hlt5 : Hid (W2.heap.size < wc.heap.size) := Lib.hid (Array.getElem?_eq_some_iff.1 hx0).1
  have kS0 := fun X (h : Below wc.heap.size wc X) => lawShort _ _ _ b X (hbV.mono h)
  have kB0 := fun X (h : Below wc.heap.size wc X) => lawBooked _ _ _ b true X (hbV.mono h)
  have kX0 := fun X (h : Below wc.heap.size wc X) => lawBooked _ _ _ (b.more r) true X (hxV.mono h)
  have kU0 := fun h0 X (h : Below wc.heap.size wc X) => susFormM _ _ _ b X (hbV.mono h) h0
  have kV0 := fun h0 X (h : Below wc.heap.size wc X) => susFormM _ _ _ (b.more r) X (hxV.mono h) h0
  have kC0 := fun h0 X (h : Below wc.heap.size wc X) => certFormM _ _ _ b X (hbV.mono h) h0
  have kD0 := fun h0 X (h : Below wc.heap.size wc X) => certFormM _ _ _ (b.more r) X (hxV.mono h) h0
  have kU := Lib.hid kU0
  have kV := Lib.hid kV0
  have kC := Lib.hid kC0
  have kD := Lib.hid kD0
  have hez1 := Lib.hid (err_zero (b := b) (f := true))
  have hez2 := Lib.hid (err_zero (b := b.more r) (f := true))
  clear hx0 hxr hBV hBw hbV hxV hH kU0 kV0 kC0 kD0 hBW hB2 hE0 hE1 hE2 hbh hb0 hlt1 hlt2 hlt3 hlt4 kS kSs hBd hBda hrd hfm hwm hrm hxm
  obtain ⟨p0, p1, p2⟩ := rc3 hC0.out
  obtain ⟨x0, x1, x2⟩ := rc3 hC2.out
  have zp := (Array.getElem?_eq_some_iff.1 hC0.out).1
  have zx := (Array.getElem?_eq_some_iff.1 hC2.out).1
  have h0 := Below.refl wc.heap.size wc
  cases hs : b.shortB
  · simp only [hs] at kS0
    have kS := Lib.hid kS0
    clear kS0 kB0 kX0 kU kV kC kD hez1 hez2 hs
    go_wp2_with (first | (go_at_call 17; (with_reducible refine Calls.mono (kS.out _ h0) ?_); rintro e w1 ⟨rfl, hB1⟩; have h1 := below_tr h0 hB1; obtain ⟨p0, p1, p2⟩ := rc3 (kept_block h1 hC0.out); obtain ⟨x0, x1, x2⟩ := rc3 (kept_block h1 hC2.out); have zp := (Array.getElem?_eq_some_iff.1 (kept_block h1 hC0.out)).1; have zx := (Array.getElem?_eq_some_iff.1 (kept_block h1 hC2.out)).1) | (go_at_call 18; (with_reducible refine Calls.mono (kK.out _) ?_); rintro e w9 ⟨rfl, hB9⟩))
    go_ret
    exact ⟨rfl, below_tr hBw'.out (below_tr h1 hB9)⟩
  · simp only [hs] at kS0
    have kS := Lib.hid kS0
    clear kS0 hs
    by_cases hb0 : b.err true = 0
    · rw [hb0] at kB0
      have kB := Lib.hid kB0
      by_cases hx0 : (b.more r).err true = 0
      · rw [hx0] at kX0
        have kX := Lib.hid kX0
        have hok := Lib.hid (ok_of (hez1.out hb0).2.1 (hez1.out hb0).1)
        have hok2 := Lib.hid (ok_of (hez2.out hx0).2.1 (hez2.out hx0).1)
        have hce := Lib.hid (fun h h2 => more_cert hok.out (r := r) hok2.out h h2)
        have hsu := Lib.hid (fun x h => more_sus hok.out (r := r) hok2.out (x := x) h)
        clear kB0 kX0 hez1 hez2 hok hok2
        have hb0 := Lib.hid hb0
        have hx0 := Lib.hid hx0
        generalize hI1 : b.certB = I1 at *
        generalize hI2 : (b.more r).certB = I2 at *
        generalize hL : b.susL = L at *
        generalize hM : (b.more r).susL = M at *
        go_upto_region 9 with (first | (go_at_call 17; (with_reducible refine Calls.mono (kS.out _ h0) ?_); rintro e w1 ⟨rfl, hB1⟩; have h1 := below_tr h0 hB1; obtain ⟨p0, p1, p2⟩ := rc3 (kept_block h1 hC0.out); obtain ⟨x0, x1, x2⟩ := rc3 (kept_block h1 hC2.out); have zp := (Array.getElem?_eq_some_iff.1 (kept_block h1 hC0.out)).1; have zx := (Array.getElem?_eq_some_iff.1 (kept_block h1 hC2.out)).1) | (go_at_call 20; (with_reducible refine Calls.mono (kB.out _ h1) ?_); rintro e w2 ⟨rfl, hB2⟩; have h2 := below_tr h1 hB2; obtain ⟨p0, p1, p2⟩ := rc3 (kept_block h2 hC0.out); obtain ⟨x0, x1, x2⟩ := rc3 (kept_block h2 hC2.out); have zp := (Array.getElem?_eq_some_iff.1 (kept_block h2 hC0.out)).1; have zx := (Array.getElem?_eq_some_iff.1 (kept_block h2 hC2.out)).1) | (go_at_call 20; (with_reducible refine Calls.mono (kX.out _ h2) ?_); rintro e w3 ⟨rfl, hB3⟩; have h3 := below_tr h2 hB3; obtain ⟨p0, p1, p2⟩ := rc3 (kept_block h3 hC0.out); obtain ⟨x0, x1, x2⟩ := rc3 (kept_block h3 hC2.out); have zp := (Array.getElem?_eq_some_iff.1 (kept_block h3 hC0.out)).1; have zx := (Array.getElem?_eq_some_iff.1 (kept_block h3 hC2.out)).1) | (go_at_call 33; (with_reducible refine Calls.mono (kU.out hb0.out _ h3) ?_); rintro e w4 ⟨la, lc, rfl, hB4, hl⟩; have h4 := below_tr h3 hB4; obtain ⟨p0, p1, p2⟩ := rc3 (kept_block h4 hC0.out); obtain ⟨x0, x1, x2⟩ := rc3 (kept_block h4 hC2.out); have zp := (Array.getElem?_eq_some_iff.1 (kept_block h4 hC0.out)).1; have zx := (Array.getElem?_eq_some_iff.1 (kept_block h4 hC2.out)).1) | (go_at_call 33; (with_reducible refine Calls.mono (kV.out hx0.out _ h4) ?_); rintro e w5 ⟨ma, mc, rfl, hB5, hm⟩; have h5 := below_tr h4 hB5; obtain ⟨p0, p1, p2⟩ := rc3 (kept_block h5 hC0.out); obtain ⟨x0, x1, x2⟩ := rc3 (kept_block h5 hC2.out); have zp := (Array.getElem?_eq_some_iff.1 (kept_block h5 hC0.out)).1; have zx := (Array.getElem?_eq_some_iff.1 (kept_block h5 hC2.out)).1) | (go_at_call 34; (with_reducible refine Calls.mono (kC.out hb0.out _ h5) ?_); rintro e w6 ⟨rfl, hB6⟩; have h6 := below_tr h5 hB6; obtain ⟨p0, p1, p2⟩ := rc3 (kept_block h6 hC0.out); obtain ⟨x0, x1, x2⟩ := rc3 (kept_block h6 hC2.out); have zp := (Array.getElem?_eq_some_iff.1 (kept_block h6 hC0.out)).1; have zx := (Array.getElem?_eq_some_iff.1 (kept_block h6 hC2.out)).1) | (go_at_call 34; (with_reducible refine Calls.mono (kD.out hx0.out _ h6) ?_); rintro e w7 ⟨rfl, hB7⟩; have h7 := below_tr h6 hB7; obtain ⟨p0, p1, p2⟩ := rc3 (kept_block h7 hC0.out); obtain ⟨x0, x1, x2⟩ := rc3 (kept_block h7 hC2.out); have zp := (Array.getElem?_eq_some_iff.1 (kept_block h7 hC0.out)).1; have zx := (Array.getElem?_eq_some_iff.1 (kept_block h7 hC2.out)).1))
        have hl7 := Lib.hid (hl.mono (below_tr hB5 (below_tr hB6 hB7)))
        have hm7 := Lib.hid (hm.mono (below_tr hB6 hB7))
        have hwx := Lib.hid (below_tr hBw'.out h7)
        clear h0 h1 h2 h3 h4 h5 h6 h7 hB1 hB2 hB3 hB4 hB5 hB6 hB7 hl hm p0 p1 p2 x0 x1 x2 zp zx kS kB kX kU kV kC kD hI1 hI2 hb0 hx0 hC0 hC2
        go_cut [84] from 17 to 84 (fun c wx => c = .bool false ∧ wx = w7)
        case first =>
          clear hl7 hm7 hsu
          generalize M.length = mn at *
          generalize L.length = ln at *
          cases I1
          · go_wp2_with fail
            go_meet
            exact ⟨rfl, rfl⟩
          · by_cases hM0 : 0 < mn
            · obtain rfl : I2 = true := hce.out rfl hM0
              have hMd : decide ((0 : Int) < (mn : Int)) = true := decide_eq_true (by omega)
              have hMe : decide (0 < mn) = true := decide_eq_true hM0
              have hMi : (0 : Int) < (mn : Int) := by omega
              go_wp2_with fail
              go_meet
              exact ⟨rfl, rfl⟩
            · have hMd : decide ((0 : Int) < (mn : Int)) = false := decide_eq_false (by omega)
              have hMe : decide (0 < mn) = false := decide_eq_false hM0
              have hMi : ¬ (0 : Int) < (mn : Int) := by omega
              go_wp2_with fail
              go_meet
              exact ⟨rfl, rfl⟩
        case rest =>
        obtain ⟨rfl, rfl⟩ := hcut
        clear hce
        obtain ⟨-, -, -, hsl, -⟩ := hl7.out.form
        obtain ⟨-, -, -, hsm, -⟩ := hm7.out.form
        have hgx := grow_cell wc
        go_wp2_with fail
        go_loopw [14] (fun i wr => ∃ gg : Grow wc, wr = gg.x ∧ ∃ n : Nat, n ≤ M.length ∧ i = .int .i64 n) (fun i _ => M.length - (intOf i).toNat)
        case atStart => exact ⟨Grow.self wc, rfl, 0, by omega, rfl⟩
        case round =>
          obtain ⟨u1, rfl, n, hn, rfl⟩ := hrel
          by_cases hnl : n < M.length
          · have hni : (n : Int) < (M.length : Int) := by omega
            have hx := Lib.hid (hsu.out (suAt M n) (by simp [suAt, hnl]))
            obtain ⟨a5, cap5, hv5, hm5, hc5⟩ := hm7.out
            obtain ⟨b5, off5, rfl, hb5, hc5'⟩ := hc5 (by omega)
            obtain ⟨rfl, rfl⟩ : ma = some ⟨b5, off5, none⟩ ∧ mc = cap5 := by simpa using hv5
            have t0 : wc.cell? ⟨b5, off5 + n * 4, none⟩ = some (.int .i64 (suAt M n).zone) := hc5' n 0 _ hnl rfl
            have t1 : wc.cell? ⟨b5, off5 + n * 4 + 1, none⟩ = some (.int .i64 (suAt M n).since) := hc5' n 1 _ hnl rfl
            have t2 : wc.cell? ⟨b5, off5 + n * 4 + 2, none⟩ = some (.int .i64 (suAt M n).s.lo) := hc5' n 2 _ hnl rfl
            have t3 : wc.cell? ⟨b5, off5 + n * 4 + 3, none⟩ = some (.int .i64 (suAt M n).s.hi) := hc5' n 3 _ hnl rfl
            clear hv5 hm5 hc5 hc5'
            generalize suAt M n = x at *
            obtain ⟨xz, xs, ⟨xlo, xhi⟩⟩ := x
            dsimp only at t0 t1 t2 t3 hx
            go_wp2_with fail
            go_loopw [15, 16] (fun th i wr => ∃ gg : Grow wc, wr = gg.x ∧ ∃ (k : Nat) (t : Bool), k ≤ L.length ∧ th = .bool t ∧ i = .int .i64 k ∧ Hid (t = false → ∀ j, j < k → ¬ ((suAt L j).zone = xz ∧ (suAt L j).since = xs ∧ (suAt L j).s.lo ≤ xlo ∧ xhi ≤ (suAt L j).s.hi))) (fun _ i _ => L.length - (intOf i).toNat)
            case atStart => exact ⟨u1, rfl, 0, false, by omega, rfl, rfl, Lib.hid fun _ j hj => absurd hj (Nat.not_lt_zero _)⟩
            case round =>
              obtain ⟨u3, rfl, k, t, hk, rfl, rfl, hT⟩ := hrel
              by_cases hkl : k < L.length
              · have hki : (k : Int) < (L.length : Int) := by omega
                obtain ⟨a6, cap6, hv6, hm6, hc6⟩ := hl7.out
                obtain ⟨b6, off6, rfl, hb6, hc7⟩ := hc6 (by omega)
                obtain ⟨rfl, rfl⟩ : la = some ⟨b6, off6, none⟩ ∧ lc = cap6 := by simpa using hv6
                have s0 : wc.cell? ⟨b6, off6 + k * 4, none⟩ = some (.int .i64 (suAt L k).zone) := hc7 k 0 _ hkl rfl
                have s1 : wc.cell? ⟨b6, off6 + k * 4 + 1, none⟩ = some (.int .i64 (suAt L k).since) := hc7 k 1 _ hkl rfl
                have s2 : wc.cell? ⟨b6, off6 + k * 4 + 2, none⟩ = some (.int .i64 (suAt L k).s.lo) := hc7 k 2 _ hkl rfl
                have s3 : wc.cell? ⟨b6, off6 + k * 4 + 3, none⟩ = some (.int .i64 (suAt L k).s.hi) := hc7 k 3 _ hkl rfl
                have hno : Hid (¬ ((suAt L k).zone = xz ∧ (suAt L k).since = xs ∧ (suAt L k).s.lo ≤ xlo ∧ xhi ≤ (suAt L k).s.hi) → t = false → ∀ j, j < k + 1 → ¬ ((suAt L j).zone = xz ∧ (suAt L j).since = xs ∧ (suAt L j).s.lo ≤ xlo ∧ xhi ≤ (suAt L j).s.hi)) := Lib.hid fun h ht j hj => by
                  rcases Nat.lt_succ_iff_lt_or_eq.1 hj with h' | rfl
                  · exact hT.out ht j h'
                  · exact h
                clear hv6 hm6 hc6 hc7 hT
                generalize suAt L k = s at *
                obtain ⟨sz, ss, ⟨slo, shi⟩⟩ := s
                dsimp only at s0 s1 s2 s3 hno
                cases t
                · by_cases h1 : sz = xz
                  · subst h1
                    by_cases h2 : ss = xs
                    · subst h2
                      by_cases h3 : slo ≤ xlo
                      · have hd3 : decide (slo ≤ xlo) = true := by simpa using h3
                        by_cases h4 : xhi ≤ shi
                        · have hd4 : decide (xhi ≤ shi) = true := by simpa using h4
                          clear hno
                          go_wp2
                          have hgg : ∀ (h : Grow u3.x) (b o : Nat), b < wc.heap.size → h.x.cell? ⟨b, o, none⟩ = wc.cell? ⟨b, o, none⟩ := fun h b o hb => (grow_cell u3.x h b o (Nat.lt_of_lt_of_le hb u3.size)).trans (grow_cell wc u3 b o hb)
                          refine wp_region_grow (by kernel_rfl) (by kernel_rfl) ?_
                          repeat (go_big_quiet_step (fail))
                          refine wpQuiet_nil ?_
                          rintro _ ⟨gx, rfl⟩
                          clear hgg
                          obtain ⟨u4, hu4⟩ := u3.next gx.h
                          rw [hu4]
                          clear hu4 gx
                          go_wp2
                          exact ⟨⟨u4, rfl, k + 1, true, by omega, rfl, by go_num, Lib.hid fun h => by cases h⟩, by simp [intOf]; omega⟩
                        · have hd4 : decide (xhi ≤ shi) = false := by simpa using h4
                          have hn := Lib.hid (hno.out (fun h => h4 h.2.2.2) rfl)
                          clear hno
                          go_wp2
                          have hgg : ∀ (h : Grow u3.x) (b o : Nat), b < wc.heap.size → h.x.cell? ⟨b, o, none⟩ = wc.cell? ⟨b, o, none⟩ := fun h b o hb => (grow_cell u3.x h b o (Nat.lt_of_lt_of_le hb u3.size)).trans (grow_cell wc u3 b o hb)
                          refine wp_region_grow (by kernel_rfl) (by kernel_rfl) ?_
                          repeat (go_big_quiet_step (fail))
                          refine wpQuiet_nil ?_
                          rintro _ ⟨gx, rfl⟩
                          clear hgg
                          obtain ⟨u4, hu4⟩ := u3.next gx.h
                          rw [hu4]
                          clear hu4 gx
                          go_wp2
                          exact ⟨⟨u4, rfl, k + 1, false, by omega, rfl, by go_num, Lib.hid fun _ => hn.out⟩, by simp [intOf]; omega⟩
                      · have hd3 : decide (slo ≤ xlo) = false := by simpa using h3
                        have hn := Lib.hid (hno.out (fun h => h3 h.2.2.1) rfl)
                        clear hno
                        go_wp2
                        have hgg : ∀ (h : Grow u3.x) (b o : Nat), b < wc.heap.size → h.x.cell? ⟨b, o, none⟩ = wc.cell? ⟨b, o, none⟩ := fun h b o hb => (grow_cell u3.x h b o (Nat.lt_of_lt_of_le hb u3.size)).trans (grow_cell wc u3 b o hb)
                        refine wp_region_grow (by kernel_rfl) (by kernel_rfl) ?_
                        repeat (go_big_quiet_step (fail))
                        refine wpQuiet_nil ?_
                        rintro _ ⟨gx, rfl⟩
                        clear hgg
                        obtain ⟨u4, hu4⟩ := u3.next gx.h
                        rw [hu4]
                        clear hu4 gx
                        go_wp2
                        exact ⟨⟨u4, rfl, k + 1, false, by omega, rfl, by go_num, Lib.hid fun _ => hn.out⟩, by simp [intOf]; omega⟩
                    · have hd2 : (ss == xs) = false := by simpa using h2
                      have hn := Lib.hid (hno.out (fun h => h2 h.2.1) rfl)
                      clear hno
                      go_wp2
                      have hgg : ∀ (h : Grow u3.x) (b o : Nat), b < wc.heap.size → h.x.cell? ⟨b, o, none⟩ = wc.cell? ⟨b, o, none⟩ := fun h b o hb => (grow_cell u3.x h b o (Nat.lt_of_lt_of_le hb u3.size)).trans (grow_cell wc u3 b o hb)
                      refine wp_region_grow (by kernel_rfl) (by kernel_rfl) ?_
                      repeat (go_big_quiet_step (fail))
                      refine wpQuiet_nil ?_
                      rintro _ ⟨gx, rfl⟩
                      clear hgg
                      obtain ⟨u4, hu4⟩ := u3.next gx.h
                      rw [hu4]
                      clear hu4 gx
                      go_wp2
                      exact ⟨⟨u4, rfl, k + 1, false, by omega, rfl, by go_num, Lib.hid fun _ => hn.out⟩, by simp [intOf]; omega⟩
                  · have hd1 : (sz == xz) = false := by simpa using h1
                    have hn := Lib.hid (hno.out (fun h => h1 h.1) rfl)
                    clear hno
                    go_wp2
                    have hgg : ∀ (h : Grow u3.x) (b o : Nat), b < wc.heap.size → h.x.cell? ⟨b, o, none⟩ = wc.cell? ⟨b, o, none⟩ := fun h b o hb => (grow_cell u3.x h b o (Nat.lt_of_lt_of_le hb u3.size)).trans (grow_cell wc u3 b o hb)
                    refine wp_region_grow (by kernel_rfl) (by kernel_rfl) ?_
                    repeat (go_big_quiet_step (fail))
                    refine wpQuiet_nil ?_
                    rintro _ ⟨gx, rfl⟩
                    clear hgg
                    obtain ⟨u4, hu4⟩ := u3.next gx.h
                    rw [hu4]
                    clear hu4 gx
                    go_wp2
                    exact ⟨⟨u4, rfl, k + 1, false, by omega, rfl, by go_num, Lib.hid fun _ => hn.out⟩, by simp [intOf]; omega⟩
                · clear hno
                  go_wp2
                  have hgg : ∀ (h : Grow u3.x) (b o : Nat), b < wc.heap.size → h.x.cell? ⟨b, o, none⟩ = wc.cell? ⟨b, o, none⟩ := fun h b o hb => (grow_cell u3.x h b o (Nat.lt_of_lt_of_le hb u3.size)).trans (grow_cell wc u3 b o hb)
                  refine wp_region_grow (by kernel_rfl) (by kernel_rfl) ?_
                  repeat (go_big_quiet_step (fail))
                  refine wpQuiet_nil ?_
                  rintro _ ⟨gx, rfl⟩
                  clear hgg
                  obtain ⟨u4, hu4⟩ := u3.next gx.h
                  rw [hu4]
                  clear hu4 gx
                  go_wp2
                  exact ⟨⟨u4, rfl, k + 1, true, by omega, rfl, by go_num, Lib.hid fun h => by cases h⟩, by simp [intOf]; omega⟩
              · obtain rfl : k = L.length := by omega
                have htt : t = true := by
                  cases t
                  · exfalso
                    obtain ⟨y, hy, e1, e2, e3, e4⟩ := hx.out
                    obtain ⟨j, hj, rfl⟩ := List.getElem_of_mem hy
                    have ej : suAt L j = L[j] := by simp [suAt, hj]
                    exact hT.out rfl j hj (by rw [ej]; exact ⟨e1, e2, e3, e4⟩)
                  · rfl
                subst htt
                clear hT hx
                go_wp2_with fail
                exact ⟨⟨u3, rfl, n + 1, by omega, by go_num⟩, by simp [intOf]; omega⟩
          · obtain rfl : n = M.length := by omega
            go_wp2_with (go_at_call 18; (with_reducible refine Calls.mono (kK.out _) ?_); rintro e w9 ⟨rfl, hB9⟩)
            go_ret
            exact ⟨rfl, below_tr hwx.out (below_tr u1.h hB9)⟩
      · have h23 : (b.more r).err true = 2 ∨ (b.more r).err true = 3 := by have := err_cases (b.more r) true; omega
        clear kB0 kU kV kC kD hez1 hez2 hb0 hx0
        generalize (b.more r).err true = er at *
        rcases h23 with rfl | rfl
        all_goals
          have kX := Lib.hid kX0
          clear kX0
          go_wp2_with (first | (go_at_call 17; (with_reducible refine Calls.mono (kS.out _ h0) ?_); rintro e w1 ⟨rfl, hB1⟩; have h1 := below_tr h0 hB1; obtain ⟨p0, p1, p2⟩ := rc3 (kept_block h1 hC0.out); obtain ⟨x0, x1, x2⟩ := rc3 (kept_block h1 hC2.out); have zp := (Array.getElem?_eq_some_iff.1 (kept_block h1 hC0.out)).1; have zx := (Array.getElem?_eq_some_iff.1 (kept_block h1 hC2.out)).1) | (go_at_call 20; (with_reducible refine Calls.mono (kB.out _ h1) ?_); rintro e w2 ⟨rfl, hB2⟩; have h2 := below_tr h1 hB2; obtain ⟨p0, p1, p2⟩ := rc3 (kept_block h2 hC0.out); obtain ⟨x0, x1, x2⟩ := rc3 (kept_block h2 hC2.out); have zp := (Array.getElem?_eq_some_iff.1 (kept_block h2 hC0.out)).1; have zx := (Array.getElem?_eq_some_iff.1 (kept_block h2 hC2.out)).1) | (go_at_call 20; (with_reducible refine Calls.mono (kX.out _ h2) ?_); rintro e w3 ⟨rfl, hB3⟩; have h3 := below_tr h2 hB3; obtain ⟨p0, p1, p2⟩ := rc3 (kept_block h3 hC0.out); obtain ⟨x0, x1, x2⟩ := rc3 (kept_block h3 hC2.out); have zp := (Array.getElem?_eq_some_iff.1 (kept_block h3 hC0.out)).1; have zx := (Array.getElem?_eq_some_iff.1 (kept_block h3 hC2.out)).1) | (go_at_call 18; (with_reducible refine Calls.mono (kK.out _) ?_); rintro e w9 ⟨rfl, hB9⟩))
          go_ret
          exact ⟨rfl, below_tr hBw'.out (below_tr h3 hB9)⟩
    · have h23 : b.err true = 2 ∨ b.err true = 3 := by have := err_cases b true; omega
      clear kX0 kU kV kC kD hez1 hez2 hb0
      generalize b.err true = er at *
      rcases h23 with rfl | rfl
      all_goals
        have kB := Lib.hid kB0
        clear kB0
        go_wp2_with (first | (go_at_call 17; (with_reducible refine Calls.mono (kS.out _ h0) ?_); rintro e w1 ⟨rfl, hB1⟩; have h1 := below_tr h0 hB1; obtain ⟨p0, p1, p2⟩ := rc3 (kept_block h1 hC0.out); obtain ⟨x0, x1, x2⟩ := rc3 (kept_block h1 hC2.out); have zp := (Array.getElem?_eq_some_iff.1 (kept_block h1 hC0.out)).1; have zx := (Array.getElem?_eq_some_iff.1 (kept_block h1 hC2.out)).1) | (go_at_call 20; (with_reducible refine Calls.mono (kB.out _ h1) ?_); rintro e w2 ⟨rfl, hB2⟩; have h2 := below_tr h1 hB2; obtain ⟨p0, p1, p2⟩ := rc3 (kept_block h2 hC0.out); obtain ⟨x0, x1, x2⟩ := rc3 (kept_block h2 hC2.out); have zp := (Array.getElem?_eq_some_iff.1 (kept_block h2 hC0.out)).1; have zx := (Array.getElem?_eq_some_iff.1 (kept_block h2 hC2.out)).1) | (go_at_call 18; (with_reducible refine Calls.mono (kK.out _) ?_); rintro e w9 ⟨rfl, hB9⟩))
        go_ret
        exact ⟨rfl, below_tr hBw'.out (below_tr h2 hB9)⟩
end Go.Proofs.Ytddmfkhmhdddeaa
