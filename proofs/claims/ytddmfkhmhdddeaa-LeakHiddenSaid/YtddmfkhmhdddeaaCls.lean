/- Walks: which readings do not agree with which others, as bits (the program). -/
import Derived.Test.YtddmfkhmhdddeaaCla
set_option linter.unusedVariables false
set_option linter.unusedSimpArgs false
namespace Lk
def Bk.knR (b : Bk) (i : Nat) : Kn := ⟨(rdAt b.reads i).day, (rdAt b.reads i).v⟩
def Bk.zoR (b : Bk) (i : Nat) : Nat := (rdAt b.reads i).zone.toNat
/-- Whether two readings, the second one earlier in the list, do not agree. -/
def Bk.clq (b : Bk) (i k : Nat) : Bool := decide ((rdAt b.reads k).zone = (rdAt b.reads i).zone) && b.clashB (b.zoR i) (b.knR k) (b.knR i)
def Bk.alq (b : Bk) (i : Nat) : Bool := b.clashB (b.zoR i) ⟨-1, spAt b.first (b.zoR i)⟩ (b.knR i)
def setOr (L : List Nat) (i k : Nat) : List Nat := L.set i (natAt L i ||| 2 ^ k)
def Bk.clI (b : Bk) (i : Nat) (L : List Nat) : Nat → List Nat
  | 0 => L
  | k + 1 => if b.clq i k = true then setOr (setOr (Bk.clI b i L k) i k) k i else Bk.clI b i L k
def Bk.clO (b : Bk) : Nat → List Nat
  | 0 => List.replicate b.reads.length 0
  | i + 1 => b.clI i (Bk.clO b i) i
def Bk.alo (b : Bk) : Nat → Nat
  | 0 => 0
  | i + 1 => if b.alq i = true then Bk.alo b i ||| 2 ^ i else Bk.alo b i
/-- Small: as many as the readings, each a set of them. -/
structure Small (n : Nat) (L : List Nat) : Prop where
  len : L.length = n
  lt : ∀ k, k < n → natAt L k < 2 ^ n
theorem natAt_set {L : List Nat} {i j v : Nat} (hi : i < L.length) : natAt (L.set i v) j = if j = i then v else natAt L j := by
  unfold natAt
  by_cases h : j = i
  · subst h; simp [hi]
  · simp [h, List.getElem?_set, Ne.symm h]
theorem Small.setOr {n : Nat} {L : List Nat} (h : Small n L) {i k : Nat} (hi : i < n) (hk : k < n) : Small n (setOr L i k) := by
  refine ⟨by simp [Lk.setOr, h.len], fun j hj => ?_⟩
  unfold Lk.setOr
  rw [natAt_set (by rw [h.len]; exact hi)]
  split
  · exact or_lt (h.lt i hi) (pow_lt' hk)
  · exact h.lt j hj
theorem small_clI {b : Bk} {i : Nat} {L : List Nat} (h : Small b.reads.length L) (hi : i < b.reads.length) : ∀ k, k ≤ i → Small b.reads.length (b.clI i L k) := by
  intro k
  induction k with
  | zero => intro _; exact h
  | succ k ih =>
    intro hk
    have := ih (by omega)
    unfold Bk.clI
    split
    · exact (this.setOr hi (by omega)).setOr (by omega) hi
    · exact this
theorem small_clO {b : Bk} : ∀ i, i ≤ b.reads.length → Small b.reads.length (b.clO i) := by
  intro i
  induction i with
  | zero =>
    intro _
    refine ⟨by simp [Bk.clO], fun k hk => ?_⟩
    have : natAt (b.clO 0) k = 0 := by simp [Bk.clO, natAt, hk]
    rw [this]; exact Nat.two_pow_pos _
  | succ i ih => intro hi; exact small_clI (ih (by omega)) (by omega) i (Nat.le_refl _)
theorem alo_lt {b : Bk} : ∀ i, i ≤ b.reads.length → b.alo i < 2 ^ b.reads.length := by
  intro i
  induction i with
  | zero => intro _; exact Nat.two_pow_pos _
  | succ i ih =>
    intro hi
    unfold Bk.alo
    split
    · exact or_lt (ih (by omega)) (pow_lt' (by omega))
    · exact ih (by omega)
end Lk
namespace Go.Proofs.Ytddmfkhmhdddeaa
open Go.RowKit Go.Sd Lk

/-- A block of numbers. -/
def NatBlk (w : World) (T : Nat) (L : List Nat) : Prop := w.heap[T]? = some (.cells (L.map fun n : Nat => Value.int .i64 (n : Int)).toArray 3)
theorem NatBlk.mono {w w' : World} {T : Nat} {L : List Nat} (h : NatBlk w T L) (hb : Below w.heap.size w w') : NatBlk w' T L := kept_block hb h
theorem NatBlk.lt {w : World} {T : Nat} {L : List Nat} (h : NatBlk w T L) : T < w.heap.size := (Array.getElem?_eq_some_iff.1 h).1
theorem NatBlk.cell {w : World} {T : Nat} {L : List Nat} (h : NatBlk w T L) {k : Nat} (hk : k < L.length) : w.cell? ⟨T, k, none⟩ = some (.int .i64 (natAt L k)) ∧ w.frozen? ⟨T, k, none⟩ = false := by
  obtain ⟨-, r, f⟩ := row_cells h
  refine ⟨?_, f _⟩
  rw [r]
  simp [natAt, hk]
theorem NatBlk.set {w : World} {T : Nat} {L : List Nat} (h : NatBlk w T L) (k v : Nat) : NatBlk (w.setCell ⟨T, k, none⟩ (.int .i64 (v : Int))) T (L.set k v) := by
  unfold NatBlk at h ⊢
  have := set_one h k (.int .i64 (v : Int))
  rw [this]
  simp [List.map_set]
theorem NatBlk.nats {w : World} {T : Nat} {L : List Nat} (h : NatBlk w T L) (hm : L.length ≤ maxLen) (cap : Nat) : natsAt w (.slice (some ⟨T, 0, none⟩) L.length cap) L := by
  refine ⟨some ⟨T, 0, none⟩, cap, by rw [List.length_map], by rw [List.length_map]; exact hm, fun _ => ⟨T, 0, rfl, h.lt, fun k i u hk hu => ?_⟩⟩
  rw [List.length_map] at hk
  match i, hu with
  | 0, hu =>
    have e : (L.map fun n : Nat => (n : Int)).getD k 0 = natAt L k := at0_map L k
    simp only [e] at hu
    cases hu
    simpa using (h.cell hk).1
  | i + 1, hu => simp at hu
theorem make_ints (w : World) (n : Nat) (hn : n ≤ 1000) : (Instr.makeSlice 38 (.int .i64 (n : Int)) (.int .i64 (n : Int))).run Try.prog w =
    .ok (.slice (some ⟨w.heap.size, 0, none⟩) n n) (w.alloc (.cells ((List.replicate n 0).map fun n : Nat => Value.int .i64 (n : Int)).toArray 3)) := by
  obtain ⟨i0, hi, hz0, hz1, hz2⟩ := info_parts infoInt
  have h := run_makeSlice (P := Try.prog) w 38 3 i0 (.int .i64 0) Try.underlying38 hi hz0 .i64 .i64 (n : Int) (n : Int) (by omega) (by omega) (by rw [hz1]; omega) (by rw [hz2]; omega) (by omega)
  rw [hz1, Int.toNat_natCast, Nat.mul_one, show Value.cells (.int .i64 0) = #[.int .i64 0] from rfl, madeCells_one] at h
  rw [h]
  simp

/-- What stands in the rounds. -/
structure ClSt (w : World) (fv wv rv : Value) (L : List Nat) (W : World) : Prop where
  bk : W.heap[w.heap.size]? = some (bkO fv wv rv)
  tab : NatBlk W (w.heap.size + 1) L
  bel : Below w.heap.size w W
theorem ClSt.mono {w : World} {fv wv rv : Value} {L : List Nat} {W V : World} (h : ClSt w fv wv rv L W) (hb : Below W.heap.size W V) : ClSt w fv wv rv L V := ⟨kept_block hb h.bk, h.tab.mono hb, below_tr h.bel hb⟩

theorem ClSt.set {w : World} {fv wv rv : Value} {L : List Nat} {W : World} (h : ClSt w fv wv rv L W) (i v : Nat) : ClSt w fv wv rv (L.set i v) (W.setCell ⟨w.heap.size + 1, i, none⟩ (.int .i64 (v : Int))) :=
  ⟨(Below.heap_setCell _ _ _ _ (by show w.heap.size ≠ w.heap.size + 1; omega)).trans h.bk, h.tab.set i v, h.bel.setCell (p := ⟨w.heap.size + 1, i, none⟩) (by show _ ≤ _ + 1; omega) _⟩
theorem ClSt.other {w : World} {W : World} {n i : Nat} {u : Value} {o : Obj} (h : W.heap[n]? = some o) (hn : n ≠ w.heap.size + 1) : (W.setCell ⟨w.heap.size + 1, i, none⟩ u).heap[n]? = some o := (Below.heap_setCell _ _ _ _ (by simpa using hn)).trans h

set_option maxRecDepth 100000 in
set_option maxHeartbeats 8000000 in
theorem progClashes (fv wv : Value) (ra : Option Addr) (rc : Nat) (b : Bk) (w : World) (hb : BookAt w fv wv (.slice ra b.reads.length rc) b) (hcap : b.reads.length ≤ rc) (ok : Ok b) :
    Calls Try.prog 58 #[bkV fv wv (.slice ra b.reads.length rc)] w fun e w' => Below w.heap.size w w' ∧ e = .returned (.tuple #[.slice (some ⟨w.heap.size + 1, 0, none⟩) b.reads.length b.reads.length, .int .i64 (b.alo b.reads.length)]) ∧ NatBlk w' (w.heap.size + 1) (b.clO b.reads.length) := by
  have hnr := ok.nr
  have hmf : ∀ (fn : Fn) (first cap : Array Value) (w : World), (Instr.makeFunc fn first cap).run Try.prog w = .ok (.func fn first cap) w := fun _ _ _ _ => rfl
  have hb0 := Lib.hid hb
  obtain ⟨fa, fc, rfl, hfm, -⟩ := hb.first.form
  obtain ⟨wa, wc, rfl, hwm, -⟩ := hb.flows.form
  obtain ⟨ra', rc', hrv, hrm, hx⟩ := hb.reads.form
  obtain ⟨rfl, rfl⟩ : ra = ra' ∧ rc = rc' := by simpa using hrv
  have hx2 := Lib.hid hx
  obtain ⟨W, hW⟩ : ∃ W, w.alloc (bkO (.slice fa b.first.length fc) (.slice wa b.flows.length wc) (.slice ra b.reads.length rc)) = W := ⟨_, rfl⟩
  obtain ⟨e0, b0, s0⟩ := boxed hW
  have hmk := make_ints W b.reads.length (by omega)
  rw [s0] at hmk
  obtain ⟨X, hX⟩ : ∃ X, W.alloc (.cells ((List.replicate b.reads.length 0).map fun n : Nat => Value.int .i64 (n : Int)).toArray 3) = X := ⟨_, rfl⟩
  obtain ⟨e1, b1, s1⟩ := boxed hX
  rw [s0] at e1
  rw [hX] at hmk
  have hS0 : Hid (ClSt w (.slice fa b.first.length fc) (.slice wa b.flows.length wc) (.slice ra b.reads.length rc) (b.clO 0) X) := Lib.hid ⟨kept_block b1 e0, e1, below_tr b0 b1⟩
  obtain ⟨q0, q1, q2⟩ := rc3 e0
  obtain ⟨p0, p1, p2⟩ := rc3 (kept_block b1 e0)
  have z0 := (Array.getElem?_eq_some_iff.1 e0).1
  have z1 := (Array.getElem?_eq_some_iff.1 (kept_block b1 e0)).1
  clear hx hb hrv e0 b0 s0 e1 b1 s1
  go_enter Try.func58, Try.ntmps58
  go_wp2
  clear q0 q1 q2 p0 p1 p2 z0 z1 hmk hX hW
  go_loopw [5, 22] (fun a i wr => ∃ k : Nat, k ≤ b.reads.length ∧ a = .int .i64 (b.alo k) ∧ i = .int .i64 k ∧ Hid (ClSt w (.slice fa b.first.length fc) (.slice wa b.flows.length wc) (.slice ra b.reads.length rc) (b.clO k) wr)) (fun _ i _ => b.reads.length - (intOf i).toNat)
  case atStart => exact ⟨0, by omega, rfl, rfl, hS0.out⟩
  case round =>
    obtain ⟨i, hi, rfl, rfl, hH⟩ := hrel
    clear hS0
    by_cases hil : i < b.reads.length
    · have hii : (i : Int) < (b.reads.length : Int) := by omega
      obtain ⟨rb, off, rfl, hrb, hx⟩ := hx2.out (by omega)
      have hcell : ∀ (V : World), Below w.heap.size w V → ∀ k j u, k < b.reads.length → (rdEnc (rdAt b.reads k))[j]? = some u → V.cell? ⟨rb, off + k * 4 + j, none⟩ = some u := fun V hV k j u hk hu => kept_cell hV (hx k j u hk hu)
      replace hcell := Lib.hid hcell
      have hrd := ok.reads i hil
      obtain ⟨z, hz⟩ : ∃ z : Nat, (rdAt b.reads i).zone = z := ⟨(rdAt b.reads i).zone.toNat, by omega⟩
      have hzR : b.zoR i = z := by unfold Bk.zoR; rw [hz]; simp
      have hzl : z < b.first.length := by omega
      have hzi : (z : Int) < (b.first.length : Int) := by omega
      have hkn : b.knR i = ⟨(rdAt b.reads i).day, (rdAt b.reads i).v⟩ := rfl
      have x0 : wr.cell? ⟨rb, off + i * 4, none⟩ = some (.int .i64 (rdAt b.reads i).day) := hcell.out _ hH.out.bel i 0 _ hil rfl
      have x1 : wr.cell? ⟨rb, off + i * 4 + 1, none⟩ = some (.int .i64 z) := by rw [← hz]; exact hcell.out _ hH.out.bel i 1 _ hil rfl
      have x2 : wr.cell? ⟨rb, off + i * 4 + 2, none⟩ = some (.int .i64 (rdAt b.reads i).v.lo) := hcell.out _ hH.out.bel i 2 _ hil rfl
      have x3 : wr.cell? ⟨rb, off + i * 4 + 3, none⟩ = some (.int .i64 (rdAt b.reads i).v.hi) := hcell.out _ hH.out.bel i 3 _ hil rfl
      have hrl := small_clO (b := b) i hi
      have hsm := Lib.hid hrl
      have hall := alo_lt (b := b) i hi
      have h40 : 2 ^ b.reads.length ≤ 2 ^ 40 := Nat.pow_le_pow_right (by omega) hnr
      have qa := i64_orp (b.alo i) i (by omega) (by omega)
      have hal : Hid (b.alo (i + 1) = if b.alq i = true then b.alo i ||| 2 ^ i else b.alo i) := rfl
      have hcO : Hid (b.clO (i + 1) = b.clI i (b.clO i) i) := rfl
      have hfz := ok.first z hzl
      clear hx hrl hall h40
      have hbV := Lib.hid hb0.out
      obtain ⟨fb, fo, fc2, hfv, hfb, -, s0c, s1c⟩ := sp_cells hb0.out.first hzl
      obtain ⟨rfl, rfl⟩ : fa = some ⟨fb, fo, none⟩ ∧ fc = fc2 := by simpa using hfv
      have halq : Hid (b.alq i = b.clashB z ⟨-1, spAt b.first z⟩ (b.knR i)) := Lib.hid (by unfold Bk.alq; rw [hzR])
      have hknd : Hid (b.knR i = ⟨(rdAt b.reads i).day, (rdAt b.reads i).v⟩) := rfl
      have hclq : Hid (∀ k, b.clq i k = (decide ((rdAt b.reads k).zone = (z : Int)) && b.clashB z (b.knR k) (b.knR i))) := Lib.hid fun k => by unfold Bk.clq; rw [hzR, hz]
      generalize hd : rdAt b.reads i = r at *
      replace hd := Lib.hid hd
      obtain ⟨rday, rz, rv⟩ := r
      simp only at *
      subst hz
      generalize hkn2 : b.knR i = kn at *
      replace hkn2 := Lib.hid hkn2
      have hkd := hknd.out
      subst hkd
      generalize hsp : spAt b.first z = sp at *
      replace hsp := Lib.hid hsp
      clear hfv
      obtain ⟨V1, hV1⟩ : ∃ X, wr.alloc (rdO ⟨rday, z, rv⟩) = X := ⟨_, rfl⟩
      obtain ⟨f1, B1, sV1⟩ := boxed hV1
      obtain ⟨V, hV⟩ : ∃ X, V1.alloc (knO ⟨rday, rv⟩) = X := ⟨_, rfl⟩
      obtain ⟨f2, B2, sV2⟩ := boxed hV
      obtain ⟨r0, r1, r2, r3⟩ := rc4 f1
      have zr1 := (Array.getElem?_eq_some_iff.1 f1).1
      have F1 := kept_block B2 f1
      have hSV := Lib.hid (hH.out.mono (below_tr B1 B2))
      have E1 := Lib.hid F1
      have E2 := Lib.hid f2
      obtain ⟨v0, v1, v2, v3⟩ := rc4 F1
      obtain ⟨u0, u1, u2⟩ := rc3 f2
      obtain ⟨q0, q1, q2⟩ := rc3 hSV.out.bk
      have zr := (Array.getElem?_eq_some_iff.1 F1).1
      have zk := (Array.getElem?_eq_some_iff.1 f2).1
      have zq := (Array.getElem?_eq_some_iff.1 hSV.out.bk).1
      have s0 := kept_cell hSV.out.bel s0c
      have s1 := kept_cell hSV.out.bel s1c
      have zs := World.block_lt_of_cell? V ⟨fb, _, none⟩ s0
      simp only at zs
      have en := enter_clash
      have hg := grow_cell V
      have kA := Lib.hid (fun g : Grow V => progClash _ _ _ b z ⟨-1, sp⟩ ⟨rday, rv⟩ w.heap.size g.x (hb0.out.mono (below_tr hSV.out.bel g.h)) ok hzl (kept_block g.h hSV.out.bk) (by simp only; omega) (by simp only; omega))
      rw [← halq.out] at kA
      have hwr : wr.heap.size < V1.heap.size := zr1
      have hSne0 : Hid (wr.heap.size ≠ w.heap.size + 1 ∧ V1.heap.size ≠ w.heap.size + 1) := Lib.hid (by have := hH.out.tab.lt; omega)
      clear sV1 sV2 B1 B2 f1 f2 F1 hH s0c s1c
      go_wp2
      refine wp_region_grow (by kernel_rfl) (by kernel_rfl) ?_
      repeat (go_big_quiet_step ((first | (with_reducible exact Calls.grow (kA.out _)))))
      refine wpQuiet_nil ?_
      rintro _ ⟨g, rfl⟩
      have hgV := g.h
      generalize g.x = Y at *
      have hSY := Lib.hid (hSV.out.mono hgV)
      have EY1 := Lib.hid (kept_block hgV E1.out)
      have EY2 := Lib.hid (kept_block hgV E2.out)
      obtain ⟨q0, q1, q2⟩ := rc3 hSY.out.bk
      have zq := (Array.getElem?_eq_some_iff.1 hSY.out.bk).1
      clear kA hg s0 s1 zs v0 v1 v2 v3 u0 u1 u2 r0 r1 r2 r3 zr1 zr zk hV hV1 hgV
      obtain ⟨S, rfl⟩ : ∃ S : World, S = wr := ⟨_, rfl⟩
      have hici : (i : Int) ≤ (rc : Int) := by omega
      obtain ⟨al, hal2⟩ : ∃ al, b.alo (i + 1) = al := ⟨_, rfl⟩
      rw [hal2] at hal
      cases ht : b.alq i
      case' false =>
        rw [ht] at hal
        have hale : b.alo i = al := by rw [hal.out]; rfl
        rw [hale]
      case' true =>
        rw [ht] at hal
        have hale : b.alo i ||| 2 ^ i = al := by rw [hal.out]; rfl
        rw [hale] at qa
      all_goals
        replace hal2 := Lib.hid hal2
        replace hale := Lib.hid hale
        clear ht hal
        have hSne : Hid (S.heap.size ≠ w.heap.size + 1 ∧ V1.heap.size ≠ w.heap.size + 1) := hSne0
        go_wp2
        clear q0 q1 q2 zq qa
        go_loopw [55] (fun j wr => ∃ k : Nat, k ≤ i ∧ j = .int .i64 k ∧ Hid (ClSt w (.slice (some ⟨fb, fo, none⟩) b.first.length fc) (.slice wa b.flows.length wc) (.slice (some ⟨rb, off, none⟩) b.reads.length rc) (b.clI i (b.clO i) k) wr ∧ wr.heap[S.heap.size]? = some (rdO ⟨rday, z, rv⟩) ∧ wr.heap[V1.heap.size]? = some (knO ⟨rday, rv⟩))) (fun j _ => i - (intOf j).toNat)
        case atStart => exact ⟨0, by omega, rfl, hSY.out, EY1.out, EY2.out⟩
        case round =>
          obtain ⟨k, hk, rfl, hJ⟩ := hrel
          obtain ⟨hSt, hR1, hR2⟩ := hJ.out
          clear hJ hSY EY1 EY2
          by_cases hki : k < i
          · have hkii : (k : Int) < (i : Int) := by omega
            have hkil : (k : Int) < (b.reads.length : Int) := by omega
            have hkl : k < b.reads.length := by omega
            have hsr := ok.reads k hkl
            have hq := hclq.out k
            have hknk : b.knR k = ⟨(rdAt b.reads k).day, (rdAt b.reads k).v⟩ := rfl
            rw [hknk] at hq
            have y0 : wr.cell? ⟨rb, off + k * 4, none⟩ = some (.int .i64 (rdAt b.reads k).day) := hcell.out _ hSt.bel k 0 _ hkl rfl
            have y1 : wr.cell? ⟨rb, off + k * 4 + 1, none⟩ = some (.int .i64 (rdAt b.reads k).zone) := hcell.out _ hSt.bel k 1 _ hkl rfl
            have y2 : wr.cell? ⟨rb, off + k * 4 + 2, none⟩ = some (.int .i64 (rdAt b.reads k).v.lo) := hcell.out _ hSt.bel k 2 _ hkl rfl
            have y3 : wr.cell? ⟨rb, off + k * 4 + 3, none⟩ = some (.int .i64 (rdAt b.reads k).v.hi) := hcell.out _ hSt.bel k 3 _ hkl rfl
            generalize rdAt b.reads k = sr at *
            have hcI : Hid (b.clI i (b.clO i) (k + 1) = if b.clq i k = true then setOr (setOr (b.clI i (b.clO i) k) i k) k i else b.clI i (b.clO i) k) := rfl
            have hsmI := small_clI hsm.out hil k hk
            generalize b.clI i (b.clO i) k = M at *
            obtain ⟨X, hX⟩ : ∃ X, wr.alloc (rdO sr) = X := ⟨_, rfl⟩
            obtain ⟨f3, B3, sX⟩ := boxed hX
            obtain ⟨a0, a1, a2, a3⟩ := rc4 f3
            have za := (Array.getElem?_eq_some_iff.1 f3).1
            have hSX := Lib.hid (hSt.mono B3)
            have G1 := Lib.hid (kept_block B3 hR1)
            have G2 := Lib.hid (kept_block B3 hR2)
            obtain ⟨b0, b1, b2, b3⟩ := rc4 G1.out
            obtain ⟨c0, c1, c2⟩ := rc3 G2.out
            have zb := (Array.getElem?_eq_some_iff.1 G1.out).1
            have zc := (Array.getElem?_eq_some_iff.1 G2.out).1
            have kB := Lib.hid (progClash _ _ _ b z ⟨sr.day, sr.v⟩ ⟨rday, rv⟩ w.heap.size X (hb0.out.mono hSX.out.bel) ok hzl hSX.out.bk (by simp only; omega) (by simp only; omega))
            clear f3 B3 sX hSt hR1 hR2
            by_cases hzz : sr.zone = (z : Int)
            · have hzb : (sr.zone == (z : Int)) = true := by simpa using hzz
              rw [decide_eq_true hzz, Bool.true_and] at hq
              clear hzz
              generalize b.clashB z ⟨sr.day, sr.v⟩ ⟨rday, rv⟩ = tc at *
              cases tc
              · have hnx : Hid (b.clI i (b.clO i) (k + 1) = M) := Lib.hid (by rw [hcI.out, hq]; rfl)
                replace hq := Lib.hid hq
                go_wp2_with ((with_reducible refine Calls.mono kB.out ?_); rintro e w2 ⟨rfl, hB2⟩; have hS2 := Lib.hid (hSX.out.mono hB2); have J1 := Lib.hid (kept_block hB2 G1.out); have J2 := Lib.hid (kept_block hB2 G2.out))
                exact ⟨⟨k + 1, by omega, by go_num, by rw [hnx.out]; exact hS2.out, J1.out, J2.out⟩, by simp [intOf]; omega⟩
              · have hnx : Hid (b.clI i (b.clO i) (k + 1) = setOr (setOr M i k) k i) := Lib.hid (by rw [hcI.out, hq]; rfl)
                replace hq := Lib.hid hq
                go_wp2_with ((with_reducible refine Calls.mono kB.out ?_); rintro e w2 ⟨rfl, hB2⟩; have hS2 := Lib.hid (hSX.out.mono hB2); have J1 := Lib.hid (kept_block hB2 G1.out); have J2 := Lib.hid (kept_block hB2 G2.out))
                have hsm_13 := hsmI
                have hsm_14 := hsmI.setOr hil hkl (i := i) (k := k)
                clear b0 b1 b2 b3 c0 c1 c2 a0 a1 a2 a3 y0 y1 y2 y3 zb zc za
                refine plain_region (by kernel_rfl) (any_region_locN 8 97 [] [77, 78, 79, 80, 81, 82, 83, 84] [[], [], [0, 1], [2], [], [4], [3, 5], [0, 1]] [IsV (.slice (some ⟨w.heap.size + 1, 0, none⟩) b.reads.length b.reads.length), IsV (.int .i64 i), IsV (.pointer (some ⟨w.heap.size + 1, i, none⟩)), IsV (.int .i64 (natAt M i)), IsV (.int .i64 k), IsV (.int .i64 (wrap64 (2 ^ k))), IsV (.int .i64 ((natAt M i ||| 2 ^ k : Nat) : Int)), IsV (.pointer (some ⟨w.heap.size + 1, i, none⟩))] [] (by kernel_rfl) (by kernel_rfl) (by kernel_rfl) (by kernel_rfl) (by kernel_rfl) rfl OnlyN.panic ?_ ?_ ?_ (fun j hj => nomatch hj) ?_)
                · exact List.forall_mem_cons.2 ⟨pers_v _, List.forall_mem_cons.2 ⟨pers_v _, List.forall_mem_cons.2 ⟨pers_v _, List.forall_mem_cons.2 ⟨pers_v _, List.forall_mem_cons.2 ⟨pers_v _, List.forall_mem_cons.2 ⟨pers_v _, List.forall_mem_cons.2 ⟨pers_v _, List.forall_mem_cons.2 ⟨pers_v _, fun f h => nomatch h⟩⟩⟩⟩⟩⟩⟩⟩
                · intro k hk; cases hk
                · refine ⟨?_, ?_, ?_, ?_, ?_, ?_, ?_, ?_, trivial⟩
                  · intro vals x hb hf
                    simp only [fillS, List.getD_cons_succ, List.getD_cons_zero, Act.put, List.setIfInBounds_toArray, List.set_cons_zero, List.set_cons_succ]
                    clear hf
                    have hMx := hS2.out.tab.mono hb
                    obtain ⟨m0, m1⟩ := hMx.cell (k := i) (by have := hsm_13.len; omega)
                    have zm := hMx.lt
                    have qM := i64_orp (natAt M i) k (by have := hsm_13.lt i (by omega); have : 2 ^ b.reads.length ≤ 2 ^ 40 := Nat.pow_le_pow_right (by omega) hnr; omega) (by omega)
                    go_wp2
                    exact ⟨rfl, rfl, Below.refl _ _, _, rfl, rfl, (fun h => absurd h (by decide))⟩
                  · intro vals x hb hf
                    simp only [fillS, List.getD_cons_succ, List.getD_cons_zero, Act.put, List.setIfInBounds_toArray, List.set_cons_zero, List.set_cons_succ]
                    clear hf
                    have hMx := hS2.out.tab.mono hb
                    obtain ⟨m0, m1⟩ := hMx.cell (k := i) (by have := hsm_13.len; omega)
                    have zm := hMx.lt
                    have qM := i64_orp (natAt M i) k (by have := hsm_13.lt i (by omega); have : 2 ^ b.reads.length ≤ 2 ^ 40 := Nat.pow_le_pow_right (by omega) hnr; omega) (by omega)
                    go_wp2
                    exact ⟨rfl, rfl, Below.refl _ _, _, rfl, rfl, (fun h => absurd h (by decide))⟩
                  · intro vals x hb hf
                    simp only [fillS, List.getD_cons_succ, List.getD_cons_zero, Act.put, List.setIfInBounds_toArray, List.set_cons_zero, List.set_cons_succ]
                    have h0 : vals 0 = .slice (some ⟨w.heap.size + 1, 0, none⟩) b.reads.length b.reads.length := hf.1
                    rw [h0]
                    clear h0
                    have h1 : vals 1 = .int .i64 i := hf.2.1
                    rw [h1]
                    clear h1
                    clear hf
                    have hMx := hS2.out.tab.mono hb
                    obtain ⟨m0, m1⟩ := hMx.cell (k := i) (by have := hsm_13.len; omega)
                    have zm := hMx.lt
                    have qM := i64_orp (natAt M i) k (by have := hsm_13.lt i (by omega); have : 2 ^ b.reads.length ≤ 2 ^ 40 := Nat.pow_le_pow_right (by omega) hnr; omega) (by omega)
                    go_wp2
                    exact ⟨rfl, rfl, Below.refl _ _, _, rfl, rfl, (fun h => absurd h (by decide))⟩
                  · intro vals x hb hf
                    simp only [fillS, List.getD_cons_succ, List.getD_cons_zero, Act.put, List.setIfInBounds_toArray, List.set_cons_zero, List.set_cons_succ]
                    have h2 : vals 2 = .pointer (some ⟨w.heap.size + 1, i, none⟩) := hf.1
                    rw [h2]
                    clear h2
                    clear hf
                    have hMx := hS2.out.tab.mono hb
                    obtain ⟨m0, m1⟩ := hMx.cell (k := i) (by have := hsm_13.len; omega)
                    have zm := hMx.lt
                    have qM := i64_orp (natAt M i) k (by have := hsm_13.lt i (by omega); have : 2 ^ b.reads.length ≤ 2 ^ 40 := Nat.pow_le_pow_right (by omega) hnr; omega) (by omega)
                    go_wp2
                    exact ⟨rfl, rfl, Below.refl _ _, _, rfl, rfl, (fun h => absurd h (by decide))⟩
                  · intro vals x hb hf
                    simp only [fillS, List.getD_cons_succ, List.getD_cons_zero, Act.put, List.setIfInBounds_toArray, List.set_cons_zero, List.set_cons_succ]
                    clear hf
                    have hMx := hS2.out.tab.mono hb
                    obtain ⟨m0, m1⟩ := hMx.cell (k := i) (by have := hsm_13.len; omega)
                    have zm := hMx.lt
                    have qM := i64_orp (natAt M i) k (by have := hsm_13.lt i (by omega); have : 2 ^ b.reads.length ≤ 2 ^ 40 := Nat.pow_le_pow_right (by omega) hnr; omega) (by omega)
                    go_wp2
                    exact ⟨rfl, rfl, Below.refl _ _, _, rfl, rfl, (fun h => absurd h (by decide))⟩
                  · intro vals x hb hf
                    simp only [fillS, List.getD_cons_succ, List.getD_cons_zero, Act.put, List.setIfInBounds_toArray, List.set_cons_zero, List.set_cons_succ]
                    have h4 : vals 4 = .int .i64 k := hf.1
                    rw [h4]
                    clear h4
                    clear hf
                    have hMx := hS2.out.tab.mono hb
                    obtain ⟨m0, m1⟩ := hMx.cell (k := i) (by have := hsm_13.len; omega)
                    have zm := hMx.lt
                    have qM := i64_orp (natAt M i) k (by have := hsm_13.lt i (by omega); have : 2 ^ b.reads.length ≤ 2 ^ 40 := Nat.pow_le_pow_right (by omega) hnr; omega) (by omega)
                    go_wp2
                    exact ⟨rfl, rfl, Below.refl _ _, _, rfl, rfl, (fun h => absurd h (by decide))⟩
                  · intro vals x hb hf
                    simp only [fillS, List.getD_cons_succ, List.getD_cons_zero, Act.put, List.setIfInBounds_toArray, List.set_cons_zero, List.set_cons_succ]
                    have h3 : vals 3 = .int .i64 (natAt M i) := hf.1
                    rw [h3]
                    clear h3
                    have h5 : vals 5 = .int .i64 (wrap64 (2 ^ k)) := hf.2.1
                    rw [h5]
                    clear h5
                    clear hf
                    have hMx := hS2.out.tab.mono hb
                    obtain ⟨m0, m1⟩ := hMx.cell (k := i) (by have := hsm_13.len; omega)
                    have zm := hMx.lt
                    have qM := i64_orp (natAt M i) k (by have := hsm_13.lt i (by omega); have : 2 ^ b.reads.length ≤ 2 ^ 40 := Nat.pow_le_pow_right (by omega) hnr; omega) (by omega)
                    go_wp2
                    exact ⟨rfl, rfl, Below.refl _ _, _, rfl, rfl, (fun h => absurd h (by decide))⟩
                  · intro vals x hb hf
                    simp only [fillS, List.getD_cons_succ, List.getD_cons_zero, Act.put, List.setIfInBounds_toArray, List.set_cons_zero, List.set_cons_succ]
                    have h0 : vals 0 = .slice (some ⟨w.heap.size + 1, 0, none⟩) b.reads.length b.reads.length := hf.1
                    rw [h0]
                    clear h0
                    have h1 : vals 1 = .int .i64 i := hf.2.1
                    rw [h1]
                    clear h1
                    clear hf
                    have hMx := hS2.out.tab.mono hb
                    obtain ⟨m0, m1⟩ := hMx.cell (k := i) (by have := hsm_13.len; omega)
                    have zm := hMx.lt
                    have qM := i64_orp (natAt M i) k (by have := hsm_13.lt i (by omega); have : 2 ^ b.reads.length ≤ 2 ^ 40 := Nat.pow_le_pow_right (by omega) hnr; omega) (by omega)
                    go_wp2
                    exact ⟨rfl, rfl, Below.refl _ _, _, rfl, rfl, (fun h => absurd h (by decide))⟩
                intro vals x hb hf hp
                have hrange : List.range 8 = [0, 1, 2, 3, 4, 5, 6, 7] := by rfl
                rw [hrange]
                simp only [fillS, List.getD_cons_succ, List.getD_cons_zero, Act.put, List.setIfInBounds_toArray, List.set_cons_zero, List.set_cons_succ]
                have h0 : vals 0 = .slice (some ⟨w.heap.size + 1, 0, none⟩) b.reads.length b.reads.length := hf 0 (by omega)
                have h1 : vals 1 = .int .i64 i := hf 1 (by omega)
                have h2 : vals 2 = .pointer (some ⟨w.heap.size + 1, i, none⟩) := hf 2 (by omega)
                have h3 : vals 3 = .int .i64 (natAt M i) := hf 3 (by omega)
                have h4 : vals 4 = .int .i64 k := hf 4 (by omega)
                have h5 : vals 5 = .int .i64 (wrap64 (2 ^ k)) := hf 5 (by omega)
                have h6 : vals 6 = .int .i64 ((natAt M i ||| 2 ^ k : Nat) : Int) := hf 6 (by omega)
                have h7 : vals 7 = .pointer (some ⟨w.heap.size + 1, i, none⟩) := hf 7 (by omega)
                rw [h0, h1, h2, h3, h4, h5, h6, h7]
                clear h0 h1 h2 h3 h4 h5 h6 h7 hf hp hrange
                simp only [List.drop_succ_cons, List.drop_zero]
                have hMx := hS2.out.mono hb
                obtain ⟨m0, m1⟩ := hMx.tab.cell (k := i) (by have := hsm_13.len; omega)
                have zm := hMx.tab.lt
                have hS3 := Lib.hid (hMx.set i (natAt M i ||| 2 ^ k))
                have hT1 := (kept_block hb J1.out)
                have hT2 := (kept_block hb J2.out)
                have K1 := Lib.hid (ClSt.other (w := w) (i := i) (u := .int .i64 ((natAt M i ||| 2 ^ k : Nat) : Int)) hT1 hSne.out.1)
                have K2 := Lib.hid (ClSt.other (w := w) (i := i) (u := .int .i64 ((natAt M i ||| 2 ^ k : Nat) : Int)) hT2 hSne.out.2)
                go_wp2
                refine OnlyN.mk ?_
                obtain ⟨U, hU⟩ : ∃ U, x.setCell ⟨w.heap.size + 1, i, none⟩ (.int .i64 ((natAt M i ||| 2 ^ k : Nat) : Int)) = U := ⟨_, rfl⟩
                rw [hU] at hS3 K1 K2
                rw [hU]
                have hM2 : Hid (M.set i (natAt M i ||| 2 ^ k) = setOr M i k) := rfl
                rw [hM2.out] at hS3
                clear hU m0 m1 zm hMx hT1 hT2 hS2 J1 J2
                generalize hMM : setOr M i k = M2 at *
                replace hMM := Lib.hid hMM
                go_wp2
                refine plain_region (by kernel_rfl) (any_region_locN 8 97 [] [85, 86, 87, 88, 89, 90, 91, 92] [[], [], [0, 1], [2], [], [4], [3, 5], [0, 1]] [IsV (.slice (some ⟨w.heap.size + 1, 0, none⟩) b.reads.length b.reads.length), IsV (.int .i64 k), IsV (.pointer (some ⟨w.heap.size + 1, k, none⟩)), IsV (.int .i64 (natAt M2 k)), IsV (.int .i64 i), IsV (.int .i64 (wrap64 (2 ^ i))), IsV (.int .i64 ((natAt M2 k ||| 2 ^ i : Nat) : Int)), IsV (.pointer (some ⟨w.heap.size + 1, k, none⟩))] [] (by kernel_rfl) (by kernel_rfl) (by kernel_rfl) (by kernel_rfl) (by kernel_rfl) rfl OnlyN.panic ?_ ?_ ?_ (fun j hj => nomatch hj) ?_)
                · exact List.forall_mem_cons.2 ⟨pers_v _, List.forall_mem_cons.2 ⟨pers_v _, List.forall_mem_cons.2 ⟨pers_v _, List.forall_mem_cons.2 ⟨pers_v _, List.forall_mem_cons.2 ⟨pers_v _, List.forall_mem_cons.2 ⟨pers_v _, List.forall_mem_cons.2 ⟨pers_v _, List.forall_mem_cons.2 ⟨pers_v _, fun f h => nomatch h⟩⟩⟩⟩⟩⟩⟩⟩
                · intro k hk; cases hk
                · refine ⟨?_, ?_, ?_, ?_, ?_, ?_, ?_, ?_, trivial⟩
                  · intro vals x hb hf
                    simp only [fillS, List.getD_cons_succ, List.getD_cons_zero, Act.put, List.setIfInBounds_toArray, List.set_cons_zero, List.set_cons_succ]
                    clear hf
                    have hMx := hS3.out.tab.mono hb
                    obtain ⟨m0, m1⟩ := hMx.cell (k := k) (by have := hsm_14.len; omega)
                    have zm := hMx.lt
                    have qM := i64_orp (natAt M2 k) i (by have := hsm_14.lt k (by omega); have : 2 ^ b.reads.length ≤ 2 ^ 40 := Nat.pow_le_pow_right (by omega) hnr; omega) (by omega)
                    go_wp2
                    exact ⟨rfl, rfl, Below.refl _ _, _, rfl, rfl, (fun h => absurd h (by decide))⟩
                  · intro vals x hb hf
                    simp only [fillS, List.getD_cons_succ, List.getD_cons_zero, Act.put, List.setIfInBounds_toArray, List.set_cons_zero, List.set_cons_succ]
                    clear hf
                    have hMx := hS3.out.tab.mono hb
                    obtain ⟨m0, m1⟩ := hMx.cell (k := k) (by have := hsm_14.len; omega)
                    have zm := hMx.lt
                    have qM := i64_orp (natAt M2 k) i (by have := hsm_14.lt k (by omega); have : 2 ^ b.reads.length ≤ 2 ^ 40 := Nat.pow_le_pow_right (by omega) hnr; omega) (by omega)
                    go_wp2
                    exact ⟨rfl, rfl, Below.refl _ _, _, rfl, rfl, (fun h => absurd h (by decide))⟩
                  · intro vals x hb hf
                    simp only [fillS, List.getD_cons_succ, List.getD_cons_zero, Act.put, List.setIfInBounds_toArray, List.set_cons_zero, List.set_cons_succ]
                    have h0 : vals 0 = .slice (some ⟨w.heap.size + 1, 0, none⟩) b.reads.length b.reads.length := hf.1
                    rw [h0]
                    clear h0
                    have h1 : vals 1 = .int .i64 k := hf.2.1
                    rw [h1]
                    clear h1
                    clear hf
                    have hMx := hS3.out.tab.mono hb
                    obtain ⟨m0, m1⟩ := hMx.cell (k := k) (by have := hsm_14.len; omega)
                    have zm := hMx.lt
                    have qM := i64_orp (natAt M2 k) i (by have := hsm_14.lt k (by omega); have : 2 ^ b.reads.length ≤ 2 ^ 40 := Nat.pow_le_pow_right (by omega) hnr; omega) (by omega)
                    go_wp2
                    exact ⟨rfl, rfl, Below.refl _ _, _, rfl, rfl, (fun h => absurd h (by decide))⟩
                  · intro vals x hb hf
                    simp only [fillS, List.getD_cons_succ, List.getD_cons_zero, Act.put, List.setIfInBounds_toArray, List.set_cons_zero, List.set_cons_succ]
                    have h2 : vals 2 = .pointer (some ⟨w.heap.size + 1, k, none⟩) := hf.1
                    rw [h2]
                    clear h2
                    clear hf
                    have hMx := hS3.out.tab.mono hb
                    obtain ⟨m0, m1⟩ := hMx.cell (k := k) (by have := hsm_14.len; omega)
                    have zm := hMx.lt
                    have qM := i64_orp (natAt M2 k) i (by have := hsm_14.lt k (by omega); have : 2 ^ b.reads.length ≤ 2 ^ 40 := Nat.pow_le_pow_right (by omega) hnr; omega) (by omega)
                    go_wp2
                    exact ⟨rfl, rfl, Below.refl _ _, _, rfl, rfl, (fun h => absurd h (by decide))⟩
                  · intro vals x hb hf
                    simp only [fillS, List.getD_cons_succ, List.getD_cons_zero, Act.put, List.setIfInBounds_toArray, List.set_cons_zero, List.set_cons_succ]
                    clear hf
                    have hMx := hS3.out.tab.mono hb
                    obtain ⟨m0, m1⟩ := hMx.cell (k := k) (by have := hsm_14.len; omega)
                    have zm := hMx.lt
                    have qM := i64_orp (natAt M2 k) i (by have := hsm_14.lt k (by omega); have : 2 ^ b.reads.length ≤ 2 ^ 40 := Nat.pow_le_pow_right (by omega) hnr; omega) (by omega)
                    go_wp2
                    exact ⟨rfl, rfl, Below.refl _ _, _, rfl, rfl, (fun h => absurd h (by decide))⟩
                  · intro vals x hb hf
                    simp only [fillS, List.getD_cons_succ, List.getD_cons_zero, Act.put, List.setIfInBounds_toArray, List.set_cons_zero, List.set_cons_succ]
                    have h4 : vals 4 = .int .i64 i := hf.1
                    rw [h4]
                    clear h4
                    clear hf
                    have hMx := hS3.out.tab.mono hb
                    obtain ⟨m0, m1⟩ := hMx.cell (k := k) (by have := hsm_14.len; omega)
                    have zm := hMx.lt
                    have qM := i64_orp (natAt M2 k) i (by have := hsm_14.lt k (by omega); have : 2 ^ b.reads.length ≤ 2 ^ 40 := Nat.pow_le_pow_right (by omega) hnr; omega) (by omega)
                    go_wp2
                    exact ⟨rfl, rfl, Below.refl _ _, _, rfl, rfl, (fun h => absurd h (by decide))⟩
                  · intro vals x hb hf
                    simp only [fillS, List.getD_cons_succ, List.getD_cons_zero, Act.put, List.setIfInBounds_toArray, List.set_cons_zero, List.set_cons_succ]
                    have h3 : vals 3 = .int .i64 (natAt M2 k) := hf.1
                    rw [h3]
                    clear h3
                    have h5 : vals 5 = .int .i64 (wrap64 (2 ^ i)) := hf.2.1
                    rw [h5]
                    clear h5
                    clear hf
                    have hMx := hS3.out.tab.mono hb
                    obtain ⟨m0, m1⟩ := hMx.cell (k := k) (by have := hsm_14.len; omega)
                    have zm := hMx.lt
                    have qM := i64_orp (natAt M2 k) i (by have := hsm_14.lt k (by omega); have : 2 ^ b.reads.length ≤ 2 ^ 40 := Nat.pow_le_pow_right (by omega) hnr; omega) (by omega)
                    go_wp2
                    exact ⟨rfl, rfl, Below.refl _ _, _, rfl, rfl, (fun h => absurd h (by decide))⟩
                  · intro vals x hb hf
                    simp only [fillS, List.getD_cons_succ, List.getD_cons_zero, Act.put, List.setIfInBounds_toArray, List.set_cons_zero, List.set_cons_succ]
                    have h0 : vals 0 = .slice (some ⟨w.heap.size + 1, 0, none⟩) b.reads.length b.reads.length := hf.1
                    rw [h0]
                    clear h0
                    have h1 : vals 1 = .int .i64 k := hf.2.1
                    rw [h1]
                    clear h1
                    clear hf
                    have hMx := hS3.out.tab.mono hb
                    obtain ⟨m0, m1⟩ := hMx.cell (k := k) (by have := hsm_14.len; omega)
                    have zm := hMx.lt
                    have qM := i64_orp (natAt M2 k) i (by have := hsm_14.lt k (by omega); have : 2 ^ b.reads.length ≤ 2 ^ 40 := Nat.pow_le_pow_right (by omega) hnr; omega) (by omega)
                    go_wp2
                    exact ⟨rfl, rfl, Below.refl _ _, _, rfl, rfl, (fun h => absurd h (by decide))⟩
                intro vals x hb hf hp
                have hrange : List.range 8 = [0, 1, 2, 3, 4, 5, 6, 7] := by rfl
                rw [hrange]
                simp only [fillS, List.getD_cons_succ, List.getD_cons_zero, Act.put, List.setIfInBounds_toArray, List.set_cons_zero, List.set_cons_succ]
                have h0 : vals 0 = .slice (some ⟨w.heap.size + 1, 0, none⟩) b.reads.length b.reads.length := hf 0 (by omega)
                have h1 : vals 1 = .int .i64 k := hf 1 (by omega)
                have h2 : vals 2 = .pointer (some ⟨w.heap.size + 1, k, none⟩) := hf 2 (by omega)
                have h3 : vals 3 = .int .i64 (natAt M2 k) := hf 3 (by omega)
                have h4 : vals 4 = .int .i64 i := hf 4 (by omega)
                have h5 : vals 5 = .int .i64 (wrap64 (2 ^ i)) := hf 5 (by omega)
                have h6 : vals 6 = .int .i64 ((natAt M2 k ||| 2 ^ i : Nat) : Int) := hf 6 (by omega)
                have h7 : vals 7 = .pointer (some ⟨w.heap.size + 1, k, none⟩) := hf 7 (by omega)
                rw [h0, h1, h2, h3, h4, h5, h6, h7]
                clear h0 h1 h2 h3 h4 h5 h6 h7 hf hp hrange
                simp only [List.drop_succ_cons, List.drop_zero]
                have hMx := hS3.out.mono hb
                obtain ⟨m0, m1⟩ := hMx.tab.cell (k := k) (by have := hsm_14.len; omega)
                have zm := hMx.tab.lt
                have hS4 := Lib.hid (hMx.set k (natAt M2 k ||| 2 ^ i))
                have hT1 := (kept_block hb K1.out)
                have hT2 := (kept_block hb K2.out)
                have K3 := Lib.hid (ClSt.other (w := w) (i := k) (u := .int .i64 ((natAt M2 k ||| 2 ^ i : Nat) : Int)) hT1 hSne.out.1)
                have K4 := Lib.hid (ClSt.other (w := w) (i := k) (u := .int .i64 ((natAt M2 k ||| 2 ^ i : Nat) : Int)) hT2 hSne.out.2)
                go_wp2
                refine OnlyN.mk ?_
                go_wp2
                exact ⟨⟨k + 1, by omega, by go_num, by rw [hnx.out]; exact hS4.out, K3.out, K4.out⟩, by simp [intOf]; omega⟩
            · have hzb : (sr.zone == (z : Int)) = false := by simpa using hzz
              have hnx : Hid (b.clI i (b.clO i) (k + 1) = M) := Lib.hid (by rw [hcI.out, hq, decide_eq_false hzz]; rfl)
              replace hq := Lib.hid hq
              clear hzz
              go_wp2
              exact ⟨⟨k + 1, by omega, by go_num, by rw [hnx.out]; exact hSX.out, G1.out, G2.out⟩, by simp [intOf]; omega⟩
          · obtain rfl : k = i := by omega
            have hnx := Lib.hid hSt
            rw [← hcO.out] at hSt
            have hfin := Lib.hid hSt
            clear hnx hSt hR1 hR2
            go_wp2
            exact ⟨⟨k + 1, by omega, by first | rfl | (rw [hal2.out]), by go_num, hfin.out⟩, by simp [intOf]; omega⟩
    · obtain rfl : i = b.reads.length := by omega
      have hf := Lib.hid hH.out
      clear hH
      go_wp2
      refine bodyPost_ret (v := .tuple #[_, _]) (by simp [results, Try.results58, go_sem]; exact ⟨rfl, rfl⟩) rfl ?_
      exact ⟨hf.out.bel, rfl, hf.out.tab⟩
end Go.Proofs.Ytddmfkhmhdddeaa
