/- Walks: all strictly increasing lists of so many numbers below another one (the reference). -/
import Derived.Test.YtddmfkhmhdddeaaBlr
import Derived.Test.YtddmfkhmhdddeaaRws
import Derived.Deep.Cut
set_option linter.unusedVariables false
set_option linter.unusedSimpArgs false
namespace Lk
abbrev zL1 (p : List Nat) : List Int := p.map fun n : Nat => (n : Int)
abbrev zL (l : List (List Nat)) : List (List Int) := l.map zL1
theorem setsD_len : ∀ d i m, (setsD d i m).length ≤ 2 ^ d
  | d, i, 0 => by rw [setsD_zero]; exact Nat.one_le_two_pow
  | 0, i, m + 1 => by simp [setsD]
  | d + 1, i, m + 1 => by
    have h1 := setsD_len d (i + 1) m
    have h2 := setsD_len d (i + 1) (m + 1)
    rw [setsD, List.length_append, List.length_map, Nat.pow_succ]
    omega
theorem extD_len (n : Nat) (p : List Nat) : (extD n 0 p).length ≤ n := by unfold extD; simp
theorem flat_len (n : Nat) : ∀ (L : List (List Nat)), (L.flatMap (extD n 0)).length ≤ n * L.length
  | [] => by simp
  | p :: L => by
    have h1 := extD_len n p
    have h2 := flat_len n L
    rw [List.flatMap_cons, List.length_append, List.length_cons, Nat.mul_add]; omega
def lsN (L : List (List Nat)) (k : Nat) : List Nat := L.getD k []
theorem flat_succ {n j : Nat} {L : List (List Nat)} (h : j < L.length) : (L.take (j + 1)).flatMap (extD n 0) = (L.take j).flatMap (extD n 0) ++ extD n 0 (lsN L j) := by
  have e : lsN L j = L[j] := by simp [lsN, h]
  rw [List.take_succ_eq_append_getElem h, List.flatMap_append, e]; simp
/-- The lists that lengthen p by a number from f on, below y. -/
def parD (p : List Nat) (f y : Nat) : List (List Nat) := (List.range' f (y - f)).map fun z => p ++ [z]
theorem parD_succ {p : List Nat} {f y : Nat} (h : f ≤ y) : parD p f (y + 1) = parD p f y ++ [p ++ [y]] := by
  unfold parD
  rw [show y + 1 - f = (y - f) + 1 by omega, List.range'_concat, List.map_append]
  simp; omega
theorem parD_zero {p : List Nat} {f : Nat} : parD p f f = [] := by simp [parD]
theorem parD_all {p : List Nat} {n : Nat} : parD p (frD 0 p) n = extD n 0 p := rfl
theorem parD_len {p : List Nat} {f y : Nat} : (parD p f y).length = y - f := by simp [parD]
theorem lst_zL {L : List (List Nat)} {k : Nat} (h : k < L.length) : lstAt (zL L) k = zL1 (lsN L k) := by simp [lstAt, zL, lsN, h]
end Lk
namespace Go.Proofs.Ytddmfkhmhdddeaa
open Go.RowKit Go.Sd Lk

theorem run_app_ints (base : Nat) (ty : TypeId) (w : World) (rv : Value) (L : List Int) (hr : IntsAt w rv L) (hn : L.length ≤ 1000) (hb : base ≤ w.heap.size) :
    ∃ v' w', (Builtin.append_ #[38, 38] ty #[.slice none 0 0, rv]).run Try.prog w = .ok v' w' ∧ OwnInts base w' v' L ∧ w.grownBy w' none ∧ (v'.ownBlock = none ∨ v'.ownBlock = some w.heap.size) := by
  obtain ⟨a, cap, rfl, hmx, hc⟩ := hr
  obtain ⟨i0, hi, hz0, hz1, hz2⟩ := info_parts infoInt
  by_cases h0 : 0 < L.length
  · obtain ⟨b, off, rfl, hlt, hcell⟩ := hc h0
    obtain ⟨v', w', hrun, hown, hg, -, hat⟩ := run_append_own_at (P := Try.prog) w base 38 ty 3 i0 _ 1 8 Try.underlying38 hi hz0 hz1 hz2 rfl (by decide)
      (.slice none 0 0) 0 [] (World.ownsRow_nil w base _ 1) ⟨b, off, none⟩ L.length cap (L.flatMap intEnc) (fl_len intEnc_len L) (fun j u hj => by
        obtain ⟨k, i, rfl, hk, hi', hu⟩ := fl_at intEnc_len (by decide) 0 L hj
        have e : ∀ n, (⟨b, off, none⟩ : Addr).add n = ⟨b, off + n, none⟩ := by
          intro n
          unfold Addr.add
          by_cases h0 : n = 0 <;> simp [h0]
        rw [e, ← Nat.add_assoc]
        exact hcell k i u hk hu) (fun u hu => by
        obtain ⟨y, -, hy'⟩ := List.mem_flatMap.1 hu
        exact intEnc_one y u hy') (by unfold maxLen; omega) (by omega) hb
    refine ⟨v', w', hrun, ?_, hg, hat⟩
    unfold OwnInts OwnSt
    simpa using hown
  · have hl : L = [] := List.eq_nil_of_length_eq_zero (by omega)
    subst hl
    refine ⟨.slice none 0 0, w, ?_, World.ownsRow_nil w base _ 1, ⟨rfl, rfl, rfl, Nat.le_refl _, fun _ _ _ => rfl⟩, .inl rfl⟩
    cases a <;> simp [Builtin.append_, run_underlying Try.underlying38, sizeOf, typeInfo, hi, Builtin.lenOf, Builtin.firstCells, loadCells, loadCellsFrom]
theorem wpList_app_ints {ops : Array Oper} {o : Oper} {a : Act} {Q : Exit → Act → World → Prop} {rest : List Oper} (hgd : o.guard = none) (s x : Operand) (ho : o.op = .call { callee := .builtin .append, args := #[s, x], argTypes := #[38, 38] })
    (base : Nat) (w : World) (rv : Value) (L : List Int) (hs : a.eval s = .slice none 0 0) (hx : a.eval x = rv) (hr : IntsAt w rv L) (hn : L.length ≤ 1000) (hb : base ≤ w.heap.size)
    (h : ∀ v' w', OwnInts base w' v' L → w.grownBy w' none → (v'.ownBlock = none ∨ v'.ownBlock = some w.heap.size) → wpList Try.prog ops Q rest (a.put o.dst v') w') :
    wpList Try.prog ops Q (o :: rest) a w := by
  refine wpList_plain hgd fun K hK => ?_
  obtain ⟨v', w', hrun, h2, h3, h4⟩ := run_app_ints base o.type w rv L hr hn hb
  unfold Oper.wp execOp
  simp only [ho, resolve, invoke, builtin, Sem.run_bind, Sem.run_pure, Result.andThen_ok, List.map_toArray, List.map_cons, List.map_nil, hs, hx, hrun]
  exact hK _ _ (h v' w' h2 h3 h4)

theorem infoSl : (Try.prog.info? 38).map (fun i => (i.zero, i.size, i.bytes)) = some (some (.slice none 0 0), 1, 24) := by kernel_rfl
/-- What stands in the rounds. -/
structure SeSt (S : World) (rows : List (List Nat)) (v : Value) (X : World) : Prop where
  own : OwnRs 38 3 1 intEnc S.heap.size (fun _ => False) X v (zL rows)
  bel : Below S.heap.size S X

set_option maxRecDepth 100000 in
set_option maxHeartbeats 4000000 in
theorem refSets (n m : Nat) (w : World) (hn : n ≤ 8) (hm : m ≤ 8) :
    Calls Try.prog 60 #[.int .i64 n, .int .i64 m] w fun e w' => Below w.heap.size w w' ∧ ∃ v, e = .returned v ∧ ListsAt w' v (zL (setsD n 0 m)) := by
  obtain ⟨W, hW⟩ : ∃ W, w.alloc (.cells #[.slice none 0 0] 38) = W := ⟨_, rfl⟩
  obtain ⟨eW, bW, sW⟩ := boxed hW
  have hS0 : Hid (Below w.heap.size w W ∧ ListsAt W (.slice (some ⟨w.heap.size, 0, none⟩) 1 1) (zL (setsD n 0 0))) := Lib.hid ⟨bW, by
    rw [setsD_zero]
    refine ⟨_, _, rfl, by simp [maxLen], fun _ => ⟨_, _, rfl, by omega, fun k hk => ⟨.slice none 0 0, ?_, ?_⟩⟩⟩
    · obtain rfl : k = 0 := by simpa using hk
      exact rc1 eW
    · obtain rfl : k = 0 := by simpa using hk
      exact ElsAt.nil _⟩
  clear sW eW bW
  have hWh := Lib.hid hW
  go_enter Try.func60, Try.ntmps60
  go_upto_region 2 with fail
  clear hW
  go_wp2_with fail
  go_loopw [5, 6] (fun o i wr => ∃ (k : Nat), k ≤ m ∧ i = .int .i64 k ∧ Hid (Below w.heap.size w wr ∧ ListsAt wr o (zL (setsD n 0 k)))) (fun _ i _ => m - (intOf i).toNat)
  case atStart => exact ⟨0, by omega, rfl, hS0.out⟩
  case round =>
    obtain ⟨k, hk, rfl, hG⟩ := hrel
    clear hS0 hWh
    by_cases hkm : k < m
    · have hki : (k : Int) < (m : Int) := by omega
      obtain ⟨S, hS⟩ : ∃ S : World, S = wr := ⟨_, rfl⟩
      subst hS
      have hLl : (setsD n 0 k).length ≤ 256 := Nat.le_trans (setsD_len n 0 k) (Nat.pow_le_pow_right (by omega) hn)
      have hnxt : Hid ((setsD n 0 k).flatMap (extD n 0) = setsD n 0 (k + 1)) := Lib.hid (by have := setsD_next n 0 k; rw [Nat.zero_add] at this; exact this.symm)
      have hmem : Hid (∀ j, j < (setsD n 0 k).length → (lsN (setsD n 0 k) j).length = k ∧ ∀ x, x ∈ lsN (setsD n 0 k) j → x < n) := Lib.hid (by
        intro j hj
        have hmm : lsN (setsD n 0 k) j ∈ setsD n 0 k := by simp [lsN, hj]
        obtain ⟨a, c⟩ := mem_setsD hmm
        exact ⟨a, fun x hx => by have := (c x hx).2; omega⟩)
      obtain ⟨hGb, hGl⟩ := hG.out
      obtain ⟨oa, oc, rfl, -, -⟩ := hGl.form
      have hGl' := Lib.hid hGl
      have hGb' := Lib.hid hGb
      clear hG hGb
      rw [show (zL (setsD n 0 k)).length = (setsD n 0 k).length by simp] at hGl' ⊢
      generalize setsD n 0 k = L at *
      clear hGl
      go_wp2_with fail
      go_loopw [7, 8] (fun nv q wr' => ∃ j : Nat, j ≤ L.length ∧ q = .int .i64 j ∧ Hid (SeSt S ((L.take j).flatMap (extD n 0)) nv wr')) (fun _ q _ => L.length - (intOf q).toNat)
      case atStart => exact ⟨0, by omega, rfl, Lib.hid ⟨OwnRs.nil, Below.refl _ _⟩⟩
      case round =>
        obtain ⟨j, hj, rfl, hI⟩ := hrel
        by_cases hjl : j < L.length
        · have hji : (j : Int) < (L.length : Int) := by omega
          obtain ⟨T, hT⟩ : ∃ T : World, T = wr := ⟨_, rfl⟩
          subst hT
          obtain ⟨hp, hpx⟩ := hmem.out j hjl
          obtain ⟨c1, o1, k1, ev1, hv1, hw1, -, y0, hrow⟩ := list_cell hGl'.out (k := j) (by simpa using hjl)
          rw [show (zL L).length = L.length by simp] at hv1
          obtain ⟨rfl, rfl⟩ : oa = some ⟨c1, o1, none⟩ ∧ oc = k1 := by simpa using hv1
          rw [lst_zL hjl] at hrow
          have hfs := Lib.hid (flat_succ (n := n) hjl)
          have hfl : ((L.take j).flatMap (extD n 0)).length ≤ 8 * 256 := by
            have h1 := flat_len n (L.take j)
            have h2 : (L.take j).length ≤ 256 := by rw [List.length_take]; omega
            exact Nat.le_trans h1 (Nat.mul_le_mul hn h2)
          obtain ⟨pa, pc, rfl, -, -⟩ := hrow.form
          have hzl : Hid ((zL1 (lsN L j)).length = k) := Lib.hid (by simp [hp])
          rw [hzl.out] at y0 hrow
          have t1 := kept_cell hI.out.bel y0
          have hcl := Nat.lt_of_lt_of_le hw1 hI.out.bel.size
          have hk8 : k ≤ 8 := by omega
          replace hp := Lib.hid hp
          replace hrow := Lib.hid hrow
          clear hv1 hmem
          generalize lsN L j = p at *
          generalize (L.take j).flatMap (extD n 0) = R at *
          by_cases hk0 : k = 0
          · have hpn : p = [] := List.eq_nil_of_length_eq_zero (by rw [hp.out, hk0])
            obtain ⟨f, hfe⟩ : ∃ f, frD 0 p = f := ⟨_, rfl⟩
            have hf0 : f = 0 := by rw [← hfe, hpn]; rfl
            have hfn : f ≤ n := by omega
            have hfe := Lib.hid hfe
            have d1 : decide ((0 : Int) < (k : Int)) = false := decide_eq_false (by omega)
            have d2 : decide (0 < k) = false := decide_eq_false (by omega)
            clear hpx hpn hk0
            go_wp2_with fail
            clear t1 hcl
            go_loopw [7, 10] (fun nv x wr => ∃ y : Nat, f ≤ y ∧ y ≤ n ∧ x = .int .i64 y ∧ Hid (SeSt S (R ++ parD p f y) nv wr)) (fun _ x _ => n - (intOf x).toNat)
            case atStart => exact ⟨f, Nat.le_refl _, hfn, by rw [hf0]; rfl, Lib.hid (by rw [parD_zero, List.append_nil]; exact hI.out)⟩
            case round =>
              obtain ⟨y, hy0, hy1, rfl, hJ⟩ := hrel
              clear hI
              by_cases hyn : y < n
              · have hyi : (y : Int) < (n : Int) := by omega
                have hJ' := hJ.out
                have hJb := hJ'.bel
                obtain ⟨⟨ss, hss1, hss2, hss3⟩, hfar⟩ := hJ'.own
                obtain ⟨va, vc, hvv⟩ := hss1.slice
                subst hvv
                have t0 := kept_cell hJb y0
                have hcl := Nat.lt_of_lt_of_le hw1 hJb.size
                have hpr := hrow.out.mono hJb
                have hsl : ss.length ≤ 1000000 := by rw [hss2, List.length_map, List.length_append, parD_len]; omega
                have hwr : S.heap.size ≤ wr.heap.size := hJb.size
                have hrows : Hid (zL (R ++ parD p f (y + 1)) = zL (R ++ parD p f y) ++ [zL1 p ++ [(y : Int)]]) := Lib.hid (by rw [parD_succ hy0]; simp [zL])
                have hl2 : (zL1 p ++ [(y : Int)]).length = k + 1 := by simp [hp.out]
                have hl1 := hzl.out
                replace hss2 := Lib.hid hss2
                clear hJ hJ'
                go_wp2_with (first
                  | (at_builtin; refine wpList_app_ints (by rfl) _ _ (by rfl) S.heap.size wr (.slice pa k pc) (zL1 p) (by rfl) (by rfl) hpr (by rw [hl1]; omega) hwr ?_; intro v1 w1 ho1 hg1 hat1; obtain ⟨a1, c2, he1⟩ := ho1.slice; rw [hl1] at he1; subst he1; have hB1 : Below wr.heap.size wr w1 := (Below.refl _ _).grown hg1 (Nat.le_refl _) (fun q e => by cases e))
                  | (at_builtin; refine wpList_app_st (enc := intEnc) intEnc_len 38 3 _ 8 Try.underlying38 infoInt rfl (by omega) (by omega) intEnc_one (by rfl) _ _ (by rfl) S.heap.size w1 (.slice a1 k c2) (zL1 p) (y : Int) (by rfl) ho1 (by rfl) (by rw [hl1]; omega) (Nat.le_trans hwr hB1.size) ?_; intro v2 w2 ho2 hg2 hat2; obtain ⟨a2, c3, he2⟩ := ho2.slice; rw [hl2] at he2; subst he2; have hB2 : Below wr.heap.size wr w2 := hB1.grown hg2 hB1.size (fun q e => by rcases hat1 with e' | e' <;> rw [e'] at e <;> cases e; exact Nat.le_refl _))
                  | (at_builtin; refine wpList_app_st (enc := slEnc) slEnc_len 66 38 _ 24 Try.underlying66 infoSl rfl (by omega) (by omega) slEnc_one (by rfl) _ _ (by rfl) S.heap.size w2 (.slice va ss.length vc) ss ⟨a2, k + 1, c3⟩ (by rfl) (hss1.mono hB2) (by rfl) hsl (Nat.le_trans hwr hB2.size) ?_; intro v3 w3 ho3 hg3 hat3))
                have hrf : ∀ q, (slV ⟨a2, k + 1, c3⟩).ownBlock = some q → (Value.slice va ss.length vc).ownBlock ≠ some q ∧ ¬ False := fun q e => ⟨fun e' => by
                  have h1 := (hss1.lt q e').2
                  rcases hat2 with h2 | ⟨r, h2, hr⟩
                  · rw [h2] at e
                    rcases hat1 with h3 | h3
                    · rw [h3] at e; cases e
                    · rw [h3] at e; cases e; omega
                  · rw [h2] at e; cases e
                    have := hB1.size; omega, id⟩
                exact ⟨⟨y + 1, by omega, by omega, by go_num, Lib.hid ⟨by rw [hrows.out]; exact OwnRs.app (s := ⟨a2, k + 1, c3⟩) (hss1.mono hB2) hss2.out (fun i hi => ⟨(hss3 i hi).1.mono hB2, (hss3 i hi).2⟩) hfar ho2 hrf ho3 hg3 hat3 (fun _ _ h => h), (below_tr hJb hB2).grown hg3 (Nat.le_trans hwr hB2.size) (fun q e => (hss1.lt q e).1)⟩⟩, by simp [intOf]; omega⟩
              · obtain rfl : y = n := by omega
                have hJ2 : Hid (SeSt S ((L.take (j + 1)).flatMap (extD y 0)) _ wr) := Lib.hid (by rw [hfs.out, ← parD_all, hfe.out]; exact hJ.out)
                clear hJ
                go_wp2_with fail
                exact ⟨⟨j + 1, by omega, by go_num, hJ2⟩, by simp [intOf]; omega⟩
          · obtain ⟨k', hk'⟩ : ∃ i, k = i + 1 := ⟨k - 1, by omega⟩
            obtain ⟨f, hfe⟩ : ∃ f, frD 0 p = f := ⟨_, rfl⟩
            have hf1 : f = natAt p k' + 1 := by rw [← hfe]; exact frD_last (by rw [hp.out, hk'])
            have hplt : natAt p k' < n := hpx _ (by
              have hlt : k' < p.length := by rw [hp.out]; omega
              have e : natAt p k' = p[k'] := by simp [natAt, hlt]
              rw [e]; exact List.getElem_mem hlt)
            have hfn : f ≤ n := by omega
            have hfe := Lib.hid hfe
            have d1 : decide ((0 : Int) < (k : Int)) = true := decide_eq_true (by omega)
            have d2 : decide (0 < k) = true := decide_eq_true (by omega)
            obtain ⟨c4, p4, m4, hw4, hcl4, -, x0⟩ := int_cells (hrow.out.mono hI.out.bel) (k := k') (by rw [hzl.out]; omega)
            rw [hzl.out] at hw4
            obtain ⟨rfl, rfl⟩ : pa = some ⟨c4, p4, none⟩ ∧ pc = m4 := by simpa using hw4
            rw [at0_map] at x0
            clear hw4 hpx
            have hkm : (k : Int) - 1 = (k' : Int) := by omega
            have hk'k : k' < k := by omega
            clear hk0 hk'
            generalize natAt p k' = u at *
            replace hf1 := Lib.hid hf1
            go_wp2_with fail
            clear t1 hcl x0 hcl4 hkm hk'k
            go_loopw [7, 10] (fun nv x wr => ∃ y : Nat, f ≤ y ∧ y ≤ n ∧ x = .int .i64 y ∧ Hid (SeSt S (R ++ parD p f y) nv wr)) (fun _ x _ => n - (intOf x).toNat)
            case atStart => exact ⟨f, Nat.le_refl _, hfn, by rw [hf1.out]; go_num, Lib.hid (by rw [parD_zero, List.append_nil]; exact hI.out)⟩
            case round =>
              obtain ⟨y, hy0, hy1, rfl, hJ⟩ := hrel
              clear hI
              by_cases hyn : y < n
              · have hyi : (y : Int) < (n : Int) := by omega
                have hJ' := hJ.out
                have hJb := hJ'.bel
                obtain ⟨⟨ss, hss1, hss2, hss3⟩, hfar⟩ := hJ'.own
                obtain ⟨va, vc, hvv⟩ := hss1.slice
                subst hvv
                have t0 := kept_cell hJb y0
                have hcl := Nat.lt_of_lt_of_le hw1 hJb.size
                have hpr := hrow.out.mono hJb
                have hsl : ss.length ≤ 1000000 := by rw [hss2, List.length_map, List.length_append, parD_len]; omega
                have hwr : S.heap.size ≤ wr.heap.size := hJb.size
                have hrows : Hid (zL (R ++ parD p f (y + 1)) = zL (R ++ parD p f y) ++ [zL1 p ++ [(y : Int)]]) := Lib.hid (by rw [parD_succ hy0]; simp [zL])
                have hl2 : (zL1 p ++ [(y : Int)]).length = k + 1 := by simp [hp.out]
                have hl1 := hzl.out
                replace hss2 := Lib.hid hss2
                clear hJ hJ'
                go_wp2_with (first
                  | (at_builtin; refine wpList_app_ints (by rfl) _ _ (by rfl) S.heap.size wr (.slice (some ⟨c4, p4, none⟩) k pc) (zL1 p) (by rfl) (by rfl) hpr (by rw [hl1]; omega) hwr ?_; intro v1 w1 ho1 hg1 hat1; obtain ⟨a1, c2, he1⟩ := ho1.slice; rw [hl1] at he1; subst he1; have hB1 : Below wr.heap.size wr w1 := (Below.refl _ _).grown hg1 (Nat.le_refl _) (fun q e => by cases e))
                  | (at_builtin; refine wpList_app_st (enc := intEnc) intEnc_len 38 3 _ 8 Try.underlying38 infoInt rfl (by omega) (by omega) intEnc_one (by rfl) _ _ (by rfl) S.heap.size w1 (.slice a1 k c2) (zL1 p) (y : Int) (by rfl) ho1 (by rfl) (by rw [hl1]; omega) (Nat.le_trans hwr hB1.size) ?_; intro v2 w2 ho2 hg2 hat2; obtain ⟨a2, c3, he2⟩ := ho2.slice; rw [hl2] at he2; subst he2; have hB2 : Below wr.heap.size wr w2 := hB1.grown hg2 hB1.size (fun q e => by rcases hat1 with e' | e' <;> rw [e'] at e <;> cases e; exact Nat.le_refl _))
                  | (at_builtin; refine wpList_app_st (enc := slEnc) slEnc_len 66 38 _ 24 Try.underlying66 infoSl rfl (by omega) (by omega) slEnc_one (by rfl) _ _ (by rfl) S.heap.size w2 (.slice va ss.length vc) ss ⟨a2, k + 1, c3⟩ (by rfl) (hss1.mono hB2) (by rfl) hsl (Nat.le_trans hwr hB2.size) ?_; intro v3 w3 ho3 hg3 hat3))
                have hrf : ∀ q, (slV ⟨a2, k + 1, c3⟩).ownBlock = some q → (Value.slice va ss.length vc).ownBlock ≠ some q ∧ ¬ False := fun q e => ⟨fun e' => by
                  have h1 := (hss1.lt q e').2
                  rcases hat2 with h2 | ⟨r, h2, hr⟩
                  · rw [h2] at e
                    rcases hat1 with h3 | h3
                    · rw [h3] at e; cases e
                    · rw [h3] at e; cases e; omega
                  · rw [h2] at e; cases e
                    have := hB1.size; omega, id⟩
                exact ⟨⟨y + 1, by omega, by omega, by go_num, Lib.hid ⟨by rw [hrows.out]; exact OwnRs.app (s := ⟨a2, k + 1, c3⟩) (hss1.mono hB2) hss2.out (fun i hi => ⟨(hss3 i hi).1.mono hB2, (hss3 i hi).2⟩) hfar ho2 hrf ho3 hg3 hat3 (fun _ _ h => h), (below_tr hJb hB2).grown hg3 (Nat.le_trans hwr hB2.size) (fun q e => (hss1.lt q e).1)⟩⟩, by simp [intOf]; omega⟩
              · obtain rfl : y = n := by omega
                have hJ2 : Hid (SeSt S ((L.take (j + 1)).flatMap (extD y 0)) _ wr) := Lib.hid (by rw [hfs.out, ← parD_all, hfe.out]; exact hJ.out)
                clear hJ
                go_wp2_with fail
                exact ⟨⟨j + 1, by omega, by go_num, hJ2⟩, by simp [intOf]; omega⟩
        · obtain rfl : j = L.length := by omega
          have hI' := hI.out
          rw [List.take_length, hnxt.out] at hI'
          have hfin : Hid (Below w.heap.size w _ ∧ ListsAt _ _ (zL (setsD n 0 (k + 1)))) := Lib.hid ⟨below_tr hGb'.out hI'.bel, hI'.own.at intEnc_len 0⟩
          clear hI hI'
          go_wp2_with fail
          exact ⟨⟨k + 1, by omega, by go_num, hfin⟩, by simp [intOf]; omega⟩
    · obtain rfl : k = m := by omega
      have hG' := hG.out
      clear hG
      go_wp2_with fail
      go_ret
      exact ⟨hG'.1, _, rfl, hG'.2⟩
end Go.Proofs.Ytddmfkhmhdddeaa
