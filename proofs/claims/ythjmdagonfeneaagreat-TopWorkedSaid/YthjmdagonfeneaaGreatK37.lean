/- Laws and walks: Twp, SS3. -/
import Derived.Test.YthjmdagonfeneaaGreatK36
set_option maxRecDepth 100000
set_option maxHeartbeats 16000000
set_option linter.unusedVariables false
set_option linter.unusedSimpArgs false
namespace Go.Proofs.YthjmdagonfeneaaGreat.W
open Go.Sd Gas
theorem fills_at {s : Sea.S} {noms plan : List Int} : ∀ n k, k < n → Sea.at0 (S.playTo s noms plan n).1 k = (S.playTo s noms plan (k + 1)).2.1
 | n + 1, k, h => by
  have hl := S.playTo_len s noms plan n
  by_cases e : k = n
  · subst e
    show Sea.at0 ((S.playTo s noms plan k).1 ++ [_]) k = _
    unfold Sea.at0
    rw [List.getD_eq_getElem?_getD, List.getElem?_append_right (by omega), hl, Nat.sub_self]
    rfl
  · show Sea.at0 ((S.playTo s noms plan n).1 ++ [_]) k = _
    have := fills_at (s := s) (noms := noms) (plan := plan) n k (by omega)
    unfold Sea.at0 at this ⊢
    rw [List.getD_eq_getElem?_getD, List.getElem?_append_left (by omega), ← List.getD_eq_getElem?_getD]
    exact this
theorem best_fills {s : Sea.S} {noms l : List Int} {c f : Int} (hv : Sea.validB s = true) (hno : s.nomsB noms = true) (h : S.bestOf s noms = (l, c, f)) (hf : f = 0) :
    S.planB s l = true ∧ ∃ fs cost, S.playOf s noms l = (fs, cost, 0, 1) ∧ fs.length = s.days.length ∧ ∀ k, k < fs.length → 0 ≤ Sea.at0 fs k ∧ Sea.at0 fs k ≤ s.space := by
 have ok := Sea.ok_of_valid hv
 by_cases hb : S.bestCost s noms = Sea.never
 · rw [S.bestOf_none hv hno hb] at h
   subst hf
   simp at h
 · rw [S.bestOf_yes hv hno hb] at h
   simp only [Prod.mk.injEq] at h
   obtain ⟨h1, h2, h3⟩ := S.best_plan ok hb
   obtain ⟨rfl, rfl, -⟩ := h
   have hlen := S.planTo_len s noms s.days.length
   refine ⟨h1, _, _, S.playOf_fine (by rw [hlen]; exact h2), ?_, ?_⟩
   · rw [S.playTo_len, hlen]
   · intro k hk
     rw [S.playTo_len, hlen] at hk
     rw [hlen, fills_at _ _ hk]
     exact (S.play_inv ok h1 (k + 1) (by omega) (S.faultTo_less h2 (by omega))).1
theorem advise_is {s : Sea.S} {noms : List Int} {t : Nat} {f a b e : Int} (hv : Sea.validB s = true) (hno : s.nomsB noms = true) (ht : t < s.days.length) (hf : 0 ≤ f ∧ f ≤ s.space) (h : S.adviseErr s t f (Sea.at0 noms t) = (a, b, e)) :
    e = 5 ∨ (e = 0 ∧ -100 ≤ a ∧ a ≤ 100 ∧ 0 ≤ f + Sea.at0 noms t + a ∧ f + Sea.at0 noms t + a ≤ s.space) := by
 have ok := Sea.ok_of_valid hv
 obtain ⟨k, rfl⟩ := Int.eq_ofNat_of_zero_le hf.1
 have ha : S.askedB s t k = true := by unfold S.askedB; rw [hv, Sea.inB_iff.2 (show (0 : Int) ≤ (t : Int) ∧ (t : Int) ≤ s.days.length - 1 by omega), Sea.inB_iff.2 hf]; rfl
 rw [S.adviseErr_yes ha (Sea.inB_iff.2 (S.noms_in hno ht))] at h
 by_cases hl : (s.least t k (Sea.at0 noms t) (S.wrow s (s.days.length - 1 - t))).1 < Sea.never
 · rw [if_pos hl] at h
   simp only [Prod.mk.injEq] at h
   obtain ⟨rfl, -, rfl⟩ := h
   have hh := S.least_hit ok ht hl
   exact .inr ⟨rfl, hh.2.1.1, hh.2.1.2, hh.2.2.1⟩
 · rw [if_neg hl] at h
   simp only [Prod.mk.injEq] at h
   exact .inl h.2.2.symm
theorem lots_kept {c : Cav} {x : St} {l p : Pt} {v m : Int} (hc : c.Ok) (hs : x.Ok) (hl : l.Ok) (hp : x.Has p) (hv : c.vlo ≤ v ∧ v ≤ c.vhi) (hm : m ≤ (roomOf (fun n : Nat => fineOp c x (lotsOp l (n : Int))) : Nat)) :
    ∀ n : Nat, 0 < n → (n : Int) ≤ m → ∃ q g, play c p [lotsOp l n] [0] [0] = some (q, g) ∧ q.Ok ∧ keeps c q v = 1 ∧ opsB [lotsOp l n] = true ∧ truthB [lotsOp l n] [0] [0] = true := by
 intro n h0 hn
 have hr := (roomOf_spec (fun n : Nat => fineOp c x (lotsOp l (n : Int)))).2.1 n h0 (by omega)
 obtain ⟨y, q, ha, -⟩ := fineOp_some hr
 exact kept_plain hc hs (lots_is hs hl ha) ⟨rfl, rfl, rfl, rfl⟩ hp hv hr
end Go.Proofs.YthjmdagonfeneaaGreat.W
set_option linter.unusedVariables false
set_option linter.unusedSimpArgs false
namespace Go.Proofs.YthjmdagonfeneaaGreat.S
open Go.RowKit Go.Sd
theorem progAdviseT {sv : Value} {s : Sea.S} {day fill nom a b c : Int} (w : World) (hs : SeasonAt w sv s) (h : adviseErr s day fill nom = (a, b, c)) :
    Calls Tryz.prog 15 #[sv, .int .i64 day, .int .i64 fill, .int .i64 nom] w fun e w' => e = .returned (.tuple #[.int .i64 a, .int .i64 b, .int .i64 c]) ∧ Below w.heap.size w w' := by
 have := progAdviseErr sv s day fill nom w hs
 rw [h] at this
 exact this
end Go.Proofs.YthjmdagonfeneaaGreat.S
