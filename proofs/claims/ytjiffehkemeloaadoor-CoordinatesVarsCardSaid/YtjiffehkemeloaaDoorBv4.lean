/- Contracts of the functions that the law reaches, and the rules by which they are walked. They say what a call hands back for every input within the bounds that each names; no other condition. -/
import Derived.Test.YtjiffehkemeloaaDoorBv3
section
namespace Go.Proofs.YtjiffehkemeloaaDoor
open Go Go.RowKit Go.Pg
set_option linter.unusedSimpArgs false
set_option linter.unusedVariables false
set_option maxRecDepth 20000
attribute [local go_sem] Tryd.underlying56 Tryd.underlying3 Tryd.underlying91 Tryd.underlying121 Tryd.underlying81 Tryd.underlying21 Tryd.underlying5 sz3 by3 z3 szL byL zL

set_option maxHeartbeats 1000000 in
theorem refSub (a b : List Nat) (ha : a.length ≤ 1000000000) (hb : b.length ≤ 1000000000) (la : Lm a) (lb : Lm b) :
    Pure Tryd.prog 83 [lim a, lim b] (.tup [lim (if nv a < nv b then [] else toL (nv a - nv b)), .v (.int .i64 (if nv a < nv b then 2 else 0))]) := by
  have cl := fun i => refLimb a i ha la
  have cr := fun i => refLimb b i hb lb
  have cc := refCmp a b ha hb la lb
  by_cases hlt : nv a < nv b
  · rw [if_pos hlt, if_pos hlt]
    refine Pure.wk ?_ (okTup rfl)
    refine pure_intro (tok := 0) (rs := [.tmp 4, .tmp 5]) Tryd.func83 rfl Tryd.ntmps83 Tryd.results83 Tryd.call83 (by rfl) (by simp) ?_
    have hc : cmpN (nv a) (nv b) = -1 := by unfold cmpN; rw [if_pos hlt]
    (repeat' (first | (with_reducible first | refine stp ?_ | apply gx1 | apply gx2 | apply gx3 | apply gx4 | apply gx5 | apply gx6 | apply gx7 | refine gw0 (cc) ?_ ?_) | (with_reducible refine all_v ?_; intro _) | ((with_reducible refine gE ?_); (try simp (disch := omega) only [go_sem, ↓reduceIte, Nat.reduceAdd, Nat.reduceSub, Nat.reduceMul, Nat.reduceEqDiff, Nat.reduceLT, Nat.reduceLeDiff, Nat.reduceBEq, Int.reduceNeg, Int.reduceLT, Int.reduceLE, Int.reduceEq, reduceCtorEq, hc]) <;> first | rfl | omega) | with_reducible refine t_in_other (by decide) ?_))
    simp (disch := omega) only [go_sem, ↓reduceIte, Nat.reduceAdd, Nat.reduceSub, Nat.reduceMul, Nat.reduceEqDiff, Nat.reduceLT, Nat.reduceLeDiff, Nat.reduceBEq, Int.reduceNeg, Int.reduceLT, Int.reduceLE, Int.reduceEq, reduceCtorEq]
  · rw [if_neg hlt, if_neg hlt]
    have hc : 0 ≤ cmpN (nv a) (nv b) := by unfold cmpN; rw [if_neg hlt]; split <;> omega
    refine pure_intro (tok := 0) (rs := [.tmp 4, .tmp 5]) Tryd.func83 rfl Tryd.ntmps83 Tryd.results83 Tryd.call83 (by rfl) (by simp) ?_
    (repeat' (first | (with_reducible first | refine stp ?_ | apply gx1 | apply gx2 | apply gx3 | apply gx4 | apply gx5 | apply gx6 | apply gx7 | refine gw0 (cc) ?_ ?_) | (with_reducible refine all_v ?_; intro _) | ((with_reducible refine gE ?_); (try simp (disch := omega) only [go_sem, ↓reduceIte, Nat.reduceAdd, Nat.reduceSub, Nat.reduceMul, Nat.reduceEqDiff, Nat.reduceLT, Nat.reduceLeDiff, Nat.reduceBEq, Int.reduceNeg, Int.reduceLT, Int.reduceLE, Int.reduceEq, reduceCtorEq]) <;> first | rfl | omega) | with_reducible refine t_in_other (by decide) ?_))
    refine r_frz (Frz.nilOwn (d := 6) 37 1 91 (by exact gC)) ?_
    refine r_loopE (ι := Nat) (fun k e m => k ≤ a.length ∧ (e 0 = lim a ∧ e 1 = lim b ∧ e 8 = .v (.int .i64 (k : Int))) ∧ ∃ sv o r, (e 6 = .own 37 sv ∧ e 7 = .v (.int .i64 (r : Nat)) ∧ m 37 = some (.row sv 91 1 (u16s o) 0)) ∧ o.length = k ∧ Lm o ∧ r ≤ 1 ∧ nv o + nv (b.take k) = nv (a.take k) + 65536 ^ k * r) (fun k => a.length - k) 0 (by rfl) ?_ ?_
    · rintro k e m ⟨hk, ⟨e0, e1, e8⟩, sv, o, r, ⟨e6, e7, em⟩, hol, hLo, hr, hv⟩
      have ga := gN_lt la k
      have gb := gN_lt lb k
      by_cases hlt2 : k < a.length
      · have step : ∀ (d r' : Nat), d + r + gN b k = gN a k + 65536 * r' → d < 65536 → r' ≤ 1 → (o ++ [d]).length = k + 1 ∧ Lm (o ++ [d]) ∧ r' ≤ 1 ∧ nv (o ++ [d]) + nv (b.take (k + 1)) = nv (a.take (k + 1)) + 65536 ^ (k + 1) * r' := by
          intro d r' hd h3 h4
          have := sub_step hv hd
          have nvs : nv (o ++ [d]) = nv o + 65536 ^ k * d := by rw [nv_append, hol]; simp [nv]
          rw [nvs, nv_take_succ, nv_take_succ, Nat.pow_succ]
          exact ⟨by simp [hol], hLo.append (Lm.one h3), h4, this⟩
        by_cases hneg : gN a k < gN b k + r
        · have hs := step (gN a k + 65536 - gN b k - r) 1 (by omega) (by omega) (by omega)
          have w : (gN a k : Int) - gN b k - r + 65536 = ((gN a k + 65536 - gN b k - r : Nat) : Int) := by omega
          (repeat' (first | (with_reducible first | refine stp ?_ | apply gx1 | apply gx2 | apply gx3 | apply gx4 | apply gx5 | apply gx6 | apply gx7 | refine gw0 (cl k) ?_ ?_ | refine gw0 (cr k) ?_ ?_) | (with_reducible refine all_v ?_; intro _) | ((with_reducible refine gE ?_); (try simp (disch := omega) only [go_sem, ↓reduceIte, Nat.reduceAdd, Nat.reduceSub, Nat.reduceMul, Nat.reduceEqDiff, Nat.reduceLT, Nat.reduceLeDiff, Nat.reduceBEq, Int.reduceNeg, Int.reduceLT, Int.reduceLE, Int.reduceEq, reduceCtorEq, e0, e1, e8, e6, e7, em, hol, w]) <;> first | rfl | omega) | with_reducible refine t_in_other (by decide) ?_))
          exact ⟨k + 1, ⟨by omega, ⟨by exact gW e0, by exact gW e1, by exact gV e8⟩, _, _, 1, ⟨by exact gC, by exact gC, by exact gC⟩, hs⟩, by omega⟩
        · have hs := step (gN a k - gN b k - r) 0 (by omega) (by omega) (by omega)
          have w : (gN a k : Int) - gN b k - r = ((gN a k - gN b k - r : Nat) : Int) := by omega
          (repeat' (first | (with_reducible first | refine stp ?_ | apply gx1 | apply gx2 | apply gx3 | apply gx4 | apply gx5 | apply gx6 | apply gx7 | refine gw0 (cl k) ?_ ?_ | refine gw0 (cr k) ?_ ?_) | (with_reducible refine all_v ?_; intro _) | ((with_reducible refine gE ?_); (try simp (disch := omega) only [go_sem, ↓reduceIte, Nat.reduceAdd, Nat.reduceSub, Nat.reduceMul, Nat.reduceEqDiff, Nat.reduceLT, Nat.reduceLeDiff, Nat.reduceBEq, Int.reduceNeg, Int.reduceLT, Int.reduceLE, Int.reduceEq, reduceCtorEq, e0, e1, e8, e6, e7, em, hol, w]) <;> first | rfl | omega) | with_reducible refine t_in_other (by decide) ?_))
          exact ⟨k + 1, ⟨by omega, ⟨by exact gW e0, by exact gW e1, by exact gV e8⟩, _, _, 0, ⟨by exact gC, by exact gC, by exact gC⟩, hs⟩, by omega⟩
      · have hka : k = a.length := by omega
        have hbs := nv_split b k
        have hno := nv_lt hLo
        rw [hol] at hno
        rw [take_all (l := a) (by omega)] at hv
        have hno2 : nv o = nv a - nv b := by
          have hbd : nv (b.drop k) = 0 := by
            rcases Nat.eq_zero_or_pos (nv (b.drop k)) with h3 | h3
            · exact h3
            · have h4 := Nat.le_mul_of_pos_right (65536 ^ k) h3
              have h5 := nv_lt la
              rw [← hka] at h5
              omega
          rw [hbd, Nat.mul_zero, Nat.add_zero] at hbs
          have hr0 : r = 0 := by
            rcases Nat.eq_zero_or_pos r with h3 | h3
            · exact h3
            · have : r = 1 := by omega
              subst this
              omega
          subst hr0
          omega
        (repeat' (first | (with_reducible first | refine stp ?_ | apply gx1 | apply gx2 | apply gx3 | apply gx4 | apply gx5 | apply gx6 | apply gx7 | apply gw1 (refNorm o (by omega) hLo)) | (with_reducible refine all_v ?_; intro _) | ((with_reducible refine gE ?_); (try simp (disch := omega) only [go_sem, ↓reduceIte, Nat.reduceAdd, Nat.reduceSub, Nat.reduceMul, Nat.reduceEqDiff, Nat.reduceLT, Nat.reduceLeDiff, Nat.reduceBEq, Int.reduceNeg, Int.reduceLT, Int.reduceLE, Int.reduceEq, reduceCtorEq, e0, e1, e8, e6, e7, em]) <;> first | rfl | omega) | with_reducible refine t_in_other (by decide) ?_))
        simp (disch := omega) only [go_sem, ↓reduceIte, Nat.reduceAdd, Nat.reduceSub, Nat.reduceMul, Nat.reduceEqDiff, Nat.reduceLT, Nat.reduceLeDiff, Nat.reduceBEq, Int.reduceNeg, Int.reduceLT, Int.reduceLE, Int.reduceEq, reduceCtorEq, hno2]
    · exact ⟨Nat.zero_le _, ⟨by exact gC, by exact gC, by exact gC⟩, _, [], 0, ⟨by exact gC, by exact gC, by exact gC⟩, rfl, Lm.nil, by omega, by simp [nv]⟩

/-- No leading zeros. -/
def valL (l : List Nat) : Bool := decide (l.length = 0) || !decide (gN l (l.length - 1) = 0)
theorem valL_iff {l : List Nat} (h : Lm l) : valL l = true ↔ l = toL (nv l) := by
  unfold valL
  constructor
  · intro h1
    refine canon h ?_
    simp only [Bool.or_eq_true, decide_eq_true_eq, Bool.not_eq_true', decide_eq_false_iff_not] at h1
    rcases h1 with h1 | h1
    · exact .inl (List.eq_nil_of_length_eq_zero h1)
    · exact .inr (by omega)
  · intro h1
    by_cases h0 : nv l = 0
    · rw [h0, toL_zero] at h1; subst h1; rfl
    · obtain ⟨h2, h3⟩ := toL_top h0
      rw [← h1] at h2 h3
      simp only [Bool.or_eq_true, decide_eq_true_eq, Bool.not_eq_true', decide_eq_false_iff_not]
      exact .inr (by omega)

theorem refSameN (a b : List Nat) (ha : a.length ≤ 1000000000) (hb : b.length ≤ 1000000000) (la : Lm a) (lb : Lm b) : Pure Tryd.prog 46 [lim a, lim b] (.v (.bool (decide (a = b)))) := by
  refine pure_intro (tok := 0) (rs := [.tmp 4]) Tryd.func46 rfl Tryd.ntmps46 Tryd.results46 Tryd.call46 (by rfl) (by simp) ?_
  by_cases hl : a.length = b.length
  · (repeat' (first | (with_reducible first | refine stp ?_ | apply gx1 | apply gx2 | apply gx3 | apply gx4 | apply gx5 | apply gx6 | apply gx7) | (with_reducible refine all_v ?_; intro _) | ((with_reducible refine gE ?_); (try simp (disch := omega) only [go_sem, ↓reduceIte, Nat.reduceAdd, Nat.reduceSub, Nat.reduceMul, Nat.reduceEqDiff, Nat.reduceLT, Nat.reduceLeDiff, Nat.reduceBEq, Int.reduceNeg, Int.reduceLT, Int.reduceLE, Int.reduceEq, reduceCtorEq, hl]) <;> first | rfl | omega) | with_reducible refine t_in_other (by decide) ?_))
    refine r_loopE (ι := Nat) (fun k e m => k ≤ a.length ∧ (e 0 = lim a ∧ e 1 = lim b ∧ e 5 = .v (.int .i64 (k : Int))) ∧ ∀ j, j < k → gN a j = gN b j) (fun k => a.length - k) 0 (by rfl) ?_ ?_
    · rintro k e m ⟨hk, ⟨e0, e1, e5⟩, hs⟩
      by_cases hlt : k < a.length
      · by_cases p : gN a k = gN b k
        · (repeat' (first | (with_reducible first | refine stp ?_ | apply gx1 | apply gx2 | apply gx3 | apply gx4 | apply gx5 | apply gx6 | apply gx7 | apply gy8 | apply gz2 | apply gz3) | (with_reducible refine all_v ?_; intro _) | ((with_reducible refine gE ?_); (try simp (disch := omega) only [go_sem, ↓reduceIte, Nat.reduceAdd, Nat.reduceSub, Nat.reduceMul, Nat.reduceEqDiff, Nat.reduceLT, Nat.reduceLeDiff, Nat.reduceBEq, Int.reduceNeg, Int.reduceLT, Int.reduceLE, Int.reduceEq, reduceCtorEq, e0, e1, e5]) <;> first | rfl | omega) | with_reducible refine t_in_other (by decide) ?_ | ((with_reducible apply gy1); iterate 3 focus rfl) | ((with_reducible apply gy2); iterate 3 focus rfl) | ((with_reducible apply gy3); iterate 2 focus rfl) | ((with_reducible apply gy4); iterate 1 focus rfl) | ((with_reducible apply gy5); iterate 4 focus rfl) | ((with_reducible apply gy6); iterate 4 focus rfl) | ((with_reducible apply d_bar); iterate 3 focus rfl) | ((with_reducible apply q_pub); iterate 1 focus rfl) | ((with_reducible apply gy7); iterate 1 focus rfl) | ((with_reducible apply gy9); (focus ((with_reducible refine gE ?_); (try simp (disch := omega) only [go_sem, ↓reduceIte, Nat.reduceAdd, Nat.reduceSub, Nat.reduceMul, Nat.reduceEqDiff, Nat.reduceLT, Nat.reduceLeDiff, Nat.reduceBEq, Int.reduceNeg, Int.reduceLT, Int.reduceLE, Int.reduceEq, reduceCtorEq, e0, e1, e5]) <;> rfl))) | ((with_reducible apply gz1); (focus first | rfl | (simp (disch := omega) only [go_sem, ↓reduceIte, Nat.reduceAdd, Nat.reduceSub, Nat.reduceMul, Nat.reduceEqDiff, Nat.reduceLT, Nat.reduceLeDiff, Nat.reduceBEq, Int.reduceNeg, Int.reduceLT, Int.reduceLE, Int.reduceEq, reduceCtorEq, e0, e1, e5]; done))) | ((with_reducible apply r_drawD (pickR []) [] []); (focus kernel_rfl); (focus rfl); (focus kernel_rfl); (focus (simp only [List.length_cons, List.length_nil, Nat.reduceAdd]; rfl)))))
          exact ⟨k + 1, ⟨by omega, ⟨by exact gW e0, by exact gW e1, by exact gV e5⟩, fun j hj => by
            rcases Nat.lt_or_ge j k with h1 | h1
            · exact hs j h1
            · rw [show j = k by omega]; exact p⟩, by omega⟩
        · have hne : decide (a = b) = false := decide_eq_false fun h => p (by rw [h])
          (repeat' (first | (with_reducible first | refine stp ?_ | apply gx1 | apply gx2 | apply gx3 | apply gx4 | apply gx5 | apply gx6 | apply gx7 | apply gy8 | apply gz2 | apply gz3) | (with_reducible refine all_v ?_; intro _) | ((with_reducible refine gE ?_); (try simp (disch := omega) only [go_sem, ↓reduceIte, Nat.reduceAdd, Nat.reduceSub, Nat.reduceMul, Nat.reduceEqDiff, Nat.reduceLT, Nat.reduceLeDiff, Nat.reduceBEq, Int.reduceNeg, Int.reduceLT, Int.reduceLE, Int.reduceEq, reduceCtorEq, e0, e1, e5]) <;> first | rfl | omega) | with_reducible refine t_in_other (by decide) ?_ | ((with_reducible apply gy1); iterate 3 focus rfl) | ((with_reducible apply gy2); iterate 3 focus rfl) | ((with_reducible apply gy3); iterate 2 focus rfl) | ((with_reducible apply gy4); iterate 1 focus rfl) | ((with_reducible apply gy5); iterate 4 focus rfl) | ((with_reducible apply gy6); iterate 4 focus rfl) | ((with_reducible apply d_bar); iterate 3 focus rfl) | ((with_reducible apply q_pub); iterate 1 focus rfl) | ((with_reducible apply gy7); iterate 1 focus rfl) | ((with_reducible apply gy9); (focus ((with_reducible refine gE ?_); (try simp (disch := omega) only [go_sem, ↓reduceIte, Nat.reduceAdd, Nat.reduceSub, Nat.reduceMul, Nat.reduceEqDiff, Nat.reduceLT, Nat.reduceLeDiff, Nat.reduceBEq, Int.reduceNeg, Int.reduceLT, Int.reduceLE, Int.reduceEq, reduceCtorEq, e0, e1, e5]) <;> rfl))) | ((with_reducible apply gz1); (focus first | rfl | (simp (disch := omega) only [go_sem, ↓reduceIte, Nat.reduceAdd, Nat.reduceSub, Nat.reduceMul, Nat.reduceEqDiff, Nat.reduceLT, Nat.reduceLeDiff, Nat.reduceBEq, Int.reduceNeg, Int.reduceLT, Int.reduceLE, Int.reduceEq, reduceCtorEq, e0, e1, e5]; done))) | ((with_reducible apply r_drawD (pickR []) [] []); (focus kernel_rfl); (focus rfl); (focus kernel_rfl); (focus (simp only [List.length_cons, List.length_nil, Nat.reduceAdd]; rfl)))))
          simp (disch := omega) only [go_sem, ↓reduceIte, Nat.reduceAdd, Nat.reduceSub, Nat.reduceMul, Nat.reduceEqDiff, Nat.reduceLT, Nat.reduceLeDiff, Nat.reduceBEq, Int.reduceNeg, Int.reduceLT, Int.reduceLE, Int.reduceEq, reduceCtorEq, hne]
      · have he : decide (a = b) = true := decide_eq_true (List.ext_getElem hl fun j h1 h2 => by
          have := hs j (by omega)
          rwa [gN_at h1, gN_at h2] at this)
        (repeat' (first | (with_reducible first | refine stp ?_ | apply gx1 | apply gx2 | apply gx3 | apply gx4 | apply gx5 | apply gx6 | apply gx7 | apply gy8 | apply gz2 | apply gz3) | (with_reducible refine all_v ?_; intro _) | ((with_reducible refine gE ?_); (try simp (disch := omega) only [go_sem, ↓reduceIte, Nat.reduceAdd, Nat.reduceSub, Nat.reduceMul, Nat.reduceEqDiff, Nat.reduceLT, Nat.reduceLeDiff, Nat.reduceBEq, Int.reduceNeg, Int.reduceLT, Int.reduceLE, Int.reduceEq, reduceCtorEq, e0, e1, e5]) <;> first | rfl | omega) | with_reducible refine t_in_other (by decide) ?_ | ((with_reducible apply gy1); iterate 3 focus rfl) | ((with_reducible apply gy2); iterate 3 focus rfl) | ((with_reducible apply gy3); iterate 2 focus rfl) | ((with_reducible apply gy4); iterate 1 focus rfl) | ((with_reducible apply gy5); iterate 4 focus rfl) | ((with_reducible apply gy6); iterate 4 focus rfl) | ((with_reducible apply d_bar); iterate 3 focus rfl) | ((with_reducible apply q_pub); iterate 1 focus rfl) | ((with_reducible apply gy7); iterate 1 focus rfl) | ((with_reducible apply gy9); (focus ((with_reducible refine gE ?_); (try simp (disch := omega) only [go_sem, ↓reduceIte, Nat.reduceAdd, Nat.reduceSub, Nat.reduceMul, Nat.reduceEqDiff, Nat.reduceLT, Nat.reduceLeDiff, Nat.reduceBEq, Int.reduceNeg, Int.reduceLT, Int.reduceLE, Int.reduceEq, reduceCtorEq, e0, e1, e5]) <;> rfl))) | ((with_reducible apply gz1); (focus first | rfl | (simp (disch := omega) only [go_sem, ↓reduceIte, Nat.reduceAdd, Nat.reduceSub, Nat.reduceMul, Nat.reduceEqDiff, Nat.reduceLT, Nat.reduceLeDiff, Nat.reduceBEq, Int.reduceNeg, Int.reduceLT, Int.reduceLE, Int.reduceEq, reduceCtorEq, e0, e1, e5]; done))) | ((with_reducible apply r_drawD (pickR []) [] []); (focus kernel_rfl); (focus rfl); (focus kernel_rfl); (focus (simp only [List.length_cons, List.length_nil, Nat.reduceAdd]; rfl)))))
        simp (disch := omega) only [go_sem, ↓reduceIte, Nat.reduceAdd, Nat.reduceSub, Nat.reduceMul, Nat.reduceEqDiff, Nat.reduceLT, Nat.reduceLeDiff, Nat.reduceBEq, Int.reduceNeg, Int.reduceLT, Int.reduceLE, Int.reduceEq, reduceCtorEq, he]
    · exact ⟨Nat.zero_le _, ⟨by exact gC, by exact gC, by exact gC⟩, fun j hj => by omega⟩
  · have hne : decide (a = b) = false := decide_eq_false fun h => hl (by rw [h])
    (repeat' (first | (with_reducible first | refine stp ?_ | apply gx1 | apply gx2 | apply gx3 | apply gx4 | apply gx5 | apply gx6 | apply gx7) | (with_reducible refine all_v ?_; intro _) | ((with_reducible refine gE ?_); (try simp (disch := omega) only [go_sem, ↓reduceIte, Nat.reduceAdd, Nat.reduceSub, Nat.reduceMul, Nat.reduceEqDiff, Nat.reduceLT, Nat.reduceLeDiff, Nat.reduceBEq, Int.reduceNeg, Int.reduceLT, Int.reduceLE, Int.reduceEq, reduceCtorEq]) <;> first | rfl | omega) | with_reducible refine t_in_other (by decide) ?_))
    simp (disch := omega) only [go_sem, ↓reduceIte, Nat.reduceAdd, Nat.reduceSub, Nat.reduceMul, Nat.reduceEqDiff, Nat.reduceLT, Nat.reduceLeDiff, Nat.reduceBEq, Int.reduceNeg, Int.reduceLT, Int.reduceLE, Int.reduceEq, reduceCtorEq, hne]

set_option maxHeartbeats 1000000 in
theorem refMul (a b : List Nat) (ha : a.length ≤ 400000000) (hb : b.length ≤ 400000000) (la : Lm a) (lb : Lm b) : Pure Tryd.prog 84 [lim a, lim b] (lim (toL (nv a * nv b))) := by
  have cr := fun i => refLimb b i (by omega) lb
  refine pure_intro (tok := 0) (rs := [.tmp 4]) Tryd.func84 rfl Tryd.ntmps84 Tryd.results84 Tryd.call84 (by rfl) (by simp) ?_
  (repeat' (first | (with_reducible first | refine stp ?_ | apply gx1 | apply gx2 | apply gx3 | apply gx4 | apply gx5 | apply gx6 | apply gx7) | (with_reducible refine all_v ?_; intro _) | ((with_reducible refine gE ?_); (try simp (disch := omega) only [go_sem, ↓reduceIte, Nat.reduceAdd, Nat.reduceSub, Nat.reduceMul, Nat.reduceEqDiff, Nat.reduceLT, Nat.reduceLeDiff, Nat.reduceBEq, Int.reduceNeg, Int.reduceLT, Int.reduceLE, Int.reduceEq, reduceCtorEq, add_nat, cast_succ]) <;> first | rfl | omega) | with_reducible refine t_in_other (by decide) ?_))
  refine r_loopE (ι := Nat) (fun i e m => i ≤ a.length ∧ (e 0 = lim a ∧ e 1 = lim b ∧ e 6 = .v (.int .i64 i)) ∧ ∃ sv o, (e 5 = .own 16 sv ∧ m 16 = some (.row sv 91 1 (u16s o) 0)) ∧ o.length = a.length + b.length + 1 ∧ Lm o ∧ (∀ j, i + b.length ≤ j → gN o j = 0) ∧ nv o = nv (a.take i) * nv b) (fun i => a.length - i) 0 (by rfl) ?_ ?_
  · rintro i e m ⟨hi, ⟨e0, e1, e6⟩, sv, o, ⟨e5, em⟩, hol, hLo, hz, hv⟩
    by_cases hlt : i < a.length
    · have gx := gN_lt la i
      (repeat' (first | (with_reducible first | refine stp ?_ | apply gx1 | apply gx2 | apply gx3 | apply gx4 | apply gx5 | apply gx6 | apply gx7) | (with_reducible refine all_v ?_; intro _) | ((with_reducible refine gE ?_); (try simp (disch := omega) only [go_sem, ↓reduceIte, Nat.reduceAdd, Nat.reduceSub, Nat.reduceMul, Nat.reduceEqDiff, Nat.reduceLT, Nat.reduceLeDiff, Nat.reduceBEq, Int.reduceNeg, Int.reduceLT, Int.reduceLE, Int.reduceEq, reduceCtorEq, e0, e1, e6, e5, em, hol, add_nat]) <;> first | rfl | omega) | with_reducible refine t_in_other (by decide) ?_))
      refine r_loopE (ι := Nat) (fun k e' m' => k ≤ b.length + 1 ∧ (e' 0 = lim a ∧ e' 1 = lim b ∧ e' 6 = .v (.int .i64 i) ∧ e' 8 = .v (.int .i64 k) ∧ e' 5 = .own 16 sv) ∧ ∃ o' c, (e' 7 = .v (.int .u64 (c : Nat)) ∧ m' 16 = some (.row sv 91 1 (u16s o') 0)) ∧ o'.length = a.length + b.length + 1 ∧ Lm o' ∧ c < 65536 ∧ (b.length < k → c = 0) ∧ (∀ j, i + max b.length k ≤ j → gN o' j = 0) ∧ nv o' + 65536 ^ (i + k) * c = nv o + 65536 ^ i * nv (b.take k) * gN a i) (fun k => b.length + 1 - k) 0 (by rfl) ?_ ?_
      · rintro k e m ⟨hk, ⟨e0, e1, e6, e8, e5⟩, o', c, ⟨e7, em⟩, hol', hLo', hc, hcz, hz', hv'⟩
        have gy := gN_lt lb k
        have go := gN_lt hLo' (i + k)
        have bd := mul_bd gx gy
        by_cases hgo : k < b.length ∨ 0 < c
        · have hkb : k ≤ b.length := by
            rcases hgo with h | h
            · omega
            · rcases Nat.lt_or_ge b.length k with h2 | h2
              · have := hcz h2; omega
              · exact h2
          have hs := mul_step (x := gN a i) (y := gN b k) rfl (nv_set (o := o') (j := i + k) (by omega) _) hv'
          rw [← mul_part, ← nv_take_succ, ← Nat.pow_succ, Nat.succ_eq_add_one, Nat.add_assoc i] at hs
          have ecomm : gN o' (i + k) + gN a i * gN b k + c = c + (gN o' (i + k) + gN a i * gN b k) := by omega
          have hcz2 : b.length < k + 1 → (c + (gN o' (i + k) + gN a i * gN b k)) / 65536 = 0 := by
            intro h
            have g1 : gN b k = 0 := gN_out (by omega)
            have g2 := hz' (i + k) (by omega)
            rw [g1, g2]
            omega
          have w1 : (c + (gN o' (i + k) + gN a i * gN b k)) / 65536 < 65536 := by omega
          have w2 : (c + (gN o' (i + k) + gN a i * gN b k)) % 65536 < 65536 := by omega
          generalize hxy : gN a i * gN b k = xy at *
          have r1 : ((c + (gN o' (i + k) + xy) : Nat) : Int).tmod 65536 = (((c + (gN o' (i + k) + xy)) % 65536 : Nat) : Int) := rem_nat _ 65536
          have r2 : ((c + (gN o' (i + k) + xy) : Nat) : Int).tdiv 65536 = (((c + (gN o' (i + k) + xy)) / 65536 : Nat) : Int) := quo_nat _ 65536
          have r3 : (c + (gN o' (i + k) + xy)) % 65536 % 65536 = (c + (gN o' (i + k) + xy)) % 65536 := Nat.mod_mod _ _
          have hzz : ∀ j, i + max b.length (k + 1) ≤ j → gN (o'.set (i + k) ((c + (gN o' (i + k) + xy)) % 65536)) j = 0 := fun j hj => by
            rw [gN_set (by omega), if_neg (by omega)]; exact hz' j (by omega)
          by_cases h3 : k < b.length
          · (repeat' (first | (with_reducible first | refine stp ?_ | apply gx1 | apply gx2 | apply gx3 | apply gx4 | apply gx5 | apply gx6 | apply gx7 | apply gy8 | apply gz2 | apply gz3 | refine gw0 (cr k) ?_ ?_ | refine gw3 (cr k) ?_ ?_ ?_) | (with_reducible refine all_v ?_; intro _) | ((with_reducible refine gE ?_); (try simp (disch := omega) only [go_sem, ↓reduceIte, Nat.reduceAdd, Nat.reduceSub, Nat.reduceMul, Nat.reduceEqDiff, Nat.reduceLT, Nat.reduceLeDiff, Nat.reduceBEq, Int.reduceNeg, Int.reduceLT, Int.reduceLE, Int.reduceEq, reduceCtorEq, e0, e1, e6, e8, e5, e7, em, hol', add_nat, mul_nat, cut_nat, hxy, ecomm, r1, r2, r3]) <;> first | rfl | omega) | with_reducible refine t_in_other (by decide) ?_ | ((with_reducible apply gy1); iterate 3 focus rfl) | ((with_reducible apply gy2); iterate 3 focus rfl) | ((with_reducible apply gy3); iterate 2 focus rfl) | ((with_reducible apply gy4); iterate 1 focus rfl) | ((with_reducible apply gy5); iterate 4 focus rfl) | ((with_reducible apply gy6); iterate 4 focus rfl) | ((with_reducible apply d_bar); iterate 3 focus rfl) | ((with_reducible apply q_pub); iterate 1 focus rfl) | ((with_reducible apply gy7); iterate 1 focus rfl) | ((with_reducible apply gy9); (focus ((with_reducible refine gE ?_); (try simp (disch := omega) only [go_sem, ↓reduceIte, Nat.reduceAdd, Nat.reduceSub, Nat.reduceMul, Nat.reduceEqDiff, Nat.reduceLT, Nat.reduceLeDiff, Nat.reduceBEq, Int.reduceNeg, Int.reduceLT, Int.reduceLE, Int.reduceEq, reduceCtorEq, e0, e1, e6, e8, e5, e7, em, hol', add_nat, mul_nat, cut_nat, hxy, ecomm, r1, r2, r3]) <;> rfl))) | ((with_reducible apply gz1); (focus first | rfl | (simp (disch := omega) only [go_sem, ↓reduceIte, Nat.reduceAdd, Nat.reduceSub, Nat.reduceMul, Nat.reduceEqDiff, Nat.reduceLT, Nat.reduceLeDiff, Nat.reduceBEq, Int.reduceNeg, Int.reduceLT, Int.reduceLE, Int.reduceEq, reduceCtorEq, e0, e1, e6, e8, e5, e7, em, hol', add_nat, mul_nat, cut_nat, hxy, ecomm, r1, r2, r3]; done))) | ((with_reducible apply r_drawD (pickR [(14, .v (.int .i64 (gN b k : Nat)))]) [] []); (focus kernel_rfl); (focus rfl); (focus kernel_rfl); (focus (simp only [List.length_cons, List.length_nil, Nat.reduceAdd]; rfl)))))
            exact ⟨k + 1, ⟨by omega, ⟨by exact gW e0, by exact gW e1, by exact gW e6, by exact gS, by exact gW e5⟩, _, _, ⟨by exact gC, by exact gC⟩, by simpa using hol', hLo'.set _ w2, w1, hcz2, hzz, hs⟩, by omega⟩
          · have hc1 : 0 < c := by omega
            (repeat' (first | (with_reducible first | refine stp ?_ | apply gx1 | apply gx2 | apply gx3 | apply gx4 | apply gx5 | apply gx6 | apply gx7 | apply gy8 | apply gz2 | apply gz3 | refine gw0 (cr k) ?_ ?_ | refine gw3 (cr k) ?_ ?_ ?_) | (with_reducible refine all_v ?_; intro _) | ((with_reducible refine gE ?_); (try simp (disch := omega) only [go_sem, ↓reduceIte, Nat.reduceAdd, Nat.reduceSub, Nat.reduceMul, Nat.reduceEqDiff, Nat.reduceLT, Nat.reduceLeDiff, Nat.reduceBEq, Int.reduceNeg, Int.reduceLT, Int.reduceLE, Int.reduceEq, reduceCtorEq, e0, e1, e6, e8, e5, e7, em, hol', add_nat, mul_nat, cut_nat, hxy, ecomm, r1, r2, r3]) <;> first | rfl | omega) | with_reducible refine t_in_other (by decide) ?_ | ((with_reducible apply gy1); iterate 3 focus rfl) | ((with_reducible apply gy2); iterate 3 focus rfl) | ((with_reducible apply gy3); iterate 2 focus rfl) | ((with_reducible apply gy4); iterate 1 focus rfl) | ((with_reducible apply gy5); iterate 4 focus rfl) | ((with_reducible apply gy6); iterate 4 focus rfl) | ((with_reducible apply d_bar); iterate 3 focus rfl) | ((with_reducible apply q_pub); iterate 1 focus rfl) | ((with_reducible apply gy7); iterate 1 focus rfl) | ((with_reducible apply gy9); (focus ((with_reducible refine gE ?_); (try simp (disch := omega) only [go_sem, ↓reduceIte, Nat.reduceAdd, Nat.reduceSub, Nat.reduceMul, Nat.reduceEqDiff, Nat.reduceLT, Nat.reduceLeDiff, Nat.reduceBEq, Int.reduceNeg, Int.reduceLT, Int.reduceLE, Int.reduceEq, reduceCtorEq, e0, e1, e6, e8, e5, e7, em, hol', add_nat, mul_nat, cut_nat, hxy, ecomm, r1, r2, r3]) <;> rfl))) | ((with_reducible apply gz1); (focus first | rfl | (simp (disch := omega) only [go_sem, ↓reduceIte, Nat.reduceAdd, Nat.reduceSub, Nat.reduceMul, Nat.reduceEqDiff, Nat.reduceLT, Nat.reduceLeDiff, Nat.reduceBEq, Int.reduceNeg, Int.reduceLT, Int.reduceLE, Int.reduceEq, reduceCtorEq, e0, e1, e6, e8, e5, e7, em, hol', add_nat, mul_nat, cut_nat, hxy, ecomm, r1, r2, r3]; done))) | ((with_reducible apply r_drawD (pickR [(14, .v (.int .i64 (gN b k : Nat)))]) [] []); (focus kernel_rfl); (focus rfl); (focus kernel_rfl); (focus (simp only [List.length_cons, List.length_nil, Nat.reduceAdd]; rfl)))))
            exact ⟨k + 1, ⟨by omega, ⟨by exact gW e0, by exact gW e1, by exact gW e6, by exact gS, by exact gW e5⟩, _, _, ⟨by exact gC, by exact gC⟩, by simpa using hol', hLo'.set _ w2, w1, hcz2, hzz, hs⟩, by omega⟩
        · have hc0 : c = 0 := by omega
          subst hc0
          rw [take_all (l := b) (by omega), Nat.mul_zero, Nat.add_zero] at hv'
          (repeat' (first | (with_reducible first | refine stp ?_ | apply gx1 | apply gx2 | apply gx3 | apply gx4 | apply gx5 | apply gx6 | apply gx7 | apply gy8 | apply gz2 | apply gz3) | (with_reducible refine all_v ?_; intro _) | ((with_reducible refine gE ?_); (try simp (disch := omega) only [go_sem, ↓reduceIte, Nat.reduceAdd, Nat.reduceSub, Nat.reduceMul, Nat.reduceEqDiff, Nat.reduceLT, Nat.reduceLeDiff, Nat.reduceBEq, Int.reduceNeg, Int.reduceLT, Int.reduceLE, Int.reduceEq, reduceCtorEq, e0, e1, e6, e8, e5, e7, em, Int.natCast_zero]) <;> first | rfl | omega) | with_reducible refine t_in_other (by decide) ?_ | ((with_reducible apply gy1); iterate 3 focus rfl) | ((with_reducible apply gy2); iterate 3 focus rfl) | ((with_reducible apply gy3); iterate 2 focus rfl) | ((with_reducible apply gy4); iterate 1 focus rfl) | ((with_reducible apply gy5); iterate 4 focus rfl) | ((with_reducible apply gy6); iterate 4 focus rfl) | ((with_reducible apply d_bar); iterate 3 focus rfl) | ((with_reducible apply q_pub); iterate 1 focus rfl) | ((with_reducible apply gy7); iterate 1 focus rfl) | ((with_reducible apply gy9); (focus ((with_reducible refine gE ?_); (try simp (disch := omega) only [go_sem, ↓reduceIte, Nat.reduceAdd, Nat.reduceSub, Nat.reduceMul, Nat.reduceEqDiff, Nat.reduceLT, Nat.reduceLeDiff, Nat.reduceBEq, Int.reduceNeg, Int.reduceLT, Int.reduceLE, Int.reduceEq, reduceCtorEq, e0, e1, e6, e8, e5, e7, em, Int.natCast_zero]) <;> rfl))) | ((with_reducible apply gz1); (focus first | rfl | (simp (disch := omega) only [go_sem, ↓reduceIte, Nat.reduceAdd, Nat.reduceSub, Nat.reduceMul, Nat.reduceEqDiff, Nat.reduceLT, Nat.reduceLeDiff, Nat.reduceBEq, Int.reduceNeg, Int.reduceLT, Int.reduceLE, Int.reduceEq, reduceCtorEq, e0, e1, e6, e8, e5, e7, em, Int.natCast_zero]; done))) | ((with_reducible apply r_drawD (pickR []) [] []); (focus kernel_rfl); (focus rfl); (focus kernel_rfl); (focus (simp only [List.length_cons, List.length_nil, Nat.reduceAdd]; rfl)))))
          refine ⟨i + 1, ⟨by omega, ⟨by exact gW e0, by exact gW e1, by exact gS⟩, sv, o', ⟨by exact gW e5, by exact gW em⟩, hol', hLo', fun j hj => hz' j (by omega), ?_⟩, by omega⟩
          rw [hv', hv, nv_take_succ, Nat.add_mul]
          congr 1
          simp only [Nat.mul_assoc, Nat.mul_comm, Nat.mul_left_comm]
      · exact ⟨by omega, ⟨by exact gW e0, by exact gW e1, by exact gW e6, by exact gC, by exact gW e5⟩, _, 0, ⟨by exact gC, by exact gW em⟩, hol, hLo, by omega, fun _ => rfl, fun j hj => hz j (by omega), by simp [nv]⟩
    · have hiA : i = a.length := by omega
      subst hiA
      rw [take_all (Nat.le_refl _)] at hv
      (repeat' (first | (with_reducible first | refine stp ?_ | apply gx1 | apply gx2 | apply gx3 | apply gx4 | apply gx5 | apply gx6 | apply gx7 | apply gw1 (refNorm o (by omega) hLo)) | (with_reducible refine all_v ?_; intro _) | ((with_reducible refine gE ?_); (try simp (disch := omega) only [go_sem, ↓reduceIte, Nat.reduceAdd, Nat.reduceSub, Nat.reduceMul, Nat.reduceEqDiff, Nat.reduceLT, Nat.reduceLeDiff, Nat.reduceBEq, Int.reduceNeg, Int.reduceLT, Int.reduceLE, Int.reduceEq, reduceCtorEq, e0, e1, e6, e5, em, hol]) <;> first | rfl | omega) | with_reducible refine t_in_other (by decide) ?_))
      simp (disch := omega) only [go_sem, ↓reduceIte, Nat.reduceAdd, Nat.reduceSub, Nat.reduceMul, Nat.reduceEqDiff, Nat.reduceLT, Nat.reduceLeDiff, Nat.reduceBEq, Int.reduceNeg, Int.reduceLT, Int.reduceLE, Int.reduceEq, reduceCtorEq, hv]
  · exact ⟨Nat.zero_le _, ⟨by exact gC, by exact gC, by exact gC⟩, _, List.replicate (a.length + b.length + 1) 0, ⟨by exact gC, by exact gC⟩, by simp, Lm.zeros _, fun j hj => gN_zeros _ _, by simp [nv, nv_zeros]⟩

theorem refDigit (R B : Nat) (hR : (toL R).length ≤ 300000000) (hB : (toL B).length ≤ 200000000) (h0 : 0 < B) (hlt : R < B * 65536) : Pure Tryd.prog 82 [lim (toL R), lim (toL B)] (.v (.int .u64 ((R / B : Nat) : Int))) := by
  refine pure_intro (tok := 0) (rs := [.tmp 4]) Tryd.func82 rfl Tryd.ntmps82 Tryd.results82 Tryd.call82 (by rfl) (by simp) ?_
  (repeat' (first | (with_reducible first | refine stp ?_ | apply gx1 | apply gx2 | apply gx3 | apply gx4 | apply gx5 | apply gx6 | apply gx7) | (with_reducible refine all_v ?_; intro _) | ((with_reducible refine gE ?_); (try simp (disch := omega) only [go_sem, ↓reduceIte, Nat.reduceAdd, Nat.reduceSub, Nat.reduceMul, Nat.reduceEqDiff, Nat.reduceLT, Nat.reduceLeDiff, Nat.reduceBEq, Int.reduceNeg, Int.reduceLT, Int.reduceLE, Int.reduceEq, reduceCtorEq]) <;> first | rfl | omega) | with_reducible refine t_in_other (by decide) ?_))
  refine r_loopE (ι := Nat × Nat) (fun p e m => (e 0 = lim (toL R) ∧ e 1 = lim (toL B) ∧ e 5 = .v (.int .u64 (p.1 : Int)) ∧ e 6 = .v (.int .u64 (p.2 : Int))) ∧ p.1 ≤ p.2 ∧ p.2 ≤ 65535 ∧ B * p.1 ≤ R ∧ R < B * (p.2 + 1)) (fun p => p.2 - p.1) (0, 65535) (by rfl) ?_ ?_
  · rintro ⟨lo, hi⟩ e m ⟨⟨e0, e1, e5, e6⟩, h1, h2, h3, h4⟩
    simp only at e5 e6 h1 h2 h3 h4
    by_cases hlh : lo < hi
    · obtain ⟨mid, hmid⟩ : ∃ mid, (lo + hi + 1) / 2 = mid := ⟨_, rfl⟩
      have r2 : ((lo + hi + 1 : Nat) : Int).tdiv 2 = ((mid : Nat) : Int) := by rw [← hmid]; exact quo_nat _ 2
      have co := refOf mid (by omega)
      have lm : (toL mid).length ≤ 4 := toL_len_lt.2 (by omega)
      have cm := refMul (toL B) (toL mid) (by omega) (by omega) (lm_toL _) (lm_toL _)
      rw [nv_toL, nv_toL] at cm
      have lbm : (toL (B * mid)).length ≤ 1000000000 := by
        have h5 : (toL (B * mid)).length ≤ (toL B).length + 4 := by
          rw [toL_len_lt, Nat.pow_add]
          have h6 := toL_len_lt.1 (Nat.le_refl (toL B).length)
          exact Nat.mul_lt_mul'' h6 (by omega)
        omega
      have cc := refCmp (toL (B * mid)) (toL R) lbm (by omega) (lm_toL _) (lm_toL _)
      rw [nv_toL, nv_toL] at cc
      by_cases hle : B * mid ≤ R
      · have hc : cmpN (B * mid) R ≤ 0 := by unfold cmpN; split; omega; split <;> omega
        (repeat' (first | (with_reducible first | refine stp ?_ | apply gx1 | apply gx2 | apply gx3 | apply gx4 | apply gx5 | apply gx6 | apply gx7 | refine gw0 (co) ?_ ?_ | refine gw0 (cm) ?_ ?_ | refine gw0 (cc) ?_ ?_) | (with_reducible refine all_v ?_; intro _) | ((with_reducible refine gE ?_); (try simp (disch := omega) only [go_sem, ↓reduceIte, Nat.reduceAdd, Nat.reduceSub, Nat.reduceMul, Nat.reduceEqDiff, Nat.reduceLT, Nat.reduceLeDiff, Nat.reduceBEq, Int.reduceNeg, Int.reduceLT, Int.reduceLE, Int.reduceEq, reduceCtorEq, e0, e1, e5, e6, add_nat, cast_succ, r2, hc]) <;> first | rfl | omega) | with_reducible refine t_in_other (by decide) ?_))
        exact ⟨(mid, hi), ⟨⟨by exact gW e0, by exact gW e1, by exact gC, by exact gW e6⟩, by omega, h2, hle, h4⟩, by simp only; omega⟩
      · have hc : 0 < cmpN (B * mid) R := by unfold cmpN; rw [if_neg (by omega), if_pos (by omega)]; omega
        have em1 : (mid : Int) - 1 = ((mid - 1 : Nat) : Int) := by omega
        (repeat' (first | (with_reducible first | refine stp ?_ | apply gx1 | apply gx2 | apply gx3 | apply gx4 | apply gx5 | apply gx6 | apply gx7 | refine gw0 (co) ?_ ?_ | refine gw0 (cm) ?_ ?_ | refine gw0 (cc) ?_ ?_) | (with_reducible refine all_v ?_; intro _) | ((with_reducible refine gE ?_); (try simp (disch := omega) only [go_sem, ↓reduceIte, Nat.reduceAdd, Nat.reduceSub, Nat.reduceMul, Nat.reduceEqDiff, Nat.reduceLT, Nat.reduceLeDiff, Nat.reduceBEq, Int.reduceNeg, Int.reduceLT, Int.reduceLE, Int.reduceEq, reduceCtorEq, e0, e1, e5, e6, add_nat, cast_succ, r2, hc, em1]) <;> first | rfl | omega) | with_reducible refine t_in_other (by decide) ?_))
        exact ⟨(lo, mid - 1), ⟨⟨by exact gW e0, by exact gW e1, by exact gW e5, by exact gC⟩, by simp only; omega, by simp only; omega, h3, by simp only; rw [show mid - 1 + 1 = mid by omega]; omega⟩, by simp only; omega⟩
    · have hh : lo = hi := by omega
      subst hh
      have hd : R / B = lo := Nat.div_eq_of_lt_le (by rw [Nat.mul_comm]; exact h3) (by rw [Nat.mul_comm]; exact h4)
      (repeat' (first | (with_reducible first | refine stp ?_ | apply gx1 | apply gx2 | apply gx3 | apply gx4 | apply gx5 | apply gx6 | apply gx7) | (with_reducible refine all_v ?_; intro _) | ((with_reducible refine gE ?_); (try simp (disch := omega) only [go_sem, ↓reduceIte, Nat.reduceAdd, Nat.reduceSub, Nat.reduceMul, Nat.reduceEqDiff, Nat.reduceLT, Nat.reduceLeDiff, Nat.reduceBEq, Int.reduceNeg, Int.reduceLT, Int.reduceLE, Int.reduceEq, reduceCtorEq, e0, e1, e5, e6]) <;> first | rfl | omega) | with_reducible refine t_in_other (by decide) ?_))
      simp (disch := omega) only [go_sem, ↓reduceIte, Nat.reduceAdd, Nat.reduceSub, Nat.reduceMul, Nat.reduceEqDiff, Nat.reduceLT, Nat.reduceLeDiff, Nat.reduceBEq, Int.reduceNeg, Int.reduceLT, Int.reduceLE, Int.reduceEq, reduceCtorEq, hd]
  · exact ⟨⟨by exact gC, by exact gC, by exact gC, by exact gC⟩, by simp, by simp, by simp, by simpa using hlt⟩

theorem u16s_cons (x : Nat) (l : List Nat) : AV.v (.int .u16 (x : Int)) :: u16s l = u16s (x :: l) := rfl

set_option maxHeartbeats 1000000 in
theorem refDivMod (a b : List Nat) (ha : a.length ≤ 200000000) (hb : b.length ≤ 200000000) (la : Lm a) (lb : Lm b) (h0 : nv b ≠ 0) : Pure Tryd.prog 61 [lim a, lim b] (.tup [lim (toL (nv a / nv b)), lim (toL (nv a % nv b)), .v (.int .i64 0)]) := by
  have h1 := toL_len_le la
  have h2 := toL_len_le lb
  have va := nv_toL (nv a)
  have vb := nv_toL (nv b)
  have ma := lm_toL (nv a)
  have mb := lm_toL (nv b)
  have hb1 := (toL_top h0).1
  have hbp := Nat.pos_of_ne_zero h0
  by_cases h4 : (toL (nv a)).length ≤ 4 ∧ (toL (nv b)).length ≤ 4
  · obtain ⟨h4a, h4b⟩ := h4
    have ca := refShort (toL (nv a)) h4a ma
    have cb := refShort (toL (nv b)) h4b mb
    rw [va] at ca
    rw [vb] at cb
    have hA := toL_len_lt.1 h4a
    have hB := toL_len_lt.1 h4b
    have hq := Nat.div_le_self (nv a) (nv b)
    have hr := Nat.mod_le (nv a) (nv b)
    have cq := refOf (nv a / nv b) (by omega)
    have cr := refOf (nv a % nv b) (by omega)
    have wq : IntKind.u64.wrap ((nv a / nv b : Nat) : Int) = ((nv a / nv b : Nat) : Int) := wrap_u64 (Int.natCast_nonneg _) (by
      have : ((nv a / nv b : Nat) : Int) ≤ (nv a : Int) := Int.ofNat_le.2 hq
      omega)
    have hn : ((nv b : Nat) : Int) ≠ 0 := by omega
    refine pure_intro (tok := 0) (rs := [.tmp 4, .tmp 5, .tmp 6]) Tryd.func61 rfl Tryd.ntmps61 Tryd.results61 Tryd.call61 (by rfl) (by simp) ?_
    (repeat' (first | (with_reducible first | refine stp ?_ | apply gx1 | apply gx2 | apply gx3 | apply gx4 | apply gx5 | apply gx6 | apply gx7 | refine gw0 (refNorm a (by omega) la) ?_ ?_ | refine gw0 (refNorm b (by omega) lb) ?_ ?_ | refine gw0 (ca) ?_ ?_ | refine gw0 (cb) ?_ ?_ | refine gw0 (cq) ?_ ?_ | refine gw0 (cr) ?_ ?_) | (with_reducible refine all_v ?_; intro _) | ((with_reducible refine gE ?_); (try simp (disch := omega) only [go_sem, ↓reduceIte, Nat.reduceAdd, Nat.reduceSub, Nat.reduceMul, Nat.reduceEqDiff, Nat.reduceLT, Nat.reduceLeDiff, Nat.reduceBEq, Int.reduceNeg, Int.reduceLT, Int.reduceLE, Int.reduceEq, reduceCtorEq, quo_nat, rem_nat, wq, hn]) <;> first | rfl | omega) | with_reducible refine t_in_other (by decide) ?_))
    simp (disch := omega) only [go_sem, ↓reduceIte, Nat.reduceAdd, Nat.reduceSub, Nat.reduceMul, Nat.reduceEqDiff, Nat.reduceLT, Nat.reduceLeDiff, Nat.reduceBEq, Int.reduceNeg, Int.reduceLT, Int.reduceLE, Int.reduceEq, reduceCtorEq]
  · have h4' : ((toL (nv a)).length ≤ 4) → 4 < (toL (nv b)).length := fun h => by
      rcases Nat.lt_or_ge 4 (toL (nv b)).length with h3 | h3
      · exact h3
      · exact absurd ⟨h, h3⟩ h4
    obtain ⟨A, hA⟩ : ∃ A, toL (nv a) = A := ⟨_, rfl⟩
    rw [hA] at va ma h1 h4'
    refine pure_intro (tok := 0) (rs := [.tmp 4, .tmp 5, .tmp 6]) Tryd.func61 rfl Tryd.ntmps61 Tryd.results61 Tryd.call61 (by rfl) (by simp) ?_
    rcases Nat.lt_or_ge 4 A.length with h5 | h5
    rotate_left
    have h6 := h4' h5
    all_goals
      (repeat' (first | (with_reducible first | refine stp ?_ | apply gx1 | apply gx2 | apply gx3 | apply gx4 | apply gx5 | apply gx6 | apply gx7 | refine gw0 (refNorm a (by omega) la) ?_ ?_ | refine gw0 (refNorm b (by omega) lb) ?_ ?_) | (with_reducible refine all_v ?_; intro _) | ((with_reducible refine gE ?_); (try simp (disch := omega) only [go_sem, ↓reduceIte, Nat.reduceAdd, Nat.reduceSub, Nat.reduceMul, Nat.reduceEqDiff, Nat.reduceLT, Nat.reduceLeDiff, Nat.reduceBEq, Int.reduceNeg, Int.reduceLT, Int.reduceLE, Int.reduceEq, reduceCtorEq, hA]) <;> first | rfl | omega) | with_reducible refine t_in_other (by decide) ?_))
      rw [hA]
      refine r_frz (Frz.trans (Frz.nil (d := 7) 1 (by exact gC)) (Frz.nil (d := 8) 1 (by exact gC))) ?_
      refine r_loopF (ι := Nat) (fun k e m => k ≤ A.length ∧ (e 0 = lim A ∧ e 1 = lim (toL (nv b)) ∧ e 9 = .v (.int .i64 ((k : Int) - 1))) ∧ ∃ ql R, (e 7 = lim ql ∧ e 8 = lim (toL R)) ∧ ql.length = A.length - k ∧ Lm ql ∧ R < nv b ∧ nv (A.drop k) = nv ql * nv b + R) (fun k => k) A.length (by rfl) ?_ ?_
      · rintro k e m ⟨hk, ⟨e0, e1, e9⟩, ql, R, ⟨e7, e8⟩, hql, hqL, hR, hv⟩
        by_cases hk0 : k = 0
        · subst hk0
          rw [List.drop_zero, va] at hv
          have hq : nv ql = nv a / nv b := by rw [hv, Nat.mul_comm, Nat.mul_add_div hbp, Nat.div_eq_of_lt hR, Nat.add_zero]
          have hr : R = nv a % nv b := by rw [hv, Nat.mul_comm, Nat.mul_add_mod, Nat.mod_eq_of_lt hR]
          have cn := refNorm ql (by omega) hqL
          rw [hq] at cn
          rw [hr] at e8
          (repeat' (first | (with_reducible first | refine stp ?_ | apply gx1 | apply gx2 | apply gx3 | apply gx4 | apply gx5 | apply gx6 | apply gx7 | refine gw0 (cn) ?_ ?_) | (with_reducible refine all_v ?_; intro _) | ((with_reducible refine gE ?_); (try simp (disch := omega) only [go_sem, ↓reduceIte, Nat.reduceAdd, Nat.reduceSub, Nat.reduceMul, Nat.reduceEqDiff, Nat.reduceLT, Nat.reduceLeDiff, Nat.reduceBEq, Int.reduceNeg, Int.reduceLT, Int.reduceLE, Int.reduceEq, reduceCtorEq, e0, e1, e9, e7, e8]) <;> first | rfl | omega) | with_reducible refine t_in_other (by decide) ?_))
          simp (disch := omega) only [go_sem, ↓reduceIte, Nat.reduceAdd, Nat.reduceSub, Nat.reduceMul, Nat.reduceEqDiff, Nat.reduceLT, Nat.reduceLeDiff, Nat.reduceBEq, Int.reduceNeg, Int.reduceLT, Int.reduceLE, Int.reduceEq, reduceCtorEq]
        · obtain ⟨j, rfl⟩ : ∃ j, k = j + 1 := ⟨k - 1, by omega⟩
          have ej : ((j + 1 : Nat) : Int) - 1 = (j : Int) := by omega
          rw [ej] at e9
          have gx := gN_lt ma j
          have hRl : (toL R).length ≤ (toL (nv b)).length := toL_len_mono (by omega)
          have cn := refNorm (gN A j :: toL R) (by simp; omega) (fun y hy => by
            rcases List.mem_cons.1 hy with rfl | hy
            · exact gx
            · exact lm_toL R y hy)
          have en : nv (gN A j :: toL R) = gN A j + 65536 * R := by rw [nv, nv_toL]
          rw [en] at cn
          have hX : gN A j + 65536 * R < nv b * 65536 := by omega
          obtain ⟨X, hXd⟩ : ∃ X, gN A j + 65536 * R = X := ⟨_, rfl⟩
          rw [hXd] at cn hX
          have hXl : (toL X).length ≤ (toL (nv b)).length + 1 := by
            rw [toL_len_lt, Nat.pow_succ]
            exact Nat.lt_of_lt_of_le hX (Nat.mul_le_mul_right _ (Nat.le_of_lt (toL_len_lt.1 (Nat.le_refl (toL (nv b)).length))))
          have cd := refDigit X (nv b) (by omega) (by omega) hbp hX
          have hd : X / nv b < 65536 := by rw [Nat.div_lt_iff_lt_mul hbp, Nat.mul_comm]; exact hX
          have hdm := Nat.div_add_mod X (nv b)
          have hml := Nat.mod_lt X hbp
          have co := refOf (X / nv b) (by omega)
          have ld : (toL (X / nv b)).length ≤ 1 := toL_len_lt.2 (by omega)
          have cm := refMul (toL (nv b)) (toL (X / nv b)) (by omega) (by omega) (lm_toL _) (lm_toL _)
          rw [nv_toL, nv_toL] at cm
          have hle : nv b * (X / nv b) ≤ X := by omega
          have cs := refSub (toL X) (toL (nv b * (X / nv b))) (by omega) (Nat.le_trans (toL_len_mono hle) (by omega)) (lm_toL _) (lm_toL _)
          rw [nv_toL, nv_toL, if_neg (by omega), if_neg (by omega), show X - nv b * (X / nv b) = X % nv b by omega] at cs
          have hcut : X / nv b % 65536 = X / nv b := Nat.mod_eq_of_lt hd
          (repeat' (first | (with_reducible first | refine stp ?_ | apply gx1 | apply gx2 | apply gx3 | apply gx4 | apply gx5 | apply gx6 | apply gx7 | apply gw1 (cn) | refine gw0 (cd) ?_ ?_ | refine gw0 (co) ?_ ?_ | refine gw0 (cm) ?_ ?_ | refine gw0 (cs) ?_ ?_) | (with_reducible refine all_v ?_; intro _) | ((with_reducible refine gE ?_); (try simp (disch := omega) only [go_sem, ↓reduceIte, Nat.reduceAdd, Nat.reduceSub, Nat.reduceMul, Nat.reduceEqDiff, Nat.reduceLT, Nat.reduceLeDiff, Nat.reduceBEq, Int.reduceNeg, Int.reduceLT, Int.reduceLE, Int.reduceEq, reduceCtorEq, e0, e1, e9, e7, e8, u16s_cons, cut_nat, hcut]) <;> first | rfl | omega) | with_reducible refine t_in_other (by decide) ?_))
          refine ⟨j, _, Frz.own (d := 7) (by exact gC) (by exact gC), ⟨by omega, ⟨by exact gW e0, by exact gW e1, by exact gC⟩, X / nv b :: ql, X % nv b, ⟨by (simp (disch := omega) only [go_sem, ↓reduceIte, Nat.reduceAdd, Nat.reduceSub, Nat.reduceMul, Nat.reduceEqDiff, Nat.reduceLT, Nat.reduceLeDiff, Nat.reduceBEq, Int.reduceNeg, Int.reduceLT, Int.reduceLE, Int.reduceEq, reduceCtorEq, u16s_cons] <;> repeat' first | rfl | refine ⟨?_, ?_⟩), by exact gC⟩, by simp [hql]; omega, ?_, hml, ?_⟩, by omega⟩
          · intro y hy
            rcases List.mem_cons.1 hy with rfl | hy
            · exact hd
            · exact hqL y hy
          · rw [nv_drop, hv, nv, Nat.add_mul, Nat.mul_add 65536, ← hXd]
            rw [← hXd] at hdm
            rw [Nat.mul_comm] at hdm
            have : 65536 * (nv ql * nv b) = 65536 * nv ql * nv b := by rw [Nat.mul_assoc]
            omega
      · exact ⟨Nat.le_refl _, ⟨by exact gC, by exact gC, by exact gC⟩, [], 0, ⟨by (simp (disch := omega) only [go_sem, ↓reduceIte, Nat.reduceAdd, Nat.reduceSub, Nat.reduceMul, Nat.reduceEqDiff, Nat.reduceLT, Nat.reduceLeDiff, Nat.reduceBEq, Int.reduceNeg, Int.reduceLT, Int.reduceLE, Int.reduceEq, reduceCtorEq, u16s_nil] <;> repeat' first | rfl | refine ⟨?_, ?_⟩), by (simp (disch := omega) only [go_sem, ↓reduceIte, Nat.reduceAdd, Nat.reduceSub, Nat.reduceMul, Nat.reduceEqDiff, Nat.reduceLT, Nat.reduceLeDiff, Nat.reduceBEq, Int.reduceNeg, Int.reduceLT, Int.reduceLE, Int.reduceEq, reduceCtorEq, toL_zero, u16s_nil] <;> repeat' first | rfl | refine ⟨?_, ?_⟩)⟩, by simp, Lm.nil, hbp, by rw [List.drop_eq_nil_of_le (Nat.le_refl _)]; simp [nv]⟩

theorem refGcd (a b : List Nat) (ha : a.length ≤ 200000000) (hb : b.length ≤ 200000000) (la : Lm a) (lb : Lm b) : Pure Tryd.prog 63 [lim a, lim b] (lim (toL (Nat.gcd (nv a) (nv b)))) := by
  have h1 := toL_len_le la
  have h2 := toL_len_le lb
  have cd : ∀ x y : Nat, (toL x).length ≤ 200000000 → (toL y).length ≤ 200000000 → y ≠ 0 → Pure Tryd.prog 61 [lim (toL x), lim (toL y)] (.tup [lim (toL (x / y)), lim (toL (x % y)), .v (.int .i64 0)]) := by
    intro x y hx hy h0
    have := refDivMod (toL x) (toL y) hx hy (lm_toL x) (lm_toL y) (by rw [nv_toL]; exact h0)
    rwa [nv_toL, nv_toL] at this
  refine pure_intro (tok := 0) (rs := [.tmp 4]) Tryd.func63 rfl Tryd.ntmps63 Tryd.results63 Tryd.call63 (by rfl) (by simp) ?_
  (repeat' (first | (with_reducible first | refine stp ?_ | apply gx1 | apply gx2 | apply gx3 | apply gx4 | apply gx5 | apply gx6 | apply gx7 | refine gw0 (refNorm a (by omega) la) ?_ ?_ | refine gw0 (refNorm b (by omega) lb) ?_ ?_) | (with_reducible refine all_v ?_; intro _) | ((with_reducible refine gE ?_); (try simp (disch := omega) only [go_sem, ↓reduceIte, Nat.reduceAdd, Nat.reduceSub, Nat.reduceMul, Nat.reduceEqDiff, Nat.reduceLT, Nat.reduceLeDiff, Nat.reduceBEq, Int.reduceNeg, Int.reduceLT, Int.reduceLE, Int.reduceEq, reduceCtorEq]) <;> first | rfl | omega) | with_reducible refine t_in_other (by decide) ?_))
  refine r_loopE (ι := Nat) (fun y e m => ∃ x, (e 0 = lim (toL x) ∧ e 1 = lim (toL y)) ∧ (toL x).length ≤ 200000000 ∧ (toL y).length ≤ 200000000 ∧ Nat.gcd x y = Nat.gcd (nv a) (nv b)) (fun y => y) (nv b) (by rfl) ?_ ?_
  · rintro y e m ⟨x, ⟨e0, e1⟩, hx, hy, hg⟩
    rcases Nat.eq_zero_or_pos y with h0 | h0
    · subst h0
      have hl := toL_len_zero.2 (rfl : (0 : Nat) = 0)
      rw [Nat.gcd_zero_right] at hg
      (repeat' (first | (with_reducible first | refine stp ?_ | apply gx1 | apply gx2 | apply gx3 | apply gx4 | apply gx5 | apply gx6 | apply gx7) | (with_reducible refine all_v ?_; intro _) | ((with_reducible refine gE ?_); (try simp (disch := omega) only [go_sem, ↓reduceIte, Nat.reduceAdd, Nat.reduceSub, Nat.reduceMul, Nat.reduceEqDiff, Nat.reduceLT, Nat.reduceLeDiff, Nat.reduceBEq, Int.reduceNeg, Int.reduceLT, Int.reduceLE, Int.reduceEq, reduceCtorEq, e0, e1, hl]) <;> first | rfl | omega) | with_reducible refine t_in_other (by decide) ?_))
      simp (disch := omega) only [go_sem, ↓reduceIte, Nat.reduceAdd, Nat.reduceSub, Nat.reduceMul, Nat.reduceEqDiff, Nat.reduceLT, Nat.reduceLeDiff, Nat.reduceBEq, Int.reduceNeg, Int.reduceLT, Int.reduceLE, Int.reduceEq, reduceCtorEq, hg]
    · have hl : 0 < (toL y).length := by
        have := (toL_top (show y ≠ 0 by omega)).1
        omega
      have hm := Nat.mod_lt x h0
      have hml : (toL (x % y)).length ≤ 200000000 := Nat.le_trans (toL_len_mono (Nat.le_of_lt hm)) hy
      have hgg : Nat.gcd y (x % y) = Nat.gcd (nv a) (nv b) := by rw [← hg, Nat.gcd_comm x y, Nat.gcd_rec y x, Nat.gcd_comm]
      (repeat' (first | (with_reducible first | refine stp ?_ | apply gx1 | apply gx2 | apply gx3 | apply gx4 | apply gx5 | apply gx6 | apply gx7 | refine gw0 (cd x y hx hy (by omega)) ?_ ?_) | (with_reducible refine all_v ?_; intro _) | ((with_reducible refine gE ?_); (try simp (disch := omega) only [go_sem, ↓reduceIte, Nat.reduceAdd, Nat.reduceSub, Nat.reduceMul, Nat.reduceEqDiff, Nat.reduceLT, Nat.reduceLeDiff, Nat.reduceBEq, Int.reduceNeg, Int.reduceLT, Int.reduceLE, Int.reduceEq, reduceCtorEq, e0, e1]) <;> first | rfl | omega) | with_reducible refine t_in_other (by decide) ?_))
      exact ⟨x % y, ⟨y, ⟨by exact gW e1, by exact gC⟩, hy, hml, hgg⟩, hm⟩
  · exact ⟨nv a, ⟨by exact gC, by exact gC⟩, by omega, by omega, rfl⟩
end Go.Proofs.YtjiffehkemeloaaDoor
end

section
namespace Go.Proofs.YtjiffehkemeloaaDoor
open Go Go.RowKit Go.Pg
set_option linter.unusedSimpArgs false
set_option linter.unusedVariables false
set_option maxRecDepth 20000

theorem nAdd (n m : Nat) (hn : (toL n).length ≤ 100000000) (hm : (toL m).length ≤ 100000000) : Pure Tryd.prog 120 [lim (toL n), lim (toL m)] (lim (toL (n + m))) := by
  have := natAdd (toL n) (toL m) (by omega) (by omega) (lm_toL _) (lm_toL _)
  rwa [nv_toL, nv_toL] at this

theorem nMul (n m : Nat) (hn : (toL n).length ≤ 100000000) (hm : (toL m).length ≤ 100000000) : Pure Tryd.prog 71 [lim (toL n), lim (toL m)] (lim (toL (n * m))) := by
  have := natMul (toL n) (toL m) (by omega) (by omega) (lm_toL _) (lm_toL _)
  rwa [nv_toL, nv_toL] at this

theorem nCmp (n m : Nat) (hn : (toL n).length ≤ 100000000) (hm : (toL m).length ≤ 100000000) : Pure Tryd.prog 106 [lim (toL n), lim (toL m)] (.v (.int .i64 (cmpN n m))) := by
  have := natCmp (toL n) (toL m) (by omega) (by omega) (lm_toL _) (lm_toL _)
  rwa [nv_toL, nv_toL] at this

theorem nSub (n m : Nat) (hn : (toL n).length ≤ 100000000) (hm : (toL m).length ≤ 100000000) : Pure Tryd.prog 121 [lim (toL n), lim (toL m)] (.tup [lim (if n < m then [] else toL (n - m)), .v (.int .i64 (if n < m then 2 else 0))]) := by
  have := natSub (toL n) (toL m) (by omega) (by omega) (lm_toL _) (lm_toL _)
  rwa [nv_toL, nv_toL] at this

theorem nDivMod (n m : Nat) (hn : (toL n).length ≤ 100000000) (hm : (toL m).length ≤ 100000000) (h0 : m ≠ 0) : Pure Tryd.prog 92 [lim (toL n), lim (toL m)] (.tup [lim (toL (n / m)), lim (toL (n % m)), .v (.int .i64 0)]) := by
  have := natDivMod (toL n) (toL m) (by omega) (by omega) (lm_toL _) (lm_toL _) (by rw [nv_toL]; exact h0)
  rwa [nv_toL, nv_toL] at this

theorem nGcd (n m : Nat) (hn : (toL n).length ≤ 100000000) (hm : (toL m).length ≤ 100000000) : Pure Tryd.prog 91 [lim (toL n), lim (toL m)] (lim (toL (Nat.gcd n m))) := by
  have := natGcd (toL n) (toL m) (by omega) (by omega) (lm_toL _) (lm_toL _)
  rwa [nv_toL, nv_toL] at this

theorem nNorm (n : Nat) (hn : (toL n).length ≤ 100000000) : Pure Tryd.prog 88 [lim (toL n)] (lim (toL n)) := by
  have := natNorm (toL n) (by omega) (lm_toL _)
  rwa [nv_toL] at this

theorem nBits (n : Nat) (hn : (toL n).length ≤ 100000000) : Pure Tryd.prog 87 [lim (toL n)] (.v (.int .i64 (bitsN n : Nat))) := by
  have := natBits (toL n) (by omega) (lm_toL _)
  rwa [nv_toL] at this

theorem rAdd (n m : Nat) (hn : (toL n).length ≤ 100000000) (hm : (toL m).length ≤ 100000000) : Pure Tryd.prog 65 [lim (toL n), lim (toL m)] (lim (toL (n + m))) := by
  have := refAdd (toL n) (toL m) (by omega) (by omega) (lm_toL _) (lm_toL _)
  rwa [nv_toL, nv_toL] at this

theorem rMul (n m : Nat) (hn : (toL n).length ≤ 100000000) (hm : (toL m).length ≤ 100000000) : Pure Tryd.prog 84 [lim (toL n), lim (toL m)] (lim (toL (n * m))) := by
  have := refMul (toL n) (toL m) (by omega) (by omega) (lm_toL _) (lm_toL _)
  rwa [nv_toL, nv_toL] at this

theorem rCmp (n m : Nat) (hn : (toL n).length ≤ 100000000) (hm : (toL m).length ≤ 100000000) : Pure Tryd.prog 97 [lim (toL n), lim (toL m)] (.v (.int .i64 (cmpN n m))) := by
  have := refCmp (toL n) (toL m) (by omega) (by omega) (lm_toL _) (lm_toL _)
  rwa [nv_toL, nv_toL] at this

theorem rSub (n m : Nat) (hn : (toL n).length ≤ 100000000) (hm : (toL m).length ≤ 100000000) : Pure Tryd.prog 83 [lim (toL n), lim (toL m)] (.tup [lim (if n < m then [] else toL (n - m)), .v (.int .i64 (if n < m then 2 else 0))]) := by
  have := refSub (toL n) (toL m) (by omega) (by omega) (lm_toL _) (lm_toL _)
  rwa [nv_toL, nv_toL] at this

theorem rDivMod (n m : Nat) (hn : (toL n).length ≤ 100000000) (hm : (toL m).length ≤ 100000000) (h0 : m ≠ 0) : Pure Tryd.prog 61 [lim (toL n), lim (toL m)] (.tup [lim (toL (n / m)), lim (toL (n % m)), .v (.int .i64 0)]) := by
  have := refDivMod (toL n) (toL m) (by omega) (by omega) (lm_toL _) (lm_toL _) (by rw [nv_toL]; exact h0)
  rwa [nv_toL, nv_toL] at this

theorem rGcd (n m : Nat) (hn : (toL n).length ≤ 100000000) (hm : (toL m).length ≤ 100000000) : Pure Tryd.prog 63 [lim (toL n), lim (toL m)] (lim (toL (Nat.gcd n m))) := by
  have := refGcd (toL n) (toL m) (by omega) (by omega) (lm_toL _) (lm_toL _)
  rwa [nv_toL, nv_toL] at this

theorem rNorm (n : Nat) (hn : (toL n).length ≤ 100000000) : Pure Tryd.prog 60 [lim (toL n)] (lim (toL n)) := by
  have := refNorm (toL n) (by omega) (lm_toL _)
  rwa [nv_toL] at this

theorem szB : szOf Tryd.prog 4 = some 1 := by kernel_rfl
theorem zB : zeroOf Tryd.prog 4 = some (.bool false) := by kernel_rfl
theorem szNat : szOf Tryd.prog 56 = some 1 := by kernel_rfl
theorem zNat : zeroOf Tryd.prog 56 = some (.slice none 0 0) := by kernel_rfl
theorem szInt : szOf Tryd.prog 58 = some 2 := by kernel_rfl
theorem zInt : zeroOf Tryd.prog 58 = some (.agg #[.bool false, .slice none 0 0]) := by kernel_rfl
theorem szRat : szOf Tryd.prog 60 = some 3 := by kernel_rfl
theorem zRat : zeroOf Tryd.prog 60 = some (.agg #[.bool false, .slice none 0 0, .slice none 0 0]) := by kernel_rfl

/-- An integer: its sign's mark and its absolute value. -/
abbrev intA (s : Bool) (n : Nat) : AV := .agg [.v (.bool s), lim (toL n)]
def zI (s : Bool) (n : Nat) : Int := if s then -(n : Int) else n
/-- An integer, canonical. -/
abbrev intZ (z : Int) : AV := intA (decide (z < 0)) z.natAbs
theorem zI_abs (z : Int) : zI (decide (z < 0)) z.natAbs = z := by
  unfold zI
  by_cases h : z < 0
  · rw [if_pos (by simpa using h)]; omega
  · rw [if_neg (by simpa using h)]; omega
theorem zI_natAbs (s : Bool) (n : Nat) : (zI s n).natAbs = n := by cases s <;> simp [zI]
theorem zI_lt (s : Bool) (n : Nat) : decide (zI s n < 0) = (s && decide (0 < n)) := by
  cases s
  · simp [zI]
  · simp only [zI, if_true, Bool.true_and]
    by_cases h : 0 < n
    · rw [decide_eq_true (by omega), decide_eq_true h]
    · rw [decide_eq_false (by omega), decide_eq_false h]
theorem intZ_of (s : Bool) (n : Nat) : intZ (zI s n) = .agg [.v (.bool (s && decide (0 < n))), lim (toL n)] := by
  unfold intZ intA
  rw [zI_lt, zI_natAbs]
theorem toL_len_pos {n : Nat} : (0 < (toL n).length) ↔ 0 < n := by
  have := @toL_len_zero n
  omega
theorem intZ_zero (s : Bool) : intZ (zI s 0) = intZ 0 := by cases s <;> rfl
theorem eqB (a b : Bool) : (a == b) = !(a ^^ b) := by cases a <;> cases b <;> rfl
end Go.Proofs.YtjiffehkemeloaaDoor
end

section
namespace Go.Proofs.YtjiffehkemeloaaDoor
open Go Go.RowKit Go.Pg
set_option linter.unusedSimpArgs false
set_option linter.unusedVariables false
set_option maxRecDepth 20000
attribute [local go_sem] Tryd.underlying56 Tryd.underlying3 Tryd.underlying91 Tryd.underlying81 Tryd.underlying4 Tryd.underlying58 Tryd.underlying60 Tryd.underlying41 Tryd.underlying131 sz3 by3 z3 szL byL zL szB zB szNat zNat szInt zInt szRat zRat

theorem intMade (s : Bool) (n : Nat) (hn : (toL n).length ≤ 1000000000) : Pure Tryd.prog 93 [.v (.bool s), lim (toL n)] (intZ (zI s n)) := by
  rw [intZ_of]
  have hp := @toL_len_pos n
  cases s
  · refine pure_intro (tok := 0) Tryd.func93 rfl Tryd.ntmps93 Tryd.results93 Tryd.call93 (by rfl) (by simp) ?_
    (repeat' (first | (with_reducible first | refine stp ?_ | apply gx1 | apply gx2 | apply gx3 | apply gx4 | apply gx5 | apply gx6 | apply gx7) | (with_reducible refine all_v ?_; intro _) | ((with_reducible refine gE ?_); (try simp (disch := omega) only [go_sem, ↓reduceIte, Nat.reduceAdd, Nat.reduceSub, Nat.reduceMul, Nat.reduceEqDiff, Nat.reduceLT, Nat.reduceLeDiff, Nat.reduceBEq, Int.reduceNeg, Int.reduceLT, Int.reduceLE, Int.reduceEq, reduceCtorEq]) <;> first | rfl | omega) | with_reducible refine t_in_other (by decide) ?_))
    simp (disch := omega) only [go_sem, ↓reduceIte, Nat.reduceAdd, Nat.reduceSub, Nat.reduceMul, Nat.reduceEqDiff, Nat.reduceLT, Nat.reduceLeDiff, Nat.reduceBEq, Int.reduceNeg, Int.reduceLT, Int.reduceLE, Int.reduceEq, reduceCtorEq, Bool.false_and]
  · by_cases h : 0 < n
    · refine pure_intro (tok := 0) Tryd.func93 rfl Tryd.ntmps93 Tryd.results93 Tryd.call93 (by rfl) (by simp) ?_
      (repeat' (first | (with_reducible first | refine stp ?_ | apply gx1 | apply gx2 | apply gx3 | apply gx4 | apply gx5 | apply gx6 | apply gx7) | (with_reducible refine all_v ?_; intro _) | ((with_reducible refine gE ?_); (try simp (disch := omega) only [go_sem, ↓reduceIte, Nat.reduceAdd, Nat.reduceSub, Nat.reduceMul, Nat.reduceEqDiff, Nat.reduceLT, Nat.reduceLeDiff, Nat.reduceBEq, Int.reduceNeg, Int.reduceLT, Int.reduceLE, Int.reduceEq, reduceCtorEq]) <;> first | rfl | omega) | with_reducible refine t_in_other (by decide) ?_))
      simp (disch := omega) only [go_sem, ↓reduceIte, Nat.reduceAdd, Nat.reduceSub, Nat.reduceMul, Nat.reduceEqDiff, Nat.reduceLT, Nat.reduceLeDiff, Nat.reduceBEq, Int.reduceNeg, Int.reduceLT, Int.reduceLE, Int.reduceEq, reduceCtorEq, decide_eq_true h]
    · refine pure_intro (tok := 0) Tryd.func93 rfl Tryd.ntmps93 Tryd.results93 Tryd.call93 (by rfl) (by simp) ?_
      (repeat' (first | (with_reducible first | refine stp ?_ | apply gx1 | apply gx2 | apply gx3 | apply gx4 | apply gx5 | apply gx6 | apply gx7) | (with_reducible refine all_v ?_; intro _) | ((with_reducible refine gE ?_); (try simp (disch := omega) only [go_sem, ↓reduceIte, Nat.reduceAdd, Nat.reduceSub, Nat.reduceMul, Nat.reduceEqDiff, Nat.reduceLT, Nat.reduceLeDiff, Nat.reduceBEq, Int.reduceNeg, Int.reduceLT, Int.reduceLE, Int.reduceEq, reduceCtorEq]) <;> first | rfl | omega) | with_reducible refine t_in_other (by decide) ?_))
      simp (disch := omega) only [go_sem, ↓reduceIte, Nat.reduceAdd, Nat.reduceSub, Nat.reduceMul, Nat.reduceEqDiff, Nat.reduceLT, Nat.reduceLeDiff, Nat.reduceBEq, Int.reduceNeg, Int.reduceLT, Int.reduceLE, Int.reduceEq, reduceCtorEq, decide_eq_false h]

theorem intOf' (s : Bool) (n : Nat) (hn : (toL n).length ≤ 100000000) : Pure Tryd.prog 104 [.v (.bool s), lim (toL n)] (intZ (zI s n)) := by
  rw [intZ_of]
  have hp := @toL_len_pos n
  cases s
  · refine pure_intro (tok := 0) Tryd.func104 rfl Tryd.ntmps104 Tryd.results104 Tryd.call104 (by rfl) (by simp) ?_
    (repeat' (first | (with_reducible first | refine stp ?_ | apply gx1 | apply gx2 | apply gx3 | apply gx4 | apply gx5 | apply gx6 | apply gx7 | refine gw0 (nNorm n hn) ?_ ?_) | (with_reducible refine all_v ?_; intro _) | ((with_reducible refine gE ?_); (try simp (disch := omega) only [go_sem, ↓reduceIte, Nat.reduceAdd, Nat.reduceSub, Nat.reduceMul, Nat.reduceEqDiff, Nat.reduceLT, Nat.reduceLeDiff, Nat.reduceBEq, Int.reduceNeg, Int.reduceLT, Int.reduceLE, Int.reduceEq, reduceCtorEq]) <;> first | rfl | omega) | with_reducible refine t_in_other (by decide) ?_))
    simp (disch := omega) only [go_sem, ↓reduceIte, Nat.reduceAdd, Nat.reduceSub, Nat.reduceMul, Nat.reduceEqDiff, Nat.reduceLT, Nat.reduceLeDiff, Nat.reduceBEq, Int.reduceNeg, Int.reduceLT, Int.reduceLE, Int.reduceEq, reduceCtorEq, Bool.false_and]
  · by_cases h : 0 < n
    · refine pure_intro (tok := 0) Tryd.func104 rfl Tryd.ntmps104 Tryd.results104 Tryd.call104 (by rfl) (by simp) ?_
      (repeat' (first | (with_reducible first | refine stp ?_ | apply gx1 | apply gx2 | apply gx3 | apply gx4 | apply gx5 | apply gx6 | apply gx7 | refine gw0 (nNorm n hn) ?_ ?_) | (with_reducible refine all_v ?_; intro _) | ((with_reducible refine gE ?_); (try simp (disch := omega) only [go_sem, ↓reduceIte, Nat.reduceAdd, Nat.reduceSub, Nat.reduceMul, Nat.reduceEqDiff, Nat.reduceLT, Nat.reduceLeDiff, Nat.reduceBEq, Int.reduceNeg, Int.reduceLT, Int.reduceLE, Int.reduceEq, reduceCtorEq]) <;> first | rfl | omega) | with_reducible refine t_in_other (by decide) ?_))
      simp (disch := omega) only [go_sem, ↓reduceIte, Nat.reduceAdd, Nat.reduceSub, Nat.reduceMul, Nat.reduceEqDiff, Nat.reduceLT, Nat.reduceLeDiff, Nat.reduceBEq, Int.reduceNeg, Int.reduceLT, Int.reduceLE, Int.reduceEq, reduceCtorEq, decide_eq_true h]
    · refine pure_intro (tok := 0) Tryd.func104 rfl Tryd.ntmps104 Tryd.results104 Tryd.call104 (by rfl) (by simp) ?_
      (repeat' (first | (with_reducible first | refine stp ?_ | apply gx1 | apply gx2 | apply gx3 | apply gx4 | apply gx5 | apply gx6 | apply gx7 | refine gw0 (nNorm n hn) ?_ ?_) | (with_reducible refine all_v ?_; intro _) | ((with_reducible refine gE ?_); (try simp (disch := omega) only [go_sem, ↓reduceIte, Nat.reduceAdd, Nat.reduceSub, Nat.reduceMul, Nat.reduceEqDiff, Nat.reduceLT, Nat.reduceLeDiff, Nat.reduceBEq, Int.reduceNeg, Int.reduceLT, Int.reduceLE, Int.reduceEq, reduceCtorEq]) <;> first | rfl | omega) | with_reducible refine t_in_other (by decide) ?_))
      simp (disch := omega) only [go_sem, ↓reduceIte, Nat.reduceAdd, Nat.reduceSub, Nat.reduceMul, Nat.reduceEqDiff, Nat.reduceLT, Nat.reduceLeDiff, Nat.reduceBEq, Int.reduceNeg, Int.reduceLT, Int.reduceLE, Int.reduceEq, reduceCtorEq, decide_eq_false h]

theorem intNorm (s : Bool) (n : Nat) (hn : (toL n).length ≤ 100000000) : Pure Tryd.prog 89 [intA s n] (intZ (zI s n)) := by
  refine pure_intro (tok := 0) Tryd.func89 rfl Tryd.ntmps89 Tryd.results89 Tryd.call89 (by rfl) (by simp) ?_
  (repeat' (first | (with_reducible first | refine stp ?_ | apply gx1 | apply gx2 | apply gx3 | apply gx4 | apply gx5 | apply gx6 | apply gx7 | apply gy8 | apply gz2 | apply gz3 | refine gw0 (intOf' s n hn) ?_ ?_ | refine gw3 (intOf' s n hn) ?_ ?_ ?_) | (with_reducible refine all_v ?_; intro _) | ((with_reducible refine gE ?_); (try simp (disch := omega) only [go_sem, ↓reduceIte, Nat.reduceAdd, Nat.reduceSub, Nat.reduceMul, Nat.reduceEqDiff, Nat.reduceLT, Nat.reduceLeDiff, Nat.reduceBEq, Int.reduceNeg, Int.reduceLT, Int.reduceLE, Int.reduceEq, reduceCtorEq]) <;> first | rfl | omega) | with_reducible refine t_in_other (by decide) ?_ | ((with_reducible apply gy1); iterate 3 focus rfl) | ((with_reducible apply gy2); iterate 3 focus rfl) | ((with_reducible apply gy3); iterate 2 focus rfl) | ((with_reducible apply gy4); iterate 1 focus rfl) | ((with_reducible apply gy5); iterate 4 focus rfl) | ((with_reducible apply gy6); iterate 4 focus rfl) | ((with_reducible apply d_bar); iterate 3 focus rfl) | ((with_reducible apply q_pub); iterate 1 focus rfl) | ((with_reducible apply gy7); iterate 1 focus rfl) | ((with_reducible apply gy9); (focus ((with_reducible refine gE ?_); (try simp (disch := omega) only [go_sem, ↓reduceIte, Nat.reduceAdd, Nat.reduceSub, Nat.reduceMul, Nat.reduceEqDiff, Nat.reduceLT, Nat.reduceLeDiff, Nat.reduceBEq, Int.reduceNeg, Int.reduceLT, Int.reduceLE, Int.reduceEq, reduceCtorEq]) <;> rfl))) | ((with_reducible apply gz1); (focus first | rfl | (simp (disch := omega) only [go_sem, ↓reduceIte, Nat.reduceAdd, Nat.reduceSub, Nat.reduceMul, Nat.reduceEqDiff, Nat.reduceLT, Nat.reduceLeDiff, Nat.reduceBEq, Int.reduceNeg, Int.reduceLT, Int.reduceLE, Int.reduceEq, reduceCtorEq]; done))) | ((with_reducible apply r_drawD (pickR []) [] []); (focus kernel_rfl); (focus rfl); (focus kernel_rfl); (focus (simp only [List.length_cons, List.length_nil, Nat.reduceAdd]; rfl)))))
  simp (disch := omega) only [go_sem, ↓reduceIte, Nat.reduceAdd, Nat.reduceSub, Nat.reduceMul, Nat.reduceEqDiff, Nat.reduceLT, Nat.reduceLeDiff, Nat.reduceBEq, Int.reduceNeg, Int.reduceLT, Int.reduceLE, Int.reduceEq, reduceCtorEq]


/-- The order of two integers. -/
def cmpZ (a b : Int) : Int := if a < b then -1 else if b < a then 1 else 0



theorem intMul (s t : Bool) (n m : Nat) (hn : (toL n).length ≤ 100000000) (hm : (toL m).length ≤ 100000000) : Pure Tryd.prog 70 [intA s n, intA t m] (intZ (zI s n * zI t m)) := by
  have e : zI s n * zI t m = zI (s != t) (n * m) := by cases s <;> cases t <;> simp [zI, Int.mul_neg, Int.neg_mul]
  have lm : (toL (n * m)).length ≤ 1000000000 := by
    have h5 : (toL (n * m)).length ≤ (toL n).length + (toL m).length := by
      rw [toL_len_lt, Nat.pow_add]
      exact Nat.mul_lt_mul'' (toL_len_lt.1 (Nat.le_refl _)) (toL_len_lt.1 (Nat.le_refl _))
    omega
  rw [e]
  have hne : (!(s == t)) = (s != t) := rfl
  refine pure_intro (tok := 0) Tryd.func70 rfl Tryd.ntmps70 Tryd.results70 Tryd.call70 (by rfl) (by simp) ?_
  (repeat' (first | (with_reducible first | refine stp ?_ | apply gx1 | apply gx2 | apply gx3 | apply gx4 | apply gx5 | apply gx6 | apply gx7 | apply gy8 | apply gz2 | apply gz3 | refine gw0 (nMul n m hn hm) ?_ ?_ | refine gw3 (nMul n m hn hm) ?_ ?_ ?_ | refine gw0 (intMade (s != t) (n * m) lm) ?_ ?_ | refine gw3 (intMade (s != t) (n * m) lm) ?_ ?_ ?_) | (with_reducible refine all_v ?_; intro _) | ((with_reducible refine gE ?_); (try simp (disch := omega) only [go_sem, ↓reduceIte, Nat.reduceAdd, Nat.reduceSub, Nat.reduceMul, Nat.reduceEqDiff, Nat.reduceLT, Nat.reduceLeDiff, Nat.reduceBEq, Int.reduceNeg, Int.reduceLT, Int.reduceLE, Int.reduceEq, reduceCtorEq, hne]) <;> first | rfl | omega) | with_reducible refine t_in_other (by decide) ?_ | ((with_reducible apply gy1); iterate 3 focus rfl) | ((with_reducible apply gy2); iterate 3 focus rfl) | ((with_reducible apply gy3); iterate 2 focus rfl) | ((with_reducible apply gy4); iterate 1 focus rfl) | ((with_reducible apply gy5); iterate 4 focus rfl) | ((with_reducible apply gy6); iterate 4 focus rfl) | ((with_reducible apply d_bar); iterate 3 focus rfl) | ((with_reducible apply q_pub); iterate 1 focus rfl) | ((with_reducible apply gy7); iterate 1 focus rfl) | ((with_reducible apply gy9); (focus ((with_reducible refine gE ?_); (try simp (disch := omega) only [go_sem, ↓reduceIte, Nat.reduceAdd, Nat.reduceSub, Nat.reduceMul, Nat.reduceEqDiff, Nat.reduceLT, Nat.reduceLeDiff, Nat.reduceBEq, Int.reduceNeg, Int.reduceLT, Int.reduceLE, Int.reduceEq, reduceCtorEq, hne]) <;> rfl))) | ((with_reducible apply gz1); (focus first | rfl | (simp (disch := omega) only [go_sem, ↓reduceIte, Nat.reduceAdd, Nat.reduceSub, Nat.reduceMul, Nat.reduceEqDiff, Nat.reduceLT, Nat.reduceLeDiff, Nat.reduceBEq, Int.reduceNeg, Int.reduceLT, Int.reduceLE, Int.reduceEq, reduceCtorEq, hne]; done))) | ((with_reducible apply r_drawD (pickR [(9, lim (toL (n * m))), (10, intZ (zI (s != t) (n * m)))]) [11] []); (focus kernel_rfl); (focus rfl); (focus kernel_rfl); (focus (simp only [List.length_cons, List.length_nil, Nat.reduceAdd]; rfl)))))
  simp (disch := omega) only [go_sem, ↓reduceIte, Nat.reduceAdd, Nat.reduceSub, Nat.reduceMul, Nat.reduceEqDiff, Nat.reduceLT, Nat.reduceLeDiff, Nat.reduceBEq, Int.reduceNeg, Int.reduceLT, Int.reduceLE, Int.reduceEq, reduceCtorEq]

set_option maxHeartbeats 1000000 in
theorem intAdd (s t : Bool) (n m : Nat) (hn : (toL n).length ≤ 100000000) (hm : (toL m).length ≤ 100000000) : Pure Tryd.prog 119 [intA s n, intA t m] (intZ (zI s n + zI t m)) := by
  by_cases hst : s = t
  · subst hst
    have e : zI s n + zI s m = zI s (n + m) := by cases s <;> simp [zI] <;> omega
    have la : (toL (n + m)).length ≤ 1000000000 := by
      have h5 : (toL (n + m)).length ≤ max (toL n).length (toL m).length + 1 := by
        rw [toL_len_lt, Nat.pow_succ]
        have h1 := toL_len_lt.1 (Nat.le_max_left (toL n).length (toL m).length)
        have h2 := toL_len_lt.1 (Nat.le_max_right (toL n).length (toL m).length)
        generalize 65536 ^ max (toL n).length (toL m).length = p at *
        omega
      omega
    rw [e]
    have hb : (s == s) = true := by cases s <;> rfl
    refine pure_intro (tok := 0) Tryd.func119 rfl Tryd.ntmps119 Tryd.results119 Tryd.call119 (by rfl) (by simp) ?_
    (repeat' (first | (with_reducible first | refine stp ?_ | apply gx1 | apply gx2 | apply gx3 | apply gx4 | apply gx5 | apply gx6 | apply gx7 | apply gy8 | apply gz2 | apply gz3 | refine gw0 (nAdd n m hn hm) ?_ ?_ | refine gw3 (nAdd n m hn hm) ?_ ?_ ?_ | refine gw0 (intMade s (n + m) la) ?_ ?_ | refine gw3 (intMade s (n + m) la) ?_ ?_ ?_) | (with_reducible refine all_v ?_; intro _) | ((with_reducible refine gE ?_); (try simp (disch := omega) only [go_sem, ↓reduceIte, Nat.reduceAdd, Nat.reduceSub, Nat.reduceMul, Nat.reduceEqDiff, Nat.reduceLT, Nat.reduceLeDiff, Nat.reduceBEq, Int.reduceNeg, Int.reduceLT, Int.reduceLE, Int.reduceEq, reduceCtorEq, hb]) <;> first | rfl | omega) | with_reducible refine t_in_other (by decide) ?_ | ((with_reducible apply gy1); iterate 3 focus rfl) | ((with_reducible apply gy2); iterate 3 focus rfl) | ((with_reducible apply gy3); iterate 2 focus rfl) | ((with_reducible apply gy4); iterate 1 focus rfl) | ((with_reducible apply gy5); iterate 4 focus rfl) | ((with_reducible apply gy6); iterate 4 focus rfl) | ((with_reducible apply d_bar); iterate 3 focus rfl) | ((with_reducible apply q_pub); iterate 1 focus rfl) | ((with_reducible apply gy7); iterate 1 focus rfl) | ((with_reducible apply gy9); (focus ((with_reducible refine gE ?_); (try simp (disch := omega) only [go_sem, ↓reduceIte, Nat.reduceAdd, Nat.reduceSub, Nat.reduceMul, Nat.reduceEqDiff, Nat.reduceLT, Nat.reduceLeDiff, Nat.reduceBEq, Int.reduceNeg, Int.reduceLT, Int.reduceLE, Int.reduceEq, reduceCtorEq, hb]) <;> rfl))) | ((with_reducible apply gz1); (focus first | rfl | (simp (disch := omega) only [go_sem, ↓reduceIte, Nat.reduceAdd, Nat.reduceSub, Nat.reduceMul, Nat.reduceEqDiff, Nat.reduceLT, Nat.reduceLeDiff, Nat.reduceBEq, Int.reduceNeg, Int.reduceLT, Int.reduceLE, Int.reduceEq, reduceCtorEq, hb]; done))) | ((with_reducible apply r_drawD (pickR [(6, lim (toL (n + m))), (7, intZ (zI s (n + m)))]) [8] []); (focus kernel_rfl); (focus rfl); (focus kernel_rfl); (focus (simp only [List.length_cons, List.length_nil, Nat.reduceAdd]; rfl)))))
    simp (disch := omega) only [go_sem, ↓reduceIte, Nat.reduceAdd, Nat.reduceSub, Nat.reduceMul, Nat.reduceEqDiff, Nat.reduceLT, Nat.reduceLeDiff, Nat.reduceBEq, Int.reduceNeg, Int.reduceLT, Int.reduceLE, Int.reduceEq, reduceCtorEq]
  · have hb : (s == t) = false := by cases s <;> cases t <;> first | rfl | exact absurd rfl hst
    have ht : t = !s := by cases s <;> cases t <;> first | rfl | exact absurd rfl hst
    by_cases hlt : n < m
    · have hc : cmpN n m = -1 := if_pos hlt
      have e : zI s n + zI t m = zI t (m - n) := by rw [ht]; cases s <;> simp [zI] <;> omega
      have ls : (toL (m - n)).length ≤ 1000000000 := Nat.le_trans (toL_len_mono (Nat.sub_le _ _)) (by omega)
      have cs := nSub m n hm hn
      rw [if_neg (by omega), if_neg (by omega)] at cs
      rw [e]
      refine pure_intro (tok := 0) Tryd.func119 rfl Tryd.ntmps119 Tryd.results119 Tryd.call119 (by rfl) (by simp) ?_
      (repeat' (first | (with_reducible first | refine stp ?_ | apply gx1 | apply gx2 | apply gx3 | apply gx4 | apply gx5 | apply gx6 | apply gx7 | apply gy8 | apply gz2 | apply gz3 | refine gw0 (nCmp n m hn hm) ?_ ?_ | refine gw3 (nCmp n m hn hm) ?_ ?_ ?_ | refine gw0 (cs) ?_ ?_ | refine gw3 (cs) ?_ ?_ ?_ | refine gw0 (intMade t (m - n) ls) ?_ ?_ | refine gw3 (intMade t (m - n) ls) ?_ ?_ ?_) | (with_reducible refine all_v ?_; intro _) | ((with_reducible refine gE ?_); (try simp (disch := omega) only [go_sem, ↓reduceIte, Nat.reduceAdd, Nat.reduceSub, Nat.reduceMul, Nat.reduceEqDiff, Nat.reduceLT, Nat.reduceLeDiff, Nat.reduceBEq, Int.reduceNeg, Int.reduceLT, Int.reduceLE, Int.reduceEq, reduceCtorEq, hb, hc]) <;> first | rfl | omega) | with_reducible refine t_in_other (by decide) ?_ | ((with_reducible apply gy1); iterate 3 focus rfl) | ((with_reducible apply gy2); iterate 3 focus rfl) | ((with_reducible apply gy3); iterate 2 focus rfl) | ((with_reducible apply gy4); iterate 1 focus rfl) | ((with_reducible apply gy5); iterate 4 focus rfl) | ((with_reducible apply gy6); iterate 4 focus rfl) | ((with_reducible apply d_bar); iterate 3 focus rfl) | ((with_reducible apply q_pub); iterate 1 focus rfl) | ((with_reducible apply gy7); iterate 1 focus rfl) | ((with_reducible apply gy9); (focus ((with_reducible refine gE ?_); (try simp (disch := omega) only [go_sem, ↓reduceIte, Nat.reduceAdd, Nat.reduceSub, Nat.reduceMul, Nat.reduceEqDiff, Nat.reduceLT, Nat.reduceLeDiff, Nat.reduceBEq, Int.reduceNeg, Int.reduceLT, Int.reduceLE, Int.reduceEq, reduceCtorEq, hb, hc]) <;> rfl))) | ((with_reducible apply gz1); (focus first | rfl | (simp (disch := omega) only [go_sem, ↓reduceIte, Nat.reduceAdd, Nat.reduceSub, Nat.reduceMul, Nat.reduceEqDiff, Nat.reduceLT, Nat.reduceLeDiff, Nat.reduceBEq, Int.reduceNeg, Int.reduceLT, Int.reduceLE, Int.reduceEq, reduceCtorEq, hb, hc]; done))) | ((with_reducible apply r_drawD (pickR []) [] []); (focus kernel_rfl); (focus rfl); (focus kernel_rfl); (focus (simp only [List.length_cons, List.length_nil, Nat.reduceAdd]; rfl)))))
      simp (disch := omega) only [go_sem, ↓reduceIte, Nat.reduceAdd, Nat.reduceSub, Nat.reduceMul, Nat.reduceEqDiff, Nat.reduceLT, Nat.reduceLeDiff, Nat.reduceBEq, Int.reduceNeg, Int.reduceLT, Int.reduceLE, Int.reduceEq, reduceCtorEq]
    · have hc : 0 ≤ cmpN n m := by unfold cmpN; rw [if_neg hlt]; split <;> omega
      have e : zI s n + zI t m = zI s (n - m) := by rw [ht]; cases s <;> simp [zI] <;> omega
      have ls : (toL (n - m)).length ≤ 1000000000 := Nat.le_trans (toL_len_mono (Nat.sub_le _ _)) (by omega)
      have cs := nSub n m hn hm
      rw [if_neg (by omega), if_neg (by omega)] at cs
      rw [e]
      refine pure_intro (tok := 0) Tryd.func119 rfl Tryd.ntmps119 Tryd.results119 Tryd.call119 (by rfl) (by simp) ?_
      (repeat' (first | (with_reducible first | refine stp ?_ | apply gx1 | apply gx2 | apply gx3 | apply gx4 | apply gx5 | apply gx6 | apply gx7 | apply gy8 | apply gz2 | apply gz3 | refine gw0 (nCmp n m hn hm) ?_ ?_ | refine gw3 (nCmp n m hn hm) ?_ ?_ ?_ | refine gw0 (cs) ?_ ?_ | refine gw3 (cs) ?_ ?_ ?_ | refine gw0 (intMade s (n - m) ls) ?_ ?_ | refine gw3 (intMade s (n - m) ls) ?_ ?_ ?_) | (with_reducible refine all_v ?_; intro _) | ((with_reducible refine gE ?_); (try simp (disch := omega) only [go_sem, ↓reduceIte, Nat.reduceAdd, Nat.reduceSub, Nat.reduceMul, Nat.reduceEqDiff, Nat.reduceLT, Nat.reduceLeDiff, Nat.reduceBEq, Int.reduceNeg, Int.reduceLT, Int.reduceLE, Int.reduceEq, reduceCtorEq, hb]) <;> first | rfl | omega) | with_reducible refine t_in_other (by decide) ?_ | ((with_reducible apply gy1); iterate 3 focus rfl) | ((with_reducible apply gy2); iterate 3 focus rfl) | ((with_reducible apply gy3); iterate 2 focus rfl) | ((with_reducible apply gy4); iterate 1 focus rfl) | ((with_reducible apply gy5); iterate 4 focus rfl) | ((with_reducible apply gy6); iterate 4 focus rfl) | ((with_reducible apply d_bar); iterate 3 focus rfl) | ((with_reducible apply q_pub); iterate 1 focus rfl) | ((with_reducible apply gy7); iterate 1 focus rfl) | ((with_reducible apply gy9); (focus ((with_reducible refine gE ?_); (try simp (disch := omega) only [go_sem, ↓reduceIte, Nat.reduceAdd, Nat.reduceSub, Nat.reduceMul, Nat.reduceEqDiff, Nat.reduceLT, Nat.reduceLeDiff, Nat.reduceBEq, Int.reduceNeg, Int.reduceLT, Int.reduceLE, Int.reduceEq, reduceCtorEq, hb]) <;> rfl))) | ((with_reducible apply gz1); (focus first | rfl | (simp (disch := omega) only [go_sem, ↓reduceIte, Nat.reduceAdd, Nat.reduceSub, Nat.reduceMul, Nat.reduceEqDiff, Nat.reduceLT, Nat.reduceLeDiff, Nat.reduceBEq, Int.reduceNeg, Int.reduceLT, Int.reduceLE, Int.reduceEq, reduceCtorEq, hb]; done))) | ((with_reducible apply r_drawD (pickR []) [] []); (focus kernel_rfl); (focus rfl); (focus kernel_rfl); (focus (simp only [List.length_cons, List.length_nil, Nat.reduceAdd]; rfl)))))
      simp (disch := omega) only [go_sem, ↓reduceIte, Nat.reduceAdd, Nat.reduceSub, Nat.reduceMul, Nat.reduceEqDiff, Nat.reduceLT, Nat.reduceLeDiff, Nat.reduceBEq, Int.reduceNeg, Int.reduceLT, Int.reduceLE, Int.reduceEq, reduceCtorEq]


end Go.Proofs.YtjiffehkemeloaaDoor
end

section
namespace Go.Proofs.YtjiffehkemeloaaDoor
open Go Go.RowKit Go.Pg
set_option linter.unusedSimpArgs false
set_option linter.unusedVariables false
set_option maxRecDepth 20000

/-- What reads like a also reads like b, inside structs too. -/
inductive Vk : AV → AV → Prop
  | refl (a : AV) : Vk a a
  | nil (m : Nat) : Vk (.v (.slice none 0 0)) (.sl m [])
  | agg (xs ys : List AV) (hl : xs.length = ys.length) (h : ∀ (j : Nat) (a b : AV), xs[j]? = some a → ys[j]? = some b → Vk a b) : Vk (.agg xs) (.agg ys)
  | tup (xs ys : List AV) (hl : xs.length = ys.length) (h : ∀ (j : Nat) (a b : AV), xs[j]? = some a → ys[j]? = some b → Vk a b) : Vk (.tup xs) (.tup ys)
theorem Vk.rd {w : World} {imm : Imm} {a b : AV} (h : Vk a b) : ∀ {x : Value}, Rd w imm a x → Rd w imm b x := by
  induction h with
  | refl a => exact fun h => h
  | nil m =>
    intro x h
    cases h
    exact .sl m [] none 0 (fun _ => undef) (by simp) (by simp) (Nat.le_refl _) (by simp) (by simp) (by simp [flat])
  | agg xs ys hl _ ih =>
    intro x h
    cases h with
    | agg _ vs hl2 hr =>
      refine .agg ys vs (by omega) fun j b x h1 h2 => ?_
      have hj : j < xs.length := by rw [hl]; exact (List.getElem?_eq_some_iff.1 h1).1
      exact ih j xs[j] b (List.getElem?_eq_getElem hj) h1 (hr j xs[j] x (List.getElem?_eq_getElem hj) h2)
  | tup xs ys hl _ ih =>
    intro x h
    cases h with
    | tup _ vs hl2 hr =>
      refine .tup ys vs (by omega) fun j b x h1 h2 => ?_
      have hj : j < xs.length := by rw [hl]; exact (List.getElem?_eq_some_iff.1 h1).1
      exact ih j xs[j] b (List.getElem?_eq_getElem hj) h1 (hr j xs[j] x (List.getElem?_eq_getElem hj) h2)
/-- Likewise for lists. -/
def VkL (xs ys : List AV) : Prop := xs.length = ys.length ∧ ∀ (j : Nat) (a b : AV), xs[j]? = some a → ys[j]? = some b → Vk a b
theorem VkL.nil : VkL [] [] := ⟨rfl, fun j a b h => by simp at h⟩
theorem VkL.cons {a b : AV} {xs ys : List AV} (h : Vk a b) (t : VkL xs ys) : VkL (a :: xs) (b :: ys) := by
  refine ⟨by simp [t.1], fun j x y h1 h2 => ?_⟩
  cases j with
  | zero => simp at h1 h2; subst h1; subst h2; exact h
  | succ j => exact t.2 j x y (by simpa using h1) (by simpa using h2)
theorem VkL.refl (xs : List AV) : VkL xs xs := ⟨rfl, fun j a b h1 h2 => by rw [h1] at h2; cases h2; exact .refl _⟩
theorem Vk.aggL {xs ys : List AV} (h : VkL xs ys) : Vk (.agg xs) (.agg ys) := .agg xs ys h.1 h.2
theorem Vk.tupL {xs ys : List AV} (h : VkL xs ys) : Vk (.tup xs) (.tup ys) := .tup xs ys h.1 h.2
theorem pure_vk {P : Program} {f : FuncId} {args args' : List AV} {r r' : AV} (h : Pure P f args' r) (ha : VkL args args') (hw : Vk r r') : Pure P f args r' := by
  refine ⟨h.1, fun w imm vs h1 h2 h3 => (h.2 w imm vs h1 (by rw [← ha.1]; exact h2) fun j b x e1 e2 => ?_).mono fun e w' he => ?_⟩
  · have hj : j < args.length := by rw [ha.1]; exact (List.getElem?_eq_some_iff.1 e1).1
    exact (ha.2 j args[j] b (List.getElem?_eq_getElem hj) e1).rd (h3 j args[j] x (List.getElem?_eq_getElem hj) e2)
  · obtain ⟨x, imm', e1, e2, e3⟩ := he
    exact ⟨x, imm', e1, hw.rd e2, e3⟩
theorem pure_vkA {P : Program} {f : FuncId} {args args' : List AV} {r : AV} (h : Pure P f args' r) (ha : VkL args args') : Pure P f args r := pure_vk h ha (.refl _)
theorem pure_vkR {P : Program} {f : FuncId} {args : List AV} {r r' : AV} (h : Pure P f args r) (hw : Vk r r') : Pure P f args r' := pure_vk h (.refl _) hw

theorem lg_mul (n m : Nat) : (toL (n * m)).length ≤ (toL n).length + (toL m).length := by
  rw [toL_len_lt, Nat.pow_add]
  exact Nat.mul_lt_mul'' (toL_len_lt.1 (Nat.le_refl _)) (toL_len_lt.1 (Nat.le_refl _))
theorem lg_add (n m : Nat) : (toL (n + m)).length ≤ max ((toL n).length) ((toL m).length) + 1 := by
  rw [toL_len_lt, Nat.pow_succ]
  have h1 := toL_len_lt.1 (Nat.le_max_left ((toL n).length) ((toL m).length))
  have h2 := toL_len_lt.1 (Nat.le_max_right ((toL n).length) ((toL m).length))
  generalize 65536 ^ max ((toL n).length) ((toL m).length) = p at *
  omega
theorem lg_mono {n m : Nat} (h : n ≤ m) : (toL n).length ≤ (toL m).length := toL_len_mono h
theorem lg_one : (toL 1).length = 1 := by rw [toL_pos (by omega)]; simp [toL_zero]
theorem toL_one : toL 1 = [1] := by rw [toL_pos (by omega)]; simp [toL_zero]

/-- A rational number. -/
abbrev ratQ (q : Rat) : AV := .agg [.v (.bool (decide (q.num < 0))), lim (toL q.num.natAbs), lim (toL q.den)]
/-- Sign, and what is above and below the line, in any form. -/
abbrev ratA (s : Bool) (n d : Nat) : AV := .agg [.v (.bool s), lim (toL n), lim (toL d)]
/-- Numbers of at most k limbs above and below the line. -/
def Sz (q : Rat) (k : Nat) : Prop := (toL q.num.natAbs).length ≤ k ∧ (toL q.den).length ≤ k
theorem Sz.mono {q : Rat} {k j : Nat} (h : Sz q k) (hk : k ≤ j) : Sz q j := ⟨Nat.le_trans h.1 hk, Nat.le_trans h.2 hk⟩
theorem ratQ_mk (z : Int) (m : Nat) (hm : m ≠ 0) : ratQ (mkRat z m) = .agg [.v (.bool (decide (z < 0))), lim (toL (z.natAbs / Nat.gcd z.natAbs m)), lim (toL (m / Nat.gcd z.natAbs m))] := by
  unfold ratQ
  rw [Rat.num_mkRat, Rat.den_mkRat, if_neg hm, if_neg hm, Nat.gcd_comm m z.natAbs]
  have hg : 0 < Nat.gcd z.natAbs m := Nat.gcd_pos_of_pos_right _ (by omega)
  have hd : ((Nat.gcd z.natAbs m : Nat) : Int) ∣ z := Int.ofNat_dvd_left.2 (Nat.gcd_dvd_left _ _)
  generalize Nat.gcd z.natAbs m = g at *
  obtain ⟨k, hk⟩ := hd
  have hgz : (g : Int) ≠ 0 := by omega
  have e1 : z / (g : Int) = k := by rw [hk, Int.mul_ediv_cancel_left _ hgz]
  have e2 : z.natAbs / g = k.natAbs := by rw [hk, Int.natAbs_mul, Int.natAbs_natCast, Nat.mul_div_cancel_left _ hg]
  have e3 : (z < 0) ↔ (k < 0) := by
    rw [hk]
    constructor
    · intro h
      rcases (by omega : k < 0 ∨ 0 ≤ k) with h1 | h1
      · exact h1
      · have := Int.mul_nonneg (show (0 : Int) ≤ g by omega) h1
        omega
    · intro h
      exact Int.mul_neg_of_pos_of_neg (by omega) h
  rw [e1, e2]
  simp only [e3]
theorem Sz.mk {z : Int} {m k : Nat} (hz : (toL z.natAbs).length ≤ k) (hm : (toL m).length ≤ k) (hk : 1 ≤ k) : Sz (mkRat z m) k := by
  unfold Sz
  rw [Rat.num_mkRat, Rat.den_mkRat]
  by_cases h : m = 0
  · rw [if_pos h, if_pos h]
    refine ⟨?_, by rw [lg_one]; exact hk⟩
    show (toL 0).length ≤ k
    rw [toL_zero]; simp
  · rw [if_neg h, if_neg h]
    refine ⟨Nat.le_trans (lg_mono ?_) hz, Nat.le_trans (lg_mono (Nat.div_le_self _ _)) hm⟩
    have hd : ((Nat.gcd m z.natAbs : Nat) : Int) ∣ z := Int.ofNat_dvd_left.2 (Nat.gcd_dvd_right _ _)
    have hg : 0 < Nat.gcd m z.natAbs := Nat.gcd_pos_of_pos_left _ (by omega)
    generalize Nat.gcd m z.natAbs = g at *
    obtain ⟨c, hc⟩ := hd
    rw [hc, Int.mul_ediv_cancel_left _ (by omega), Int.natAbs_mul, Int.natAbs_natCast]
    exact Nat.le_mul_of_pos_left _ hg
theorem natAbs_add_le (a b : Int) : (a + b).natAbs ≤ a.natAbs + b.natAbs := by omega
theorem Sz.pos {q : Rat} {k : Nat} (h : Sz q k) : 1 ≤ k := by
  have h1 := toL_len_pos.2 q.den_pos
  have h2 := h.2
  omega
theorem lg_cross (a b : Rat) {j k : Nat} (ha : Sz a j) (hb : Sz b k) : (toL (a.num * b.den).natAbs).length ≤ j + k := by
  rw [Int.natAbs_mul, Int.natAbs_natCast]
  exact Nat.le_trans (lg_mul _ _) (Nat.add_le_add ha.1 hb.2)
theorem Sz.mul {a b : Rat} {j k : Nat} (ha : Sz a j) (hb : Sz b k) : Sz (a * b) (j + k) := by
  rw [Rat.mul_def']
  refine Sz.mk ?_ (Nat.le_trans (lg_mul _ _) (Nat.add_le_add ha.2 hb.2)) (by have := ha.pos; omega)
  rw [Int.natAbs_mul]
  exact Nat.le_trans (lg_mul _ _) (Nat.add_le_add ha.1 hb.1)
theorem Sz.add {a b : Rat} {j k : Nat} (ha : Sz a j) (hb : Sz b k) : Sz (a + b) (j + k + 1) := by
  rw [Rat.add_def']
  refine Sz.mk ?_ (Nat.le_trans (lg_mul _ _) (by have := ha.2; have := hb.2; omega)) (by omega)
  have h1 := lg_cross a b ha hb
  have h2 := lg_cross b a hb ha
  have h3 := lg_mono (natAbs_add_le (a.num * b.den) (b.num * a.den))
  have h4 := lg_add (a.num * b.den).natAbs (b.num * a.den).natAbs
  omega
theorem Sz.neg {a : Rat} {j : Nat} (ha : Sz a j) : Sz (-a) j := by
  unfold Sz
  rw [Rat.neg_num, Rat.neg_den, Int.natAbs_neg]
  exact ha
theorem Sz.sub {a b : Rat} {j k : Nat} (ha : Sz a j) (hb : Sz b k) : Sz (a - b) (j + k + 1) := by
  rw [Rat.sub_eq_add_neg]
  exact ha.add hb.neg
theorem Sz.inv {a : Rat} {j : Nat} (ha : Sz a j) : Sz (a⁻¹) j := by
  unfold Sz
  rw [Rat.num_inv, Rat.den_inv]
  by_cases h : a.num = 0
  · rw [if_pos h, h]
    refine ⟨?_, by rw [lg_one]; exact ha.pos⟩
    have : (Int.sign 0 * (a.den : Int)).natAbs = 0 := by simp
    rw [this]
    show (toL 0).length ≤ j
    rw [toL_zero]; simp
  · rw [if_neg h]
    refine ⟨?_, ha.1⟩
    rw [Int.natAbs_mul, Int.natAbs_natCast, Int.natAbs_sign_of_ne_zero h, Nat.one_mul]
    exact ha.2
theorem Sz.div {a b : Rat} {j k : Nat} (ha : Sz a j) (hb : Sz b k) : Sz (a / b) (j + k) := ha.mul hb.inv
theorem Sz.int {z : Int} {k : Nat} (h : (toL z.natAbs).length ≤ k) (hk : 1 ≤ k) : Sz (z : Rat) k := ⟨h, by show (toL 1).length ≤ k; rw [lg_one]; exact hk⟩

/-- The order of two rational numbers. -/
def cmpQ (a b : Rat) : Int := if a < b then -1 else if b < a then 1 else 0
theorem cmpQ_z (a b : Rat) : cmpQ a b = cmpZ (a.num * b.den) (b.num * a.den) := by
  unfold cmpQ cmpZ
  simp only [Rat.lt_iff]

theorem iMul (z w : Int) (hz : (toL z.natAbs).length ≤ 100000000) (hw : (toL w.natAbs).length ≤ 100000000) : Pure Tryd.prog 70 [intZ z, intZ w] (intZ (z * w)) := by
  have := intMul (decide (z < 0)) (decide (w < 0)) z.natAbs w.natAbs hz hw
  rwa [zI_abs, zI_abs] at this
theorem iMulN (z : Int) (d : Nat) (hz : (toL z.natAbs).length ≤ 100000000) (hw : (toL d).length ≤ 100000000) : Pure Tryd.prog 70 [intZ z, intA false d] (intZ (z * d)) := by
  have := intMul (decide (z < 0)) false z.natAbs d hz hw
  rw [zI_abs] at this
  exact this
theorem iAdd (z w : Int) (hz : (toL z.natAbs).length ≤ 100000000) (hw : (toL w.natAbs).length ≤ 100000000) : Pure Tryd.prog 119 [intZ z, intZ w] (intZ (z + w)) := by
  have := intAdd (decide (z < 0)) (decide (w < 0)) z.natAbs w.natAbs hz hw
  rwa [zI_abs, zI_abs] at this
theorem iAddA (z : Int) (t : Bool) (m : Nat) (hz : (toL z.natAbs).length ≤ 100000000) (hm : (toL m).length ≤ 100000000) : Pure Tryd.prog 119 [intZ z, intA t m] (intZ (z + zI t m)) := by
  have := intAdd (decide (z < 0)) t z.natAbs m hz hm
  rwa [zI_abs] at this
theorem iAdd0 (t : Bool) (m : Nat) (hm : (toL m).length ≤ 100000000) : Pure Tryd.prog 119 [.agg [.v (.bool false), .v (.slice none 0 0)], intA t m] (intZ (zI t m)) := by
  have h := iAddA 0 t m (by show (toL 0).length ≤ _; rw [toL_zero]; simp) hm
  rw [Int.zero_add] at h
  refine pure_vkA h (.cons (.aggL (.cons (.refl _) (.cons ?_ .nil))) (.cons (.refl _) .nil))
  show Vk _ (.sl 1 (u16s (toL 0)))
  rw [toL_zero]
  exact .nil 1
def sumC (z w : Int) : Nat → List AV
  | 0 => [.v (.bool false), .v (.slice none 0 0)]
  | 1 => [.v (.bool (decide (z < 0))), lim (toL z.natAbs)]
  | _ => [.v (.bool (decide (z + w < 0))), lim (toL (z + w).natAbs)]
theorem u16s_c (x : Nat) (l : List Nat) : u16s (x :: l) = AV.v (.int .u16 (x : Int)) :: u16s l := rfl
theorem szShape : szOf Tryd.prog 131 = some 2 := by kernel_rfl
theorem zShape : zeroOf Tryd.prog 131 = some (.agg #[.int .i64 0, .int .u16 0]) := by kernel_rfl
theorem eqShape : eqTy Tryd.prog 131 = true := by kernel_rfl
end Go.Proofs.YtjiffehkemeloaaDoor
end

section
namespace Go.Proofs.YtjiffehkemeloaaDoor
open Go Go.RowKit Go.Pg
set_option linter.unusedSimpArgs false
set_option linter.unusedVariables false
set_option maxRecDepth 20000
attribute [local go_sem] Tryd.underlying56 Tryd.underlying3 Tryd.underlying91 Tryd.underlying81 Tryd.underlying4 Tryd.underlying58 Tryd.underlying60 Tryd.underlying41 Tryd.underlying131 sz3 by3 z3 szL byL zL szB zB szNat zNat szInt zInt szRat zRat szShape zShape eqShape Tryd.underlying141
theorem intOf (n : Nat) (hn : n < 9223372036854775808) : Pure Tryd.prog 72 [.v (.int .i64 (n : Int))] (intA false n) := by
  have l4 : (toL n).length ≤ 4 := toL_len_lt.2 (by omega)
  have hm := intMade false n (by omega)
  rw [intZ_of, Bool.false_and] at hm
  refine pure_intro (tok := 0) Tryd.func72 rfl Tryd.ntmps72 Tryd.results72 Tryd.call72 (by rfl) (by simp) ?_
  (repeat' (first | (with_reducible first | refine stp ?_ | apply gx1 | apply gx2 | apply gx3 | apply gx4 | apply gx5 | apply gx6 | apply gx7 | refine gw0 (natOf n (by omega)) ?_ ?_ | refine gw0 (hm) ?_ ?_) | (with_reducible refine all_v ?_; intro _) | ((with_reducible refine gE ?_); (try simp (disch := omega) only [go_sem, ↓reduceIte, Nat.reduceAdd, Nat.reduceSub, Nat.reduceMul, Nat.reduceEqDiff, Nat.reduceLT, Nat.reduceLeDiff, Nat.reduceBEq, Int.reduceNeg, Int.reduceLT, Int.reduceLE, Int.reduceEq, reduceCtorEq]) <;> first | rfl | omega) | with_reducible refine t_in_other (by decide) ?_))
  simp (disch := omega) only [go_sem, ↓reduceIte, Nat.reduceAdd, Nat.reduceSub, Nat.reduceMul, Nat.reduceEqDiff, Nat.reduceLT, Nat.reduceLeDiff, Nat.reduceBEq, Int.reduceNeg, Int.reduceLT, Int.reduceLE, Int.reduceEq, reduceCtorEq]

theorem ratUnit : Pure Tryd.prog 73 [] (lim (toL 1)) := by
  rw [toL_one]
  refine pure_intro (tok := 0) Tryd.func73 rfl Tryd.ntmps73 Tryd.results73 Tryd.call73 (by rfl) (by simp) ?_
  (repeat' (first | (with_reducible first | refine stp ?_ | apply gx1 | apply gx2 | apply gx3 | apply gx4 | apply gx5 | apply gx6 | apply gx7) | (with_reducible refine all_v ?_; intro _) | ((with_reducible refine gE ?_); (try simp (disch := omega) only [go_sem, ↓reduceIte, Nat.reduceAdd, Nat.reduceSub, Nat.reduceMul, Nat.reduceEqDiff, Nat.reduceLT, Nat.reduceLeDiff, Nat.reduceBEq, Int.reduceNeg, Int.reduceLT, Int.reduceLE, Int.reduceEq, reduceCtorEq]) <;> first | rfl | omega) | with_reducible refine t_in_other (by decide) ?_))
  exact gC

theorem ratWhole (n : Nat) : Pure Tryd.prog 112 [lim (toL n)] (intA false n) := by
  refine pure_intro (tok := 0) Tryd.func112 rfl Tryd.ntmps112 Tryd.results112 Tryd.call112 (by rfl) (by simp) ?_
  (repeat' (first | (with_reducible first | refine stp ?_ | apply gx1 | apply gx2 | apply gx3 | apply gx4 | apply gx5 | apply gx6 | apply gx7) | (with_reducible refine all_v ?_; intro _) | ((with_reducible refine gE ?_); (try simp (disch := omega) only [go_sem, ↓reduceIte, Nat.reduceAdd, Nat.reduceSub, Nat.reduceMul, Nat.reduceEqDiff, Nat.reduceLT, Nat.reduceLeDiff, Nat.reduceBEq, Int.reduceNeg, Int.reduceLT, Int.reduceLE, Int.reduceEq, reduceCtorEq]) <;> first | rfl | omega) | with_reducible refine t_in_other (by decide) ?_))
  simp (disch := omega) only [go_sem, ↓reduceIte, Nat.reduceAdd, Nat.reduceSub, Nat.reduceMul, Nat.reduceEqDiff, Nat.reduceLT, Nat.reduceLeDiff, Nat.reduceBEq, Int.reduceNeg, Int.reduceLT, Int.reduceLE, Int.reduceEq, reduceCtorEq]

theorem ratOne (n : Nat) (hn : (toL n).length ≤ 100000000) : Pure Tryd.prog 90 [lim (toL n)] (.v (.bool (decide (n = 1)))) := by
  by_cases h0 : n = 0
  · subst h0
    rw [toL_zero]
    refine pure_intro (tok := 0) Tryd.func90 rfl Tryd.ntmps90 Tryd.results90 Tryd.call90 (by rfl) (by simp) ?_
    (repeat' (first | (with_reducible first | refine stp ?_ | apply gx1 | apply gx2 | apply gx3 | apply gx4 | apply gx5 | apply gx6 | apply gx7 | apply gy8 | apply gz2 | apply gz3) | (with_reducible refine all_v ?_; intro _) | ((with_reducible refine gE ?_); (try simp (disch := omega) only [go_sem, ↓reduceIte, Nat.reduceAdd, Nat.reduceSub, Nat.reduceMul, Nat.reduceEqDiff, Nat.reduceLT, Nat.reduceLeDiff, Nat.reduceBEq, Int.reduceNeg, Int.reduceLT, Int.reduceLE, Int.reduceEq, reduceCtorEq]) <;> first | rfl | omega) | with_reducible refine t_in_other (by decide) ?_ | ((with_reducible apply gy1); iterate 3 focus rfl) | ((with_reducible apply gy2); iterate 3 focus rfl) | ((with_reducible apply gy3); iterate 2 focus rfl) | ((with_reducible apply gy4); iterate 1 focus rfl) | ((with_reducible apply gy5); iterate 4 focus rfl) | ((with_reducible apply gy6); iterate 4 focus rfl) | ((with_reducible apply d_bar); iterate 3 focus rfl) | ((with_reducible apply q_pub); iterate 1 focus rfl) | ((with_reducible apply gy7); iterate 1 focus rfl) | ((with_reducible apply gy9); (focus ((with_reducible refine gE ?_); (try simp (disch := omega) only [go_sem, ↓reduceIte, Nat.reduceAdd, Nat.reduceSub, Nat.reduceMul, Nat.reduceEqDiff, Nat.reduceLT, Nat.reduceLeDiff, Nat.reduceBEq, Int.reduceNeg, Int.reduceLT, Int.reduceLE, Int.reduceEq, reduceCtorEq]) <;> rfl))) | ((with_reducible apply gz1); (focus first | rfl | (simp (disch := omega) only [go_sem, ↓reduceIte, Nat.reduceAdd, Nat.reduceSub, Nat.reduceMul, Nat.reduceEqDiff, Nat.reduceLT, Nat.reduceLeDiff, Nat.reduceBEq, Int.reduceNeg, Int.reduceLT, Int.reduceLE, Int.reduceEq, reduceCtorEq]; done))) | ((with_reducible apply r_drawD (pickR []) [] []); (focus kernel_rfl); (focus rfl); (focus kernel_rfl); (focus (simp only [List.length_cons, List.length_nil, Nat.reduceAdd]; rfl)))))
    simp (disch := omega) only [go_sem, ↓reduceIte, Nat.reduceAdd, Nat.reduceSub, Nat.reduceMul, Nat.reduceEqDiff, Nat.reduceLT, Nat.reduceLeDiff, Nat.reduceBEq, Int.reduceNeg, Int.reduceLT, Int.reduceLE, Int.reduceEq, reduceCtorEq, Bool.and_self]
  · have hd : decide (n = 1) = (((((toL (n / 65536)).length + 1 : Nat) : Int) == 1) && (((n % 65536 : Nat) : Int) == 1)) := by
      have hp := @toL_len_pos (n / 65536)
      rw [Bool.eq_iff_iff]
      simp only [decide_eq_true_eq, Bool.and_eq_true, beq_iff_eq]
      omega
    rw [toL_pos (by omega), hd]
    refine pure_intro (tok := 0) Tryd.func90 rfl Tryd.ntmps90 Tryd.results90 Tryd.call90 (by rfl) (by simp) ?_
    (repeat' (first | (with_reducible first | refine stp ?_ | apply gx1 | apply gx2 | apply gx3 | apply gx4 | apply gx5 | apply gx6 | apply gx7 | apply gy8 | apply gz2 | apply gz3) | (with_reducible refine all_v ?_; intro _) | ((with_reducible refine gE ?_); (try simp (disch := omega) only [go_sem, ↓reduceIte, Nat.reduceAdd, Nat.reduceSub, Nat.reduceMul, Nat.reduceEqDiff, Nat.reduceLT, Nat.reduceLeDiff, Nat.reduceBEq, Int.reduceNeg, Int.reduceLT, Int.reduceLE, Int.reduceEq, reduceCtorEq, u16s_c]) <;> first | rfl | omega) | with_reducible refine t_in_other (by decide) ?_ | ((with_reducible apply gy1); iterate 3 focus rfl) | ((with_reducible apply gy2); iterate 3 focus rfl) | ((with_reducible apply gy3); iterate 2 focus rfl) | ((with_reducible apply gy4); iterate 1 focus rfl) | ((with_reducible apply gy5); iterate 4 focus rfl) | ((with_reducible apply gy6); iterate 4 focus rfl) | ((with_reducible apply d_bar); iterate 3 focus rfl) | ((with_reducible apply q_pub); iterate 1 focus rfl) | ((with_reducible apply gy7); iterate 1 focus rfl) | ((with_reducible apply gy9); (focus ((with_reducible refine gE ?_); (try simp (disch := omega) only [go_sem, ↓reduceIte, Nat.reduceAdd, Nat.reduceSub, Nat.reduceMul, Nat.reduceEqDiff, Nat.reduceLT, Nat.reduceLeDiff, Nat.reduceBEq, Int.reduceNeg, Int.reduceLT, Int.reduceLE, Int.reduceEq, reduceCtorEq, u16s_c]) <;> rfl))) | ((with_reducible apply gz1); (focus first | rfl | (simp (disch := omega) only [go_sem, ↓reduceIte, Nat.reduceAdd, Nat.reduceSub, Nat.reduceMul, Nat.reduceEqDiff, Nat.reduceLT, Nat.reduceLeDiff, Nat.reduceBEq, Int.reduceNeg, Int.reduceLT, Int.reduceLE, Int.reduceEq, reduceCtorEq, u16s_c]; done))) | ((with_reducible apply r_drawD (pickR []) [] []); (focus kernel_rfl); (focus rfl); (focus kernel_rfl); (focus (simp only [List.length_cons, List.length_nil, Nat.reduceAdd]; rfl)))))
    simp (disch := omega) only [go_sem, ↓reduceIte, Nat.reduceAdd, Nat.reduceSub, Nat.reduceMul, Nat.reduceEqDiff, Nat.reduceLT, Nat.reduceLeDiff, Nat.reduceBEq, Int.reduceNeg, Int.reduceLT, Int.reduceLE, Int.reduceEq, reduceCtorEq]

theorem ratPartsA (s : Bool) (n d : Nat) (h2 : (toL d).length ≤ 10000000) (h0 : d ≠ 0) : Pure Tryd.prog 68 [ratA s n d] (.tup [intA s n, lim (toL d)]) := by
  have hb : bitsN d ≠ 0 := fun e => h0 (bitsN_zero.1 e)
  refine pure_intro (tok := 0) Tryd.func68 rfl Tryd.ntmps68 Tryd.results68 Tryd.call68 (by rfl) (by simp) ?_
  (repeat' (first | (with_reducible first | refine stp ?_ | apply gx1 | apply gx2 | apply gx3 | apply gx4 | apply gx5 | apply gx6 | apply gx7 | apply gy8 | apply gz2 | apply gz3 | refine gw0 (nBits d (by omega)) ?_ ?_ | refine gw3 (nBits d (by omega)) ?_ ?_ ?_) | (with_reducible refine all_v ?_; intro _) | ((with_reducible refine gE ?_); (try simp (disch := omega) only [go_sem, ↓reduceIte, Nat.reduceAdd, Nat.reduceSub, Nat.reduceMul, Nat.reduceEqDiff, Nat.reduceLT, Nat.reduceLeDiff, Nat.reduceBEq, Int.reduceNeg, Int.reduceLT, Int.reduceLE, Int.reduceEq, reduceCtorEq]) <;> first | rfl | omega) | with_reducible refine t_in_other (by decide) ?_ | ((with_reducible apply gy1); iterate 3 focus rfl) | ((with_reducible apply gy2); iterate 3 focus rfl) | ((with_reducible apply gy3); iterate 2 focus rfl) | ((with_reducible apply gy4); iterate 1 focus rfl) | ((with_reducible apply gy5); iterate 4 focus rfl) | ((with_reducible apply gy6); iterate 4 focus rfl) | ((with_reducible apply d_bar); iterate 3 focus rfl) | ((with_reducible apply q_pub); iterate 1 focus rfl) | ((with_reducible apply gy7); iterate 1 focus rfl) | ((with_reducible apply gy9); (focus ((with_reducible refine gE ?_); (try simp (disch := omega) only [go_sem, ↓reduceIte, Nat.reduceAdd, Nat.reduceSub, Nat.reduceMul, Nat.reduceEqDiff, Nat.reduceLT, Nat.reduceLeDiff, Nat.reduceBEq, Int.reduceNeg, Int.reduceLT, Int.reduceLE, Int.reduceEq, reduceCtorEq]) <;> rfl))) | ((with_reducible apply gz1); (focus first | rfl | (simp (disch := omega) only [go_sem, ↓reduceIte, Nat.reduceAdd, Nat.reduceSub, Nat.reduceMul, Nat.reduceEqDiff, Nat.reduceLT, Nat.reduceLeDiff, Nat.reduceBEq, Int.reduceNeg, Int.reduceLT, Int.reduceLE, Int.reduceEq, reduceCtorEq]; done))) | ((with_reducible apply r_drawD (pickR []) [] [2]); (focus kernel_rfl); (focus rfl); (focus kernel_rfl); (focus (simp only [List.length_cons, List.length_nil, Nat.reduceAdd]; rfl)))))
  simp (disch := omega) only [go_sem, ↓reduceIte, Nat.reduceAdd, Nat.reduceSub, Nat.reduceMul, Nat.reduceEqDiff, Nat.reduceLT, Nat.reduceLeDiff, Nat.reduceBEq, Int.reduceNeg, Int.reduceLT, Int.reduceLE, Int.reduceEq, reduceCtorEq]
theorem ratParts (q : Rat) {k : Nat} (h : Sz q k) (hk : k ≤ 10000000) : Pure Tryd.prog 68 [ratQ q] (.tup [intZ q.num, lim (toL q.den)]) :=
  ratPartsA _ _ _ (Nat.le_trans h.2 hk) q.den_nz

set_option maxHeartbeats 1000000 in
theorem ratReduced (s : Bool) (n m : Nat) (hn : (toL n).length ≤ 10000000) (hm : (toL m).length ≤ 10000000) (h0 : m ≠ 0) : Pure Tryd.prog 69 [intA s n, lim (toL m)] (ratQ (mkRat (zI s n) m)) := by
  have cn := intNorm s n (by omega)
  have hz := zI_natAbs s n
  rw [ratQ_mk _ _ h0]
  generalize zI s n = z at *
  subst hz
  have hmp := toL_len_pos.2 (Nat.pos_of_ne_zero h0)
  have g0 : Nat.gcd z.natAbs m ≠ 0 := Nat.ne_of_gt (Nat.gcd_pos_of_pos_right _ (by omega))
  have hg : (toL (Nat.gcd z.natAbs m)).length ≤ 10000000 := Nat.le_trans (lg_mono (Nat.le_of_dvd (by omega) (Nat.gcd_dvd_right _ _))) hm
  have cg := nGcd z.natAbs m (by omega) (by omega)
  have c1 := ratOne m (by omega)
  have c2 := ratOne (Nat.gcd z.natAbs m) (by omega)
  by_cases hz0 : z.natAbs = 0
  · have hzz : z = 0 := by omega
    subst hzz
    have l0 : (toL 0).length = 0 := by rw [toL_zero]; rfl
    have n0 : Int.natAbs 0 = 0 := rfl
    have hd : decide ((0 : Int) < 0) = false := rfl
    have cn : Pure Tryd.prog 89 [intA s 0] (.agg [.v (.bool false), lim (toL 0)]) := cn
    rw [n0] at hn ⊢
    rw [Nat.gcd_zero_left, Nat.zero_div, Nat.div_self (by omega), hd]
    refine pure_vkR (r := .agg [.v (.bool false), .v (.slice none 0 0), lim (toL 1)]) ?_ (.aggL (.cons (.refl _) (.cons ?_ (VkL.refl _))))
    · refine pure_intro (tok := 0) Tryd.func69 rfl Tryd.ntmps69 Tryd.results69 Tryd.call69 (by rfl) (by simp) ?_
      (repeat' (first | (with_reducible first | refine stp ?_ | apply gx1 | apply gx2 | apply gx3 | apply gx4 | apply gx5 | apply gx6 | apply gx7 | apply gy8 | apply gz2 | apply gz3 | refine gw0 (nNorm m (by omega)) ?_ ?_ | refine gw3 (nNorm m (by omega)) ?_ ?_ ?_ | refine gw0 (cn) ?_ ?_ | refine gw3 (cn) ?_ ?_ ?_ | refine gw0 (ratUnit) ?_ ?_ | refine gw3 (ratUnit) ?_ ?_ ?_) | (with_reducible refine all_v ?_; intro _) | ((with_reducible refine gE ?_); (try simp (disch := omega) only [go_sem, ↓reduceIte, Nat.reduceAdd, Nat.reduceSub, Nat.reduceMul, Nat.reduceEqDiff, Nat.reduceLT, Nat.reduceLeDiff, Nat.reduceBEq, Int.reduceNeg, Int.reduceLT, Int.reduceLE, Int.reduceEq, reduceCtorEq, l0]) <;> first | rfl | omega) | with_reducible refine t_in_other (by decide) ?_ | ((with_reducible apply gy1); iterate 3 focus rfl) | ((with_reducible apply gy2); iterate 3 focus rfl) | ((with_reducible apply gy3); iterate 2 focus rfl) | ((with_reducible apply gy4); iterate 1 focus rfl) | ((with_reducible apply gy5); iterate 4 focus rfl) | ((with_reducible apply gy6); iterate 4 focus rfl) | ((with_reducible apply d_bar); iterate 3 focus rfl) | ((with_reducible apply q_pub); iterate 1 focus rfl) | ((with_reducible apply gy7); iterate 1 focus rfl) | ((with_reducible apply gy9); (focus ((with_reducible refine gE ?_); (try simp (disch := omega) only [go_sem, ↓reduceIte, Nat.reduceAdd, Nat.reduceSub, Nat.reduceMul, Nat.reduceEqDiff, Nat.reduceLT, Nat.reduceLeDiff, Nat.reduceBEq, Int.reduceNeg, Int.reduceLT, Int.reduceLE, Int.reduceEq, reduceCtorEq, l0]) <;> rfl))) | ((with_reducible apply gz1); (focus first | rfl | (simp (disch := omega) only [go_sem, ↓reduceIte, Nat.reduceAdd, Nat.reduceSub, Nat.reduceMul, Nat.reduceEqDiff, Nat.reduceLT, Nat.reduceLeDiff, Nat.reduceBEq, Int.reduceNeg, Int.reduceLT, Int.reduceLE, Int.reduceEq, reduceCtorEq, l0]; done))) | ((with_reducible apply r_drawD (pickR []) [] []); (focus kernel_rfl); (focus rfl); (focus kernel_rfl); (focus (simp only [List.length_cons, List.length_nil, Nat.reduceAdd]; rfl)))))
      simp (disch := omega) only [go_sem, ↓reduceIte, Nat.reduceAdd, Nat.reduceSub, Nat.reduceMul, Nat.reduceEqDiff, Nat.reduceLT, Nat.reduceLeDiff, Nat.reduceBEq, Int.reduceNeg, Int.reduceLT, Int.reduceLE, Int.reduceEq, reduceCtorEq]
    · show Vk _ (.sl 1 (u16s (toL 0)))
      rw [toL_zero]
      exact .nil 1
  · have hzp := toL_len_pos.2 (Nat.pos_of_ne_zero hz0)
    by_cases hm1 : m = 1
    · subst hm1
      rw [Nat.gcd_one_right, Nat.div_one, Nat.div_one]
      refine pure_intro (tok := 0) Tryd.func69 rfl Tryd.ntmps69 Tryd.results69 Tryd.call69 (by rfl) (by simp) ?_
      (repeat' (first | (with_reducible first | refine stp ?_ | apply gx1 | apply gx2 | apply gx3 | apply gx4 | apply gx5 | apply gx6 | apply gx7 | apply gy8 | apply gz2 | apply gz3 | refine gw0 (nNorm 1 (by omega)) ?_ ?_ | refine gw3 (nNorm 1 (by omega)) ?_ ?_ ?_ | refine gw0 (cn) ?_ ?_ | refine gw3 (cn) ?_ ?_ ?_ | refine gw0 (c1) ?_ ?_ | refine gw3 (c1) ?_ ?_ ?_) | (with_reducible refine all_v ?_; intro _) | ((with_reducible refine gE ?_); (try simp (disch := omega) only [go_sem, ↓reduceIte, Nat.reduceAdd, Nat.reduceSub, Nat.reduceMul, Nat.reduceEqDiff, Nat.reduceLT, Nat.reduceLeDiff, Nat.reduceBEq, Int.reduceNeg, Int.reduceLT, Int.reduceLE, Int.reduceEq, reduceCtorEq]) <;> first | rfl | omega) | with_reducible refine t_in_other (by decide) ?_ | ((with_reducible apply gy1); iterate 3 focus rfl) | ((with_reducible apply gy2); iterate 3 focus rfl) | ((with_reducible apply gy3); iterate 2 focus rfl) | ((with_reducible apply gy4); iterate 1 focus rfl) | ((with_reducible apply gy5); iterate 4 focus rfl) | ((with_reducible apply gy6); iterate 4 focus rfl) | ((with_reducible apply d_bar); iterate 3 focus rfl) | ((with_reducible apply q_pub); iterate 1 focus rfl) | ((with_reducible apply gy7); iterate 1 focus rfl) | ((with_reducible apply gy9); (focus ((with_reducible refine gE ?_); (try simp (disch := omega) only [go_sem, ↓reduceIte, Nat.reduceAdd, Nat.reduceSub, Nat.reduceMul, Nat.reduceEqDiff, Nat.reduceLT, Nat.reduceLeDiff, Nat.reduceBEq, Int.reduceNeg, Int.reduceLT, Int.reduceLE, Int.reduceEq, reduceCtorEq]) <;> rfl))) | ((with_reducible apply gz1); (focus first | rfl | (simp (disch := omega) only [go_sem, ↓reduceIte, Nat.reduceAdd, Nat.reduceSub, Nat.reduceMul, Nat.reduceEqDiff, Nat.reduceLT, Nat.reduceLeDiff, Nat.reduceBEq, Int.reduceNeg, Int.reduceLT, Int.reduceLE, Int.reduceEq, reduceCtorEq]; done))) | ((with_reducible apply r_drawD (pickR []) [] []); (focus kernel_rfl); (focus rfl); (focus kernel_rfl); (focus (simp only [List.length_cons, List.length_nil, Nat.reduceAdd]; rfl)))))
      simp (disch := omega) only [go_sem, ↓reduceIte, Nat.reduceAdd, Nat.reduceSub, Nat.reduceMul, Nat.reduceEqDiff, Nat.reduceLT, Nat.reduceLeDiff, Nat.reduceBEq, Int.reduceNeg, Int.reduceLT, Int.reduceLE, Int.reduceEq, reduceCtorEq]
    · have d1 : decide (m = 1) = false := decide_eq_false hm1
      rw [d1] at c1
      by_cases hg1 : Nat.gcd z.natAbs m = 1
      · have d2 : decide (Nat.gcd z.natAbs m = 1) = true := decide_eq_true hg1
        rw [d2] at c2
        rw [hg1, Nat.div_one, Nat.div_one]
        refine pure_intro (tok := 0) Tryd.func69 rfl Tryd.ntmps69 Tryd.results69 Tryd.call69 (by rfl) (by simp) ?_
        (repeat' (first | (with_reducible first | refine stp ?_ | apply gx1 | apply gx2 | apply gx3 | apply gx4 | apply gx5 | apply gx6 | apply gx7 | apply gy8 | apply gz2 | apply gz3 | refine gw0 (nNorm m (by omega)) ?_ ?_ | refine gw3 (nNorm m (by omega)) ?_ ?_ ?_ | refine gw0 (cn) ?_ ?_ | refine gw3 (cn) ?_ ?_ ?_ | refine gw0 (c1) ?_ ?_ | refine gw3 (c1) ?_ ?_ ?_ | refine gw0 (cg) ?_ ?_ | refine gw3 (cg) ?_ ?_ ?_ | refine gw0 (c2) ?_ ?_ | refine gw3 (c2) ?_ ?_ ?_) | (with_reducible refine all_v ?_; intro _) | ((with_reducible refine gE ?_); (try simp (disch := omega) only [go_sem, ↓reduceIte, Nat.reduceAdd, Nat.reduceSub, Nat.reduceMul, Nat.reduceEqDiff, Nat.reduceLT, Nat.reduceLeDiff, Nat.reduceBEq, Int.reduceNeg, Int.reduceLT, Int.reduceLE, Int.reduceEq, reduceCtorEq]) <;> first | rfl | omega) | with_reducible refine t_in_other (by decide) ?_ | ((with_reducible apply gy1); iterate 3 focus rfl) | ((with_reducible apply gy2); iterate 3 focus rfl) | ((with_reducible apply gy3); iterate 2 focus rfl) | ((with_reducible apply gy4); iterate 1 focus rfl) | ((with_reducible apply gy5); iterate 4 focus rfl) | ((with_reducible apply gy6); iterate 4 focus rfl) | ((with_reducible apply d_bar); iterate 3 focus rfl) | ((with_reducible apply q_pub); iterate 1 focus rfl) | ((with_reducible apply gy7); iterate 1 focus rfl) | ((with_reducible apply gy9); (focus ((with_reducible refine gE ?_); (try simp (disch := omega) only [go_sem, ↓reduceIte, Nat.reduceAdd, Nat.reduceSub, Nat.reduceMul, Nat.reduceEqDiff, Nat.reduceLT, Nat.reduceLeDiff, Nat.reduceBEq, Int.reduceNeg, Int.reduceLT, Int.reduceLE, Int.reduceEq, reduceCtorEq]) <;> rfl))) | ((with_reducible apply gz1); (focus first | rfl | (simp (disch := omega) only [go_sem, ↓reduceIte, Nat.reduceAdd, Nat.reduceSub, Nat.reduceMul, Nat.reduceEqDiff, Nat.reduceLT, Nat.reduceLeDiff, Nat.reduceBEq, Int.reduceNeg, Int.reduceLT, Int.reduceLE, Int.reduceEq, reduceCtorEq]; done))) | ((with_reducible apply r_drawD (pickR []) [] []); (focus kernel_rfl); (focus rfl); (focus kernel_rfl); (focus (simp only [List.length_cons, List.length_nil, Nat.reduceAdd]; rfl)))))
        simp (disch := omega) only [go_sem, ↓reduceIte, Nat.reduceAdd, Nat.reduceSub, Nat.reduceMul, Nat.reduceEqDiff, Nat.reduceLT, Nat.reduceLeDiff, Nat.reduceBEq, Int.reduceNeg, Int.reduceLT, Int.reduceLE, Int.reduceEq, reduceCtorEq]
      · have d2 : decide (Nat.gcd z.natAbs m = 1) = false := decide_eq_false hg1
        rw [d2] at c2
        refine pure_intro (tok := 0) Tryd.func69 rfl Tryd.ntmps69 Tryd.results69 Tryd.call69 (by rfl) (by simp) ?_
        (repeat' (first | (with_reducible first | refine stp ?_ | apply gx1 | apply gx2 | apply gx3 | apply gx4 | apply gx5 | apply gx6 | apply gx7 | apply gy8 | apply gz2 | apply gz3 | refine gw0 (nNorm m (by omega)) ?_ ?_ | refine gw3 (nNorm m (by omega)) ?_ ?_ ?_ | refine gw0 (cn) ?_ ?_ | refine gw3 (cn) ?_ ?_ ?_ | refine gw0 (c1) ?_ ?_ | refine gw3 (c1) ?_ ?_ ?_ | refine gw0 (cg) ?_ ?_ | refine gw3 (cg) ?_ ?_ ?_ | refine gw0 (c2) ?_ ?_ | refine gw3 (c2) ?_ ?_ ?_ | refine gw0 (nDivMod z.natAbs (Nat.gcd z.natAbs m) (by omega) (by omega) g0) ?_ ?_ | refine gw3 (nDivMod z.natAbs (Nat.gcd z.natAbs m) (by omega) (by omega) g0) ?_ ?_ ?_ | refine gw0 (nDivMod m (Nat.gcd z.natAbs m) (by omega) (by omega) g0) ?_ ?_ | refine gw3 (nDivMod m (Nat.gcd z.natAbs m) (by omega) (by omega) g0) ?_ ?_ ?_) | (with_reducible refine all_v ?_; intro _) | ((with_reducible refine gE ?_); (try simp (disch := omega) only [go_sem, ↓reduceIte, Nat.reduceAdd, Nat.reduceSub, Nat.reduceMul, Nat.reduceEqDiff, Nat.reduceLT, Nat.reduceLeDiff, Nat.reduceBEq, Int.reduceNeg, Int.reduceLT, Int.reduceLE, Int.reduceEq, reduceCtorEq]) <;> first | rfl | omega) | with_reducible refine t_in_other (by decide) ?_ | ((with_reducible apply gy1); iterate 3 focus rfl) | ((with_reducible apply gy2); iterate 3 focus rfl) | ((with_reducible apply gy3); iterate 2 focus rfl) | ((with_reducible apply gy4); iterate 1 focus rfl) | ((with_reducible apply gy5); iterate 4 focus rfl) | ((with_reducible apply gy6); iterate 4 focus rfl) | ((with_reducible apply d_bar); iterate 3 focus rfl) | ((with_reducible apply q_pub); iterate 1 focus rfl) | ((with_reducible apply gy7); iterate 1 focus rfl) | ((with_reducible apply gy9); (focus ((with_reducible refine gE ?_); (try simp (disch := omega) only [go_sem, ↓reduceIte, Nat.reduceAdd, Nat.reduceSub, Nat.reduceMul, Nat.reduceEqDiff, Nat.reduceLT, Nat.reduceLeDiff, Nat.reduceBEq, Int.reduceNeg, Int.reduceLT, Int.reduceLE, Int.reduceEq, reduceCtorEq]) <;> rfl))) | ((with_reducible apply gz1); (focus first | rfl | (simp (disch := omega) only [go_sem, ↓reduceIte, Nat.reduceAdd, Nat.reduceSub, Nat.reduceMul, Nat.reduceEqDiff, Nat.reduceLT, Nat.reduceLeDiff, Nat.reduceBEq, Int.reduceNeg, Int.reduceLT, Int.reduceLE, Int.reduceEq, reduceCtorEq]; done))) | ((with_reducible apply r_drawD (pickR []) [] []); (focus kernel_rfl); (focus rfl); (focus kernel_rfl); (focus (simp only [List.length_cons, List.length_nil, Nat.reduceAdd]; rfl)))))
        simp (disch := omega) only [go_sem, ↓reduceIte, Nat.reduceAdd, Nat.reduceSub, Nat.reduceMul, Nat.reduceEqDiff, Nat.reduceLT, Nat.reduceLeDiff, Nat.reduceBEq, Int.reduceNeg, Int.reduceLT, Int.reduceLE, Int.reduceEq, reduceCtorEq]




theorem ratSumA (s t : Bool) (n m : Nat) (hn : (toL n).length ≤ 100000000) (hm : (toL m).length ≤ 100000000) : Pure Tryd.prog 111 [.sl 2 [intA s n, intA t m]] (intZ (zI s n + zI t m)) := by
  have cz := iAdd0 s n hn
  have ca := iAddA (zI s n) t m (by rw [zI_natAbs]; exact hn) hm
  generalize zI s n = z at *
  generalize zI t m = w at *
  refine pure_intro (tok := 0) Tryd.func111 rfl Tryd.ntmps111 Tryd.results111 Tryd.call111 (by rfl) (by simp) ?_
  (repeat' (first | (with_reducible first | refine stp ?_ | apply gx1 | apply gx2 | apply gx3 | apply gx4 | apply gx5 | apply gx6 | apply gx7 | apply gy8 | apply gz2 | apply gz3) | (with_reducible refine all_v ?_; intro _) | ((with_reducible refine gE ?_); (try simp (disch := omega) only [go_sem, ↓reduceIte, Nat.reduceAdd, Nat.reduceSub, Nat.reduceMul, Nat.reduceEqDiff, Nat.reduceLT, Nat.reduceLeDiff, Nat.reduceBEq, Int.reduceNeg, Int.reduceLT, Int.reduceLE, Int.reduceEq, reduceCtorEq]) <;> first | rfl | omega) | with_reducible refine t_in_other (by decide) ?_ | ((with_reducible apply gy1); iterate 3 focus rfl) | ((with_reducible apply gy2); iterate 3 focus rfl) | ((with_reducible apply gy3); iterate 2 focus rfl) | ((with_reducible apply gy4); iterate 1 focus rfl) | ((with_reducible apply gy5); iterate 4 focus rfl) | ((with_reducible apply gy6); iterate 4 focus rfl) | ((with_reducible apply d_bar); iterate 3 focus rfl) | ((with_reducible apply q_pub); iterate 1 focus rfl) | ((with_reducible apply gy7); iterate 1 focus rfl) | ((with_reducible apply gy9); (focus ((with_reducible refine gE ?_); (try simp (disch := omega) only [go_sem, ↓reduceIte, Nat.reduceAdd, Nat.reduceSub, Nat.reduceMul, Nat.reduceEqDiff, Nat.reduceLT, Nat.reduceLeDiff, Nat.reduceBEq, Int.reduceNeg, Int.reduceLT, Int.reduceLE, Int.reduceEq, reduceCtorEq]) <;> rfl))) | ((with_reducible apply gz1); (focus first | rfl | (simp (disch := omega) only [go_sem, ↓reduceIte, Nat.reduceAdd, Nat.reduceSub, Nat.reduceMul, Nat.reduceEqDiff, Nat.reduceLT, Nat.reduceLeDiff, Nat.reduceBEq, Int.reduceNeg, Int.reduceLT, Int.reduceLE, Int.reduceEq, reduceCtorEq]; done))) | ((with_reducible apply r_drawD (pickR []) [] []); (focus kernel_rfl); (focus rfl); (focus kernel_rfl); (focus (simp only [List.length_cons, List.length_nil, Nat.reduceAdd]; rfl)))))
  refine r_loopE (ι := Nat) (fun k e mm => k ≤ 2 ∧ e 6 = .sl 2 [intA s n, intA t m] ∧ e 7 = .v (.int .i64 2) ∧ e 8 = .v (.int .i64 (k : Int)) ∧ ∃ g2 g, e 2 = .pbox 2 g2 0 ∧ mm 2 = some (.box g2 58 [.v (.bool false), .v (.slice none 0 0)] false) ∧ e 3 = .pbox 3 g 0 ∧ mm 3 = some (.box g 58 (sumC z w k) false)) (fun k => 2 - k) 0 (by rfl) ?_ ?_
  · rintro k e mm ⟨hk, e6, e7, e8, g2, g, e2, m2, e3, m3⟩
    match k, hk with
    | 0, _ =>
      simp only [sumC] at m3
      (repeat' (first | (with_reducible first | refine stp ?_ | apply gx1 | apply gx2 | apply gx3 | apply gx4 | apply gx5 | apply gx6 | apply gx7 | apply gy8 | apply gz2 | apply gz3 | refine gw0 (cz) ?_ ?_ | refine gw3 (cz) ?_ ?_ ?_) | (with_reducible refine all_v ?_; intro _) | ((with_reducible refine gE ?_); (try simp (disch := omega) only [go_sem, ↓reduceIte, Nat.reduceAdd, Nat.reduceSub, Nat.reduceMul, Nat.reduceEqDiff, Nat.reduceLT, Nat.reduceLeDiff, Nat.reduceBEq, Int.reduceNeg, Int.reduceLT, Int.reduceLE, Int.reduceEq, reduceCtorEq, e6, e7, e8, e2, m2, e3, m3, Int.natCast_zero]) <;> first | rfl | omega) | with_reducible refine t_in_other (by decide) ?_ | ((with_reducible apply gy1); iterate 3 focus rfl) | ((with_reducible apply gy2); iterate 3 focus rfl) | ((with_reducible apply gy3); iterate 2 focus rfl) | ((with_reducible apply gy4); iterate 1 focus rfl) | ((with_reducible apply gy5); iterate 4 focus rfl) | ((with_reducible apply gy6); iterate 4 focus rfl) | ((with_reducible apply d_bar); iterate 3 focus rfl) | ((with_reducible apply q_pub); iterate 1 focus rfl) | ((with_reducible apply gy7); iterate 1 focus rfl) | ((with_reducible apply gy9); (focus ((with_reducible refine gE ?_); (try simp (disch := omega) only [go_sem, ↓reduceIte, Nat.reduceAdd, Nat.reduceSub, Nat.reduceMul, Nat.reduceEqDiff, Nat.reduceLT, Nat.reduceLeDiff, Nat.reduceBEq, Int.reduceNeg, Int.reduceLT, Int.reduceLE, Int.reduceEq, reduceCtorEq, e6, e7, e8, e2, m2, e3, m3, Int.natCast_zero]) <;> rfl))) | ((with_reducible apply gz1); (focus first | rfl | (simp (disch := omega) only [go_sem, ↓reduceIte, Nat.reduceAdd, Nat.reduceSub, Nat.reduceMul, Nat.reduceEqDiff, Nat.reduceLT, Nat.reduceLeDiff, Nat.reduceBEq, Int.reduceNeg, Int.reduceLT, Int.reduceLE, Int.reduceEq, reduceCtorEq, e6, e7, e8, e2, m2, e3, m3, Int.natCast_zero]; done))) | ((with_reducible apply r_drawD (pickR []) [] []); (focus kernel_rfl); (focus rfl); (focus kernel_rfl); (focus (simp only [List.length_cons, List.length_nil, Nat.reduceAdd]; rfl)))))
      exact ⟨1, ⟨by omega, by exact gW e6, by exact gW e7, by exact gW e8, g2, g, by exact gW e2, by exact gW m2, by exact gW e3, by (simp (disch := omega) only [go_sem, ↓reduceIte, Nat.reduceAdd, Nat.reduceSub, Nat.reduceMul, Nat.reduceEqDiff, Nat.reduceLT, Nat.reduceLeDiff, Nat.reduceBEq, Int.reduceNeg, Int.reduceLT, Int.reduceLE, Int.reduceEq, reduceCtorEq, m3, sumC] <;> repeat' first | rfl | refine ⟨?_, ?_⟩)⟩, by omega⟩
    | 1, _ =>
      simp only [sumC] at m3
      (repeat' (first | (with_reducible first | refine stp ?_ | apply gx1 | apply gx2 | apply gx3 | apply gx4 | apply gx5 | apply gx6 | apply gx7 | apply gy8 | apply gz2 | apply gz3 | refine gw0 (ca) ?_ ?_ | refine gw3 (ca) ?_ ?_ ?_) | (with_reducible refine all_v ?_; intro _) | ((with_reducible refine gE ?_); (try simp (disch := omega) only [go_sem, ↓reduceIte, Nat.reduceAdd, Nat.reduceSub, Nat.reduceMul, Nat.reduceEqDiff, Nat.reduceLT, Nat.reduceLeDiff, Nat.reduceBEq, Int.reduceNeg, Int.reduceLT, Int.reduceLE, Int.reduceEq, reduceCtorEq, e6, e7, e8, e2, m2, e3, m3, Int.natCast_one]) <;> first | rfl | omega) | with_reducible refine t_in_other (by decide) ?_ | ((with_reducible apply gy1); iterate 3 focus rfl) | ((with_reducible apply gy2); iterate 3 focus rfl) | ((with_reducible apply gy3); iterate 2 focus rfl) | ((with_reducible apply gy4); iterate 1 focus rfl) | ((with_reducible apply gy5); iterate 4 focus rfl) | ((with_reducible apply gy6); iterate 4 focus rfl) | ((with_reducible apply d_bar); iterate 3 focus rfl) | ((with_reducible apply q_pub); iterate 1 focus rfl) | ((with_reducible apply gy7); iterate 1 focus rfl) | ((with_reducible apply gy9); (focus ((with_reducible refine gE ?_); (try simp (disch := omega) only [go_sem, ↓reduceIte, Nat.reduceAdd, Nat.reduceSub, Nat.reduceMul, Nat.reduceEqDiff, Nat.reduceLT, Nat.reduceLeDiff, Nat.reduceBEq, Int.reduceNeg, Int.reduceLT, Int.reduceLE, Int.reduceEq, reduceCtorEq, e6, e7, e8, e2, m2, e3, m3, Int.natCast_one]) <;> rfl))) | ((with_reducible apply gz1); (focus first | rfl | (simp (disch := omega) only [go_sem, ↓reduceIte, Nat.reduceAdd, Nat.reduceSub, Nat.reduceMul, Nat.reduceEqDiff, Nat.reduceLT, Nat.reduceLeDiff, Nat.reduceBEq, Int.reduceNeg, Int.reduceLT, Int.reduceLE, Int.reduceEq, reduceCtorEq, e6, e7, e8, e2, m2, e3, m3, Int.natCast_one]; done))) | ((with_reducible apply r_drawD (pickR []) [] []); (focus kernel_rfl); (focus rfl); (focus kernel_rfl); (focus (simp only [List.length_cons, List.length_nil, Nat.reduceAdd]; rfl)))))
      exact ⟨2, ⟨by omega, by exact gW e6, by exact gW e7, by exact gW e8, g2, g, by exact gW e2, by exact gW m2, by exact gW e3, by (simp (disch := omega) only [go_sem, ↓reduceIte, Nat.reduceAdd, Nat.reduceSub, Nat.reduceMul, Nat.reduceEqDiff, Nat.reduceLT, Nat.reduceLeDiff, Nat.reduceBEq, Int.reduceNeg, Int.reduceLT, Int.reduceLE, Int.reduceEq, reduceCtorEq, m3, sumC] <;> repeat' first | rfl | refine ⟨?_, ?_⟩)⟩, by omega⟩
    | 2, _ =>
      simp only [sumC] at m3
      (repeat' (first | (with_reducible first | refine stp ?_ | apply gx1 | apply gx2 | apply gx3 | apply gx4 | apply gx5 | apply gx6 | apply gx7 | apply gy8 | apply gz2 | apply gz3) | (with_reducible refine all_v ?_; intro _) | ((with_reducible refine gE ?_); (try simp (disch := omega) only [go_sem, ↓reduceIte, Nat.reduceAdd, Nat.reduceSub, Nat.reduceMul, Nat.reduceEqDiff, Nat.reduceLT, Nat.reduceLeDiff, Nat.reduceBEq, Int.reduceNeg, Int.reduceLT, Int.reduceLE, Int.reduceEq, reduceCtorEq, e6, e7, e8, e2, m2, e3, m3]) <;> first | rfl | omega) | with_reducible refine t_in_other (by decide) ?_ | ((with_reducible apply gy1); iterate 3 focus rfl) | ((with_reducible apply gy2); iterate 3 focus rfl) | ((with_reducible apply gy3); iterate 2 focus rfl) | ((with_reducible apply gy4); iterate 1 focus rfl) | ((with_reducible apply gy5); iterate 4 focus rfl) | ((with_reducible apply gy6); iterate 4 focus rfl) | ((with_reducible apply d_bar); iterate 3 focus rfl) | ((with_reducible apply q_pub); iterate 1 focus rfl) | ((with_reducible apply gy7); iterate 1 focus rfl) | ((with_reducible apply gy9); (focus ((with_reducible refine gE ?_); (try simp (disch := omega) only [go_sem, ↓reduceIte, Nat.reduceAdd, Nat.reduceSub, Nat.reduceMul, Nat.reduceEqDiff, Nat.reduceLT, Nat.reduceLeDiff, Nat.reduceBEq, Int.reduceNeg, Int.reduceLT, Int.reduceLE, Int.reduceEq, reduceCtorEq, e6, e7, e8, e2, m2, e3, m3]) <;> rfl))) | ((with_reducible apply gz1); (focus first | rfl | (simp (disch := omega) only [go_sem, ↓reduceIte, Nat.reduceAdd, Nat.reduceSub, Nat.reduceMul, Nat.reduceEqDiff, Nat.reduceLT, Nat.reduceLeDiff, Nat.reduceBEq, Int.reduceNeg, Int.reduceLT, Int.reduceLE, Int.reduceEq, reduceCtorEq, e6, e7, e8, e2, m2, e3, m3]; done))) | ((with_reducible apply r_drawD (pickR []) [] []); (focus kernel_rfl); (focus rfl); (focus kernel_rfl); (focus (simp only [List.length_cons, List.length_nil, Nat.reduceAdd]; rfl)))))
      simp (disch := omega) only [go_sem, ↓reduceIte, Nat.reduceAdd, Nat.reduceSub, Nat.reduceMul, Nat.reduceEqDiff, Nat.reduceLT, Nat.reduceLeDiff, Nat.reduceBEq, Int.reduceNeg, Int.reduceLT, Int.reduceLE, Int.reduceEq, reduceCtorEq, e2]
  · exact ⟨by omega, by exact gC, by exact gC, by exact gC, _, _, by exact gC, by exact gC, by exact gC, by (simp (disch := omega) only [go_sem, ↓reduceIte, Nat.reduceAdd, Nat.reduceSub, Nat.reduceMul, Nat.reduceEqDiff, Nat.reduceLT, Nat.reduceLeDiff, Nat.reduceBEq, Int.reduceNeg, Int.reduceLT, Int.reduceLE, Int.reduceEq, reduceCtorEq, sumC] <;> repeat' first | rfl | refine ⟨?_, ?_⟩)⟩
theorem ratSum (z w : Int) (hz : (toL z.natAbs).length ≤ 100000000) (hw : (toL w.natAbs).length ≤ 100000000) : Pure Tryd.prog 111 [.sl 2 [intZ z, intZ w]] (intZ (z + w)) := by
  have := ratSumA (decide (z < 0)) (decide (w < 0)) z.natAbs w.natAbs hz hw
  rwa [zI_abs, zI_abs] at this

end Go.Proofs.YtjiffehkemeloaaDoor
end

section
namespace Go.Proofs.YtjiffehkemeloaaDoor
open Go Go.RowKit Go.Pg
set_option linter.unusedSimpArgs false
set_option linter.unusedVariables false
set_option maxRecDepth 20000
attribute [local go_sem] Tryd.underlying56 Tryd.underlying3 Tryd.underlying91 Tryd.underlying81 Tryd.underlying4 Tryd.underlying58 Tryd.underlying60 Tryd.underlying41 sz3 by3 z3 szL byL zL szB zB szNat zNat szInt zInt szRat zRat Tryd.underlying141

theorem ratOf (n : Nat) (hn : n < 9223372036854775808) : Pure Tryd.prog 54 [.v (.int .i64 (n : Int))] (ratQ (n : Rat)) := by
  refine pure_intro (tok := 0) Tryd.func54 rfl Tryd.ntmps54 Tryd.results54 Tryd.call54 (by rfl) (by simp) ?_
  have hd : decide ((n : Rat).num < 0) = false := decide_eq_false (by show ¬ ((n : Int) < 0); omega)
  have hn' : (n : Rat).num.natAbs = n := Int.natAbs_natCast n
  unfold ratQ
  rw [hd, hn', Rat.den_natCast]
  (repeat' (first | (with_reducible first | refine stp ?_ | apply gx1 | apply gx2 | apply gx3 | apply gx4 | apply gx5 | apply gx6 | apply gx7 | apply gy8 | apply gz2 | apply gz3 | refine gw0 (intOf n hn) ?_ ?_ | refine gw3 (intOf n hn) ?_ ?_ ?_ | refine gw0 (ratUnit) ?_ ?_ | refine gw3 (ratUnit) ?_ ?_ ?_) | (with_reducible refine all_v ?_; intro _) | ((with_reducible refine gE ?_); (try simp (disch := omega) only [go_sem, ↓reduceIte, Nat.reduceAdd, Nat.reduceSub, Nat.reduceMul, Nat.reduceEqDiff, Nat.reduceLT, Nat.reduceLeDiff, Nat.reduceBEq, Int.reduceNeg, Int.reduceLT, Int.reduceLE, Int.reduceEq, reduceCtorEq]) <;> first | rfl | omega) | with_reducible refine t_in_other (by decide) ?_ | ((with_reducible apply gy1); iterate 3 focus rfl) | ((with_reducible apply gy2); iterate 3 focus rfl) | ((with_reducible apply gy3); iterate 2 focus rfl) | ((with_reducible apply gy4); iterate 1 focus rfl) | ((with_reducible apply gy5); iterate 4 focus rfl) | ((with_reducible apply gy6); iterate 4 focus rfl) | ((with_reducible apply d_bar); iterate 3 focus rfl) | ((with_reducible apply q_pub); iterate 1 focus rfl) | ((with_reducible apply gy7); iterate 1 focus rfl) | ((with_reducible apply gy9); (focus ((with_reducible refine gE ?_); (try simp (disch := omega) only [go_sem, ↓reduceIte, Nat.reduceAdd, Nat.reduceSub, Nat.reduceMul, Nat.reduceEqDiff, Nat.reduceLT, Nat.reduceLeDiff, Nat.reduceBEq, Int.reduceNeg, Int.reduceLT, Int.reduceLE, Int.reduceEq, reduceCtorEq]) <;> rfl))) | ((with_reducible apply gz1); (focus first | rfl | (simp (disch := omega) only [go_sem, ↓reduceIte, Nat.reduceAdd, Nat.reduceSub, Nat.reduceMul, Nat.reduceEqDiff, Nat.reduceLT, Nat.reduceLeDiff, Nat.reduceBEq, Int.reduceNeg, Int.reduceLT, Int.reduceLE, Int.reduceEq, reduceCtorEq]; done))) | ((with_reducible apply r_drawD (pickR []) [] []); (focus kernel_rfl); (focus rfl); (focus kernel_rfl); (focus (simp only [List.length_cons, List.length_nil, Nat.reduceAdd]; rfl)))))
  simp (disch := omega) only [go_sem, ↓reduceIte, Nat.reduceAdd, Nat.reduceSub, Nat.reduceMul, Nat.reduceEqDiff, Nat.reduceLT, Nat.reduceLeDiff, Nat.reduceBEq, Int.reduceNeg, Int.reduceLT, Int.reduceLE, Int.reduceEq, reduceCtorEq]

theorem ratMul (a b : Rat) {j k : Nat} (ha : Sz a j) (hb : Sz b k) (hj : j ≤ 2000000) (hk : k ≤ 2000000) : Pure Tryd.prog 53 [ratQ a, ratQ b] (ratQ (a * b)) := by
  obtain ⟨a1, a2⟩ := id ha
  obtain ⟨b1, b2⟩ := id hb
  have l1 : (toL (a.num * b.num).natAbs).length ≤ j + k := by rw [Int.natAbs_mul]; exact Nat.le_trans (lg_mul _ _) (by omega)
  have l2 : (toL (a.den * b.den)).length ≤ j + k := Nat.le_trans (lg_mul _ _) (by omega)
  have c := ratReduced (decide (a.num * b.num < 0)) (a.num * b.num).natAbs (a.den * b.den) (by omega) (by omega) (Nat.mul_ne_zero a.den_nz b.den_nz)
  rw [zI_abs, ← Rat.mul_def'] at c
  refine pure_intro (tok := 0) Tryd.func53 rfl Tryd.ntmps53 Tryd.results53 Tryd.call53 (by rfl) (by simp) ?_
  (repeat' (first | (with_reducible first | refine stp ?_ | apply gx1 | apply gx2 | apply gx3 | apply gx4 | apply gx5 | apply gx6 | apply gx7 | apply gy8 | apply gz2 | apply gz3 | refine gw0 (ratParts a ha (by omega)) ?_ ?_ | refine gw3 (ratParts a ha (by omega)) ?_ ?_ ?_ | refine gw0 (ratParts b hb (by omega)) ?_ ?_ | refine gw3 (ratParts b hb (by omega)) ?_ ?_ ?_ | refine gw0 (iMul a.num b.num (by omega) (by omega)) ?_ ?_ | refine gw3 (iMul a.num b.num (by omega) (by omega)) ?_ ?_ ?_ | refine gw0 (nMul a.den b.den (by omega) (by omega)) ?_ ?_ | refine gw3 (nMul a.den b.den (by omega) (by omega)) ?_ ?_ ?_ | refine gw0 (c) ?_ ?_ | refine gw3 (c) ?_ ?_ ?_) | (with_reducible refine all_v ?_; intro _) | ((with_reducible refine gE ?_); (try simp (disch := omega) only [go_sem, ↓reduceIte, Nat.reduceAdd, Nat.reduceSub, Nat.reduceMul, Nat.reduceEqDiff, Nat.reduceLT, Nat.reduceLeDiff, Nat.reduceBEq, Int.reduceNeg, Int.reduceLT, Int.reduceLE, Int.reduceEq, reduceCtorEq]) <;> first | rfl | omega) | with_reducible refine t_in_other (by decide) ?_ | ((with_reducible apply gy1); iterate 3 focus rfl) | ((with_reducible apply gy2); iterate 3 focus rfl) | ((with_reducible apply gy3); iterate 2 focus rfl) | ((with_reducible apply gy4); iterate 1 focus rfl) | ((with_reducible apply gy5); iterate 4 focus rfl) | ((with_reducible apply gy6); iterate 4 focus rfl) | ((with_reducible apply d_bar); iterate 3 focus rfl) | ((with_reducible apply q_pub); iterate 1 focus rfl) | ((with_reducible apply gy7); iterate 1 focus rfl) | ((with_reducible apply gy9); (focus ((with_reducible refine gE ?_); (try simp (disch := omega) only [go_sem, ↓reduceIte, Nat.reduceAdd, Nat.reduceSub, Nat.reduceMul, Nat.reduceEqDiff, Nat.reduceLT, Nat.reduceLeDiff, Nat.reduceBEq, Int.reduceNeg, Int.reduceLT, Int.reduceLE, Int.reduceEq, reduceCtorEq]) <;> rfl))) | ((with_reducible apply gz1); (focus first | rfl | (simp (disch := omega) only [go_sem, ↓reduceIte, Nat.reduceAdd, Nat.reduceSub, Nat.reduceMul, Nat.reduceEqDiff, Nat.reduceLT, Nat.reduceLeDiff, Nat.reduceBEq, Int.reduceNeg, Int.reduceLT, Int.reduceLE, Int.reduceEq, reduceCtorEq]; done))) | ((with_reducible apply r_drawD (pickR []) [] []); (focus kernel_rfl); (focus rfl); (focus kernel_rfl); (focus (simp only [List.length_cons, List.length_nil, Nat.reduceAdd]; rfl)))))
  simp (disch := omega) only [go_sem, ↓reduceIte, Nat.reduceAdd, Nat.reduceSub, Nat.reduceMul, Nat.reduceEqDiff, Nat.reduceLT, Nat.reduceLeDiff, Nat.reduceBEq, Int.reduceNeg, Int.reduceLT, Int.reduceLE, Int.reduceEq, reduceCtorEq]

set_option maxHeartbeats 1000000 in
theorem ratAddA (s t : Bool) (n d m c : Nat) {j k : Nat} (a1 : (toL n).length ≤ j) (a2 : (toL d).length ≤ j) (b1 : (toL m).length ≤ k) (b2 : (toL c).length ≤ k) (hd0 : d ≠ 0) (hc0 : c ≠ 0) (hj : j ≤ 2000000) (hk : k ≤ 2000000) :
    Pure Tryd.prog 96 [ratA s n d, ratA t m c] (ratQ (mkRat (zI s n) d + mkRat (zI t m) c)) := by
  have oa := ratOne d (by omega)
  have ob := ratOne c (by omega)
  have l2 : (toL (d * c)).length ≤ j + k := Nat.le_trans (lg_mul _ _) (by omega)
  have z1 := zI_natAbs s n
  have w1 := zI_natAbs t m
  have pa := ratPartsA s n d (by omega) hd0
  have pb := ratPartsA t m c (by omega) hc0
  have eq : mkRat (zI s n) d + mkRat (zI t m) c = mkRat (zI s n * c + zI t m * d) (d * c) := Rat.mkRat_add_mkRat _ _ hd0 hc0
  have cs0 := ratSumA s t n m (by omega) (by omega)
  have cm1 : Pure Tryd.prog 70 [intA s n, intA false c] (intZ (zI s n * c)) := intMul s false n c (by omega) (by omega)
  have cm2 : Pure Tryd.prog 70 [intA t m, intA false d] (intZ (zI t m * d)) := intMul t false m d (by omega) (by omega)
  rw [eq]
  have x1 : (toL (zI s n * c).natAbs).length ≤ j + k := by
    rw [Int.natAbs_mul, Int.natAbs_natCast, z1]
    exact Nat.le_trans (lg_mul _ _) (by omega)
  have x2 : (toL (zI t m * d).natAbs).length ≤ j + k := by
    rw [Int.natAbs_mul, Int.natAbs_natCast, w1]
    exact Nat.le_trans (lg_mul _ _) (by omega)
  by_cases h1 : d = 1 ∧ c = 1
  · obtain ⟨h1, h2⟩ := h1
    have l1 : (toL (zI s n + zI t m).natAbs).length ≤ j + k + 1 := by
      have h3 := lg_mono (natAbs_add_le (zI s n) (zI t m))
      have h4 := lg_add (zI s n).natAbs (zI t m).natAbs
      rw [z1, w1] at h3 h4
      omega
    have c := ratReduced (decide (zI s n + zI t m < 0)) (zI s n + zI t m).natAbs 1 (by omega) (by rw [lg_one]; omega) (by omega)
    rw [zI_abs] at c
    subst h1; subst h2
    rw [decide_eq_true rfl] at oa ob
    have e1 : zI s n * ((1 : Nat) : Int) + zI t m * ((1 : Nat) : Int) = zI s n + zI t m := by omega
    rw [e1, Nat.mul_one]
    refine pure_intro (tok := 0) Tryd.func96 rfl Tryd.ntmps96 Tryd.results96 Tryd.call96 (by rfl) (by simp) ?_
    (repeat' (first | (with_reducible first | refine stp ?_ | apply gx1 | apply gx2 | apply gx3 | apply gx4 | apply gx5 | apply gx6 | apply gx7 | apply gy8 | apply gz2 | apply gz3 | refine gw0 (pa) ?_ ?_ | refine gw3 (pa) ?_ ?_ ?_ | refine gw0 (pb) ?_ ?_ | refine gw3 (pb) ?_ ?_ ?_ | refine gw0 (oa) ?_ ?_ | refine gw3 (oa) ?_ ?_ ?_ | refine gw0 (ob) ?_ ?_ | refine gw3 (ob) ?_ ?_ ?_ | apply gw1 (cs0) | refine gw0 (c) ?_ ?_ | refine gw3 (c) ?_ ?_ ?_) | (with_reducible refine all_v ?_; intro _) | ((with_reducible refine gE ?_); (try simp (disch := omega) only [go_sem, ↓reduceIte, Nat.reduceAdd, Nat.reduceSub, Nat.reduceMul, Nat.reduceEqDiff, Nat.reduceLT, Nat.reduceLeDiff, Nat.reduceBEq, Int.reduceNeg, Int.reduceLT, Int.reduceLE, Int.reduceEq, reduceCtorEq]) <;> first | rfl | omega) | with_reducible refine t_in_other (by decide) ?_ | ((with_reducible apply gy1); iterate 3 focus rfl) | ((with_reducible apply gy2); iterate 3 focus rfl) | ((with_reducible apply gy3); iterate 2 focus rfl) | ((with_reducible apply gy4); iterate 1 focus rfl) | ((with_reducible apply gy5); iterate 4 focus rfl) | ((with_reducible apply gy6); iterate 4 focus rfl) | ((with_reducible apply d_bar); iterate 3 focus rfl) | ((with_reducible apply q_pub); iterate 1 focus rfl) | ((with_reducible apply gy7); iterate 1 focus rfl) | ((with_reducible apply gy9); (focus ((with_reducible refine gE ?_); (try simp (disch := omega) only [go_sem, ↓reduceIte, Nat.reduceAdd, Nat.reduceSub, Nat.reduceMul, Nat.reduceEqDiff, Nat.reduceLT, Nat.reduceLeDiff, Nat.reduceBEq, Int.reduceNeg, Int.reduceLT, Int.reduceLE, Int.reduceEq, reduceCtorEq]) <;> rfl))) | ((with_reducible apply gz1); (focus first | rfl | (simp (disch := omega) only [go_sem, ↓reduceIte, Nat.reduceAdd, Nat.reduceSub, Nat.reduceMul, Nat.reduceEqDiff, Nat.reduceLT, Nat.reduceLeDiff, Nat.reduceBEq, Int.reduceNeg, Int.reduceLT, Int.reduceLE, Int.reduceEq, reduceCtorEq]; done))) | ((with_reducible apply r_drawD (pickR []) [] []); (focus kernel_rfl); (focus rfl); (focus kernel_rfl); (focus (simp only [List.length_cons, List.length_nil, Nat.reduceAdd]; rfl)))))
    simp (disch := omega) only [go_sem, ↓reduceIte, Nat.reduceAdd, Nat.reduceSub, Nat.reduceMul, Nat.reduceEqDiff, Nat.reduceLT, Nat.reduceLeDiff, Nat.reduceBEq, Int.reduceNeg, Int.reduceLT, Int.reduceLE, Int.reduceEq, reduceCtorEq]
  · have l1 : (toL (zI s n * c + zI t m * d).natAbs).length ≤ j + k + 1 := by
      have h3 := lg_mono (natAbs_add_le (zI s n * c) (zI t m * d))
      have h4 := lg_add (zI s n * c).natAbs (zI t m * d).natAbs
      omega
    have cr := ratReduced (decide (zI s n * c + zI t m * d < 0)) (zI s n * c + zI t m * d).natAbs (d * c) (by omega) (by omega) (Nat.mul_ne_zero hd0 hc0)
    rw [zI_abs] at cr
    have cs := ratSum (zI s n * c) (zI t m * d) (by omega) (by omega)
    have cw1 := ratWhole c
    have cw2 := ratWhole d
    have cm := nMul d c (by omega) (by omega)
    generalize zI s n * (c : Int) = y1 at *
    generalize zI t m * (d : Int) = y2 at *
    by_cases h2 : d = 1
    · have h3 : c ≠ 1 := fun h => h1 ⟨h2, h⟩
      rw [decide_eq_true h2] at oa
      rw [decide_eq_false h3] at ob
      refine pure_intro (tok := 0) Tryd.func96 rfl Tryd.ntmps96 Tryd.results96 Tryd.call96 (by rfl) (by simp) ?_
      (repeat' (first | (with_reducible first | refine stp ?_ | apply gx1 | apply gx2 | apply gx3 | apply gx4 | apply gx5 | apply gx6 | apply gx7 | apply gy8 | apply gz2 | apply gz3 | refine gw0 (pa) ?_ ?_ | refine gw3 (pa) ?_ ?_ ?_ | refine gw0 (pb) ?_ ?_ | refine gw3 (pb) ?_ ?_ ?_ | refine gw0 (oa) ?_ ?_ | refine gw3 (oa) ?_ ?_ ?_ | refine gw0 (ob) ?_ ?_ | refine gw3 (ob) ?_ ?_ ?_ | refine gw0 (cw1) ?_ ?_ | refine gw3 (cw1) ?_ ?_ ?_ | refine gw0 (cm1) ?_ ?_ | refine gw3 (cm1) ?_ ?_ ?_ | refine gw0 (cw2) ?_ ?_ | refine gw3 (cw2) ?_ ?_ ?_ | refine gw0 (cm2) ?_ ?_ | refine gw3 (cm2) ?_ ?_ ?_ | refine gw0 (cs) ?_ ?_ | refine gw3 (cs) ?_ ?_ ?_ | refine gw0 (cm) ?_ ?_ | refine gw3 (cm) ?_ ?_ ?_ | refine gw0 (cr) ?_ ?_ | refine gw3 (cr) ?_ ?_ ?_) | (with_reducible refine all_v ?_; intro _) | ((with_reducible refine gE ?_); (try simp (disch := omega) only [go_sem, ↓reduceIte, Nat.reduceAdd, Nat.reduceSub, Nat.reduceMul, Nat.reduceEqDiff, Nat.reduceLT, Nat.reduceLeDiff, Nat.reduceBEq, Int.reduceNeg, Int.reduceLT, Int.reduceLE, Int.reduceEq, reduceCtorEq]) <;> first | rfl | omega) | with_reducible refine t_in_other (by decide) ?_ | ((with_reducible apply gy1); iterate 3 focus rfl) | ((with_reducible apply gy2); iterate 3 focus rfl) | ((with_reducible apply gy3); iterate 2 focus rfl) | ((with_reducible apply gy4); iterate 1 focus rfl) | ((with_reducible apply gy5); iterate 4 focus rfl) | ((with_reducible apply gy6); iterate 4 focus rfl) | ((with_reducible apply d_bar); iterate 3 focus rfl) | ((with_reducible apply q_pub); iterate 1 focus rfl) | ((with_reducible apply gy7); iterate 1 focus rfl) | ((with_reducible apply gy9); (focus ((with_reducible refine gE ?_); (try simp (disch := omega) only [go_sem, ↓reduceIte, Nat.reduceAdd, Nat.reduceSub, Nat.reduceMul, Nat.reduceEqDiff, Nat.reduceLT, Nat.reduceLeDiff, Nat.reduceBEq, Int.reduceNeg, Int.reduceLT, Int.reduceLE, Int.reduceEq, reduceCtorEq]) <;> rfl))) | ((with_reducible apply gz1); (focus first | rfl | (simp (disch := omega) only [go_sem, ↓reduceIte, Nat.reduceAdd, Nat.reduceSub, Nat.reduceMul, Nat.reduceEqDiff, Nat.reduceLT, Nat.reduceLeDiff, Nat.reduceBEq, Int.reduceNeg, Int.reduceLT, Int.reduceLE, Int.reduceEq, reduceCtorEq]; done))) | ((with_reducible apply r_drawD (pickR [(2, intA false c), (3, intZ y1), (6, intA false d), (7, intZ y2), (8, .sl 2 [intZ y1, intZ y2]), (9, intZ (y1 + y2)), (12, lim (toL (d * c))), (13, ratQ (mkRat (y1 + y2) (d * c)))]) [] [4]); (focus kernel_rfl); (focus rfl); (focus kernel_rfl); (focus (simp only [List.length_cons, List.length_nil, Nat.reduceAdd]; rfl)))))
      simp (disch := omega) only [go_sem, ↓reduceIte, Nat.reduceAdd, Nat.reduceSub, Nat.reduceMul, Nat.reduceEqDiff, Nat.reduceLT, Nat.reduceLeDiff, Nat.reduceBEq, Int.reduceNeg, Int.reduceLT, Int.reduceLE, Int.reduceEq, reduceCtorEq]
    · rw [decide_eq_false h2] at oa
      refine pure_intro (tok := 0) Tryd.func96 rfl Tryd.ntmps96 Tryd.results96 Tryd.call96 (by rfl) (by simp) ?_
      (repeat' (first | (with_reducible first | refine stp ?_ | apply gx1 | apply gx2 | apply gx3 | apply gx4 | apply gx5 | apply gx6 | apply gx7 | apply gy8 | apply gz2 | apply gz3 | refine gw0 (pa) ?_ ?_ | refine gw3 (pa) ?_ ?_ ?_ | refine gw0 (pb) ?_ ?_ | refine gw3 (pb) ?_ ?_ ?_ | refine gw0 (oa) ?_ ?_ | refine gw3 (oa) ?_ ?_ ?_ | refine gw0 (cw1) ?_ ?_ | refine gw3 (cw1) ?_ ?_ ?_ | refine gw0 (cm1) ?_ ?_ | refine gw3 (cm1) ?_ ?_ ?_ | refine gw0 (cw2) ?_ ?_ | refine gw3 (cw2) ?_ ?_ ?_ | refine gw0 (cm2) ?_ ?_ | refine gw3 (cm2) ?_ ?_ ?_ | refine gw0 (cs) ?_ ?_ | refine gw3 (cs) ?_ ?_ ?_ | refine gw0 (cm) ?_ ?_ | refine gw3 (cm) ?_ ?_ ?_ | refine gw0 (cr) ?_ ?_ | refine gw3 (cr) ?_ ?_ ?_) | (with_reducible refine all_v ?_; intro _) | ((with_reducible refine gE ?_); (try simp (disch := omega) only [go_sem, ↓reduceIte, Nat.reduceAdd, Nat.reduceSub, Nat.reduceMul, Nat.reduceEqDiff, Nat.reduceLT, Nat.reduceLeDiff, Nat.reduceBEq, Int.reduceNeg, Int.reduceLT, Int.reduceLE, Int.reduceEq, reduceCtorEq]) <;> first | rfl | omega) | with_reducible refine t_in_other (by decide) ?_ | ((with_reducible apply gy1); iterate 3 focus rfl) | ((with_reducible apply gy2); iterate 3 focus rfl) | ((with_reducible apply gy3); iterate 2 focus rfl) | ((with_reducible apply gy4); iterate 1 focus rfl) | ((with_reducible apply gy5); iterate 4 focus rfl) | ((with_reducible apply gy6); iterate 4 focus rfl) | ((with_reducible apply d_bar); iterate 3 focus rfl) | ((with_reducible apply q_pub); iterate 1 focus rfl) | ((with_reducible apply gy7); iterate 1 focus rfl) | ((with_reducible apply gy9); (focus ((with_reducible refine gE ?_); (try simp (disch := omega) only [go_sem, ↓reduceIte, Nat.reduceAdd, Nat.reduceSub, Nat.reduceMul, Nat.reduceEqDiff, Nat.reduceLT, Nat.reduceLeDiff, Nat.reduceBEq, Int.reduceNeg, Int.reduceLT, Int.reduceLE, Int.reduceEq, reduceCtorEq]) <;> rfl))) | ((with_reducible apply gz1); (focus first | rfl | (simp (disch := omega) only [go_sem, ↓reduceIte, Nat.reduceAdd, Nat.reduceSub, Nat.reduceMul, Nat.reduceEqDiff, Nat.reduceLT, Nat.reduceLeDiff, Nat.reduceBEq, Int.reduceNeg, Int.reduceLT, Int.reduceLE, Int.reduceEq, reduceCtorEq]; done))) | ((with_reducible apply r_drawD (pickR [(2, intA false c), (3, intZ y1), (6, intA false d), (7, intZ y2), (8, .sl 2 [intZ y1, intZ y2]), (9, intZ (y1 + y2)), (12, lim (toL (d * c))), (13, ratQ (mkRat (y1 + y2) (d * c)))]) [] [4]); (focus kernel_rfl); (focus rfl); (focus kernel_rfl); (focus (simp only [List.length_cons, List.length_nil, Nat.reduceAdd]; rfl)))))
      simp (disch := omega) only [go_sem, ↓reduceIte, Nat.reduceAdd, Nat.reduceSub, Nat.reduceMul, Nat.reduceEqDiff, Nat.reduceLT, Nat.reduceLeDiff, Nat.reduceBEq, Int.reduceNeg, Int.reduceLT, Int.reduceLE, Int.reduceEq, reduceCtorEq]
theorem ratAdd (a b : Rat) {j k : Nat} (ha : Sz a j) (hb : Sz b k) (hj : j ≤ 2000000) (hk : k ≤ 2000000) : Pure Tryd.prog 96 [ratQ a, ratQ b] (ratQ (a + b)) := by
  have := ratAddA (decide (a.num < 0)) (decide (b.num < 0)) a.num.natAbs a.den b.num.natAbs b.den ha.1 ha.2 hb.1 hb.2 a.den_nz b.den_nz hj hk
  rwa [zI_abs, zI_abs, Rat.mkRat_self, Rat.mkRat_self] at this

theorem ratSub (a b : Rat) {j k : Nat} (ha : Sz a j) (hb : Sz b k) (hj : j ≤ 2000000) (hk : k ≤ 2000000) : Pure Tryd.prog 86 [ratQ a, ratQ b] (ratQ (a - b)) := by
  have c := ratAddA (decide (a.num < 0)) (!decide (b.num < 0)) a.num.natAbs a.den b.num.natAbs b.den ha.1 ha.2 hb.1 hb.2 a.den_nz b.den_nz hj hk
  have e : zI (!decide (b.num < 0)) b.num.natAbs = -b.num := by
    have := zI_abs b.num
    unfold zI at *
    by_cases h : b.num < 0
    · simp only [decide_eq_true h, Bool.not_true, Bool.false_eq_true, if_false]; omega
    · simp only [decide_eq_false h, Bool.not_false, if_true]; omega
  have e2 : mkRat (-b.num) b.den = -b := by rw [← Rat.neg_mkRat, Rat.mkRat_self]
  rw [zI_abs, e, Rat.mkRat_self, e2, ← Rat.sub_eq_add_neg] at c
  refine pure_intro (tok := 0) Tryd.func86 rfl Tryd.ntmps86 Tryd.results86 Tryd.call86 (by rfl) (by simp) ?_
  (repeat' (first | (with_reducible first | refine stp ?_ | apply gx1 | apply gx2 | apply gx3 | apply gx4 | apply gx5 | apply gx6 | apply gx7 | apply gy8 | apply gz2 | apply gz3 | refine gw0 (c) ?_ ?_ | refine gw3 (c) ?_ ?_ ?_) | (with_reducible refine all_v ?_; intro _) | ((with_reducible refine gE ?_); (try simp (disch := omega) only [go_sem, ↓reduceIte, Nat.reduceAdd, Nat.reduceSub, Nat.reduceMul, Nat.reduceEqDiff, Nat.reduceLT, Nat.reduceLeDiff, Nat.reduceBEq, Int.reduceNeg, Int.reduceLT, Int.reduceLE, Int.reduceEq, reduceCtorEq]) <;> first | rfl | omega) | with_reducible refine t_in_other (by decide) ?_ | ((with_reducible apply gy1); iterate 3 focus rfl) | ((with_reducible apply gy2); iterate 3 focus rfl) | ((with_reducible apply gy3); iterate 2 focus rfl) | ((with_reducible apply gy4); iterate 1 focus rfl) | ((with_reducible apply gy5); iterate 4 focus rfl) | ((with_reducible apply gy6); iterate 4 focus rfl) | ((with_reducible apply d_bar); iterate 3 focus rfl) | ((with_reducible apply q_pub); iterate 1 focus rfl) | ((with_reducible apply gy7); iterate 1 focus rfl) | ((with_reducible apply gy9); (focus ((with_reducible refine gE ?_); (try simp (disch := omega) only [go_sem, ↓reduceIte, Nat.reduceAdd, Nat.reduceSub, Nat.reduceMul, Nat.reduceEqDiff, Nat.reduceLT, Nat.reduceLeDiff, Nat.reduceBEq, Int.reduceNeg, Int.reduceLT, Int.reduceLE, Int.reduceEq, reduceCtorEq]) <;> rfl))) | ((with_reducible apply gz1); (focus first | rfl | (simp (disch := omega) only [go_sem, ↓reduceIte, Nat.reduceAdd, Nat.reduceSub, Nat.reduceMul, Nat.reduceEqDiff, Nat.reduceLT, Nat.reduceLeDiff, Nat.reduceBEq, Int.reduceNeg, Int.reduceLT, Int.reduceLE, Int.reduceEq, reduceCtorEq]; done))) | ((with_reducible apply r_drawD (pickR []) [] []); (focus kernel_rfl); (focus rfl); (focus kernel_rfl); (focus (simp only [List.length_cons, List.length_nil, Nat.reduceAdd]; rfl)))))
  simp (disch := omega) only [go_sem, ↓reduceIte, Nat.reduceAdd, Nat.reduceSub, Nat.reduceMul, Nat.reduceEqDiff, Nat.reduceLT, Nat.reduceLeDiff, Nat.reduceBEq, Int.reduceNeg, Int.reduceLT, Int.reduceLE, Int.reduceEq, reduceCtorEq]



end Go.Proofs.YtjiffehkemeloaaDoor
end

section
namespace Go.Proofs.YtjiffehkemeloaaDoor
open Go Go.RowKit Go.Pg
set_option linter.unusedSimpArgs false
set_option linter.unusedVariables false
set_option maxRecDepth 20000
attribute [local go_sem] Tryd.underlying56 Tryd.underlying3 Tryd.underlying91 Tryd.underlying81 Tryd.underlying4 Tryd.underlying58 Tryd.underlying60 Tryd.underlying41 sz3 by3 z3 szL byL zL szB zB szNat zNat szInt zInt szRat zRat Tryd.underlying141

theorem intZ_neg {z : Int} (h : z < 0) : intZ z = intA true z.natAbs := by unfold intZ; rw [decide_eq_true h]
theorem intZ_pos {z : Int} (h : ¬ z < 0) : intZ z = intA false z.natAbs := by unfold intZ; rw [decide_eq_false h]

theorem zOf' (s : Bool) (n : Nat) (hn : (toL n).length ≤ 100000000) : Pure Tryd.prog 64 [.v (.bool s), lim (toL n)] (intZ (zI s n)) := by
  rw [intZ_of]
  have hp := @toL_len_pos n
  cases s
  · refine pure_intro (tok := 0) Tryd.func64 rfl Tryd.ntmps64 Tryd.results64 Tryd.call64 (by rfl) (by simp) ?_
    (repeat' (first | (with_reducible first | refine stp ?_ | apply gx1 | apply gx2 | apply gx3 | apply gx4 | apply gx5 | apply gx6 | apply gx7 | apply gy8 | apply gz2 | apply gz3 | refine gw0 (rNorm n hn) ?_ ?_ | refine gw3 (rNorm n hn) ?_ ?_ ?_) | (with_reducible refine all_v ?_; intro _) | ((with_reducible refine gE ?_); (try simp (disch := omega) only [go_sem, ↓reduceIte, Nat.reduceAdd, Nat.reduceSub, Nat.reduceMul, Nat.reduceEqDiff, Nat.reduceLT, Nat.reduceLeDiff, Nat.reduceBEq, Int.reduceNeg, Int.reduceLT, Int.reduceLE, Int.reduceEq, reduceCtorEq]) <;> first | rfl | omega) | with_reducible refine t_in_other (by decide) ?_ | ((with_reducible apply gy1); iterate 3 focus rfl) | ((with_reducible apply gy2); iterate 3 focus rfl) | ((with_reducible apply gy3); iterate 2 focus rfl) | ((with_reducible apply gy4); iterate 1 focus rfl) | ((with_reducible apply gy5); iterate 4 focus rfl) | ((with_reducible apply gy6); iterate 4 focus rfl) | ((with_reducible apply d_bar); iterate 3 focus rfl) | ((with_reducible apply q_pub); iterate 1 focus rfl) | ((with_reducible apply gy7); iterate 1 focus rfl) | ((with_reducible apply gy9); (focus ((with_reducible refine gE ?_); (try simp (disch := omega) only [go_sem, ↓reduceIte, Nat.reduceAdd, Nat.reduceSub, Nat.reduceMul, Nat.reduceEqDiff, Nat.reduceLT, Nat.reduceLeDiff, Nat.reduceBEq, Int.reduceNeg, Int.reduceLT, Int.reduceLE, Int.reduceEq, reduceCtorEq]) <;> rfl))) | ((with_reducible apply gz1); (focus first | rfl | (simp (disch := omega) only [go_sem, ↓reduceIte, Nat.reduceAdd, Nat.reduceSub, Nat.reduceMul, Nat.reduceEqDiff, Nat.reduceLT, Nat.reduceLeDiff, Nat.reduceBEq, Int.reduceNeg, Int.reduceLT, Int.reduceLE, Int.reduceEq, reduceCtorEq]; done))) | ((with_reducible apply r_drawD (pickR []) [] []); (focus kernel_rfl); (focus rfl); (focus kernel_rfl); (focus (simp only [List.length_cons, List.length_nil, Nat.reduceAdd]; rfl)))))
    simp (disch := omega) only [go_sem, ↓reduceIte, Nat.reduceAdd, Nat.reduceSub, Nat.reduceMul, Nat.reduceEqDiff, Nat.reduceLT, Nat.reduceLeDiff, Nat.reduceBEq, Int.reduceNeg, Int.reduceLT, Int.reduceLE, Int.reduceEq, reduceCtorEq, Bool.false_and]
  · by_cases h : 0 < n
    · have h2 := hp.2 h
      refine pure_intro (tok := 0) Tryd.func64 rfl Tryd.ntmps64 Tryd.results64 Tryd.call64 (by rfl) (by simp) ?_
      (repeat' (first | (with_reducible first | refine stp ?_ | apply gx1 | apply gx2 | apply gx3 | apply gx4 | apply gx5 | apply gx6 | apply gx7 | apply gy8 | apply gz2 | apply gz3 | refine gw0 (rNorm n hn) ?_ ?_ | refine gw3 (rNorm n hn) ?_ ?_ ?_) | (with_reducible refine all_v ?_; intro _) | ((with_reducible refine gE ?_); (try simp (disch := omega) only [go_sem, ↓reduceIte, Nat.reduceAdd, Nat.reduceSub, Nat.reduceMul, Nat.reduceEqDiff, Nat.reduceLT, Nat.reduceLeDiff, Nat.reduceBEq, Int.reduceNeg, Int.reduceLT, Int.reduceLE, Int.reduceEq, reduceCtorEq]) <;> first | rfl | omega) | with_reducible refine t_in_other (by decide) ?_ | ((with_reducible apply gy1); iterate 3 focus rfl) | ((with_reducible apply gy2); iterate 3 focus rfl) | ((with_reducible apply gy3); iterate 2 focus rfl) | ((with_reducible apply gy4); iterate 1 focus rfl) | ((with_reducible apply gy5); iterate 4 focus rfl) | ((with_reducible apply gy6); iterate 4 focus rfl) | ((with_reducible apply d_bar); iterate 3 focus rfl) | ((with_reducible apply q_pub); iterate 1 focus rfl) | ((with_reducible apply gy7); iterate 1 focus rfl) | ((with_reducible apply gy9); (focus ((with_reducible refine gE ?_); (try simp (disch := omega) only [go_sem, ↓reduceIte, Nat.reduceAdd, Nat.reduceSub, Nat.reduceMul, Nat.reduceEqDiff, Nat.reduceLT, Nat.reduceLeDiff, Nat.reduceBEq, Int.reduceNeg, Int.reduceLT, Int.reduceLE, Int.reduceEq, reduceCtorEq]) <;> rfl))) | ((with_reducible apply gz1); (focus first | rfl | (simp (disch := omega) only [go_sem, ↓reduceIte, Nat.reduceAdd, Nat.reduceSub, Nat.reduceMul, Nat.reduceEqDiff, Nat.reduceLT, Nat.reduceLeDiff, Nat.reduceBEq, Int.reduceNeg, Int.reduceLT, Int.reduceLE, Int.reduceEq, reduceCtorEq]; done))) | ((with_reducible apply r_drawD (pickR []) [] []); (focus kernel_rfl); (focus rfl); (focus kernel_rfl); (focus (simp only [List.length_cons, List.length_nil, Nat.reduceAdd]; rfl)))))
      simp (disch := omega) only [go_sem, ↓reduceIte, Nat.reduceAdd, Nat.reduceSub, Nat.reduceMul, Nat.reduceEqDiff, Nat.reduceLT, Nat.reduceLeDiff, Nat.reduceBEq, Int.reduceNeg, Int.reduceLT, Int.reduceLE, Int.reduceEq, reduceCtorEq, decide_eq_true h]
    · have h2 : ¬ 0 < (toL n).length := fun h3 => h (hp.1 h3)
      refine pure_intro (tok := 0) Tryd.func64 rfl Tryd.ntmps64 Tryd.results64 Tryd.call64 (by rfl) (by simp) ?_
      (repeat' (first | (with_reducible first | refine stp ?_ | apply gx1 | apply gx2 | apply gx3 | apply gx4 | apply gx5 | apply gx6 | apply gx7 | apply gy8 | apply gz2 | apply gz3 | refine gw0 (rNorm n hn) ?_ ?_ | refine gw3 (rNorm n hn) ?_ ?_ ?_) | (with_reducible refine all_v ?_; intro _) | ((with_reducible refine gE ?_); (try simp (disch := omega) only [go_sem, ↓reduceIte, Nat.reduceAdd, Nat.reduceSub, Nat.reduceMul, Nat.reduceEqDiff, Nat.reduceLT, Nat.reduceLeDiff, Nat.reduceBEq, Int.reduceNeg, Int.reduceLT, Int.reduceLE, Int.reduceEq, reduceCtorEq]) <;> first | rfl | omega) | with_reducible refine t_in_other (by decide) ?_ | ((with_reducible apply gy1); iterate 3 focus rfl) | ((with_reducible apply gy2); iterate 3 focus rfl) | ((with_reducible apply gy3); iterate 2 focus rfl) | ((with_reducible apply gy4); iterate 1 focus rfl) | ((with_reducible apply gy5); iterate 4 focus rfl) | ((with_reducible apply gy6); iterate 4 focus rfl) | ((with_reducible apply d_bar); iterate 3 focus rfl) | ((with_reducible apply q_pub); iterate 1 focus rfl) | ((with_reducible apply gy7); iterate 1 focus rfl) | ((with_reducible apply gy9); (focus ((with_reducible refine gE ?_); (try simp (disch := omega) only [go_sem, ↓reduceIte, Nat.reduceAdd, Nat.reduceSub, Nat.reduceMul, Nat.reduceEqDiff, Nat.reduceLT, Nat.reduceLeDiff, Nat.reduceBEq, Int.reduceNeg, Int.reduceLT, Int.reduceLE, Int.reduceEq, reduceCtorEq]) <;> rfl))) | ((with_reducible apply gz1); (focus first | rfl | (simp (disch := omega) only [go_sem, ↓reduceIte, Nat.reduceAdd, Nat.reduceSub, Nat.reduceMul, Nat.reduceEqDiff, Nat.reduceLT, Nat.reduceLeDiff, Nat.reduceBEq, Int.reduceNeg, Int.reduceLT, Int.reduceLE, Int.reduceEq, reduceCtorEq]; done))) | ((with_reducible apply r_drawD (pickR []) [] []); (focus kernel_rfl); (focus rfl); (focus kernel_rfl); (focus (simp only [List.length_cons, List.length_nil, Nat.reduceAdd]; rfl)))))
      simp (disch := omega) only [go_sem, ↓reduceIte, Nat.reduceAdd, Nat.reduceSub, Nat.reduceMul, Nat.reduceEqDiff, Nat.reduceLT, Nat.reduceLeDiff, Nat.reduceBEq, Int.reduceNeg, Int.reduceLT, Int.reduceLE, Int.reduceEq, reduceCtorEq, decide_eq_false h]

theorem zNorm (s : Bool) (n : Nat) (hn : (toL n).length ≤ 100000000) : Pure Tryd.prog 59 [intA s n] (intZ (zI s n)) := by
  refine pure_intro (tok := 0) Tryd.func59 rfl Tryd.ntmps59 Tryd.results59 Tryd.call59 (by rfl) (by simp) ?_
  (repeat' (first | (with_reducible first | refine stp ?_ | apply gx1 | apply gx2 | apply gx3 | apply gx4 | apply gx5 | apply gx6 | apply gx7 | apply gy8 | apply gz2 | apply gz3 | refine gw0 (zOf' s n hn) ?_ ?_ | refine gw3 (zOf' s n hn) ?_ ?_ ?_) | (with_reducible refine all_v ?_; intro _) | ((with_reducible refine gE ?_); (try simp (disch := omega) only [go_sem, ↓reduceIte, Nat.reduceAdd, Nat.reduceSub, Nat.reduceMul, Nat.reduceEqDiff, Nat.reduceLT, Nat.reduceLeDiff, Nat.reduceBEq, Int.reduceNeg, Int.reduceLT, Int.reduceLE, Int.reduceEq, reduceCtorEq]) <;> first | rfl | omega) | with_reducible refine t_in_other (by decide) ?_ | ((with_reducible apply gy1); iterate 3 focus rfl) | ((with_reducible apply gy2); iterate 3 focus rfl) | ((with_reducible apply gy3); iterate 2 focus rfl) | ((with_reducible apply gy4); iterate 1 focus rfl) | ((with_reducible apply gy5); iterate 4 focus rfl) | ((with_reducible apply gy6); iterate 4 focus rfl) | ((with_reducible apply d_bar); iterate 3 focus rfl) | ((with_reducible apply q_pub); iterate 1 focus rfl) | ((with_reducible apply gy7); iterate 1 focus rfl) | ((with_reducible apply gy9); (focus ((with_reducible refine gE ?_); (try simp (disch := omega) only [go_sem, ↓reduceIte, Nat.reduceAdd, Nat.reduceSub, Nat.reduceMul, Nat.reduceEqDiff, Nat.reduceLT, Nat.reduceLeDiff, Nat.reduceBEq, Int.reduceNeg, Int.reduceLT, Int.reduceLE, Int.reduceEq, reduceCtorEq]) <;> rfl))) | ((with_reducible apply gz1); (focus first | rfl | (simp (disch := omega) only [go_sem, ↓reduceIte, Nat.reduceAdd, Nat.reduceSub, Nat.reduceMul, Nat.reduceEqDiff, Nat.reduceLT, Nat.reduceLeDiff, Nat.reduceBEq, Int.reduceNeg, Int.reduceLT, Int.reduceLE, Int.reduceEq, reduceCtorEq]; done))) | ((with_reducible apply r_drawD (pickR []) [] []); (focus kernel_rfl); (focus rfl); (focus kernel_rfl); (focus (simp only [List.length_cons, List.length_nil, Nat.reduceAdd]; rfl)))))
  simp (disch := omega) only [go_sem, ↓reduceIte, Nat.reduceAdd, Nat.reduceSub, Nat.reduceMul, Nat.reduceEqDiff, Nat.reduceLT, Nat.reduceLeDiff, Nat.reduceBEq, Int.reduceNeg, Int.reduceLT, Int.reduceLE, Int.reduceEq, reduceCtorEq]
theorem zNormZ (z : Int) (hz : (toL z.natAbs).length ≤ 100000000) : Pure Tryd.prog 59 [intZ z] (intZ z) := by
  have := zNorm (decide (z < 0)) z.natAbs hz
  rwa [zI_abs] at this

theorem zOf (n : Nat) (hn : n < 9223372036854775808) : Pure Tryd.prog 51 [.v (.int .i64 (n : Int))] (intA false n) := by
  have l4 : (toL n).length ≤ 4 := toL_len_lt.2 (by omega)
  have hm := zOf' false n (by omega)
  rw [intZ_of, Bool.false_and] at hm
  refine pure_intro (tok := 0) Tryd.func51 rfl Tryd.ntmps51 Tryd.results51 Tryd.call51 (by rfl) (by simp) ?_
  (repeat' (first | (with_reducible first | refine stp ?_ | apply gx1 | apply gx2 | apply gx3 | apply gx4 | apply gx5 | apply gx6 | apply gx7 | apply gy8 | apply gz2 | apply gz3 | refine gw0 (refOf n (by omega)) ?_ ?_ | refine gw3 (refOf n (by omega)) ?_ ?_ ?_ | refine gw0 (hm) ?_ ?_ | refine gw3 (hm) ?_ ?_ ?_) | (with_reducible refine all_v ?_; intro _) | ((with_reducible refine gE ?_); (try simp (disch := omega) only [go_sem, ↓reduceIte, Nat.reduceAdd, Nat.reduceSub, Nat.reduceMul, Nat.reduceEqDiff, Nat.reduceLT, Nat.reduceLeDiff, Nat.reduceBEq, Int.reduceNeg, Int.reduceLT, Int.reduceLE, Int.reduceEq, reduceCtorEq]) <;> first | rfl | omega) | with_reducible refine t_in_other (by decide) ?_ | ((with_reducible apply gy1); iterate 3 focus rfl) | ((with_reducible apply gy2); iterate 3 focus rfl) | ((with_reducible apply gy3); iterate 2 focus rfl) | ((with_reducible apply gy4); iterate 1 focus rfl) | ((with_reducible apply gy5); iterate 4 focus rfl) | ((with_reducible apply gy6); iterate 4 focus rfl) | ((with_reducible apply d_bar); iterate 3 focus rfl) | ((with_reducible apply q_pub); iterate 1 focus rfl) | ((with_reducible apply gy7); iterate 1 focus rfl) | ((with_reducible apply gy9); (focus ((with_reducible refine gE ?_); (try simp (disch := omega) only [go_sem, ↓reduceIte, Nat.reduceAdd, Nat.reduceSub, Nat.reduceMul, Nat.reduceEqDiff, Nat.reduceLT, Nat.reduceLeDiff, Nat.reduceBEq, Int.reduceNeg, Int.reduceLT, Int.reduceLE, Int.reduceEq, reduceCtorEq]) <;> rfl))) | ((with_reducible apply gz1); (focus first | rfl | (simp (disch := omega) only [go_sem, ↓reduceIte, Nat.reduceAdd, Nat.reduceSub, Nat.reduceMul, Nat.reduceEqDiff, Nat.reduceLT, Nat.reduceLeDiff, Nat.reduceBEq, Int.reduceNeg, Int.reduceLT, Int.reduceLE, Int.reduceEq, reduceCtorEq]; done))) | ((with_reducible apply r_drawD (pickR []) [] []); (focus kernel_rfl); (focus rfl); (focus kernel_rfl); (focus (simp only [List.length_cons, List.length_nil, Nat.reduceAdd]; rfl)))))
  simp (disch := omega) only [go_sem, ↓reduceIte, Nat.reduceAdd, Nat.reduceSub, Nat.reduceMul, Nat.reduceEqDiff, Nat.reduceLT, Nat.reduceLeDiff, Nat.reduceBEq, Int.reduceNeg, Int.reduceLT, Int.reduceLE, Int.reduceEq, reduceCtorEq]



theorem zCmp (z w : Int) (hz : (toL z.natAbs).length ≤ 100000000) (hw : (toL w.natAbs).length ≤ 100000000) : Pure Tryd.prog 75 [intZ z, intZ w] (.v (.int .i64 (cmpZ z w))) := by
  have c1 := zNormZ z hz
  have c2 := zNormZ w hw
  have ca := rCmp z.natAbs w.natAbs hz hw
  have cb := rCmp w.natAbs z.natAbs hw hz
  by_cases h1 : z < 0
  · by_cases h2 : w < 0
    · have hc : cmpZ z w = cmpN w.natAbs z.natAbs := by
        unfold cmpZ cmpN
        have e1 : (z < w) ↔ (w.natAbs < z.natAbs) := by omega
        have e2 : (w < z) ↔ (z.natAbs < w.natAbs) := by omega
        simp only [e1, e2]
      rw [hc]
      rw [intZ_neg h1] at c1 ⊢
      rw [intZ_neg h2] at c2 ⊢
      refine pure_intro (tok := 0) Tryd.func75 rfl Tryd.ntmps75 Tryd.results75 Tryd.call75 (by rfl) (by simp) ?_
      (repeat' (first | (with_reducible first | refine stp ?_ | apply gx1 | apply gx2 | apply gx3 | apply gx4 | apply gx5 | apply gx6 | apply gx7 | apply gy8 | apply gz2 | apply gz3 | refine gw0 (c1) ?_ ?_ | refine gw3 (c1) ?_ ?_ ?_ | refine gw0 (c2) ?_ ?_ | refine gw3 (c2) ?_ ?_ ?_ | refine gw0 (cb) ?_ ?_ | refine gw3 (cb) ?_ ?_ ?_) | (with_reducible refine all_v ?_; intro _) | ((with_reducible refine gE ?_); (try simp (disch := omega) only [go_sem, ↓reduceIte, Nat.reduceAdd, Nat.reduceSub, Nat.reduceMul, Nat.reduceEqDiff, Nat.reduceLT, Nat.reduceLeDiff, Nat.reduceBEq, Int.reduceNeg, Int.reduceLT, Int.reduceLE, Int.reduceEq, reduceCtorEq]) <;> first | rfl | omega) | with_reducible refine t_in_other (by decide) ?_ | ((with_reducible apply gy1); iterate 3 focus rfl) | ((with_reducible apply gy2); iterate 3 focus rfl) | ((with_reducible apply gy3); iterate 2 focus rfl) | ((with_reducible apply gy4); iterate 1 focus rfl) | ((with_reducible apply gy5); iterate 4 focus rfl) | ((with_reducible apply gy6); iterate 4 focus rfl) | ((with_reducible apply d_bar); iterate 3 focus rfl) | ((with_reducible apply q_pub); iterate 1 focus rfl) | ((with_reducible apply gy7); iterate 1 focus rfl) | ((with_reducible apply gy9); (focus ((with_reducible refine gE ?_); (try simp (disch := omega) only [go_sem, ↓reduceIte, Nat.reduceAdd, Nat.reduceSub, Nat.reduceMul, Nat.reduceEqDiff, Nat.reduceLT, Nat.reduceLeDiff, Nat.reduceBEq, Int.reduceNeg, Int.reduceLT, Int.reduceLE, Int.reduceEq, reduceCtorEq]) <;> rfl))) | ((with_reducible apply gz1); (focus first | rfl | (simp (disch := omega) only [go_sem, ↓reduceIte, Nat.reduceAdd, Nat.reduceSub, Nat.reduceMul, Nat.reduceEqDiff, Nat.reduceLT, Nat.reduceLeDiff, Nat.reduceBEq, Int.reduceNeg, Int.reduceLT, Int.reduceLE, Int.reduceEq, reduceCtorEq]; done))) | ((with_reducible apply r_drawD (pickR [(1, .agg [.v (.bool true), lim (toL z.natAbs)]), (3, .agg [.v (.bool true), lim (toL w.natAbs)])]) [4,5] []); (focus kernel_rfl); (focus rfl); (focus kernel_rfl); (focus (simp only [List.length_cons, List.length_nil, Nat.reduceAdd]; rfl)))))
      simp (disch := omega) only [go_sem, ↓reduceIte, Nat.reduceAdd, Nat.reduceSub, Nat.reduceMul, Nat.reduceEqDiff, Nat.reduceLT, Nat.reduceLeDiff, Nat.reduceBEq, Int.reduceNeg, Int.reduceLT, Int.reduceLE, Int.reduceEq, reduceCtorEq]
    · have hc : cmpZ z w = -1 := if_pos (by omega)
      rw [hc]
      rw [intZ_neg h1] at c1 ⊢
      rw [intZ_pos h2] at c2 ⊢
      refine pure_intro (tok := 0) Tryd.func75 rfl Tryd.ntmps75 Tryd.results75 Tryd.call75 (by rfl) (by simp) ?_
      (repeat' (first | (with_reducible first | refine stp ?_ | apply gx1 | apply gx2 | apply gx3 | apply gx4 | apply gx5 | apply gx6 | apply gx7 | apply gy8 | apply gz2 | apply gz3 | refine gw0 (c1) ?_ ?_ | refine gw3 (c1) ?_ ?_ ?_ | refine gw0 (c2) ?_ ?_ | refine gw3 (c2) ?_ ?_ ?_) | (with_reducible refine all_v ?_; intro _) | ((with_reducible refine gE ?_); (try simp (disch := omega) only [go_sem, ↓reduceIte, Nat.reduceAdd, Nat.reduceSub, Nat.reduceMul, Nat.reduceEqDiff, Nat.reduceLT, Nat.reduceLeDiff, Nat.reduceBEq, Int.reduceNeg, Int.reduceLT, Int.reduceLE, Int.reduceEq, reduceCtorEq]) <;> first | rfl | omega) | with_reducible refine t_in_other (by decide) ?_ | ((with_reducible apply gy1); iterate 3 focus rfl) | ((with_reducible apply gy2); iterate 3 focus rfl) | ((with_reducible apply gy3); iterate 2 focus rfl) | ((with_reducible apply gy4); iterate 1 focus rfl) | ((with_reducible apply gy5); iterate 4 focus rfl) | ((with_reducible apply gy6); iterate 4 focus rfl) | ((with_reducible apply d_bar); iterate 3 focus rfl) | ((with_reducible apply q_pub); iterate 1 focus rfl) | ((with_reducible apply gy7); iterate 1 focus rfl) | ((with_reducible apply gy9); (focus ((with_reducible refine gE ?_); (try simp (disch := omega) only [go_sem, ↓reduceIte, Nat.reduceAdd, Nat.reduceSub, Nat.reduceMul, Nat.reduceEqDiff, Nat.reduceLT, Nat.reduceLeDiff, Nat.reduceBEq, Int.reduceNeg, Int.reduceLT, Int.reduceLE, Int.reduceEq, reduceCtorEq]) <;> rfl))) | ((with_reducible apply gz1); (focus first | rfl | (simp (disch := omega) only [go_sem, ↓reduceIte, Nat.reduceAdd, Nat.reduceSub, Nat.reduceMul, Nat.reduceEqDiff, Nat.reduceLT, Nat.reduceLeDiff, Nat.reduceBEq, Int.reduceNeg, Int.reduceLT, Int.reduceLE, Int.reduceEq, reduceCtorEq]; done))) | ((with_reducible apply r_drawD (pickR [(1, .agg [.v (.bool true), lim (toL z.natAbs)]), (3, .agg [.v (.bool false), lim (toL w.natAbs)])]) [4,5] []); (focus kernel_rfl); (focus rfl); (focus kernel_rfl); (focus (simp only [List.length_cons, List.length_nil, Nat.reduceAdd]; rfl)))))
      simp (disch := omega) only [go_sem, ↓reduceIte, Nat.reduceAdd, Nat.reduceSub, Nat.reduceMul, Nat.reduceEqDiff, Nat.reduceLT, Nat.reduceLeDiff, Nat.reduceBEq, Int.reduceNeg, Int.reduceLT, Int.reduceLE, Int.reduceEq, reduceCtorEq]
  · by_cases h2 : w < 0
    · have hc : cmpZ z w = 1 := by unfold cmpZ; rw [if_neg (by omega), if_pos (by omega)]
      rw [hc]
      rw [intZ_pos h1] at c1 ⊢
      rw [intZ_neg h2] at c2 ⊢
      refine pure_intro (tok := 0) Tryd.func75 rfl Tryd.ntmps75 Tryd.results75 Tryd.call75 (by rfl) (by simp) ?_
      (repeat' (first | (with_reducible first | refine stp ?_ | apply gx1 | apply gx2 | apply gx3 | apply gx4 | apply gx5 | apply gx6 | apply gx7 | apply gy8 | apply gz2 | apply gz3 | refine gw0 (c1) ?_ ?_ | refine gw3 (c1) ?_ ?_ ?_ | refine gw0 (c2) ?_ ?_ | refine gw3 (c2) ?_ ?_ ?_) | (with_reducible refine all_v ?_; intro _) | ((with_reducible refine gE ?_); (try simp (disch := omega) only [go_sem, ↓reduceIte, Nat.reduceAdd, Nat.reduceSub, Nat.reduceMul, Nat.reduceEqDiff, Nat.reduceLT, Nat.reduceLeDiff, Nat.reduceBEq, Int.reduceNeg, Int.reduceLT, Int.reduceLE, Int.reduceEq, reduceCtorEq]) <;> first | rfl | omega) | with_reducible refine t_in_other (by decide) ?_ | ((with_reducible apply gy1); iterate 3 focus rfl) | ((with_reducible apply gy2); iterate 3 focus rfl) | ((with_reducible apply gy3); iterate 2 focus rfl) | ((with_reducible apply gy4); iterate 1 focus rfl) | ((with_reducible apply gy5); iterate 4 focus rfl) | ((with_reducible apply gy6); iterate 4 focus rfl) | ((with_reducible apply d_bar); iterate 3 focus rfl) | ((with_reducible apply q_pub); iterate 1 focus rfl) | ((with_reducible apply gy7); iterate 1 focus rfl) | ((with_reducible apply gy9); (focus ((with_reducible refine gE ?_); (try simp (disch := omega) only [go_sem, ↓reduceIte, Nat.reduceAdd, Nat.reduceSub, Nat.reduceMul, Nat.reduceEqDiff, Nat.reduceLT, Nat.reduceLeDiff, Nat.reduceBEq, Int.reduceNeg, Int.reduceLT, Int.reduceLE, Int.reduceEq, reduceCtorEq]) <;> rfl))) | ((with_reducible apply gz1); (focus first | rfl | (simp (disch := omega) only [go_sem, ↓reduceIte, Nat.reduceAdd, Nat.reduceSub, Nat.reduceMul, Nat.reduceEqDiff, Nat.reduceLT, Nat.reduceLeDiff, Nat.reduceBEq, Int.reduceNeg, Int.reduceLT, Int.reduceLE, Int.reduceEq, reduceCtorEq]; done))) | ((with_reducible apply r_drawD (pickR [(1, .agg [.v (.bool false), lim (toL z.natAbs)]), (3, .agg [.v (.bool true), lim (toL w.natAbs)])]) [4,5] []); (focus kernel_rfl); (focus rfl); (focus kernel_rfl); (focus (simp only [List.length_cons, List.length_nil, Nat.reduceAdd]; rfl)))))
      simp (disch := omega) only [go_sem, ↓reduceIte, Nat.reduceAdd, Nat.reduceSub, Nat.reduceMul, Nat.reduceEqDiff, Nat.reduceLT, Nat.reduceLeDiff, Nat.reduceBEq, Int.reduceNeg, Int.reduceLT, Int.reduceLE, Int.reduceEq, reduceCtorEq]
    · have hc : cmpZ z w = cmpN z.natAbs w.natAbs := by
        unfold cmpZ cmpN
        have e1 : (z < w) ↔ (z.natAbs < w.natAbs) := by omega
        have e2 : (w < z) ↔ (w.natAbs < z.natAbs) := by omega
        simp only [e1, e2]
      rw [hc]
      rw [intZ_pos h1] at c1 ⊢
      rw [intZ_pos h2] at c2 ⊢
      refine pure_intro (tok := 0) Tryd.func75 rfl Tryd.ntmps75 Tryd.results75 Tryd.call75 (by rfl) (by simp) ?_
      (repeat' (first | (with_reducible first | refine stp ?_ | apply gx1 | apply gx2 | apply gx3 | apply gx4 | apply gx5 | apply gx6 | apply gx7 | apply gy8 | apply gz2 | apply gz3 | refine gw0 (c1) ?_ ?_ | refine gw3 (c1) ?_ ?_ ?_ | refine gw0 (c2) ?_ ?_ | refine gw3 (c2) ?_ ?_ ?_ | refine gw0 (ca) ?_ ?_ | refine gw3 (ca) ?_ ?_ ?_) | (with_reducible refine all_v ?_; intro _) | ((with_reducible refine gE ?_); (try simp (disch := omega) only [go_sem, ↓reduceIte, Nat.reduceAdd, Nat.reduceSub, Nat.reduceMul, Nat.reduceEqDiff, Nat.reduceLT, Nat.reduceLeDiff, Nat.reduceBEq, Int.reduceNeg, Int.reduceLT, Int.reduceLE, Int.reduceEq, reduceCtorEq]) <;> first | rfl | omega) | with_reducible refine t_in_other (by decide) ?_ | ((with_reducible apply gy1); iterate 3 focus rfl) | ((with_reducible apply gy2); iterate 3 focus rfl) | ((with_reducible apply gy3); iterate 2 focus rfl) | ((with_reducible apply gy4); iterate 1 focus rfl) | ((with_reducible apply gy5); iterate 4 focus rfl) | ((with_reducible apply gy6); iterate 4 focus rfl) | ((with_reducible apply d_bar); iterate 3 focus rfl) | ((with_reducible apply q_pub); iterate 1 focus rfl) | ((with_reducible apply gy7); iterate 1 focus rfl) | ((with_reducible apply gy9); (focus ((with_reducible refine gE ?_); (try simp (disch := omega) only [go_sem, ↓reduceIte, Nat.reduceAdd, Nat.reduceSub, Nat.reduceMul, Nat.reduceEqDiff, Nat.reduceLT, Nat.reduceLeDiff, Nat.reduceBEq, Int.reduceNeg, Int.reduceLT, Int.reduceLE, Int.reduceEq, reduceCtorEq]) <;> rfl))) | ((with_reducible apply gz1); (focus first | rfl | (simp (disch := omega) only [go_sem, ↓reduceIte, Nat.reduceAdd, Nat.reduceSub, Nat.reduceMul, Nat.reduceEqDiff, Nat.reduceLT, Nat.reduceLeDiff, Nat.reduceBEq, Int.reduceNeg, Int.reduceLT, Int.reduceLE, Int.reduceEq, reduceCtorEq]; done))) | ((with_reducible apply r_drawD (pickR [(1, .agg [.v (.bool false), lim (toL z.natAbs)]), (3, .agg [.v (.bool false), lim (toL w.natAbs)])]) [4,5] []); (focus kernel_rfl); (focus rfl); (focus kernel_rfl); (focus (simp only [List.length_cons, List.length_nil, Nat.reduceAdd]; rfl)))))
      simp (disch := omega) only [go_sem, ↓reduceIte, Nat.reduceAdd, Nat.reduceSub, Nat.reduceMul, Nat.reduceEqDiff, Nat.reduceLT, Nat.reduceLeDiff, Nat.reduceBEq, Int.reduceNeg, Int.reduceLT, Int.reduceLE, Int.reduceEq, reduceCtorEq]

theorem zMul (s t : Bool) (n m : Nat) (hn : (toL n).length ≤ 40000000) (hm : (toL m).length ≤ 40000000) : Pure Tryd.prog 76 [intA s n, intA t m] (intZ (zI s n * zI t m)) := by
  have e : zI s n * zI t m = zI (s != t) (n * m) := by cases s <;> cases t <;> simp [zI, Int.mul_neg, Int.neg_mul]
  have lm := lg_mul n m
  have hne : (!(s == t)) = (s != t) := rfl
  rw [e]
  refine pure_intro (tok := 0) Tryd.func76 rfl Tryd.ntmps76 Tryd.results76 Tryd.call76 (by rfl) (by simp) ?_
  (repeat' (first | (with_reducible first | refine stp ?_ | apply gx1 | apply gx2 | apply gx3 | apply gx4 | apply gx5 | apply gx6 | apply gx7 | apply gy8 | apply gz2 | apply gz3 | refine gw0 (rMul n m (by omega) (by omega)) ?_ ?_ | refine gw3 (rMul n m (by omega) (by omega)) ?_ ?_ ?_ | refine gw0 (zOf' (s != t) (n * m) (by omega)) ?_ ?_ | refine gw3 (zOf' (s != t) (n * m) (by omega)) ?_ ?_ ?_) | (with_reducible refine all_v ?_; intro _) | ((with_reducible refine gE ?_); (try simp (disch := omega) only [go_sem, ↓reduceIte, Nat.reduceAdd, Nat.reduceSub, Nat.reduceMul, Nat.reduceEqDiff, Nat.reduceLT, Nat.reduceLeDiff, Nat.reduceBEq, Int.reduceNeg, Int.reduceLT, Int.reduceLE, Int.reduceEq, reduceCtorEq, hne]) <;> first | rfl | omega) | with_reducible refine t_in_other (by decide) ?_ | ((with_reducible apply gy1); iterate 3 focus rfl) | ((with_reducible apply gy2); iterate 3 focus rfl) | ((with_reducible apply gy3); iterate 2 focus rfl) | ((with_reducible apply gy4); iterate 1 focus rfl) | ((with_reducible apply gy5); iterate 4 focus rfl) | ((with_reducible apply gy6); iterate 4 focus rfl) | ((with_reducible apply d_bar); iterate 3 focus rfl) | ((with_reducible apply q_pub); iterate 1 focus rfl) | ((with_reducible apply gy7); iterate 1 focus rfl) | ((with_reducible apply gy9); (focus ((with_reducible refine gE ?_); (try simp (disch := omega) only [go_sem, ↓reduceIte, Nat.reduceAdd, Nat.reduceSub, Nat.reduceMul, Nat.reduceEqDiff, Nat.reduceLT, Nat.reduceLeDiff, Nat.reduceBEq, Int.reduceNeg, Int.reduceLT, Int.reduceLE, Int.reduceEq, reduceCtorEq, hne]) <;> rfl))) | ((with_reducible apply gz1); (focus first | rfl | (simp (disch := omega) only [go_sem, ↓reduceIte, Nat.reduceAdd, Nat.reduceSub, Nat.reduceMul, Nat.reduceEqDiff, Nat.reduceLT, Nat.reduceLeDiff, Nat.reduceBEq, Int.reduceNeg, Int.reduceLT, Int.reduceLE, Int.reduceEq, reduceCtorEq, hne]; done))) | ((with_reducible apply r_drawD (pickR [(9, lim (toL (n * m))), (10, intZ (zI (s != t) (n * m)))]) [11] []); (focus kernel_rfl); (focus rfl); (focus kernel_rfl); (focus (simp only [List.length_cons, List.length_nil, Nat.reduceAdd]; rfl)))))
  simp (disch := omega) only [go_sem, ↓reduceIte, Nat.reduceAdd, Nat.reduceSub, Nat.reduceMul, Nat.reduceEqDiff, Nat.reduceLT, Nat.reduceLeDiff, Nat.reduceBEq, Int.reduceNeg, Int.reduceLT, Int.reduceLE, Int.reduceEq, reduceCtorEq]



end Go.Proofs.YtjiffehkemeloaaDoor
end

section
namespace Go.Proofs.YtjiffehkemeloaaDoor
open Go Go.RowKit Go.Pg
set_option linter.unusedSimpArgs false
set_option linter.unusedVariables false
set_option maxRecDepth 20000
attribute [local go_sem] Tryd.underlying56 Tryd.underlying3 Tryd.underlying91 Tryd.underlying81 Tryd.underlying4 Tryd.underlying58 Tryd.underlying60 Tryd.underlying41 sz3 by3 z3 szL byL zL szB zB szNat zNat szInt zInt szRat zRat Tryd.underlying141

theorem gcd_le_l (n m : Nat) (h : m ≠ 0) : Nat.gcd n m ≠ 0 := Nat.ne_of_gt (Nat.gcd_pos_of_pos_right _ (Nat.pos_of_ne_zero h))
theorem intZ_div (s : Bool) (n g : Nat) (hg : g ∣ n) (h0 : g ≠ 0) : intZ (zI s (n / g)) = .agg [.v (.bool (decide (zI s n < 0))), lim (toL (n / g))] := by
  rw [intZ_of, zI_lt]
  have : (0 < n / g) ↔ (0 < n) := by
    obtain ⟨k, rfl⟩ := hg
    rw [Nat.mul_div_cancel_left _ (Nat.pos_of_ne_zero h0)]
    constructor
    · intro h; exact Nat.mul_pos (Nat.pos_of_ne_zero h0) h
    · intro h; exact Nat.pos_of_ne_zero fun e => by rw [e] at h; simp at h
  simp only [this]

set_option maxHeartbeats 1000000 in
theorem qOver (s : Bool) (n m : Nat) (hn : (toL n).length ≤ 10000000) (hm : (toL m).length ≤ 10000000) (h0 : m ≠ 0) : Pure Tryd.prog 50 [intA s n, lim (toL m)] (ratQ (mkRat (zI s n) m)) := by
  rw [ratQ_mk _ _ h0, zI_natAbs]
  have g0 := gcd_le_l n m h0
  have hgd := Nat.gcd_dvd_left n m
  have hmp := toL_len_pos.2 (Nat.pos_of_ne_zero h0)
  have hg : (toL (Nat.gcd n m)).length ≤ 10000000 := Nat.le_trans (lg_mono (Nat.le_of_dvd (by omega) (Nat.gcd_dvd_right _ _))) hm
  have hq : (toL (n / Nat.gcd n m)).length ≤ 10000000 := Nat.le_trans (lg_mono (Nat.div_le_self _ _)) hn
  have cg := rGcd n m (by omega) (by omega)
  have c1 := rDivMod n (Nat.gcd n m) (by omega) (by omega) g0
  have c2 := rDivMod m (Nat.gcd n m) (by omega) (by omega) g0
  have cn := zNorm s (n / Nat.gcd n m) (by omega)
  rw [intZ_div s n _ hgd g0] at cn
  refine pure_intro (tok := 0) Tryd.func50 rfl Tryd.ntmps50 Tryd.results50 Tryd.call50 (by rfl) (by simp) ?_
  (repeat' (first | (with_reducible first | refine stp ?_ | apply gx1 | apply gx2 | apply gx3 | apply gx4 | apply gx5 | apply gx6 | apply gx7 | apply gy8 | apply gz2 | apply gz3 | refine gw0 (rNorm m (by omega)) ?_ ?_ | refine gw3 (rNorm m (by omega)) ?_ ?_ ?_ | refine gw0 (cg) ?_ ?_ | refine gw3 (cg) ?_ ?_ ?_ | refine gw0 (c1) ?_ ?_ | refine gw3 (c1) ?_ ?_ ?_ | refine gw0 (c2) ?_ ?_ | refine gw3 (c2) ?_ ?_ ?_ | refine gw0 (cn) ?_ ?_ | refine gw3 (cn) ?_ ?_ ?_) | (with_reducible refine all_v ?_; intro _) | ((with_reducible refine gE ?_); (try simp (disch := omega) only [go_sem, ↓reduceIte, Nat.reduceAdd, Nat.reduceSub, Nat.reduceMul, Nat.reduceEqDiff, Nat.reduceLT, Nat.reduceLeDiff, Nat.reduceBEq, Int.reduceNeg, Int.reduceLT, Int.reduceLE, Int.reduceEq, reduceCtorEq]) <;> first | rfl | omega) | with_reducible refine t_in_other (by decide) ?_ | ((with_reducible apply gy1); iterate 3 focus rfl) | ((with_reducible apply gy2); iterate 3 focus rfl) | ((with_reducible apply gy3); iterate 2 focus rfl) | ((with_reducible apply gy4); iterate 1 focus rfl) | ((with_reducible apply gy5); iterate 4 focus rfl) | ((with_reducible apply gy6); iterate 4 focus rfl) | ((with_reducible apply d_bar); iterate 3 focus rfl) | ((with_reducible apply q_pub); iterate 1 focus rfl) | ((with_reducible apply gy7); iterate 1 focus rfl) | ((with_reducible apply gy9); (focus ((with_reducible refine gE ?_); (try simp (disch := omega) only [go_sem, ↓reduceIte, Nat.reduceAdd, Nat.reduceSub, Nat.reduceMul, Nat.reduceEqDiff, Nat.reduceLT, Nat.reduceLeDiff, Nat.reduceBEq, Int.reduceNeg, Int.reduceLT, Int.reduceLE, Int.reduceEq, reduceCtorEq]) <;> rfl))) | ((with_reducible apply gz1); (focus first | rfl | (simp (disch := omega) only [go_sem, ↓reduceIte, Nat.reduceAdd, Nat.reduceSub, Nat.reduceMul, Nat.reduceEqDiff, Nat.reduceLT, Nat.reduceLeDiff, Nat.reduceBEq, Int.reduceNeg, Int.reduceLT, Int.reduceLE, Int.reduceEq, reduceCtorEq]; done))) | ((with_reducible apply r_drawD (pickR []) [] []); (focus kernel_rfl); (focus rfl); (focus kernel_rfl); (focus (simp only [List.length_cons, List.length_nil, Nat.reduceAdd]; rfl)))))
  simp (disch := omega) only [go_sem, ↓reduceIte, Nat.reduceAdd, Nat.reduceSub, Nat.reduceMul, Nat.reduceEqDiff, Nat.reduceLT, Nat.reduceLeDiff, Nat.reduceBEq, Int.reduceNeg, Int.reduceLT, Int.reduceLE, Int.reduceEq, reduceCtorEq]

theorem qNorm (q : Rat) {k : Nat} (h : Sz q k) (hk : k ≤ 10000000) : Pure Tryd.prog 45 [ratQ q] (ratQ q) := by
  have c := qOver (decide (q.num < 0)) q.num.natAbs q.den (Nat.le_trans h.1 hk) (Nat.le_trans h.2 hk) q.den_nz
  rw [zI_abs, Rat.mkRat_self] at c
  refine pure_intro (tok := 0) Tryd.func45 rfl Tryd.ntmps45 Tryd.results45 Tryd.call45 (by rfl) (by simp) ?_
  (repeat' (first | (with_reducible first | refine stp ?_ | apply gx1 | apply gx2 | apply gx3 | apply gx4 | apply gx5 | apply gx6 | apply gx7 | apply gy8 | apply gz2 | apply gz3 | refine gw0 (c) ?_ ?_ | refine gw3 (c) ?_ ?_ ?_) | (with_reducible refine all_v ?_; intro _) | ((with_reducible refine gE ?_); (try simp (disch := omega) only [go_sem, ↓reduceIte, Nat.reduceAdd, Nat.reduceSub, Nat.reduceMul, Nat.reduceEqDiff, Nat.reduceLT, Nat.reduceLeDiff, Nat.reduceBEq, Int.reduceNeg, Int.reduceLT, Int.reduceLE, Int.reduceEq, reduceCtorEq]) <;> first | rfl | omega) | with_reducible refine t_in_other (by decide) ?_ | ((with_reducible apply gy1); iterate 3 focus rfl) | ((with_reducible apply gy2); iterate 3 focus rfl) | ((with_reducible apply gy3); iterate 2 focus rfl) | ((with_reducible apply gy4); iterate 1 focus rfl) | ((with_reducible apply gy5); iterate 4 focus rfl) | ((with_reducible apply gy6); iterate 4 focus rfl) | ((with_reducible apply d_bar); iterate 3 focus rfl) | ((with_reducible apply q_pub); iterate 1 focus rfl) | ((with_reducible apply gy7); iterate 1 focus rfl) | ((with_reducible apply gy9); (focus ((with_reducible refine gE ?_); (try simp (disch := omega) only [go_sem, ↓reduceIte, Nat.reduceAdd, Nat.reduceSub, Nat.reduceMul, Nat.reduceEqDiff, Nat.reduceLT, Nat.reduceLeDiff, Nat.reduceBEq, Int.reduceNeg, Int.reduceLT, Int.reduceLE, Int.reduceEq, reduceCtorEq]) <;> rfl))) | ((with_reducible apply gz1); (focus first | rfl | (simp (disch := omega) only [go_sem, ↓reduceIte, Nat.reduceAdd, Nat.reduceSub, Nat.reduceMul, Nat.reduceEqDiff, Nat.reduceLT, Nat.reduceLeDiff, Nat.reduceBEq, Int.reduceNeg, Int.reduceLT, Int.reduceLE, Int.reduceEq, reduceCtorEq]; done))) | ((with_reducible apply r_drawD (pickR []) [] []); (focus kernel_rfl); (focus rfl); (focus kernel_rfl); (focus (simp only [List.length_cons, List.length_nil, Nat.reduceAdd]; rfl)))))
  simp (disch := omega) only [go_sem, ↓reduceIte, Nat.reduceAdd, Nat.reduceSub, Nat.reduceMul, Nat.reduceEqDiff, Nat.reduceLT, Nat.reduceLeDiff, Nat.reduceBEq, Int.reduceNeg, Int.reduceLT, Int.reduceLE, Int.reduceEq, reduceCtorEq]

theorem qWhole (n : Nat) : Pure Tryd.prog 77 [lim (toL n)] (intA false n) := by
  refine pure_intro (tok := 0) Tryd.func77 rfl Tryd.ntmps77 Tryd.results77 Tryd.call77 (by rfl) (by simp) ?_
  (repeat' (first | (with_reducible first | refine stp ?_ | apply gx1 | apply gx2 | apply gx3 | apply gx4 | apply gx5 | apply gx6 | apply gx7) | (with_reducible refine all_v ?_; intro _) | ((with_reducible refine gE ?_); (try simp (disch := omega) only [go_sem, ↓reduceIte, Nat.reduceAdd, Nat.reduceSub, Nat.reduceMul, Nat.reduceEqDiff, Nat.reduceLT, Nat.reduceLeDiff, Nat.reduceBEq, Int.reduceNeg, Int.reduceLT, Int.reduceLE, Int.reduceEq, reduceCtorEq]) <;> first | rfl | omega) | with_reducible refine t_in_other (by decide) ?_))
  simp (disch := omega) only [go_sem, ↓reduceIte, Nat.reduceAdd, Nat.reduceSub, Nat.reduceMul, Nat.reduceEqDiff, Nat.reduceLT, Nat.reduceLeDiff, Nat.reduceBEq, Int.reduceNeg, Int.reduceLT, Int.reduceLE, Int.reduceEq, reduceCtorEq]


theorem qOf (n : Nat) (hn : n < 9223372036854775808) : Pure Tryd.prog 28 [.v (.int .i64 (n : Int))] (ratQ (n : Rat)) := by
  have l4 : (toL n).length ≤ 4 := toL_len_lt.2 (by omega)
  have c := qOver false n 1 (by omega) (by rw [lg_one]; omega) (by omega)
  have e : mkRat (zI false n) 1 = (n : Rat) := by
    have := Rat.mkRat_self (n : Rat)
    exact this
  rw [e] at c
  refine pure_intro (tok := 0) Tryd.func28 rfl Tryd.ntmps28 Tryd.results28 Tryd.call28 (by rfl) (by simp) ?_
  (repeat' (first | (with_reducible first | refine stp ?_ | apply gx1 | apply gx2 | apply gx3 | apply gx4 | apply gx5 | apply gx6 | apply gx7 | apply gy8 | apply gz2 | apply gz3 | refine gw0 (zOf n hn) ?_ ?_ | refine gw3 (zOf n hn) ?_ ?_ ?_ | refine gw0 (refOf 1 (by omega)) ?_ ?_ | refine gw3 (refOf 1 (by omega)) ?_ ?_ ?_ | refine gw0 (c) ?_ ?_ | refine gw3 (c) ?_ ?_ ?_) | (with_reducible refine all_v ?_; intro _) | ((with_reducible refine gE ?_); (try simp (disch := omega) only [go_sem, ↓reduceIte, Nat.reduceAdd, Nat.reduceSub, Nat.reduceMul, Nat.reduceEqDiff, Nat.reduceLT, Nat.reduceLeDiff, Nat.reduceBEq, Int.reduceNeg, Int.reduceLT, Int.reduceLE, Int.reduceEq, reduceCtorEq]) <;> first | rfl | omega) | with_reducible refine t_in_other (by decide) ?_ | ((with_reducible apply gy1); iterate 3 focus rfl) | ((with_reducible apply gy2); iterate 3 focus rfl) | ((with_reducible apply gy3); iterate 2 focus rfl) | ((with_reducible apply gy4); iterate 1 focus rfl) | ((with_reducible apply gy5); iterate 4 focus rfl) | ((with_reducible apply gy6); iterate 4 focus rfl) | ((with_reducible apply d_bar); iterate 3 focus rfl) | ((with_reducible apply q_pub); iterate 1 focus rfl) | ((with_reducible apply gy7); iterate 1 focus rfl) | ((with_reducible apply gy9); (focus ((with_reducible refine gE ?_); (try simp (disch := omega) only [go_sem, ↓reduceIte, Nat.reduceAdd, Nat.reduceSub, Nat.reduceMul, Nat.reduceEqDiff, Nat.reduceLT, Nat.reduceLeDiff, Nat.reduceBEq, Int.reduceNeg, Int.reduceLT, Int.reduceLE, Int.reduceEq, reduceCtorEq]) <;> rfl))) | ((with_reducible apply gz1); (focus first | rfl | (simp (disch := omega) only [go_sem, ↓reduceIte, Nat.reduceAdd, Nat.reduceSub, Nat.reduceMul, Nat.reduceEqDiff, Nat.reduceLT, Nat.reduceLeDiff, Nat.reduceBEq, Int.reduceNeg, Int.reduceLT, Int.reduceLE, Int.reduceEq, reduceCtorEq]; done))) | ((with_reducible apply r_drawD (pickR []) [] []); (focus kernel_rfl); (focus rfl); (focus kernel_rfl); (focus (simp only [List.length_cons, List.length_nil, Nat.reduceAdd]; rfl)))))
  simp (disch := omega) only [go_sem, ↓reduceIte, Nat.reduceAdd, Nat.reduceSub, Nat.reduceMul, Nat.reduceEqDiff, Nat.reduceLT, Nat.reduceLeDiff, Nat.reduceBEq, Int.reduceNeg, Int.reduceLT, Int.reduceLE, Int.reduceEq, reduceCtorEq]





set_option maxHeartbeats 1000000 in
theorem qCmp (a b : Rat) {j k : Nat} (ha : Sz a j) (hb : Sz b k) (hj : j ≤ 2000000) (hk : k ≤ 2000000) : Pure Tryd.prog 56 [ratQ a, ratQ b] (.v (.int .i64 (cmpQ a b))) := by
  obtain ⟨a1, a2⟩ := id ha
  obtain ⟨b1, b2⟩ := id hb
  have na := qNorm a ha (by omega)
  have nb := qNorm b hb (by omega)
  have cm1 := zMul (decide (a.num < 0)) false a.num.natAbs b.den (by omega) (by omega)
  have cm2 := zMul (decide (b.num < 0)) false b.num.natAbs a.den (by omega) (by omega)
  rw [zI_abs] at cm1 cm2
  have cm1 : Pure Tryd.prog 76 [intZ a.num, intA false b.den] (intZ (a.num * b.den)) := cm1
  have cm2 : Pure Tryd.prog 76 [intZ b.num, intA false a.den] (intZ (b.num * a.den)) := cm2
  have x1 : (toL (a.num * b.den).natAbs).length ≤ j + k := lg_cross a b ha hb
  have x2 : (toL (b.num * a.den).natAbs).length ≤ k + j := lg_cross b a hb ha
  have cc := zCmp (a.num * b.den) (b.num * a.den) (by omega) (by omega)
  rw [cmpQ_z]
  have cw1 := qWhole b.den
  have cw2 := qWhole a.den
  generalize a.num * (b.den : Int) = y1 at *
  generalize b.num * (a.den : Int) = y2 at *
  refine pure_intro (tok := 0) Tryd.func56 rfl Tryd.ntmps56 Tryd.results56 Tryd.call56 (by rfl) (by simp) ?_
  (repeat' (first | (with_reducible first | refine stp ?_ | apply gx1 | apply gx2 | apply gx3 | apply gx4 | apply gx5 | apply gx6 | apply gx7) | (with_reducible refine all_v ?_; intro _) | ((with_reducible refine gE ?_); (try simp (disch := omega) only [go_sem, ↓reduceIte, Nat.reduceAdd, Nat.reduceSub, Nat.reduceMul, Nat.reduceEqDiff, Nat.reduceLT, Nat.reduceLeDiff, Nat.reduceBEq, Int.reduceNeg, Int.reduceLT, Int.reduceLE, Int.reduceEq, reduceCtorEq]) <;> first | rfl | omega) | with_reducible refine t_in_other (by decide) ?_))
  apply r_drawD (pickR [(1, ratQ a), (3, ratQ b)]) [4, 5] [] (by kernel_rfl) (by rfl) (by kernel_rfl); (focus (simp only [List.length_cons, List.length_nil, Nat.reduceAdd]; rfl))
  (repeat' (first | (with_reducible first | refine stp ?_ | apply gx1 | apply gx2 | apply gx3 | apply gx4 | apply gx5 | apply gx6 | apply gx7 | apply gy8 | apply gz2 | apply gz3 | refine gw0 (na) ?_ ?_ | refine gw3 (na) ?_ ?_ ?_ | refine gw0 (nb) ?_ ?_ | refine gw3 (nb) ?_ ?_ ?_) | (with_reducible refine all_v ?_; intro _) | ((with_reducible refine gE ?_); (try simp (disch := omega) only [go_sem, ↓reduceIte, Nat.reduceAdd, Nat.reduceSub, Nat.reduceMul, Nat.reduceEqDiff, Nat.reduceLT, Nat.reduceLeDiff, Nat.reduceBEq, Int.reduceNeg, Int.reduceLT, Int.reduceLE, Int.reduceEq, reduceCtorEq]) <;> first | rfl | omega) | with_reducible refine t_in_other (by decide) ?_ | ((with_reducible apply gy1); iterate 3 focus rfl) | ((with_reducible apply gy2); iterate 3 focus rfl) | ((with_reducible apply gy3); iterate 2 focus rfl) | ((with_reducible apply gy4); iterate 1 focus rfl) | ((with_reducible apply gy5); iterate 4 focus rfl) | ((with_reducible apply gy6); iterate 4 focus rfl) | ((with_reducible apply d_bar); iterate 3 focus rfl) | ((with_reducible apply q_pub); iterate 1 focus rfl) | ((with_reducible apply gy7); iterate 1 focus rfl) | ((with_reducible apply gy9); (focus ((with_reducible refine gE ?_); (try simp (disch := omega) only [go_sem, ↓reduceIte, Nat.reduceAdd, Nat.reduceSub, Nat.reduceMul, Nat.reduceEqDiff, Nat.reduceLT, Nat.reduceLeDiff, Nat.reduceBEq, Int.reduceNeg, Int.reduceLT, Int.reduceLE, Int.reduceEq, reduceCtorEq]) <;> rfl))) | ((with_reducible apply gz1); (focus first | rfl | (simp (disch := omega) only [go_sem, ↓reduceIte, Nat.reduceAdd, Nat.reduceSub, Nat.reduceMul, Nat.reduceEqDiff, Nat.reduceLT, Nat.reduceLeDiff, Nat.reduceBEq, Int.reduceNeg, Int.reduceLT, Int.reduceLE, Int.reduceEq, reduceCtorEq]; done)))))
  apply r_drawD (pickR [(4, intA false b.den), (5, intZ y1), (10, intA false a.den), (11, intZ y2), (12, .v (.int .i64 (cmpZ y1 y2)))]) [] [] (by kernel_rfl) (by rfl) (by kernel_rfl); (focus (simp only [List.length_cons, List.length_nil, Nat.reduceAdd]; rfl))
  (repeat' (first | (with_reducible first | refine stp ?_ | apply gx1 | apply gx2 | apply gx3 | apply gx4 | apply gx5 | apply gx6 | apply gx7 | apply gy8 | apply gz2 | apply gz3 | refine gw0 (cw1) ?_ ?_ | refine gw3 (cw1) ?_ ?_ ?_ | refine gw0 (cm1) ?_ ?_ | refine gw3 (cm1) ?_ ?_ ?_ | refine gw0 (cw2) ?_ ?_ | refine gw3 (cw2) ?_ ?_ ?_ | refine gw0 (cm2) ?_ ?_ | refine gw3 (cm2) ?_ ?_ ?_ | refine gw0 (cc) ?_ ?_ | refine gw3 (cc) ?_ ?_ ?_) | (with_reducible refine all_v ?_; intro _) | ((with_reducible refine gE ?_); (try simp (disch := omega) only [go_sem, ↓reduceIte, Nat.reduceAdd, Nat.reduceSub, Nat.reduceMul, Nat.reduceEqDiff, Nat.reduceLT, Nat.reduceLeDiff, Nat.reduceBEq, Int.reduceNeg, Int.reduceLT, Int.reduceLE, Int.reduceEq, reduceCtorEq]) <;> first | rfl | omega) | with_reducible refine t_in_other (by decide) ?_ | ((with_reducible apply gy1); iterate 3 focus rfl) | ((with_reducible apply gy2); iterate 3 focus rfl) | ((with_reducible apply gy3); iterate 2 focus rfl) | ((with_reducible apply gy4); iterate 1 focus rfl) | ((with_reducible apply gy5); iterate 4 focus rfl) | ((with_reducible apply gy6); iterate 4 focus rfl) | ((with_reducible apply d_bar); iterate 3 focus rfl) | ((with_reducible apply q_pub); iterate 1 focus rfl) | ((with_reducible apply gy7); iterate 1 focus rfl) | ((with_reducible apply gy9); (focus ((with_reducible refine gE ?_); (try simp (disch := omega) only [go_sem, ↓reduceIte, Nat.reduceAdd, Nat.reduceSub, Nat.reduceMul, Nat.reduceEqDiff, Nat.reduceLT, Nat.reduceLeDiff, Nat.reduceBEq, Int.reduceNeg, Int.reduceLT, Int.reduceLE, Int.reduceEq, reduceCtorEq]) <;> rfl))) | ((with_reducible apply gz1); (focus first | rfl | (simp (disch := omega) only [go_sem, ↓reduceIte, Nat.reduceAdd, Nat.reduceSub, Nat.reduceMul, Nat.reduceEqDiff, Nat.reduceLT, Nat.reduceLeDiff, Nat.reduceBEq, Int.reduceNeg, Int.reduceLT, Int.reduceLE, Int.reduceEq, reduceCtorEq]; done)))))
  simp (disch := omega) only [go_sem, ↓reduceIte, Nat.reduceAdd, Nat.reduceSub, Nat.reduceMul, Nat.reduceEqDiff, Nat.reduceLT, Nat.reduceLeDiff, Nat.reduceBEq, Int.reduceNeg, Int.reduceLT, Int.reduceLE, Int.reduceEq, reduceCtorEq]





end Go.Proofs.YtjiffehkemeloaaDoor
end

section
namespace Go.Proofs.YtjiffehkemeloaaDoor
open Go Go.RowKit Go.Pg
set_option linter.unusedSimpArgs false
set_option linter.unusedVariables false
set_option maxRecDepth 20000
attribute [local go_sem] Tryd.underlying56 Tryd.underlying3 Tryd.underlying2 Tryd.underlying91 Tryd.underlying81 Tryd.underlying5 Tryd.underlying97 Tryd.underlying9 Tryd.underlying4 Tryd.underlying58 Tryd.underlying60 Tryd.underlying41 sz3 by3 z3 szL byL zL szB zB szNat zNat szInt zInt szRat zRat szU8 byU8 zU8 szStr zStr
/-- The digits of a number, ahead of what is there. -/
def decB : Nat → Nat → ByteArray → ByteArray
  | 0, _, s => s
  | f + 1, n, s => if n = 0 then s else decB f (n / 10) (strOf [((48 + n % 10 : Nat) : Int)] ++ s)
def decS (n : Nat) : ByteArray := if n = 0 then strOf [48] else decB n n ByteArray.empty
theorem decB_fuel : ∀ (f g n : Nat) (s : ByteArray), n ≤ f → n ≤ g → decB f n s = decB g n s
  | 0, 0, _, _, _, _ => rfl
  | 0, g + 1, n, s, h, _ => by
    have : n = 0 := by omega
    subst this; rfl
  | f + 1, 0, n, s, _, h => by
    have : n = 0 := by omega
    subst this; rfl
  | f + 1, g + 1, n, s, h1, h2 => by
    unfold decB
    by_cases h : n = 0
    · rw [if_pos h, if_pos h]
    · rw [if_neg h, if_neg h]
      exact decB_fuel f g _ _ (by omega) (by omega)
theorem decB_step {n : Nat} {s : ByteArray} (h : n ≠ 0) : decB n n s = decB (n / 10) (n / 10) (strOf [((48 + n % 10 : Nat) : Int)] ++ s) := by
  obtain ⟨m, rfl⟩ : ∃ m, n = m + 1 := ⟨n - 1, by omega⟩
  rw [decB, if_neg h]
  exact decB_fuel _ _ _ _ (by omega) (by omega)
theorem strOf_size (l : List Int) : (strOf l).size = l.length := by
  have key : ∀ (l : List Int) (s : ByteArray), (l.foldl (fun r n => r.push (UInt8.ofNat n.toNat)) s).size = s.size + l.length := by
    intro l
    induction l with
    | nil => intro s; rfl
    | cons a l ih => intro s; rw [List.foldl_cons, ih, ByteArray.size_push, List.length_cons]; omega
  unfold strOf
  rw [key]
  show 0 + l.length = l.length
  omega
theorem pow10_lt {s k n : Nat} (h : 10 ^ s * k ≤ n) (hk : k ≠ 0) : s < 5 * (toL n).length + 1 := by
  have h1 := toL_len_lt.1 (Nat.le_refl ((toL n).length))
  have h2 : 10 ^ s ≤ n := Nat.le_trans (Nat.le_mul_of_pos_right _ (by omega)) h
  have h3 : 65536 ^ (toL n).length ≤ 10 ^ (5 * (toL n).length) := by
    rw [Nat.pow_mul]
    exact Nat.pow_le_pow_left (by decide) _
  have h4 : 10 ^ s < 10 ^ (5 * (toL n).length) := by omega
  have := (Nat.pow_lt_pow_iff_right (by decide : 1 < 10)).1 h4
  omega
set_option maxHeartbeats 1000000 in
theorem refText (n : Nat) (hn : (toL n).length ≤ 10000000) : Pure Tryd.prog 49 [lim (toL n)] (.v (.string (decS n))) := by
  have cn := rNorm n (by omega)
  have c10 := refOf 10 (by omega)
  by_cases h0 : n = 0
  · subst h0
    have l0 : (toL 0).length = 0 := by rw [toL_zero]; rfl
    refine pure_intro (tok := 0) Tryd.func49 rfl Tryd.ntmps49 Tryd.results49 Tryd.call49 (by rfl) (by simp) ?_
    (repeat' (first | (with_reducible first | refine stp ?_ | apply gx1 | apply gx2 | apply gx3 | apply gx4 | apply gx5 | apply gx6 | apply gx7 | apply gy8 | apply gz2 | apply gz3 | refine gw0 (cn) ?_ ?_ | refine gw3 (cn) ?_ ?_ ?_) | (with_reducible refine all_v ?_; intro _) | ((with_reducible refine gE ?_); (try simp (disch := omega) only [go_sem, ↓reduceIte, Nat.reduceAdd, Nat.reduceSub, Nat.reduceMul, Nat.reduceEqDiff, Nat.reduceLT, Nat.reduceLeDiff, Nat.reduceBEq, Int.reduceNeg, Int.reduceLT, Int.reduceLE, Int.reduceEq, reduceCtorEq, l0, Int.natCast_zero]) <;> first | rfl | omega) | with_reducible refine t_in_other (by decide) ?_ | ((with_reducible apply gy1); iterate 3 focus rfl) | ((with_reducible apply gy2); iterate 3 focus rfl) | ((with_reducible apply gy3); iterate 2 focus rfl) | ((with_reducible apply gy4); iterate 1 focus rfl) | ((with_reducible apply gy5); iterate 4 focus rfl) | ((with_reducible apply gy6); iterate 4 focus rfl) | ((with_reducible apply d_bar); iterate 3 focus rfl) | ((with_reducible apply q_pub); iterate 1 focus rfl) | ((with_reducible apply gy7); iterate 1 focus rfl) | ((with_reducible apply gy9); (focus ((with_reducible refine gE ?_); (try simp (disch := omega) only [go_sem, ↓reduceIte, Nat.reduceAdd, Nat.reduceSub, Nat.reduceMul, Nat.reduceEqDiff, Nat.reduceLT, Nat.reduceLeDiff, Nat.reduceBEq, Int.reduceNeg, Int.reduceLT, Int.reduceLE, Int.reduceEq, reduceCtorEq, l0, Int.natCast_zero]) <;> rfl))) | ((with_reducible apply gz1); (focus first | rfl | (simp (disch := omega) only [go_sem, ↓reduceIte, Nat.reduceAdd, Nat.reduceSub, Nat.reduceMul, Nat.reduceEqDiff, Nat.reduceLT, Nat.reduceLeDiff, Nat.reduceBEq, Int.reduceNeg, Int.reduceLT, Int.reduceLE, Int.reduceEq, reduceCtorEq, l0, Int.natCast_zero]; done))) | ((with_reducible apply r_drawD (pickR []) [] []); (focus kernel_rfl); (focus rfl); (focus kernel_rfl); (focus (simp only [List.length_cons, List.length_nil, Nat.reduceAdd]; rfl)))))
    simp (disch := omega) only [go_sem, ↓reduceIte, Nat.reduceAdd, Nat.reduceSub, Nat.reduceMul, Nat.reduceEqDiff, Nat.reduceLT, Nat.reduceLeDiff, Nat.reduceBEq, Int.reduceNeg, Int.reduceLT, Int.reduceLE, Int.reduceEq, reduceCtorEq]
    rfl
  · have hp := toL_len_pos.2 (Nat.pos_of_ne_zero h0)
    have hd : decS n = decB n n ByteArray.empty := if_neg h0
    rw [hd]
    refine pure_intro (tok := 0) Tryd.func49 rfl Tryd.ntmps49 Tryd.results49 Tryd.call49 (by rfl) (by simp) ?_
    (repeat' (first | (with_reducible first | refine stp ?_ | apply gx1 | apply gx2 | apply gx3 | apply gx4 | apply gx5 | apply gx6 | apply gx7 | apply gy8 | apply gz2 | apply gz3 | refine gw0 (cn) ?_ ?_ | refine gw3 (cn) ?_ ?_ ?_) | (with_reducible refine all_v ?_; intro _) | ((with_reducible refine gE ?_); (try simp (disch := omega) only [go_sem, ↓reduceIte, Nat.reduceAdd, Nat.reduceSub, Nat.reduceMul, Nat.reduceEqDiff, Nat.reduceLT, Nat.reduceLeDiff, Nat.reduceBEq, Int.reduceNeg, Int.reduceLT, Int.reduceLE, Int.reduceEq, reduceCtorEq]) <;> first | rfl | omega) | with_reducible refine t_in_other (by decide) ?_ | ((with_reducible apply gy1); iterate 3 focus rfl) | ((with_reducible apply gy2); iterate 3 focus rfl) | ((with_reducible apply gy3); iterate 2 focus rfl) | ((with_reducible apply gy4); iterate 1 focus rfl) | ((with_reducible apply gy5); iterate 4 focus rfl) | ((with_reducible apply gy6); iterate 4 focus rfl) | ((with_reducible apply d_bar); iterate 3 focus rfl) | ((with_reducible apply q_pub); iterate 1 focus rfl) | ((with_reducible apply gy7); iterate 1 focus rfl) | ((with_reducible apply gy9); (focus ((with_reducible refine gE ?_); (try simp (disch := omega) only [go_sem, ↓reduceIte, Nat.reduceAdd, Nat.reduceSub, Nat.reduceMul, Nat.reduceEqDiff, Nat.reduceLT, Nat.reduceLeDiff, Nat.reduceBEq, Int.reduceNeg, Int.reduceLT, Int.reduceLE, Int.reduceEq, reduceCtorEq]) <;> rfl))) | ((with_reducible apply gz1); (focus first | rfl | (simp (disch := omega) only [go_sem, ↓reduceIte, Nat.reduceAdd, Nat.reduceSub, Nat.reduceMul, Nat.reduceEqDiff, Nat.reduceLT, Nat.reduceLeDiff, Nat.reduceBEq, Int.reduceNeg, Int.reduceLT, Int.reduceLE, Int.reduceEq, reduceCtorEq]; done))) | ((with_reducible apply r_drawD (pickR []) [] []); (focus kernel_rfl); (focus rfl); (focus kernel_rfl); (focus (simp only [List.length_cons, List.length_nil, Nat.reduceAdd]; rfl)))))
    refine r_loopE (ι := Nat × ByteArray) (fun x e m => e 0 = lim (toL x.1) ∧ e 3 = .v (.string x.2) ∧ x.1 ≤ n ∧ decB x.1 x.1 x.2 = decB n n ByteArray.empty ∧ (x.1 ≠ 0 → 10 ^ x.2.size * x.1 ≤ n)) (fun x => x.1) (n, ByteArray.empty) (by rfl) ?_ ?_
    · rintro ⟨k, s⟩ e m ⟨e0, e3, hk, hs, hsz⟩
      simp only at e0 e3 hk hs hsz ⊢
      by_cases hk0 : k = 0
      · subst hk0
        have l0 : (toL 0).length = 0 := by rw [toL_zero]; rfl
        rw [decB] at hs
        (repeat' (first | (with_reducible first | refine stp ?_ | apply gx1 | apply gx2 | apply gx3 | apply gx4 | apply gx5 | apply gx6 | apply gx7 | apply gy8 | apply gz2 | apply gz3) | (with_reducible refine all_v ?_; intro _) | ((with_reducible refine gE ?_); (try simp (disch := omega) only [go_sem, ↓reduceIte, Nat.reduceAdd, Nat.reduceSub, Nat.reduceMul, Nat.reduceEqDiff, Nat.reduceLT, Nat.reduceLeDiff, Nat.reduceBEq, Int.reduceNeg, Int.reduceLT, Int.reduceLE, Int.reduceEq, reduceCtorEq, e0, e3, l0, Int.natCast_zero]) <;> first | rfl | omega) | with_reducible refine t_in_other (by decide) ?_ | ((with_reducible apply gy1); iterate 3 focus rfl) | ((with_reducible apply gy2); iterate 3 focus rfl) | ((with_reducible apply gy3); iterate 2 focus rfl) | ((with_reducible apply gy4); iterate 1 focus rfl) | ((with_reducible apply gy5); iterate 4 focus rfl) | ((with_reducible apply gy6); iterate 4 focus rfl) | ((with_reducible apply d_bar); iterate 3 focus rfl) | ((with_reducible apply q_pub); iterate 1 focus rfl) | ((with_reducible apply gy7); iterate 1 focus rfl) | ((with_reducible apply gy9); (focus ((with_reducible refine gE ?_); (try simp (disch := omega) only [go_sem, ↓reduceIte, Nat.reduceAdd, Nat.reduceSub, Nat.reduceMul, Nat.reduceEqDiff, Nat.reduceLT, Nat.reduceLeDiff, Nat.reduceBEq, Int.reduceNeg, Int.reduceLT, Int.reduceLE, Int.reduceEq, reduceCtorEq, e0, e3, l0, Int.natCast_zero]) <;> rfl))) | ((with_reducible apply gz1); (focus first | rfl | (simp (disch := omega) only [go_sem, ↓reduceIte, Nat.reduceAdd, Nat.reduceSub, Nat.reduceMul, Nat.reduceEqDiff, Nat.reduceLT, Nat.reduceLeDiff, Nat.reduceBEq, Int.reduceNeg, Int.reduceLT, Int.reduceLE, Int.reduceEq, reduceCtorEq, e0, e3, l0, Int.natCast_zero]; done))) | ((with_reducible apply r_drawD (pickR []) [] []); (focus kernel_rfl); (focus rfl); (focus kernel_rfl); (focus (simp only [List.length_cons, List.length_nil, Nat.reduceAdd]; rfl)))))
        simp (disch := omega) only [go_sem, ↓reduceIte, Nat.reduceAdd, Nat.reduceSub, Nat.reduceMul, Nat.reduceEqDiff, Nat.reduceLT, Nat.reduceLeDiff, Nat.reduceBEq, Int.reduceNeg, Int.reduceLT, Int.reduceLE, Int.reduceEq, reduceCtorEq, hs]
      · have hkp := toL_len_pos.2 (Nat.pos_of_ne_zero hk0)
        have hlk : (toL k).length ≤ (toL n).length := lg_mono hk
        have l10 : (toL 10).length ≤ 1 := toL_len_lt.2 (by decide)
        have cd := rDivMod k 10 (by omega) (by omega) (by omega)
        have lr : (toL (k % 10)).length ≤ 1 := toL_len_lt.2 (by omega)
        have cs := refShort (toL (k % 10)) (by omega) (lm_toL _)
        rw [nv_toL] at cs
        have h5 := hsz hk0
        have h6 := pow10_lt h5 hk0
        have w1 : IntKind.u64.wrap (48 + ((k % 10 : Nat) : Int)) = ((48 + k % 10 : Nat) : Int) := by
          rw [wrap_u64 (by omega) (by omega)]; omega
        have w2 : IntKind.u8.wrap ((48 + k % 10 : Nat) : Int) = ((48 + k % 10 : Nat) : Int) := by
          show (((48 + k % 10 : Nat) : Int)) % 256 = _
          omega
        have sz1 : (strOf [((48 + k % 10 : Nat) : Int)]).size = 1 := strOf_size _
        generalize hx : strOf [((48 + k % 10 : Nat) : Int)] = x at *
        (repeat' (first | (with_reducible first | refine stp ?_ | apply gx1 | apply gx2 | apply gx3 | apply gx4 | apply gx5 | apply gx6 | apply gx7 | apply gy8 | apply gz2 | apply gz3 | refine gw0 (cd) ?_ ?_ | refine gw3 (cd) ?_ ?_ ?_ | refine gw0 (c10) ?_ ?_ | refine gw3 (c10) ?_ ?_ ?_ | refine gw0 (cs) ?_ ?_ | refine gw3 (cs) ?_ ?_ ?_) | (with_reducible refine all_v ?_; intro _) | ((with_reducible refine gE ?_); (try simp (disch := omega) only [go_sem, ↓reduceIte, Nat.reduceAdd, Nat.reduceSub, Nat.reduceMul, Nat.reduceEqDiff, Nat.reduceLT, Nat.reduceLeDiff, Nat.reduceBEq, Int.reduceNeg, Int.reduceLT, Int.reduceLE, Int.reduceEq, reduceCtorEq, e0, e3, w1, w2, sz1, hx]) <;> first | rfl | omega) | with_reducible refine t_in_other (by decide) ?_ | ((with_reducible apply gy1); iterate 3 focus rfl) | ((with_reducible apply gy2); iterate 3 focus rfl) | ((with_reducible apply gy3); iterate 2 focus rfl) | ((with_reducible apply gy4); iterate 1 focus rfl) | ((with_reducible apply gy5); iterate 4 focus rfl) | ((with_reducible apply gy6); iterate 4 focus rfl) | ((with_reducible apply d_bar); iterate 3 focus rfl) | ((with_reducible apply q_pub); iterate 1 focus rfl) | ((with_reducible apply gy7); iterate 1 focus rfl) | ((with_reducible apply gy9); (focus ((with_reducible refine gE ?_); (try simp (disch := omega) only [go_sem, ↓reduceIte, Nat.reduceAdd, Nat.reduceSub, Nat.reduceMul, Nat.reduceEqDiff, Nat.reduceLT, Nat.reduceLeDiff, Nat.reduceBEq, Int.reduceNeg, Int.reduceLT, Int.reduceLE, Int.reduceEq, reduceCtorEq, e0, e3, w1, w2, sz1, hx]) <;> rfl))) | ((with_reducible apply gz1); (focus first | rfl | (simp (disch := omega) only [go_sem, ↓reduceIte, Nat.reduceAdd, Nat.reduceSub, Nat.reduceMul, Nat.reduceEqDiff, Nat.reduceLT, Nat.reduceLeDiff, Nat.reduceBEq, Int.reduceNeg, Int.reduceLT, Int.reduceLE, Int.reduceEq, reduceCtorEq, e0, e3, w1, w2, sz1, hx]; done))) | ((with_reducible apply r_drawD (pickR []) [] []); (focus kernel_rfl); (focus rfl); (focus kernel_rfl); (focus (simp only [List.length_cons, List.length_nil, Nat.reduceAdd]; rfl)))))
        refine ⟨(k / 10, x ++ s), ⟨by exact gC, by exact gC, ?_, ?_, ?_⟩, ?_⟩
        · show k / 10 ≤ n; omega
        · show decB (k / 10) (k / 10) (x ++ s) = _
          rw [← hs, decB_step hk0, hx]
        · intro _
          show 10 ^ (x ++ s).size * (k / 10) ≤ n
          rw [ByteArray.size_append, sz1, Nat.add_comm, Nat.pow_succ, Nat.mul_assoc]
          exact Nat.le_trans (Nat.mul_le_mul_left _ (by omega)) h5
        · show k / 10 < k; omega
    · refine ⟨by exact gC, by exact gC, Nat.le_refl _, rfl, fun _ => ?_⟩
      show 10 ^ 0 * n ≤ n
      omega
/-- The decimal form of an integer and of a fraction. -/
def decZ (z : Int) : ByteArray := if z < 0 then strOf [45] ++ decS z.natAbs else decS z.natAbs
def decQ (q : Rat) : ByteArray := if q.den = 1 then decZ q.num else decZ q.num ++ strOf [47] ++ decS q.den
theorem decB_size {k : Nat} : ∀ (f n : Nat) (s : ByteArray), n < 10 ^ k → (decB f n s).size ≤ s.size + k := by
  induction k with
  | zero =>
    intro f n s h
    have : n = 0 := by simpa using h
    subst this
    cases f <;> simp [decB]
  | succ k ih =>
    intro f n s h
    cases f with
    | zero => simp [decB]
    | succ f =>
      unfold decB
      split
      · omega
      · have := ih f (n / 10) (strOf [((48 + n % 10 : Nat) : Int)] ++ s) (by rw [Nat.pow_succ] at h; omega)
        rw [ByteArray.size_append, strOf_size] at this
        simp only [List.length_cons, List.length_nil] at this
        omega
theorem decS_size (n : Nat) : (decS n).size ≤ 5 * (toL n).length + 1 := by
  unfold decS
  split
  · rw [strOf_size]; simp
  · have h1 := toL_len_lt.1 (Nat.le_refl ((toL n).length))
    have h3 : 65536 ^ (toL n).length ≤ 10 ^ (5 * (toL n).length) := by
      rw [Nat.pow_mul]
      exact Nat.pow_le_pow_left (by decide) _
    have := decB_size (k := 5 * (toL n).length) n n ByteArray.empty (by omega)
    have e : ByteArray.empty.size = 0 := rfl
    omega
theorem zText (z : Int) (hz : (toL z.natAbs).length ≤ 10000000) : Pure Tryd.prog 48 [intZ z] (.v (.string (decZ z))) := by
  have cn := zNormZ z (by omega)
  have ct := refText z.natAbs hz
  have hs := decS_size z.natAbs
  have h45 : (strOf [45]).size = 1 := strOf_size _
  unfold decZ
  have e45 : strOf [45] = ⟨#[45]⟩ := rfl
  rw [e45] at h45 ⊢
  generalize decS z.natAbs = s at *
  by_cases h : z < 0
  · rw [if_pos h]
    rw [show intZ z = .agg [.v (.bool true), lim (toL z.natAbs)] from by unfold intZ intA; rw [decide_eq_true h]] at *
    refine pure_intro (tok := 0) Tryd.func48 rfl Tryd.ntmps48 Tryd.results48 Tryd.call48 (by rfl) (by simp) ?_
    (repeat' (first | (with_reducible first | refine stp ?_ | apply gx1 | apply gx2 | apply gx3 | apply gx4 | apply gx5 | apply gx6 | apply gx7 | apply gy8 | apply gz2 | apply gz3 | refine gw0 (cn) ?_ ?_ | refine gw3 (cn) ?_ ?_ ?_ | refine gw0 (ct) ?_ ?_ | refine gw3 (ct) ?_ ?_ ?_) | (with_reducible refine all_v ?_; intro _) | ((with_reducible refine gE ?_); (try simp (disch := omega) only [go_sem, ↓reduceIte, Nat.reduceAdd, Nat.reduceSub, Nat.reduceMul, Nat.reduceEqDiff, Nat.reduceLT, Nat.reduceLeDiff, Nat.reduceBEq, Int.reduceNeg, Int.reduceLT, Int.reduceLE, Int.reduceEq, reduceCtorEq, h45]) <;> first | rfl | omega) | with_reducible refine t_in_other (by decide) ?_ | ((with_reducible apply gy1); iterate 3 focus rfl) | ((with_reducible apply gy2); iterate 3 focus rfl) | ((with_reducible apply gy3); iterate 2 focus rfl) | ((with_reducible apply gy4); iterate 1 focus rfl) | ((with_reducible apply gy5); iterate 4 focus rfl) | ((with_reducible apply gy6); iterate 4 focus rfl) | ((with_reducible apply d_bar); iterate 3 focus rfl) | ((with_reducible apply q_pub); iterate 1 focus rfl) | ((with_reducible apply gy7); iterate 1 focus rfl) | ((with_reducible apply gy9); (focus ((with_reducible refine gE ?_); (try simp (disch := omega) only [go_sem, ↓reduceIte, Nat.reduceAdd, Nat.reduceSub, Nat.reduceMul, Nat.reduceEqDiff, Nat.reduceLT, Nat.reduceLeDiff, Nat.reduceBEq, Int.reduceNeg, Int.reduceLT, Int.reduceLE, Int.reduceEq, reduceCtorEq, h45]) <;> rfl))) | ((with_reducible apply gz1); (focus first | rfl | (simp (disch := omega) only [go_sem, ↓reduceIte, Nat.reduceAdd, Nat.reduceSub, Nat.reduceMul, Nat.reduceEqDiff, Nat.reduceLT, Nat.reduceLeDiff, Nat.reduceBEq, Int.reduceNeg, Int.reduceLT, Int.reduceLE, Int.reduceEq, reduceCtorEq, h45]; done))) | ((with_reducible apply r_drawD (pickR []) [] []); (focus kernel_rfl); (focus rfl); (focus kernel_rfl); (focus (simp only [List.length_cons, List.length_nil, Nat.reduceAdd]; rfl)))))
    simp (disch := omega) only [go_sem, ↓reduceIte, Nat.reduceAdd, Nat.reduceSub, Nat.reduceMul, Nat.reduceEqDiff, Nat.reduceLT, Nat.reduceLeDiff, Nat.reduceBEq, Int.reduceNeg, Int.reduceLT, Int.reduceLE, Int.reduceEq, reduceCtorEq]
  · rw [if_neg h]
    rw [show intZ z = .agg [.v (.bool false), lim (toL z.natAbs)] from by unfold intZ intA; rw [decide_eq_false h]] at *
    refine pure_intro (tok := 0) Tryd.func48 rfl Tryd.ntmps48 Tryd.results48 Tryd.call48 (by rfl) (by simp) ?_
    (repeat' (first | (with_reducible first | refine stp ?_ | apply gx1 | apply gx2 | apply gx3 | apply gx4 | apply gx5 | apply gx6 | apply gx7 | apply gy8 | apply gz2 | apply gz3 | refine gw0 (cn) ?_ ?_ | refine gw3 (cn) ?_ ?_ ?_ | refine gw0 (ct) ?_ ?_ | refine gw3 (ct) ?_ ?_ ?_) | (with_reducible refine all_v ?_; intro _) | ((with_reducible refine gE ?_); (try simp (disch := omega) only [go_sem, ↓reduceIte, Nat.reduceAdd, Nat.reduceSub, Nat.reduceMul, Nat.reduceEqDiff, Nat.reduceLT, Nat.reduceLeDiff, Nat.reduceBEq, Int.reduceNeg, Int.reduceLT, Int.reduceLE, Int.reduceEq, reduceCtorEq]) <;> first | rfl | omega) | with_reducible refine t_in_other (by decide) ?_ | ((with_reducible apply gy1); iterate 3 focus rfl) | ((with_reducible apply gy2); iterate 3 focus rfl) | ((with_reducible apply gy3); iterate 2 focus rfl) | ((with_reducible apply gy4); iterate 1 focus rfl) | ((with_reducible apply gy5); iterate 4 focus rfl) | ((with_reducible apply gy6); iterate 4 focus rfl) | ((with_reducible apply d_bar); iterate 3 focus rfl) | ((with_reducible apply q_pub); iterate 1 focus rfl) | ((with_reducible apply gy7); iterate 1 focus rfl) | ((with_reducible apply gy9); (focus ((with_reducible refine gE ?_); (try simp (disch := omega) only [go_sem, ↓reduceIte, Nat.reduceAdd, Nat.reduceSub, Nat.reduceMul, Nat.reduceEqDiff, Nat.reduceLT, Nat.reduceLeDiff, Nat.reduceBEq, Int.reduceNeg, Int.reduceLT, Int.reduceLE, Int.reduceEq, reduceCtorEq]) <;> rfl))) | ((with_reducible apply gz1); (focus first | rfl | (simp (disch := omega) only [go_sem, ↓reduceIte, Nat.reduceAdd, Nat.reduceSub, Nat.reduceMul, Nat.reduceEqDiff, Nat.reduceLT, Nat.reduceLeDiff, Nat.reduceBEq, Int.reduceNeg, Int.reduceLT, Int.reduceLE, Int.reduceEq, reduceCtorEq]; done))) | ((with_reducible apply r_drawD (pickR []) [] []); (focus kernel_rfl); (focus rfl); (focus kernel_rfl); (focus (simp only [List.length_cons, List.length_nil, Nat.reduceAdd]; rfl)))))
    simp (disch := omega) only [go_sem, ↓reduceIte, Nat.reduceAdd, Nat.reduceSub, Nat.reduceMul, Nat.reduceEqDiff, Nat.reduceLT, Nat.reduceLeDiff, Nat.reduceBEq, Int.reduceNeg, Int.reduceLT, Int.reduceLE, Int.reduceEq, reduceCtorEq]
theorem decZ_size (z : Int) : (decZ z).size ≤ 5 * (toL z.natAbs).length + 2 := by
  have := decS_size z.natAbs
  unfold decZ
  split
  · rw [ByteArray.size_append, strOf_size]; simp only [List.length_cons, List.length_nil]; omega
  · omega
theorem qText (q : Rat) {k : Nat} (h : Sz q k) (hk : k ≤ 1000000) : Pure Tryd.prog 27 [ratQ q] (.v (.string (decQ q))) := by
  have cn := qNorm q h (by omega)
  have h1 := h.1
  have h2 := h.2
  have c1 : Pure Tryd.prog 47 [.v (.int .u64 1)] (lim (toL 1)) := refOf 1 (by omega)
  have cs := refSameN (toL q.den) (toL 1) (by omega) (by rw [lg_one]; omega) (lm_toL _) (lm_toL _)
  have cz := zText q.num (by omega)
  have cd := refText q.den (by omega)
  have z1 := decZ_size q.num
  have z2 := decS_size q.den
  have e47 : strOf [47] = ⟨#[47]⟩ := rfl
  have h47 : (strOf [47]).size = 1 := strOf_size _
  rw [e47] at h47
  unfold decQ
  rw [e47]
  by_cases hd : q.den = 1
  · rw [if_pos hd]
    rw [decide_eq_true (by rw [hd])] at cs
    generalize decZ q.num = s at *
    refine pure_intro (tok := 0) Tryd.func27 rfl Tryd.ntmps27 Tryd.results27 Tryd.call27 (by rfl) (by simp) ?_
    (repeat' (first | (with_reducible first | refine stp ?_ | apply gx1 | apply gx2 | apply gx3 | apply gx4 | apply gx5 | apply gx6 | apply gx7 | apply gy8 | apply gz2 | apply gz3 | refine gw0 (cn) ?_ ?_ | refine gw3 (cn) ?_ ?_ ?_ | refine gw0 (c1) ?_ ?_ | refine gw3 (c1) ?_ ?_ ?_ | refine gw0 (cs) ?_ ?_ | refine gw3 (cs) ?_ ?_ ?_ | refine gw0 (cz) ?_ ?_ | refine gw3 (cz) ?_ ?_ ?_) | (with_reducible refine all_v ?_; intro _) | ((with_reducible refine gE ?_); (try simp (disch := omega) only [go_sem, ↓reduceIte, Nat.reduceAdd, Nat.reduceSub, Nat.reduceMul, Nat.reduceEqDiff, Nat.reduceLT, Nat.reduceLeDiff, Nat.reduceBEq, Int.reduceNeg, Int.reduceLT, Int.reduceLE, Int.reduceEq, reduceCtorEq]) <;> first | rfl | omega) | with_reducible refine t_in_other (by decide) ?_ | ((with_reducible apply gy1); iterate 3 focus rfl) | ((with_reducible apply gy2); iterate 3 focus rfl) | ((with_reducible apply gy3); iterate 2 focus rfl) | ((with_reducible apply gy4); iterate 1 focus rfl) | ((with_reducible apply gy5); iterate 4 focus rfl) | ((with_reducible apply gy6); iterate 4 focus rfl) | ((with_reducible apply d_bar); iterate 3 focus rfl) | ((with_reducible apply q_pub); iterate 1 focus rfl) | ((with_reducible apply gy7); iterate 1 focus rfl) | ((with_reducible apply gy9); (focus ((with_reducible refine gE ?_); (try simp (disch := omega) only [go_sem, ↓reduceIte, Nat.reduceAdd, Nat.reduceSub, Nat.reduceMul, Nat.reduceEqDiff, Nat.reduceLT, Nat.reduceLeDiff, Nat.reduceBEq, Int.reduceNeg, Int.reduceLT, Int.reduceLE, Int.reduceEq, reduceCtorEq]) <;> rfl))) | ((with_reducible apply gz1); (focus first | rfl | (simp (disch := omega) only [go_sem, ↓reduceIte, Nat.reduceAdd, Nat.reduceSub, Nat.reduceMul, Nat.reduceEqDiff, Nat.reduceLT, Nat.reduceLeDiff, Nat.reduceBEq, Int.reduceNeg, Int.reduceLT, Int.reduceLE, Int.reduceEq, reduceCtorEq]; done))) | ((with_reducible apply r_drawD (pickR [(2, lim (toL 1)), (3, .v (.bool true))]) [] []); (focus kernel_rfl); (focus rfl); (focus kernel_rfl); (focus (simp only [List.length_cons, List.length_nil, Nat.reduceAdd]; rfl)))))
    simp (disch := omega) only [go_sem, ↓reduceIte, Nat.reduceAdd, Nat.reduceSub, Nat.reduceMul, Nat.reduceEqDiff, Nat.reduceLT, Nat.reduceLeDiff, Nat.reduceBEq, Int.reduceNeg, Int.reduceLT, Int.reduceLE, Int.reduceEq, reduceCtorEq]
  · rw [if_neg hd]
    rw [decide_eq_false (fun e => hd (by have := congrArg nv e; rwa [nv_toL, nv_toL] at this))] at cs
    generalize decZ q.num = s at *
    generalize decS q.den = t at *
    have h3 : (s ++ ⟨#[47]⟩ : ByteArray).size = s.size + 1 := by rw [ByteArray.size_append, h47]
    refine pure_intro (tok := 0) Tryd.func27 rfl Tryd.ntmps27 Tryd.results27 Tryd.call27 (by rfl) (by simp) ?_
    (repeat' (first | (with_reducible first | refine stp ?_ | apply gx1 | apply gx2 | apply gx3 | apply gx4 | apply gx5 | apply gx6 | apply gx7 | apply gy8 | apply gz2 | apply gz3 | refine gw0 (cn) ?_ ?_ | refine gw3 (cn) ?_ ?_ ?_ | refine gw0 (c1) ?_ ?_ | refine gw3 (c1) ?_ ?_ ?_ | refine gw0 (cs) ?_ ?_ | refine gw3 (cs) ?_ ?_ ?_ | refine gw0 (cz) ?_ ?_ | refine gw3 (cz) ?_ ?_ ?_ | refine gw0 (cd) ?_ ?_ | refine gw3 (cd) ?_ ?_ ?_) | (with_reducible refine all_v ?_; intro _) | ((with_reducible refine gE ?_); (try simp (disch := omega) only [go_sem, ↓reduceIte, Nat.reduceAdd, Nat.reduceSub, Nat.reduceMul, Nat.reduceEqDiff, Nat.reduceLT, Nat.reduceLeDiff, Nat.reduceBEq, Int.reduceNeg, Int.reduceLT, Int.reduceLE, Int.reduceEq, reduceCtorEq, h47, h3]) <;> first | rfl | omega) | with_reducible refine t_in_other (by decide) ?_ | ((with_reducible apply gy1); iterate 3 focus rfl) | ((with_reducible apply gy2); iterate 3 focus rfl) | ((with_reducible apply gy3); iterate 2 focus rfl) | ((with_reducible apply gy4); iterate 1 focus rfl) | ((with_reducible apply gy5); iterate 4 focus rfl) | ((with_reducible apply gy6); iterate 4 focus rfl) | ((with_reducible apply d_bar); iterate 3 focus rfl) | ((with_reducible apply q_pub); iterate 1 focus rfl) | ((with_reducible apply gy7); iterate 1 focus rfl) | ((with_reducible apply gy9); (focus ((with_reducible refine gE ?_); (try simp (disch := omega) only [go_sem, ↓reduceIte, Nat.reduceAdd, Nat.reduceSub, Nat.reduceMul, Nat.reduceEqDiff, Nat.reduceLT, Nat.reduceLeDiff, Nat.reduceBEq, Int.reduceNeg, Int.reduceLT, Int.reduceLE, Int.reduceEq, reduceCtorEq, h47, h3]) <;> rfl))) | ((with_reducible apply gz1); (focus first | rfl | (simp (disch := omega) only [go_sem, ↓reduceIte, Nat.reduceAdd, Nat.reduceSub, Nat.reduceMul, Nat.reduceEqDiff, Nat.reduceLT, Nat.reduceLeDiff, Nat.reduceBEq, Int.reduceNeg, Int.reduceLT, Int.reduceLE, Int.reduceEq, reduceCtorEq, h47, h3]; done))) | ((with_reducible apply r_drawD (id := 2) (pickR [(2, lim (toL 1)), (3, .v (.bool false))]) [] []); (focus kernel_rfl); (focus rfl); (focus kernel_rfl); (focus (simp only [List.length_cons, List.length_nil, Nat.reduceAdd]; rfl))) | ((with_reducible apply r_drawD (id := 4) (pickR [(2, .v (.string s)), (6, .v (.string t))]) [] []); (focus kernel_rfl); (focus rfl); (focus kernel_rfl); (focus (simp only [List.length_cons, List.length_nil, Nat.reduceAdd]; rfl)))))
    simp (disch := omega) only [go_sem, ↓reduceIte, Nat.reduceAdd, Nat.reduceSub, Nat.reduceMul, Nat.reduceEqDiff, Nat.reduceLT, Nat.reduceLeDiff, Nat.reduceBEq, Int.reduceNeg, Int.reduceLT, Int.reduceLE, Int.reduceEq, reduceCtorEq]
end Go.Proofs.YtjiffehkemeloaaDoor
end

section
namespace Go.Proofs.YtjiffehkemeloaaDoor
open Go Go.RowKit Go.Pg
set_option linter.unusedSimpArgs false
set_option linter.unusedVariables false
set_option maxRecDepth 20000
attribute [local go_sem] Tryd.underlying3 Tryd.underlying2 Tryd.underlying4 Tryd.underlying41 Tryd.underlying38 Tryd.underlying72 Tryd.underlying71 Tryd.underlying27 Tryd.underlying30 Tryd.underlying9 Tryd.underlying60 sz3 by3 z3 szQuant zQuant szCor zCor szC3 zC3 szErr zErr szStr byStr zStr eqQuant Bool.and_self szRat zRat
/-- strconv's digits. -/
def dig36 : ByteArray := ⟨#[48, 49, 50, 51, 52, 53, 54, 55, 56, 57, 97, 98, 99, 100, 101, 102, 103, 104, 105, 106, 107, 108, 109, 110, 111, 112, 113, 114, 115, 116, 117, 118, 119, 120, 121, 122]⟩
def dig200 : ByteArray := ⟨#[48, 48, 48, 49, 48, 50, 48, 51, 48, 52, 48, 53, 48, 54, 48, 55, 48, 56, 48, 57, 49, 48, 49, 49, 49, 50, 49, 51, 49, 52, 49, 53, 49, 54, 49, 55, 49, 56, 49, 57, 50, 48, 50, 49, 50, 50, 50, 51, 50, 52, 50, 53, 50, 54, 50, 55, 50, 56, 50, 57, 51, 48, 51, 49, 51, 50, 51, 51, 51, 52, 51, 53, 51, 54, 51, 55, 51, 56, 51, 57, 52, 48, 52, 49, 52, 50, 52, 51, 52, 52, 52, 53, 52, 54, 52, 55, 52, 56, 52, 57, 53, 48, 53, 49, 53, 50, 53, 51, 53, 52, 53, 53, 53, 54, 53, 55, 53, 56, 53, 57, 54, 48, 54, 49, 54, 50, 54, 51, 54, 52, 54, 53, 54, 54, 54, 55, 54, 56, 54, 57, 55, 48, 55, 49, 55, 50, 55, 51, 55, 52, 55, 53, 55, 54, 55, 55, 55, 56, 55, 57, 56, 48, 56, 49, 56, 50, 56, 51, 56, 52, 56, 53, 56, 54, 56, 55, 56, 56, 56, 57, 57, 48, 57, 49, 57, 50, 57, 51, 57, 52, 57, 53, 57, 54, 57, 55, 57, 56, 57, 57]⟩
theorem dig36_at : ∀ n, n < 10 → dig36.extract n (n + 1) = decS n := by decide +kernel
theorem dig200_at : ∀ n, n < 100 → 10 ≤ n → dig200.extract (n * 2) (n * 2 + 2) = decS n := by decide +kernel
theorem scSmall (n : Nat) (hn : n < 100) : Pure Tryd.prog 78 [iv (n : Int)] (.v (.string (decS n))) := by
  by_cases h : n < 10
  · refine pure_intro (tok := 0) Tryd.func78 rfl Tryd.ntmps78 Tryd.results78 Tryd.call78 (by rfl) (by simp) ?_
    (repeat' (first | (with_reducible first | refine stp ?_ | apply gx1 | apply gx2 | apply gx3 | apply gx4 | apply gx5 | apply gx6 | apply gx7 | apply gy8 | apply gz2 | apply gz3) | (with_reducible refine all_v ?_; intro _) | ((with_reducible refine gE ?_); (try simp (disch := omega) only [go_sem, ↓reduceIte, Nat.reduceAdd, Nat.reduceSub, Nat.reduceMul, Nat.reduceEqDiff, Nat.reduceLT, Nat.reduceLeDiff, Nat.reduceBEq, Int.reduceNeg, Int.reduceLT, Int.reduceLE, Int.reduceEq, reduceCtorEq]) <;> first | rfl | omega) | with_reducible refine t_in_other (by decide) ?_ | ((with_reducible apply gy1); iterate 3 focus rfl) | ((with_reducible apply gy2); iterate 3 focus rfl) | ((with_reducible apply gy3); iterate 2 focus rfl) | ((with_reducible apply gy4); iterate 1 focus rfl) | ((with_reducible apply gy5); iterate 4 focus rfl) | ((with_reducible apply gy6); iterate 4 focus rfl) | ((with_reducible apply d_bar); iterate 3 focus rfl) | ((with_reducible apply q_pub); iterate 1 focus rfl) | ((with_reducible apply gy7); iterate 1 focus rfl) | ((with_reducible apply gy9); (focus ((with_reducible refine gE ?_); (try simp (disch := omega) only [go_sem, ↓reduceIte, Nat.reduceAdd, Nat.reduceSub, Nat.reduceMul, Nat.reduceEqDiff, Nat.reduceLT, Nat.reduceLeDiff, Nat.reduceBEq, Int.reduceNeg, Int.reduceLT, Int.reduceLE, Int.reduceEq, reduceCtorEq]) <;> rfl))) | ((with_reducible apply gz1); (focus first | rfl | (simp (disch := omega) only [go_sem, ↓reduceIte, Nat.reduceAdd, Nat.reduceSub, Nat.reduceMul, Nat.reduceEqDiff, Nat.reduceLT, Nat.reduceLeDiff, Nat.reduceBEq, Int.reduceNeg, Int.reduceLT, Int.reduceLE, Int.reduceEq, reduceCtorEq]; done))) | ((with_reducible apply r_drawD (pickR []) [] []); (focus kernel_rfl); (focus rfl); (focus kernel_rfl); (focus (simp only [List.length_cons, List.length_nil, Nat.reduceAdd]; rfl)))))
    simp (disch := omega) only [go_sem, ↓reduceIte, Nat.reduceAdd, Nat.reduceSub, Nat.reduceMul, Nat.reduceEqDiff, Nat.reduceLT, Nat.reduceLeDiff, Nat.reduceBEq, Int.reduceNeg, Int.reduceLT, Int.reduceLE, Int.reduceEq, reduceCtorEq]
    exact congrArg (fun s => AV.v (.string s)) (dig36_at n h)
  · have e1 : (n : Int) * 2 = ((n * 2 : Nat) : Int) := by omega
    have e2 : ((n * 2 : Nat) : Int) + 2 = ((n * 2 + 2 : Nat) : Int) := by omega
    refine pure_intro (tok := 0) Tryd.func78 rfl Tryd.ntmps78 Tryd.results78 Tryd.call78 (by rfl) (by simp) ?_
    (repeat' (first | (with_reducible first | refine stp ?_ | apply gx1 | apply gx2 | apply gx3 | apply gx4 | apply gx5 | apply gx6 | apply gx7 | apply gy8 | apply gz2 | apply gz3) | (with_reducible refine all_v ?_; intro _) | ((with_reducible refine gE ?_); (try simp (disch := omega) only [go_sem, ↓reduceIte, Nat.reduceAdd, Nat.reduceSub, Nat.reduceMul, Nat.reduceEqDiff, Nat.reduceLT, Nat.reduceLeDiff, Nat.reduceBEq, Int.reduceNeg, Int.reduceLT, Int.reduceLE, Int.reduceEq, reduceCtorEq, e1, e2, List.append_eq, List.length_append]) <;> first | rfl | omega) | with_reducible refine t_in_other (by decide) ?_ | ((with_reducible apply gy1); iterate 3 focus rfl) | ((with_reducible apply gy2); iterate 3 focus rfl) | ((with_reducible apply gy3); iterate 2 focus rfl) | ((with_reducible apply gy4); iterate 1 focus rfl) | ((with_reducible apply gy5); iterate 4 focus rfl) | ((with_reducible apply gy6); iterate 4 focus rfl) | ((with_reducible apply d_bar); iterate 3 focus rfl) | ((with_reducible apply q_pub); iterate 1 focus rfl) | ((with_reducible apply gy7); iterate 1 focus rfl) | ((with_reducible apply gy9); (focus ((with_reducible refine gE ?_); (try simp (disch := omega) only [go_sem, ↓reduceIte, Nat.reduceAdd, Nat.reduceSub, Nat.reduceMul, Nat.reduceEqDiff, Nat.reduceLT, Nat.reduceLeDiff, Nat.reduceBEq, Int.reduceNeg, Int.reduceLT, Int.reduceLE, Int.reduceEq, reduceCtorEq, e1, e2, List.append_eq, List.length_append]) <;> rfl))) | ((with_reducible apply gz1); (focus first | rfl | (simp (disch := omega) only [go_sem, ↓reduceIte, Nat.reduceAdd, Nat.reduceSub, Nat.reduceMul, Nat.reduceEqDiff, Nat.reduceLT, Nat.reduceLeDiff, Nat.reduceBEq, Int.reduceNeg, Int.reduceLT, Int.reduceLE, Int.reduceEq, reduceCtorEq, e1, e2, List.append_eq, List.length_append]; done))) | ((with_reducible apply r_drawD (pickR []) [] []); (focus kernel_rfl); (focus rfl); (focus kernel_rfl); (focus (simp only [List.length_cons, List.length_nil, Nat.reduceAdd]; rfl)))))
    simp (disch := omega) only [go_sem, ↓reduceIte, Nat.reduceAdd, Nat.reduceSub, Nat.reduceMul, Nat.reduceEqDiff, Nat.reduceLT, Nat.reduceLeDiff, Nat.reduceBEq, Int.reduceNeg, Int.reduceLT, Int.reduceLE, Int.reduceEq, reduceCtorEq]
    exact congrArg (fun s => AV.v (.string s)) (dig200_at n hn (by omega))
theorem scFormat (n : Nat) (hn : n < 100) : Pure Tryd.prog 58 [.v (.int .i64 (n : Int)), iv 10] (.v (.string (decS n))) := by
  have c := scSmall n hn
  refine pure_intro (tok := 0) Tryd.func58 rfl Tryd.ntmps58 Tryd.results58 Tryd.call58 (by rfl) (by simp) ?_
  (repeat' (first | (with_reducible first | refine stp ?_ | apply gx1 | apply gx2 | apply gx3 | apply gx4 | apply gx5 | apply gx6 | apply gx7 | apply gy8 | apply gz2 | apply gz3 | refine gw0 (c) ?_ ?_ | refine gw3 (c) ?_ ?_ ?_) | (with_reducible refine all_v ?_; intro _) | ((with_reducible refine gE ?_); (try simp (disch := omega) only [go_sem, ↓reduceIte, Nat.reduceAdd, Nat.reduceSub, Nat.reduceMul, Nat.reduceEqDiff, Nat.reduceLT, Nat.reduceLeDiff, Nat.reduceBEq, Int.reduceNeg, Int.reduceLT, Int.reduceLE, Int.reduceEq, reduceCtorEq]) <;> first | rfl | omega) | with_reducible refine t_in_other (by decide) ?_ | ((with_reducible apply gy1); iterate 3 focus rfl) | ((with_reducible apply gy2); iterate 3 focus rfl) | ((with_reducible apply gy3); iterate 2 focus rfl) | ((with_reducible apply gy4); iterate 1 focus rfl) | ((with_reducible apply gy5); iterate 4 focus rfl) | ((with_reducible apply gy6); iterate 4 focus rfl) | ((with_reducible apply d_bar); iterate 3 focus rfl) | ((with_reducible apply q_pub); iterate 1 focus rfl) | ((with_reducible apply gy7); iterate 1 focus rfl) | ((with_reducible apply gy9); (focus ((with_reducible refine gE ?_); (try simp (disch := omega) only [go_sem, ↓reduceIte, Nat.reduceAdd, Nat.reduceSub, Nat.reduceMul, Nat.reduceEqDiff, Nat.reduceLT, Nat.reduceLeDiff, Nat.reduceBEq, Int.reduceNeg, Int.reduceLT, Int.reduceLE, Int.reduceEq, reduceCtorEq]) <;> rfl))) | ((with_reducible apply gz1); (focus first | rfl | (simp (disch := omega) only [go_sem, ↓reduceIte, Nat.reduceAdd, Nat.reduceSub, Nat.reduceMul, Nat.reduceEqDiff, Nat.reduceLT, Nat.reduceLeDiff, Nat.reduceBEq, Int.reduceNeg, Int.reduceLT, Int.reduceLE, Int.reduceEq, reduceCtorEq]; done))) | ((with_reducible apply r_drawD (pickR []) [] []); (focus kernel_rfl); (focus rfl); (focus kernel_rfl); (focus (simp only [List.length_cons, List.length_nil, Nat.reduceAdd]; rfl)))))
  simp (disch := omega) only [go_sem, ↓reduceIte, Nat.reduceAdd, Nat.reduceSub, Nat.reduceMul, Nat.reduceEqDiff, Nat.reduceLT, Nat.reduceLeDiff, Nat.reduceBEq, Int.reduceNeg, Int.reduceLT, Int.reduceLE, Int.reduceEq, reduceCtorEq]
theorem scItoaI (n : Nat) (hn : n < 100) : Pure Tryd.prog 44 [iv (n : Int)] (.v (.string (decS n))) := by
  have c := scFormat n hn
  refine pure_intro (tok := 0) Tryd.func44 rfl Tryd.ntmps44 Tryd.results44 Tryd.call44 (by rfl) (by simp) ?_
  (repeat' (first | (with_reducible first | refine stp ?_ | apply gx1 | apply gx2 | apply gx3 | apply gx4 | apply gx5 | apply gx6 | apply gx7 | apply gy8 | apply gz2 | apply gz3 | refine gw0 (c) ?_ ?_ | refine gw3 (c) ?_ ?_ ?_) | (with_reducible refine all_v ?_; intro _) | ((with_reducible refine gE ?_); (try simp (disch := omega) only [go_sem, ↓reduceIte, Nat.reduceAdd, Nat.reduceSub, Nat.reduceMul, Nat.reduceEqDiff, Nat.reduceLT, Nat.reduceLeDiff, Nat.reduceBEq, Int.reduceNeg, Int.reduceLT, Int.reduceLE, Int.reduceEq, reduceCtorEq]) <;> first | rfl | omega) | with_reducible refine t_in_other (by decide) ?_ | ((with_reducible apply gy1); iterate 3 focus rfl) | ((with_reducible apply gy2); iterate 3 focus rfl) | ((with_reducible apply gy3); iterate 2 focus rfl) | ((with_reducible apply gy4); iterate 1 focus rfl) | ((with_reducible apply gy5); iterate 4 focus rfl) | ((with_reducible apply gy6); iterate 4 focus rfl) | ((with_reducible apply d_bar); iterate 3 focus rfl) | ((with_reducible apply q_pub); iterate 1 focus rfl) | ((with_reducible apply gy7); iterate 1 focus rfl) | ((with_reducible apply gy9); (focus ((with_reducible refine gE ?_); (try simp (disch := omega) only [go_sem, ↓reduceIte, Nat.reduceAdd, Nat.reduceSub, Nat.reduceMul, Nat.reduceEqDiff, Nat.reduceLT, Nat.reduceLeDiff, Nat.reduceBEq, Int.reduceNeg, Int.reduceLT, Int.reduceLE, Int.reduceEq, reduceCtorEq]) <;> rfl))) | ((with_reducible apply gz1); (focus first | rfl | (simp (disch := omega) only [go_sem, ↓reduceIte, Nat.reduceAdd, Nat.reduceSub, Nat.reduceMul, Nat.reduceEqDiff, Nat.reduceLT, Nat.reduceLeDiff, Nat.reduceBEq, Int.reduceNeg, Int.reduceLT, Int.reduceLE, Int.reduceEq, reduceCtorEq]; done))) | ((with_reducible apply r_drawD (pickR []) [] []); (focus kernel_rfl); (focus rfl); (focus kernel_rfl); (focus (simp only [List.length_cons, List.length_nil, Nat.reduceAdd]; rfl)))))
  simp (disch := omega) only [go_sem, ↓reduceIte, Nat.reduceAdd, Nat.reduceSub, Nat.reduceMul, Nat.reduceEqDiff, Nat.reduceLT, Nat.reduceLeDiff, Nat.reduceBEq, Int.reduceNeg, Int.reduceLT, Int.reduceLE, Int.reduceEq, reduceCtorEq]
theorem scItoa (n : Nat) (hn : n < 100) : Pure Tryd.prog 26 [iv (n : Int)] (.v (.string (decS n))) := by
  have c := scItoaI n hn
  refine pure_intro (tok := 0) Tryd.func26 rfl Tryd.ntmps26 Tryd.results26 Tryd.call26 (by rfl) (by simp) ?_
  (repeat' (first | (with_reducible first | refine stp ?_ | apply gx1 | apply gx2 | apply gx3 | apply gx4 | apply gx5 | apply gx6 | apply gx7 | apply gy8 | apply gz2 | apply gz3 | refine gw0 (c) ?_ ?_ | refine gw3 (c) ?_ ?_ ?_) | (with_reducible refine all_v ?_; intro _) | ((with_reducible refine gE ?_); (try simp (disch := omega) only [go_sem, ↓reduceIte, Nat.reduceAdd, Nat.reduceSub, Nat.reduceMul, Nat.reduceEqDiff, Nat.reduceLT, Nat.reduceLeDiff, Nat.reduceBEq, Int.reduceNeg, Int.reduceLT, Int.reduceLE, Int.reduceEq, reduceCtorEq]) <;> first | rfl | omega) | with_reducible refine t_in_other (by decide) ?_ | ((with_reducible apply gy1); iterate 3 focus rfl) | ((with_reducible apply gy2); iterate 3 focus rfl) | ((with_reducible apply gy3); iterate 2 focus rfl) | ((with_reducible apply gy4); iterate 1 focus rfl) | ((with_reducible apply gy5); iterate 4 focus rfl) | ((with_reducible apply gy6); iterate 4 focus rfl) | ((with_reducible apply d_bar); iterate 3 focus rfl) | ((with_reducible apply q_pub); iterate 1 focus rfl) | ((with_reducible apply gy7); iterate 1 focus rfl) | ((with_reducible apply gy9); (focus ((with_reducible refine gE ?_); (try simp (disch := omega) only [go_sem, ↓reduceIte, Nat.reduceAdd, Nat.reduceSub, Nat.reduceMul, Nat.reduceEqDiff, Nat.reduceLT, Nat.reduceLeDiff, Nat.reduceBEq, Int.reduceNeg, Int.reduceLT, Int.reduceLE, Int.reduceEq, reduceCtorEq]) <;> rfl))) | ((with_reducible apply gz1); (focus first | rfl | (simp (disch := omega) only [go_sem, ↓reduceIte, Nat.reduceAdd, Nat.reduceSub, Nat.reduceMul, Nat.reduceEqDiff, Nat.reduceLT, Nat.reduceLeDiff, Nat.reduceBEq, Int.reduceNeg, Int.reduceLT, Int.reduceLE, Int.reduceEq, reduceCtorEq]; done))) | ((with_reducible apply r_drawD (pickR []) [] []); (focus kernel_rfl); (focus rfl); (focus kernel_rfl); (focus (simp only [List.length_cons, List.length_nil, Nat.reduceAdd]; rfl)))))
  simp (disch := omega) only [go_sem, ↓reduceIte, Nat.reduceAdd, Nat.reduceSub, Nat.reduceMul, Nat.reduceEqDiff, Nat.reduceLT, Nat.reduceLeDiff, Nat.reduceBEq, Int.reduceNeg, Int.reduceLT, Int.reduceLE, Int.reduceEq, reduceCtorEq]
theorem decQ_nat (n : Nat) : decQ (n : Rat) = decS n := by
  unfold decQ
  rw [if_pos (by rfl)]
  unfold decZ
  have e : ((n : Rat)).num = (n : Int) := rfl
  rw [e, if_neg (by omega)]
  rfl
abbrev strA (s : ByteArray) : AV := .v (.string s)

/-- The text of a quantity. -/
def c1 (s : ByteArray) (ss : List ByteArray) (n : Int) : ByteArray := s ++ ss.getD n.toNat ByteArray.empty
def Qt.txt (q : Qt) (ss : List ByteArray) : ByteArray :=
  if q.k = 3 then ⟨#[116, 40]⟩ ++ decS q.a.toNat ++ ⟨#[41]⟩
  else (if q.k = 2 then ⟨#[80, 40]⟩ else ⟨#[83, 40]⟩) ++ ss.getD q.a.toNat ByteArray.empty ++ ⟨#[44, 32]⟩ ++ ss.getD q.b.toNat ByteArray.empty ++ ⟨#[44, 32]⟩ ++ ss.getD q.c.toNat ByteArray.empty ++ ⟨#[41]⟩
theorem chk_ok {k a b c n m : Int} (h : Qt.chk ⟨k, a, b, c⟩ n m = 0) : (k = 3 ∧ 0 ≤ a ∧ a < 64 ∧ a < m) ∨ (k ≠ 3 ∧ (k = 1 ∨ k = 2) ∧ (0 ≤ a ∧ a < n) ∧ (0 ≤ b ∧ b < n) ∧ (0 ≤ c ∧ c < n)) := by
  unfold Qt.chk Qt.ok at h
  simp only [decide_eq_true_eq] at h
  split at h
  · split at h
    · split at h <;> omega
    · split at h <;> omega
  · omega
theorem strs_at {ss : List ByteArray} {j : Nat} (h : j < ss.length) : (ss.map strA).getD j .u = strA (ss.getD j ByteArray.empty) := by
  rw [List.getD_eq_getElem?_getD, List.getElem?_map, List.getElem?_eq_getElem h, List.getD_eq_getElem?_getD, List.getElem?_eq_getElem h]; rfl
theorem strs_sz {ss : List ByteArray} (h : ∀ s ∈ ss, s.size ≤ 1000) (j : Nat) : (ss.getD j ByteArray.empty).size ≤ 1000 := by
  rw [List.getD_eq_getElem?_getD]
  rcases Nat.lt_or_ge j ss.length with h1 | h1
  · rw [List.getElem?_eq_getElem h1]; exact h _ (List.getElem_mem h1)
  · rw [List.getElem?_eq_none h1]; exact Nat.zero_le _
set_option maxHeartbeats 4000000 in
theorem quText (k a b c : Int) (ss : List ByteArray) (hl : ss.length ≤ 1000000000) (hs : ∀ s ∈ ss, s.size ≤ 1000) : Pure Tryd.prog 15 [Qt.av ⟨k, a, b, c⟩, .sl 1 (ss.map strA)] (if Qt.chk ⟨k, a, b, c⟩ ss.length 64 = 0 then .tup [strA (Qt.txt ⟨k, a, b, c⟩ ss), iv 0] else .tup [strA ⟨#[]⟩, iv (Qt.chk ⟨k, a, b, c⟩ ss.length 64)]) := by
  have cc := quCheck k a b c ss.length 64
  have ok := @chk_ok k a b c ss.length 64
  generalize Qt.chk ⟨k, a, b, c⟩ ss.length 64 = v at *
  by_cases hv : v = 0
  · subst hv
    rw [if_pos rfl]
    rcases ok rfl with ⟨rfl, h1, h2, h3⟩ | ⟨h0, h1, h2, h3, h4⟩
    · obtain ⟨n, rfl⟩ : ∃ n : Nat, a = n := ⟨a.toNat, by omega⟩
      have ci := scItoa n (by omega)
      have z := decS_size n
      have zl : (toL n).length ≤ 1 := toL_len_lt.2 (by omega)
      have e : Qt.txt ⟨3, n, b, c⟩ ss = ⟨#[116, 40]⟩ ++ decS n ++ ⟨#[41]⟩ := by unfold Qt.txt; rfl
      rw [e]
      generalize decS n = s at *
      have s1 : (⟨#[116, 40]⟩ : ByteArray).size = 2 := rfl
      have s2 : (⟨#[41]⟩ : ByteArray).size = 1 := rfl
      refine pure_intro (tok := 0) Tryd.func15 rfl Tryd.ntmps15 Tryd.results15 Tryd.call15 (by rfl) (by simp) ?_
      (repeat' (first | (with_reducible first | refine stp ?_ | apply gx1 | apply gx2 | apply gx3 | apply gx4 | apply gx5 | apply gx6 | apply gx7 | apply gy8 | apply gz2 | apply gz3 | refine gw0 (cc) ?_ ?_ | refine gw3 (cc) ?_ ?_ ?_ | refine gw0 (ci) ?_ ?_ | refine gw3 (ci) ?_ ?_ ?_) | (with_reducible refine all_v ?_; intro _) | ((with_reducible refine gE ?_); (try simp (disch := omega) only [go_sem, ↓reduceIte, Nat.reduceAdd, Nat.reduceSub, Nat.reduceMul, Nat.reduceEqDiff, Nat.reduceLT, Nat.reduceLeDiff, Nat.reduceBEq, Int.reduceNeg, Int.reduceLT, Int.reduceLE, Int.reduceEq, reduceCtorEq, ByteArray.size_append, s1, s2, List.length_map, decide_eq_true, decide_eq_false, if_pos, if_neg, Int.reduceAdd, Int.reduceSub, Int.reduceToNat, Int.zero_add]) <;> first | rfl | omega) | with_reducible refine t_in_other (by decide) ?_ | ((with_reducible apply gy1); iterate 3 focus rfl) | ((with_reducible apply gy2); iterate 3 focus rfl) | ((with_reducible apply gy3); iterate 2 focus rfl) | ((with_reducible apply gy4); iterate 1 focus rfl) | ((with_reducible apply gy5); iterate 4 focus rfl) | ((with_reducible apply gy6); iterate 4 focus rfl) | ((with_reducible apply d_bar); iterate 3 focus rfl) | ((with_reducible apply q_pub); iterate 1 focus rfl) | ((with_reducible apply gy7); iterate 1 focus rfl) | ((with_reducible apply gy9); (focus ((with_reducible refine gE ?_); (try simp (disch := omega) only [go_sem, ↓reduceIte, Nat.reduceAdd, Nat.reduceSub, Nat.reduceMul, Nat.reduceEqDiff, Nat.reduceLT, Nat.reduceLeDiff, Nat.reduceBEq, Int.reduceNeg, Int.reduceLT, Int.reduceLE, Int.reduceEq, reduceCtorEq, ByteArray.size_append, s1, s2, List.length_map, decide_eq_true, decide_eq_false, if_pos, if_neg, Int.reduceAdd, Int.reduceSub, Int.reduceToNat, Int.zero_add]) <;> rfl))) | ((with_reducible apply gz1); (focus first | rfl | (simp (disch := omega) only [go_sem, ↓reduceIte, Nat.reduceAdd, Nat.reduceSub, Nat.reduceMul, Nat.reduceEqDiff, Nat.reduceLT, Nat.reduceLeDiff, Nat.reduceBEq, Int.reduceNeg, Int.reduceLT, Int.reduceLE, Int.reduceEq, reduceCtorEq, ByteArray.size_append, s1, s2, List.length_map, decide_eq_true, decide_eq_false, if_pos, if_neg, Int.reduceAdd, Int.reduceSub, Int.reduceToNat, Int.zero_add]; done))) | ((with_reducible apply r_drawD (pickR []) [] []); (focus kernel_rfl); (focus rfl); (focus kernel_rfl); (focus (simp only [List.length_cons, List.length_nil, Nat.reduceAdd]; rfl))) | ((with_reducible first | apply og_split | apply dg_split | apply cg_split); all_goals (intro hc; (try simp only [Bool.if_false_right, Bool.if_true_left, Bool.if_false_left, Bool.if_true_right, Bool.and_eq_true, Bool.or_eq_true, Bool.and_eq_false_imp, Bool.or_eq_false_iff, decide_eq_true_eq, decide_eq_false_iff_not, beq_iff_eq, bne_iff_ne, beq_eq_false_iff_ne, bne_eq_false_iff_eq, Bool.not_eq_true', Bool.not_eq_false', ne_eq, Decidable.not_not, Int.not_lt, Int.not_le] at hc); try (exfalso; omega)))))
      (all_goals (try simp (disch := omega) only [go_sem, ↓reduceIte, Nat.reduceAdd, Nat.reduceSub, Nat.reduceMul, Nat.reduceEqDiff, Nat.reduceLT, Nat.reduceLeDiff, Nat.reduceBEq, Int.reduceNeg, Int.reduceLT, Int.reduceLE, Int.reduceEq, reduceCtorEq, decide_eq_true, decide_eq_false, if_pos, if_neg, Int.reduceAdd, Int.reduceSub, Int.reduceToNat, Int.zero_add])); (all_goals first | done | rfl | (congr 2; first | done | omega | (rw [Bool.eq_iff_iff]; simp only [Bool.if_false_right, Bool.if_true_left, Bool.if_false_left, Bool.if_true_right, Bool.and_eq_true, Bool.or_eq_true, Bool.and_eq_false_imp, Bool.or_eq_false_iff, decide_eq_true_eq, decide_eq_false_iff_not, beq_iff_eq, bne_iff_ne, beq_eq_false_iff_ne, bne_eq_false_iff_eq, Bool.not_eq_true', Bool.not_eq_false', ne_eq, Decidable.not_not, Int.not_lt, Int.not_le, Bool.false_eq_true, iff_true, true_iff, iff_false, false_iff]; omega)) | skip)
    · obtain ⟨x, rfl⟩ : ∃ n : Nat, a = n := ⟨a.toNat, by omega⟩
      obtain ⟨y, rfl⟩ : ∃ n : Nat, b = n := ⟨b.toNat, by omega⟩
      obtain ⟨w, rfl⟩ : ∃ n : Nat, c = n := ⟨c.toNat, by omega⟩
      have hx := strs_at (ss := ss) (j := x) (by omega)
      have hy := strs_at (ss := ss) (j := y) (by omega)
      have hw := strs_at (ss := ss) (j := w) (by omega)
      have zx := strs_sz hs x
      have zy := strs_sz hs y
      have zw := strs_sz hs w
      unfold Qt.txt
      simp only [Int.toNat_natCast]
      generalize ss.getD x ByteArray.empty = sx at *
      generalize ss.getD y ByteArray.empty = sy at *
      generalize ss.getD w ByteArray.empty = sw at *
      have s1 : (⟨#[83, 40]⟩ : ByteArray).size = 2 := rfl
      have s2 : (⟨#[80, 40]⟩ : ByteArray).size = 2 := rfl
      have s3 : (⟨#[44, 32]⟩ : ByteArray).size = 2 := rfl
      have s4 : (⟨#[41]⟩ : ByteArray).size = 1 := rfl
      refine pure_intro (tok := 0) Tryd.func15 rfl Tryd.ntmps15 Tryd.results15 Tryd.call15 (by rfl) (by simp) ?_
      (repeat' (first | (with_reducible first | refine stp ?_ | apply gx1 | apply gx2 | apply gx3 | apply gx4 | apply gx5 | apply gx6 | apply gx7 | apply gy8 | apply gz2 | apply gz3 | refine gw0 (cc) ?_ ?_ | refine gw3 (cc) ?_ ?_ ?_) | (with_reducible refine all_v ?_; intro _) | ((with_reducible refine gE ?_); (try simp (disch := omega) only [go_sem, ↓reduceIte, Nat.reduceAdd, Nat.reduceSub, Nat.reduceMul, Nat.reduceEqDiff, Nat.reduceLT, Nat.reduceLeDiff, Nat.reduceBEq, Int.reduceNeg, Int.reduceLT, Int.reduceLE, Int.reduceEq, reduceCtorEq, ByteArray.size_append, s1, s2, s3, s4, List.length_map, hx, hy, hw, decide_eq_true, decide_eq_false, if_pos, if_neg, Int.reduceAdd, Int.reduceSub, Int.reduceToNat, Int.zero_add]) <;> first | rfl | omega) | with_reducible refine t_in_other (by decide) ?_ | ((with_reducible apply gy1); iterate 3 focus rfl) | ((with_reducible apply gy2); iterate 3 focus rfl) | ((with_reducible apply gy3); iterate 2 focus rfl) | ((with_reducible apply gy4); iterate 1 focus rfl) | ((with_reducible apply gy5); iterate 4 focus rfl) | ((with_reducible apply gy6); iterate 4 focus rfl) | ((with_reducible apply d_bar); iterate 3 focus rfl) | ((with_reducible apply q_pub); iterate 1 focus rfl) | ((with_reducible apply gy7); iterate 1 focus rfl) | ((with_reducible apply gy9); (focus ((with_reducible refine gE ?_); (try simp (disch := omega) only [go_sem, ↓reduceIte, Nat.reduceAdd, Nat.reduceSub, Nat.reduceMul, Nat.reduceEqDiff, Nat.reduceLT, Nat.reduceLeDiff, Nat.reduceBEq, Int.reduceNeg, Int.reduceLT, Int.reduceLE, Int.reduceEq, reduceCtorEq, ByteArray.size_append, s1, s2, s3, s4, List.length_map, hx, hy, hw, decide_eq_true, decide_eq_false, if_pos, if_neg, Int.reduceAdd, Int.reduceSub, Int.reduceToNat, Int.zero_add]) <;> rfl))) | ((with_reducible apply gz1); (focus first | rfl | (simp (disch := omega) only [go_sem, ↓reduceIte, Nat.reduceAdd, Nat.reduceSub, Nat.reduceMul, Nat.reduceEqDiff, Nat.reduceLT, Nat.reduceLeDiff, Nat.reduceBEq, Int.reduceNeg, Int.reduceLT, Int.reduceLE, Int.reduceEq, reduceCtorEq, ByteArray.size_append, s1, s2, s3, s4, List.length_map, hx, hy, hw, decide_eq_true, decide_eq_false, if_pos, if_neg, Int.reduceAdd, Int.reduceSub, Int.reduceToNat, Int.zero_add]; done))) | ((with_reducible apply r_drawD (pickR []) [] []); (focus kernel_rfl); (focus rfl); (focus kernel_rfl); (focus (simp only [List.length_cons, List.length_nil, Nat.reduceAdd]; rfl))) | ((with_reducible first | apply og_split | apply dg_split | apply cg_split); all_goals (intro hc; (try simp only [Bool.if_false_right, Bool.if_true_left, Bool.if_false_left, Bool.if_true_right, Bool.and_eq_true, Bool.or_eq_true, Bool.and_eq_false_imp, Bool.or_eq_false_iff, decide_eq_true_eq, decide_eq_false_iff_not, beq_iff_eq, bne_iff_ne, beq_eq_false_iff_ne, bne_eq_false_iff_eq, Bool.not_eq_true', Bool.not_eq_false', ne_eq, Decidable.not_not, Int.not_lt, Int.not_le] at hc); try (exfalso; omega)))))
      (all_goals (try simp (disch := omega) only [go_sem, ↓reduceIte, Nat.reduceAdd, Nat.reduceSub, Nat.reduceMul, Nat.reduceEqDiff, Nat.reduceLT, Nat.reduceLeDiff, Nat.reduceBEq, Int.reduceNeg, Int.reduceLT, Int.reduceLE, Int.reduceEq, reduceCtorEq, decide_eq_true, decide_eq_false, if_pos, if_neg, Int.reduceAdd, Int.reduceSub, Int.reduceToNat, Int.zero_add])); (all_goals first | done | rfl | (congr 2; first | done | omega | (rw [Bool.eq_iff_iff]; simp only [Bool.if_false_right, Bool.if_true_left, Bool.if_false_left, Bool.if_true_right, Bool.and_eq_true, Bool.or_eq_true, Bool.and_eq_false_imp, Bool.or_eq_false_iff, decide_eq_true_eq, decide_eq_false_iff_not, beq_iff_eq, bne_iff_ne, beq_eq_false_iff_ne, bne_eq_false_iff_eq, Bool.not_eq_true', Bool.not_eq_false', ne_eq, Decidable.not_not, Int.not_lt, Int.not_le, Bool.false_eq_true, iff_true, true_iff, iff_false, false_iff]; omega)) | skip)
  · rw [if_neg hv]
    refine pure_intro (tok := 0) Tryd.func15 rfl Tryd.ntmps15 Tryd.results15 Tryd.call15 (by rfl) (by simp) ?_
    (repeat' (first | (with_reducible first | refine stp ?_ | apply gx1 | apply gx2 | apply gx3 | apply gx4 | apply gx5 | apply gx6 | apply gx7 | apply gy8 | apply gz2 | apply gz3 | refine gw0 (cc) ?_ ?_ | refine gw3 (cc) ?_ ?_ ?_) | (with_reducible refine all_v ?_; intro _) | ((with_reducible refine gE ?_); (try simp (disch := omega) only [go_sem, ↓reduceIte, Nat.reduceAdd, Nat.reduceSub, Nat.reduceMul, Nat.reduceEqDiff, Nat.reduceLT, Nat.reduceLeDiff, Nat.reduceBEq, Int.reduceNeg, Int.reduceLT, Int.reduceLE, Int.reduceEq, reduceCtorEq, List.length_map, decide_eq_true, decide_eq_false, if_pos, if_neg, Int.reduceAdd, Int.reduceSub, Int.reduceToNat, Int.zero_add]) <;> first | rfl | omega) | with_reducible refine t_in_other (by decide) ?_ | ((with_reducible apply gy1); iterate 3 focus rfl) | ((with_reducible apply gy2); iterate 3 focus rfl) | ((with_reducible apply gy3); iterate 2 focus rfl) | ((with_reducible apply gy4); iterate 1 focus rfl) | ((with_reducible apply gy5); iterate 4 focus rfl) | ((with_reducible apply gy6); iterate 4 focus rfl) | ((with_reducible apply d_bar); iterate 3 focus rfl) | ((with_reducible apply q_pub); iterate 1 focus rfl) | ((with_reducible apply gy7); iterate 1 focus rfl) | ((with_reducible apply gy9); (focus ((with_reducible refine gE ?_); (try simp (disch := omega) only [go_sem, ↓reduceIte, Nat.reduceAdd, Nat.reduceSub, Nat.reduceMul, Nat.reduceEqDiff, Nat.reduceLT, Nat.reduceLeDiff, Nat.reduceBEq, Int.reduceNeg, Int.reduceLT, Int.reduceLE, Int.reduceEq, reduceCtorEq, List.length_map, decide_eq_true, decide_eq_false, if_pos, if_neg, Int.reduceAdd, Int.reduceSub, Int.reduceToNat, Int.zero_add]) <;> rfl))) | ((with_reducible apply gz1); (focus first | rfl | (simp (disch := omega) only [go_sem, ↓reduceIte, Nat.reduceAdd, Nat.reduceSub, Nat.reduceMul, Nat.reduceEqDiff, Nat.reduceLT, Nat.reduceLeDiff, Nat.reduceBEq, Int.reduceNeg, Int.reduceLT, Int.reduceLE, Int.reduceEq, reduceCtorEq, List.length_map, decide_eq_true, decide_eq_false, if_pos, if_neg, Int.reduceAdd, Int.reduceSub, Int.reduceToNat, Int.zero_add]; done))) | ((with_reducible apply r_drawD (pickR []) [] []); (focus kernel_rfl); (focus rfl); (focus kernel_rfl); (focus (simp only [List.length_cons, List.length_nil, Nat.reduceAdd]; rfl))) | ((with_reducible first | apply og_split | apply dg_split | apply cg_split); all_goals (intro hc; (try simp only [Bool.if_false_right, Bool.if_true_left, Bool.if_false_left, Bool.if_true_right, Bool.and_eq_true, Bool.or_eq_true, Bool.and_eq_false_imp, Bool.or_eq_false_iff, decide_eq_true_eq, decide_eq_false_iff_not, beq_iff_eq, bne_iff_ne, beq_eq_false_iff_ne, bne_eq_false_iff_eq, Bool.not_eq_true', Bool.not_eq_false', ne_eq, Decidable.not_not, Int.not_lt, Int.not_le] at hc); try (exfalso; omega)))))
    (all_goals (try simp (disch := omega) only [go_sem, ↓reduceIte, Nat.reduceAdd, Nat.reduceSub, Nat.reduceMul, Nat.reduceEqDiff, Nat.reduceLT, Nat.reduceLeDiff, Nat.reduceBEq, Int.reduceNeg, Int.reduceLT, Int.reduceLE, Int.reduceEq, reduceCtorEq, decide_eq_true, decide_eq_false, if_pos, if_neg, Int.reduceAdd, Int.reduceSub, Int.reduceToNat, Int.zero_add])); (all_goals first | done | rfl | (congr 2; first | done | omega | (rw [Bool.eq_iff_iff]; simp only [Bool.if_false_right, Bool.if_true_left, Bool.if_false_left, Bool.if_true_right, Bool.and_eq_true, Bool.or_eq_true, Bool.and_eq_false_imp, Bool.or_eq_false_iff, decide_eq_true_eq, decide_eq_false_iff_not, beq_iff_eq, bne_iff_ne, beq_eq_false_iff_ne, bne_eq_false_iff_eq, Bool.not_eq_true', Bool.not_eq_false', ne_eq, Decidable.not_not, Int.not_lt, Int.not_le, Bool.false_eq_true, iff_true, true_iff, iff_false, false_iff]; omega)) | skip)
end Go.Proofs.YtjiffehkemeloaaDoor
end

section
namespace Go.Proofs.YtjiffehkemeloaaDoor
open Go Go.RowKit Go.Pg
set_option linter.unusedSimpArgs false
set_option linter.unusedVariables false
set_option maxRecDepth 20000
attribute [local go_sem] Tryd.underlying3 Tryd.underlying2 Tryd.underlying4 Tryd.underlying41 Tryd.underlying38 Tryd.underlying72 Tryd.underlying71 Tryd.underlying27 Tryd.underlying30 Tryd.underlying9 Tryd.underlying60 sz3 by3 z3 szQuant zQuant szCor zCor szC3 zC3 szErr zErr szStr byStr zStr eqQuant Bool.and_self szRat zRat
theorem nat_sz1 (n : Nat) (h : n < 65536) : Sz (n : Rat) 1 := ⟨toL_len_lt.2 (by show ((n : Int)).natAbs < _; simpa using h), toL_len_lt.2 (by show 1 < 65536 ^ 1; decide)⟩
set_option maxHeartbeats 4000000 in
theorem rqText (k a b c : Int) (ss : List ByteArray) (hl : ss.length ≤ 1000000000) (hs : ∀ s ∈ ss, s.size ≤ 1000) : Pure Tryd.prog 16 [Qt.av ⟨k, a, b, c⟩, .sl 1 (ss.map strA)] (if Qt.chk ⟨k, a, b, c⟩ ss.length 64 = 0 then .tup [strA (Qt.txt ⟨k, a, b, c⟩ ss), iv 0] else .tup [strA ⟨#[]⟩, iv (Qt.chk ⟨k, a, b, c⟩ ss.length 64)]) := by
  have cc := rqCheck k a b c ss.length 64
  have ok := @chk_ok k a b c ss.length 64
  generalize Qt.chk ⟨k, a, b, c⟩ ss.length 64 = v at *
  by_cases hv : v = 0
  · subst hv
    rw [if_pos rfl]
    rcases ok rfl with ⟨rfl, h1, h2, h3⟩ | ⟨h0, h1, h2, h3, h4⟩
    · obtain ⟨n, rfl⟩ : ∃ n : Nat, a = n := ⟨a.toNat, by omega⟩
      have co := qOf n (by omega)
      have ct := qText (n : Rat) (nat_sz1 n (by omega)) (by omega)
      rw [decQ_nat] at ct
      have z := decS_size n
      have zl : (toL n).length ≤ 1 := toL_len_lt.2 (by omega)
      have e : Qt.txt ⟨3, n, b, c⟩ ss = ⟨#[116, 40]⟩ ++ decS n ++ ⟨#[41]⟩ := by unfold Qt.txt; rfl
      rw [e]
      generalize decS n = s at *
      generalize (n : Rat) = q at *
      have s1 : (⟨#[116, 40]⟩ : ByteArray).size = 2 := rfl
      have s2 : (⟨#[41]⟩ : ByteArray).size = 1 := rfl
      refine pure_intro (tok := 0) Tryd.func16 rfl Tryd.ntmps16 Tryd.results16 Tryd.call16 (by rfl) (by simp) ?_
      (repeat' (first | (with_reducible first | refine stp ?_ | apply gx1 | apply gx2 | apply gx3 | apply gx4 | apply gx5 | apply gx6 | apply gx7 | apply gy8 | apply gz2 | apply gz3 | refine gw0 (cc) ?_ ?_ | refine gw3 (cc) ?_ ?_ ?_ | refine gw0 (co) ?_ ?_ | refine gw3 (co) ?_ ?_ ?_ | refine gw0 (ct) ?_ ?_ | refine gw3 (ct) ?_ ?_ ?_) | (with_reducible refine all_v ?_; intro _) | ((with_reducible refine gE ?_); (try simp (disch := omega) only [go_sem, ↓reduceIte, Nat.reduceAdd, Nat.reduceSub, Nat.reduceMul, Nat.reduceEqDiff, Nat.reduceLT, Nat.reduceLeDiff, Nat.reduceBEq, Int.reduceNeg, Int.reduceLT, Int.reduceLE, Int.reduceEq, reduceCtorEq, ByteArray.size_append, s1, s2, List.length_map, decide_eq_true, decide_eq_false, if_pos, if_neg, Int.reduceAdd, Int.reduceSub, Int.reduceToNat, Int.zero_add]) <;> first | rfl | omega) | with_reducible refine t_in_other (by decide) ?_ | ((with_reducible apply gy1); iterate 3 focus rfl) | ((with_reducible apply gy2); iterate 3 focus rfl) | ((with_reducible apply gy3); iterate 2 focus rfl) | ((with_reducible apply gy4); iterate 1 focus rfl) | ((with_reducible apply gy5); iterate 4 focus rfl) | ((with_reducible apply gy6); iterate 4 focus rfl) | ((with_reducible apply d_bar); iterate 3 focus rfl) | ((with_reducible apply q_pub); iterate 1 focus rfl) | ((with_reducible apply gy7); iterate 1 focus rfl) | ((with_reducible apply gy9); (focus ((with_reducible refine gE ?_); (try simp (disch := omega) only [go_sem, ↓reduceIte, Nat.reduceAdd, Nat.reduceSub, Nat.reduceMul, Nat.reduceEqDiff, Nat.reduceLT, Nat.reduceLeDiff, Nat.reduceBEq, Int.reduceNeg, Int.reduceLT, Int.reduceLE, Int.reduceEq, reduceCtorEq, ByteArray.size_append, s1, s2, List.length_map, decide_eq_true, decide_eq_false, if_pos, if_neg, Int.reduceAdd, Int.reduceSub, Int.reduceToNat, Int.zero_add]) <;> rfl))) | ((with_reducible apply gz1); (focus first | rfl | (simp (disch := omega) only [go_sem, ↓reduceIte, Nat.reduceAdd, Nat.reduceSub, Nat.reduceMul, Nat.reduceEqDiff, Nat.reduceLT, Nat.reduceLeDiff, Nat.reduceBEq, Int.reduceNeg, Int.reduceLT, Int.reduceLE, Int.reduceEq, reduceCtorEq, ByteArray.size_append, s1, s2, List.length_map, decide_eq_true, decide_eq_false, if_pos, if_neg, Int.reduceAdd, Int.reduceSub, Int.reduceToNat, Int.zero_add]; done))) | ((with_reducible apply r_drawD (pickR []) [] []); (focus kernel_rfl); (focus rfl); (focus kernel_rfl); (focus (simp only [List.length_cons, List.length_nil, Nat.reduceAdd]; rfl))) | ((with_reducible first | apply og_split | apply dg_split | apply cg_split); all_goals (intro hc; (try simp only [Bool.if_false_right, Bool.if_true_left, Bool.if_false_left, Bool.if_true_right, Bool.and_eq_true, Bool.or_eq_true, Bool.and_eq_false_imp, Bool.or_eq_false_iff, decide_eq_true_eq, decide_eq_false_iff_not, beq_iff_eq, bne_iff_ne, beq_eq_false_iff_ne, bne_eq_false_iff_eq, Bool.not_eq_true', Bool.not_eq_false', ne_eq, Decidable.not_not, Int.not_lt, Int.not_le] at hc); try (exfalso; omega)))))
      (all_goals (try simp (disch := omega) only [go_sem, ↓reduceIte, Nat.reduceAdd, Nat.reduceSub, Nat.reduceMul, Nat.reduceEqDiff, Nat.reduceLT, Nat.reduceLeDiff, Nat.reduceBEq, Int.reduceNeg, Int.reduceLT, Int.reduceLE, Int.reduceEq, reduceCtorEq, decide_eq_true, decide_eq_false, if_pos, if_neg, Int.reduceAdd, Int.reduceSub, Int.reduceToNat, Int.zero_add])); (all_goals first | done | rfl | (congr 2; first | done | omega | (rw [Bool.eq_iff_iff]; simp only [Bool.if_false_right, Bool.if_true_left, Bool.if_false_left, Bool.if_true_right, Bool.and_eq_true, Bool.or_eq_true, Bool.and_eq_false_imp, Bool.or_eq_false_iff, decide_eq_true_eq, decide_eq_false_iff_not, beq_iff_eq, bne_iff_ne, beq_eq_false_iff_ne, bne_eq_false_iff_eq, Bool.not_eq_true', Bool.not_eq_false', ne_eq, Decidable.not_not, Int.not_lt, Int.not_le, Bool.false_eq_true, iff_true, true_iff, iff_false, false_iff]; omega)) | skip)
    · obtain ⟨x, rfl⟩ : ∃ n : Nat, a = n := ⟨a.toNat, by omega⟩
      obtain ⟨y, rfl⟩ : ∃ n : Nat, b = n := ⟨b.toNat, by omega⟩
      obtain ⟨w, rfl⟩ : ∃ n : Nat, c = n := ⟨c.toNat, by omega⟩
      have hx := strs_at (ss := ss) (j := x) (by omega)
      have hy := strs_at (ss := ss) (j := y) (by omega)
      have hw := strs_at (ss := ss) (j := w) (by omega)
      have zx := strs_sz hs x
      have zy := strs_sz hs y
      have zw := strs_sz hs w
      unfold Qt.txt
      simp only [Int.toNat_natCast]
      generalize ss.getD x ByteArray.empty = sx at *
      generalize ss.getD y ByteArray.empty = sy at *
      generalize ss.getD w ByteArray.empty = sw at *
      have s1 : (⟨#[83, 40]⟩ : ByteArray).size = 2 := rfl
      have s2 : (⟨#[80, 40]⟩ : ByteArray).size = 2 := rfl
      have s3 : (⟨#[44, 32]⟩ : ByteArray).size = 2 := rfl
      have s4 : (⟨#[41]⟩ : ByteArray).size = 1 := rfl
      refine pure_intro (tok := 0) Tryd.func16 rfl Tryd.ntmps16 Tryd.results16 Tryd.call16 (by rfl) (by simp) ?_
      (repeat' (first | (with_reducible first | refine stp ?_ | apply gx1 | apply gx2 | apply gx3 | apply gx4 | apply gx5 | apply gx6 | apply gx7 | apply gy8 | apply gz2 | apply gz3 | refine gw0 (cc) ?_ ?_ | refine gw3 (cc) ?_ ?_ ?_) | (with_reducible refine all_v ?_; intro _) | ((with_reducible refine gE ?_); (try simp (disch := omega) only [go_sem, ↓reduceIte, Nat.reduceAdd, Nat.reduceSub, Nat.reduceMul, Nat.reduceEqDiff, Nat.reduceLT, Nat.reduceLeDiff, Nat.reduceBEq, Int.reduceNeg, Int.reduceLT, Int.reduceLE, Int.reduceEq, reduceCtorEq, ByteArray.size_append, s1, s2, s3, s4, List.length_map, hx, hy, hw, decide_eq_true, decide_eq_false, if_pos, if_neg, Int.reduceAdd, Int.reduceSub, Int.reduceToNat, Int.zero_add]) <;> first | rfl | omega) | with_reducible refine t_in_other (by decide) ?_ | ((with_reducible apply gy1); iterate 3 focus rfl) | ((with_reducible apply gy2); iterate 3 focus rfl) | ((with_reducible apply gy3); iterate 2 focus rfl) | ((with_reducible apply gy4); iterate 1 focus rfl) | ((with_reducible apply gy5); iterate 4 focus rfl) | ((with_reducible apply gy6); iterate 4 focus rfl) | ((with_reducible apply d_bar); iterate 3 focus rfl) | ((with_reducible apply q_pub); iterate 1 focus rfl) | ((with_reducible apply gy7); iterate 1 focus rfl) | ((with_reducible apply gy9); (focus ((with_reducible refine gE ?_); (try simp (disch := omega) only [go_sem, ↓reduceIte, Nat.reduceAdd, Nat.reduceSub, Nat.reduceMul, Nat.reduceEqDiff, Nat.reduceLT, Nat.reduceLeDiff, Nat.reduceBEq, Int.reduceNeg, Int.reduceLT, Int.reduceLE, Int.reduceEq, reduceCtorEq, ByteArray.size_append, s1, s2, s3, s4, List.length_map, hx, hy, hw, decide_eq_true, decide_eq_false, if_pos, if_neg, Int.reduceAdd, Int.reduceSub, Int.reduceToNat, Int.zero_add]) <;> rfl))) | ((with_reducible apply gz1); (focus first | rfl | (simp (disch := omega) only [go_sem, ↓reduceIte, Nat.reduceAdd, Nat.reduceSub, Nat.reduceMul, Nat.reduceEqDiff, Nat.reduceLT, Nat.reduceLeDiff, Nat.reduceBEq, Int.reduceNeg, Int.reduceLT, Int.reduceLE, Int.reduceEq, reduceCtorEq, ByteArray.size_append, s1, s2, s3, s4, List.length_map, hx, hy, hw, decide_eq_true, decide_eq_false, if_pos, if_neg, Int.reduceAdd, Int.reduceSub, Int.reduceToNat, Int.zero_add]; done))) | ((with_reducible apply r_drawD (pickR []) [] []); (focus kernel_rfl); (focus rfl); (focus kernel_rfl); (focus (simp only [List.length_cons, List.length_nil, Nat.reduceAdd]; rfl))) | ((with_reducible first | apply og_split | apply dg_split | apply cg_split); all_goals (intro hc; (try simp only [Bool.if_false_right, Bool.if_true_left, Bool.if_false_left, Bool.if_true_right, Bool.and_eq_true, Bool.or_eq_true, Bool.and_eq_false_imp, Bool.or_eq_false_iff, decide_eq_true_eq, decide_eq_false_iff_not, beq_iff_eq, bne_iff_ne, beq_eq_false_iff_ne, bne_eq_false_iff_eq, Bool.not_eq_true', Bool.not_eq_false', ne_eq, Decidable.not_not, Int.not_lt, Int.not_le] at hc); try (exfalso; omega)))))
      (all_goals (try simp (disch := omega) only [go_sem, ↓reduceIte, Nat.reduceAdd, Nat.reduceSub, Nat.reduceMul, Nat.reduceEqDiff, Nat.reduceLT, Nat.reduceLeDiff, Nat.reduceBEq, Int.reduceNeg, Int.reduceLT, Int.reduceLE, Int.reduceEq, reduceCtorEq, decide_eq_true, decide_eq_false, if_pos, if_neg, Int.reduceAdd, Int.reduceSub, Int.reduceToNat, Int.zero_add])); (all_goals first | done | rfl | (congr 2; first | done | omega | (rw [Bool.eq_iff_iff]; simp only [Bool.if_false_right, Bool.if_true_left, Bool.if_false_left, Bool.if_true_right, Bool.and_eq_true, Bool.or_eq_true, Bool.and_eq_false_imp, Bool.or_eq_false_iff, decide_eq_true_eq, decide_eq_false_iff_not, beq_iff_eq, bne_iff_ne, beq_eq_false_iff_ne, bne_eq_false_iff_eq, Bool.not_eq_true', Bool.not_eq_false', ne_eq, Decidable.not_not, Int.not_lt, Int.not_le, Bool.false_eq_true, iff_true, true_iff, iff_false, false_iff]; omega)) | skip)
  · rw [if_neg hv]
    refine pure_intro (tok := 0) Tryd.func16 rfl Tryd.ntmps16 Tryd.results16 Tryd.call16 (by rfl) (by simp) ?_
    (repeat' (first | (with_reducible first | refine stp ?_ | apply gx1 | apply gx2 | apply gx3 | apply gx4 | apply gx5 | apply gx6 | apply gx7 | apply gy8 | apply gz2 | apply gz3 | refine gw0 (cc) ?_ ?_ | refine gw3 (cc) ?_ ?_ ?_) | (with_reducible refine all_v ?_; intro _) | ((with_reducible refine gE ?_); (try simp (disch := omega) only [go_sem, ↓reduceIte, Nat.reduceAdd, Nat.reduceSub, Nat.reduceMul, Nat.reduceEqDiff, Nat.reduceLT, Nat.reduceLeDiff, Nat.reduceBEq, Int.reduceNeg, Int.reduceLT, Int.reduceLE, Int.reduceEq, reduceCtorEq, List.length_map, decide_eq_true, decide_eq_false, if_pos, if_neg, Int.reduceAdd, Int.reduceSub, Int.reduceToNat, Int.zero_add]) <;> first | rfl | omega) | with_reducible refine t_in_other (by decide) ?_ | ((with_reducible apply gy1); iterate 3 focus rfl) | ((with_reducible apply gy2); iterate 3 focus rfl) | ((with_reducible apply gy3); iterate 2 focus rfl) | ((with_reducible apply gy4); iterate 1 focus rfl) | ((with_reducible apply gy5); iterate 4 focus rfl) | ((with_reducible apply gy6); iterate 4 focus rfl) | ((with_reducible apply d_bar); iterate 3 focus rfl) | ((with_reducible apply q_pub); iterate 1 focus rfl) | ((with_reducible apply gy7); iterate 1 focus rfl) | ((with_reducible apply gy9); (focus ((with_reducible refine gE ?_); (try simp (disch := omega) only [go_sem, ↓reduceIte, Nat.reduceAdd, Nat.reduceSub, Nat.reduceMul, Nat.reduceEqDiff, Nat.reduceLT, Nat.reduceLeDiff, Nat.reduceBEq, Int.reduceNeg, Int.reduceLT, Int.reduceLE, Int.reduceEq, reduceCtorEq, List.length_map, decide_eq_true, decide_eq_false, if_pos, if_neg, Int.reduceAdd, Int.reduceSub, Int.reduceToNat, Int.zero_add]) <;> rfl))) | ((with_reducible apply gz1); (focus first | rfl | (simp (disch := omega) only [go_sem, ↓reduceIte, Nat.reduceAdd, Nat.reduceSub, Nat.reduceMul, Nat.reduceEqDiff, Nat.reduceLT, Nat.reduceLeDiff, Nat.reduceBEq, Int.reduceNeg, Int.reduceLT, Int.reduceLE, Int.reduceEq, reduceCtorEq, List.length_map, decide_eq_true, decide_eq_false, if_pos, if_neg, Int.reduceAdd, Int.reduceSub, Int.reduceToNat, Int.zero_add]; done))) | ((with_reducible apply r_drawD (pickR []) [] []); (focus kernel_rfl); (focus rfl); (focus kernel_rfl); (focus (simp only [List.length_cons, List.length_nil, Nat.reduceAdd]; rfl))) | ((with_reducible first | apply og_split | apply dg_split | apply cg_split); all_goals (intro hc; (try simp only [Bool.if_false_right, Bool.if_true_left, Bool.if_false_left, Bool.if_true_right, Bool.and_eq_true, Bool.or_eq_true, Bool.and_eq_false_imp, Bool.or_eq_false_iff, decide_eq_true_eq, decide_eq_false_iff_not, beq_iff_eq, bne_iff_ne, beq_eq_false_iff_ne, bne_eq_false_iff_eq, Bool.not_eq_true', Bool.not_eq_false', ne_eq, Decidable.not_not, Int.not_lt, Int.not_le] at hc); try (exfalso; omega)))))
    (all_goals (try simp (disch := omega) only [go_sem, ↓reduceIte, Nat.reduceAdd, Nat.reduceSub, Nat.reduceMul, Nat.reduceEqDiff, Nat.reduceLT, Nat.reduceLeDiff, Nat.reduceBEq, Int.reduceNeg, Int.reduceLT, Int.reduceLE, Int.reduceEq, reduceCtorEq, decide_eq_true, decide_eq_false, if_pos, if_neg, Int.reduceAdd, Int.reduceSub, Int.reduceToNat, Int.zero_add])); (all_goals first | done | rfl | (congr 2; first | done | omega | (rw [Bool.eq_iff_iff]; simp only [Bool.if_false_right, Bool.if_true_left, Bool.if_false_left, Bool.if_true_right, Bool.and_eq_true, Bool.or_eq_true, Bool.and_eq_false_imp, Bool.or_eq_false_iff, decide_eq_true_eq, decide_eq_false_iff_not, beq_iff_eq, bne_iff_ne, beq_eq_false_iff_ne, bne_eq_false_iff_eq, Bool.not_eq_true', Bool.not_eq_false', ne_eq, Decidable.not_not, Int.not_lt, Int.not_le, Bool.false_eq_true, iff_true, true_iff, iff_false, false_iff]; omega)) | skip)

/-- The points of a quantity. -/
def isP (a b c : Int) (p : Nat) : Bool := decide (a = (p : Int) ∨ b = (p : Int) ∨ c = (p : Int))
def Qt.pts (q : Qt) : List Int := if q.ok = true ∧ q.k ≠ 3 then ((List.range 40).filter (isP q.a q.b q.c)).map fun n : Nat => (n : Int) else []
abbrev ivs (l : List Int) : AV := .sl 1 (l.map iv)
set_option maxHeartbeats 4000000 in
theorem quPoints (k a b c : Int) : Pure Tryd.prog 22 [Qt.av ⟨k, a, b, c⟩] (ivs (Qt.pts ⟨k, a, b, c⟩)) := by
  have c1 := quRight k a b c
  have c2 := quOf k a b c
  unfold Qt.pts
  generalize Qt.ok ⟨k, a, b, c⟩ = v at *
  by_cases hv : v = true ∧ k ≠ 3
  · obtain ⟨rfl, hk⟩ := hv
    rw [if_pos ⟨rfl, hk⟩]
    refine pure_intro (tok := 0) Tryd.func22 rfl Tryd.ntmps22 Tryd.results22 Tryd.call22 (by rfl) (by simp) ?_
    (repeat' (first | (with_reducible first | refine stp ?_ | apply gx1 | apply gx2 | apply gx3 | apply gx4 | apply gx5 | apply gx6 | apply gx7 | apply gy8 | apply gz2 | apply gz3 | refine gw0 (c1) ?_ ?_ | refine gw3 (c1) ?_ ?_ ?_) | (with_reducible refine all_v ?_; intro _) | ((with_reducible refine gE ?_); (try simp (disch := omega) only [go_sem, ↓reduceIte, Nat.reduceAdd, Nat.reduceSub, Nat.reduceMul, Nat.reduceEqDiff, Nat.reduceLT, Nat.reduceLeDiff, Nat.reduceBEq, Int.reduceNeg, Int.reduceLT, Int.reduceLE, Int.reduceEq, reduceCtorEq, decide_eq_true, decide_eq_false, if_pos, if_neg, Int.reduceAdd, Int.reduceSub, Int.reduceToNat, Int.zero_add]) <;> first | rfl | omega) | with_reducible refine t_in_other (by decide) ?_ | ((with_reducible apply gy1); iterate 3 focus rfl) | ((with_reducible apply gy2); iterate 3 focus rfl) | ((with_reducible apply gy3); iterate 2 focus rfl) | ((with_reducible apply gy4); iterate 1 focus rfl) | ((with_reducible apply gy5); iterate 4 focus rfl) | ((with_reducible apply gy6); iterate 4 focus rfl) | ((with_reducible apply d_bar); iterate 3 focus rfl) | ((with_reducible apply q_pub); iterate 1 focus rfl) | ((with_reducible apply gy7); iterate 1 focus rfl) | ((with_reducible apply gy9); (focus ((with_reducible refine gE ?_); (try simp (disch := omega) only [go_sem, ↓reduceIte, Nat.reduceAdd, Nat.reduceSub, Nat.reduceMul, Nat.reduceEqDiff, Nat.reduceLT, Nat.reduceLeDiff, Nat.reduceBEq, Int.reduceNeg, Int.reduceLT, Int.reduceLE, Int.reduceEq, reduceCtorEq, decide_eq_true, decide_eq_false, if_pos, if_neg, Int.reduceAdd, Int.reduceSub, Int.reduceToNat, Int.zero_add]) <;> rfl))) | ((with_reducible apply gz1); (focus first | rfl | (simp (disch := omega) only [go_sem, ↓reduceIte, Nat.reduceAdd, Nat.reduceSub, Nat.reduceMul, Nat.reduceEqDiff, Nat.reduceLT, Nat.reduceLeDiff, Nat.reduceBEq, Int.reduceNeg, Int.reduceLT, Int.reduceLE, Int.reduceEq, reduceCtorEq, decide_eq_true, decide_eq_false, if_pos, if_neg, Int.reduceAdd, Int.reduceSub, Int.reduceToNat, Int.zero_add]; done))) | ((with_reducible apply r_drawD (pickR []) [] []); (focus kernel_rfl); (focus rfl); (focus kernel_rfl); (focus (simp only [List.length_cons, List.length_nil, Nat.reduceAdd]; rfl))) | ((with_reducible first | apply og_split | apply dg_split | apply cg_split); all_goals (intro hc; (try simp only [Bool.if_false_right, Bool.if_true_left, Bool.if_false_left, Bool.if_true_right, Bool.and_eq_true, Bool.or_eq_true, Bool.and_eq_false_imp, Bool.or_eq_false_iff, decide_eq_true_eq, decide_eq_false_iff_not, beq_iff_eq, bne_iff_ne, beq_eq_false_iff_ne, bne_eq_false_iff_eq, Bool.not_eq_true', Bool.not_eq_false', ne_eq, Decidable.not_not, Int.not_lt, Int.not_le] at hc); try (exfalso; omega)))))
    refine r_frz (Frz.nilOwn (d := 3) 38 1 3 (by exact gC)) ?_
    refine r_loopE (ι := Nat) (fun i e m => i ≤ 40 ∧ e 14 = iv i ∧ (∃ g, e 1 = .pbox 1 g 0 ∧ m 1 = some (.box g 38 [iv k, iv a, iv b, iv c] false)) ∧ ∃ sv, e 3 = .own 38 sv ∧ m 38 = some (.row sv 3 1 ((((List.range i).filter (isP a b c)).map fun n : Nat => (n : Int)).map iv) 0)) (fun i => 40 - i) 0 (by rfl) ?_ ?_
    · rintro i e m ⟨hi, e14, ⟨g, e1, m1⟩, sv, e3, m38⟩
      by_cases h40 : i < 40
      · have hstep : (List.range (i + 1)).filter (isP a b c) = (List.range i).filter (isP a b c) ++ (if a = i ∨ b = i ∨ c = i then [i] else []) := by
          rw [List.range_succ, List.filter_append]
          congr 1
          by_cases h : a = i ∨ b = i ∨ c = i
          · have hp : isP a b c i = true := decide_eq_true h
            rw [if_pos h, List.filter_cons, if_pos hp]; rfl
          · have hp : isP a b c i = false := decide_eq_false h
            rw [if_neg h, List.filter_cons, if_neg (by rw [hp]; simp)]; rfl
        have hlen : ((List.range i).filter (isP a b c)).length ≤ 40 := Nat.le_trans (List.length_filter_le _ _) (by simp; omega)
        by_cases h : a = i ∨ b = i ∨ c = i
        · rw [if_pos h] at hstep
          generalize (List.range i).filter (isP a b c) = l at *
          (repeat' (first | (with_reducible first | refine stp ?_ | apply gx1 | apply gx2 | apply gx3 | apply gx4 | apply gx5 | apply gx6 | apply gx7 | apply gy8 | apply gz2 | apply gz3 | refine gw0 (c2) ?_ ?_ | refine gw3 (c2) ?_ ?_ ?_) | (with_reducible refine all_v ?_; intro _) | ((with_reducible refine gE ?_); (try simp (disch := omega) only [go_sem, ↓reduceIte, Nat.reduceAdd, Nat.reduceSub, Nat.reduceMul, Nat.reduceEqDiff, Nat.reduceLT, Nat.reduceLeDiff, Nat.reduceBEq, Int.reduceNeg, Int.reduceLT, Int.reduceLE, Int.reduceEq, reduceCtorEq, e14, e1, m1, e3, m38, List.length_map, decide_eq_true, decide_eq_false, if_pos, if_neg, Int.reduceAdd, Int.reduceSub, Int.reduceToNat, Int.zero_add]) <;> first | rfl | omega) | with_reducible refine t_in_other (by decide) ?_ | ((with_reducible apply gy1); iterate 3 focus rfl) | ((with_reducible apply gy2); iterate 3 focus rfl) | ((with_reducible apply gy3); iterate 2 focus rfl) | ((with_reducible apply gy4); iterate 1 focus rfl) | ((with_reducible apply gy5); iterate 4 focus rfl) | ((with_reducible apply gy6); iterate 4 focus rfl) | ((with_reducible apply d_bar); iterate 3 focus rfl) | ((with_reducible apply q_pub); iterate 1 focus rfl) | ((with_reducible apply gy7); iterate 1 focus rfl) | ((with_reducible apply gy9); (focus ((with_reducible refine gE ?_); (try simp (disch := omega) only [go_sem, ↓reduceIte, Nat.reduceAdd, Nat.reduceSub, Nat.reduceMul, Nat.reduceEqDiff, Nat.reduceLT, Nat.reduceLeDiff, Nat.reduceBEq, Int.reduceNeg, Int.reduceLT, Int.reduceLE, Int.reduceEq, reduceCtorEq, e14, e1, m1, e3, m38, List.length_map, decide_eq_true, decide_eq_false, if_pos, if_neg, Int.reduceAdd, Int.reduceSub, Int.reduceToNat, Int.zero_add]) <;> rfl))) | ((with_reducible apply gz1); (focus first | rfl | (simp (disch := omega) only [go_sem, ↓reduceIte, Nat.reduceAdd, Nat.reduceSub, Nat.reduceMul, Nat.reduceEqDiff, Nat.reduceLT, Nat.reduceLeDiff, Nat.reduceBEq, Int.reduceNeg, Int.reduceLT, Int.reduceLE, Int.reduceEq, reduceCtorEq, e14, e1, m1, e3, m38, List.length_map, decide_eq_true, decide_eq_false, if_pos, if_neg, Int.reduceAdd, Int.reduceSub, Int.reduceToNat, Int.zero_add]; done))) | ((with_reducible apply r_drawD (pickR []) [] []); (focus kernel_rfl); (focus rfl); (focus kernel_rfl); (focus (simp only [List.length_cons, List.length_nil, Nat.reduceAdd]; rfl))) | ((with_reducible first | apply og_split | apply dg_split | apply cg_split); all_goals (intro hc; (try simp only [Bool.if_false_right, Bool.if_true_left, Bool.if_false_left, Bool.if_true_right, Bool.and_eq_true, Bool.or_eq_true, Bool.and_eq_false_imp, Bool.or_eq_false_iff, decide_eq_true_eq, decide_eq_false_iff_not, beq_iff_eq, bne_iff_ne, beq_eq_false_iff_ne, bne_eq_false_iff_eq, Bool.not_eq_true', Bool.not_eq_false', ne_eq, Decidable.not_not, Int.not_lt, Int.not_le] at hc); try (exfalso; omega)))))
          all_goals refine ⟨i + 1, ⟨by omega, by exact gS, ⟨_, by exact gW e1, by exact gW m1⟩, _, by exact gW e3, ?_⟩, by omega⟩
          all_goals (rw [hstep, List.map_append, List.map_append]; exact gC)
        · rw [if_neg h, List.append_nil] at hstep
          generalize (List.range i).filter (isP a b c) = l at *
          (repeat' (first | (with_reducible first | refine stp ?_ | apply gx1 | apply gx2 | apply gx3 | apply gx4 | apply gx5 | apply gx6 | apply gx7 | apply gy8 | apply gz2 | apply gz3 | refine gw0 (c2) ?_ ?_ | refine gw3 (c2) ?_ ?_ ?_) | (with_reducible refine all_v ?_; intro _) | ((with_reducible refine gE ?_); (try simp (disch := omega) only [go_sem, ↓reduceIte, Nat.reduceAdd, Nat.reduceSub, Nat.reduceMul, Nat.reduceEqDiff, Nat.reduceLT, Nat.reduceLeDiff, Nat.reduceBEq, Int.reduceNeg, Int.reduceLT, Int.reduceLE, Int.reduceEq, reduceCtorEq, e14, e1, m1, e3, m38, List.length_map, decide_eq_true, decide_eq_false, if_pos, if_neg, Int.reduceAdd, Int.reduceSub, Int.reduceToNat, Int.zero_add]) <;> first | rfl | omega) | with_reducible refine t_in_other (by decide) ?_ | ((with_reducible apply gy1); iterate 3 focus rfl) | ((with_reducible apply gy2); iterate 3 focus rfl) | ((with_reducible apply gy3); iterate 2 focus rfl) | ((with_reducible apply gy4); iterate 1 focus rfl) | ((with_reducible apply gy5); iterate 4 focus rfl) | ((with_reducible apply gy6); iterate 4 focus rfl) | ((with_reducible apply d_bar); iterate 3 focus rfl) | ((with_reducible apply q_pub); iterate 1 focus rfl) | ((with_reducible apply gy7); iterate 1 focus rfl) | ((with_reducible apply gy9); (focus ((with_reducible refine gE ?_); (try simp (disch := omega) only [go_sem, ↓reduceIte, Nat.reduceAdd, Nat.reduceSub, Nat.reduceMul, Nat.reduceEqDiff, Nat.reduceLT, Nat.reduceLeDiff, Nat.reduceBEq, Int.reduceNeg, Int.reduceLT, Int.reduceLE, Int.reduceEq, reduceCtorEq, e14, e1, m1, e3, m38, List.length_map, decide_eq_true, decide_eq_false, if_pos, if_neg, Int.reduceAdd, Int.reduceSub, Int.reduceToNat, Int.zero_add]) <;> rfl))) | ((with_reducible apply gz1); (focus first | rfl | (simp (disch := omega) only [go_sem, ↓reduceIte, Nat.reduceAdd, Nat.reduceSub, Nat.reduceMul, Nat.reduceEqDiff, Nat.reduceLT, Nat.reduceLeDiff, Nat.reduceBEq, Int.reduceNeg, Int.reduceLT, Int.reduceLE, Int.reduceEq, reduceCtorEq, e14, e1, m1, e3, m38, List.length_map, decide_eq_true, decide_eq_false, if_pos, if_neg, Int.reduceAdd, Int.reduceSub, Int.reduceToNat, Int.zero_add]; done))) | ((with_reducible apply r_drawD (pickR []) [] []); (focus kernel_rfl); (focus rfl); (focus kernel_rfl); (focus (simp only [List.length_cons, List.length_nil, Nat.reduceAdd]; rfl))) | ((with_reducible first | apply og_split | apply dg_split | apply cg_split); all_goals (intro hc; (try simp only [Bool.if_false_right, Bool.if_true_left, Bool.if_false_left, Bool.if_true_right, Bool.and_eq_true, Bool.or_eq_true, Bool.and_eq_false_imp, Bool.or_eq_false_iff, decide_eq_true_eq, decide_eq_false_iff_not, beq_iff_eq, bne_iff_ne, beq_eq_false_iff_ne, bne_eq_false_iff_eq, Bool.not_eq_true', Bool.not_eq_false', ne_eq, Decidable.not_not, Int.not_lt, Int.not_le] at hc); try (exfalso; omega)))))
          all_goals refine ⟨i + 1, ⟨by omega, by exact gS, ⟨_, by exact gW e1, by exact gW m1⟩, _, by exact gW e3, ?_⟩, by omega⟩
          all_goals (rw [hstep]; exact gW m38)
      · have : i = 40 := by omega
        subst this
        (repeat' (first | (with_reducible first | refine stp ?_ | apply gx1 | apply gx2 | apply gx3 | apply gx4 | apply gx5 | apply gx6 | apply gx7 | apply gy8 | apply gz2 | apply gz3) | (with_reducible refine all_v ?_; intro _) | ((with_reducible refine gE ?_); (try simp (disch := omega) only [go_sem, ↓reduceIte, Nat.reduceAdd, Nat.reduceSub, Nat.reduceMul, Nat.reduceEqDiff, Nat.reduceLT, Nat.reduceLeDiff, Nat.reduceBEq, Int.reduceNeg, Int.reduceLT, Int.reduceLE, Int.reduceEq, reduceCtorEq, e14, e1, m1, e3, m38, List.length_map, decide_eq_true, decide_eq_false, if_pos, if_neg, Int.reduceAdd, Int.reduceSub, Int.reduceToNat, Int.zero_add]) <;> first | rfl | omega) | with_reducible refine t_in_other (by decide) ?_ | ((with_reducible apply gy1); iterate 3 focus rfl) | ((with_reducible apply gy2); iterate 3 focus rfl) | ((with_reducible apply gy3); iterate 2 focus rfl) | ((with_reducible apply gy4); iterate 1 focus rfl) | ((with_reducible apply gy5); iterate 4 focus rfl) | ((with_reducible apply gy6); iterate 4 focus rfl) | ((with_reducible apply d_bar); iterate 3 focus rfl) | ((with_reducible apply q_pub); iterate 1 focus rfl) | ((with_reducible apply gy7); iterate 1 focus rfl) | ((with_reducible apply gy9); (focus ((with_reducible refine gE ?_); (try simp (disch := omega) only [go_sem, ↓reduceIte, Nat.reduceAdd, Nat.reduceSub, Nat.reduceMul, Nat.reduceEqDiff, Nat.reduceLT, Nat.reduceLeDiff, Nat.reduceBEq, Int.reduceNeg, Int.reduceLT, Int.reduceLE, Int.reduceEq, reduceCtorEq, e14, e1, m1, e3, m38, List.length_map, decide_eq_true, decide_eq_false, if_pos, if_neg, Int.reduceAdd, Int.reduceSub, Int.reduceToNat, Int.zero_add]) <;> rfl))) | ((with_reducible apply gz1); (focus first | rfl | (simp (disch := omega) only [go_sem, ↓reduceIte, Nat.reduceAdd, Nat.reduceSub, Nat.reduceMul, Nat.reduceEqDiff, Nat.reduceLT, Nat.reduceLeDiff, Nat.reduceBEq, Int.reduceNeg, Int.reduceLT, Int.reduceLE, Int.reduceEq, reduceCtorEq, e14, e1, m1, e3, m38, List.length_map, decide_eq_true, decide_eq_false, if_pos, if_neg, Int.reduceAdd, Int.reduceSub, Int.reduceToNat, Int.zero_add]; done))) | ((with_reducible apply r_drawD (pickR []) [] []); (focus kernel_rfl); (focus rfl); (focus kernel_rfl); (focus (simp only [List.length_cons, List.length_nil, Nat.reduceAdd]; rfl))) | ((with_reducible first | apply og_split | apply dg_split | apply cg_split); all_goals (intro hc; (try simp only [Bool.if_false_right, Bool.if_true_left, Bool.if_false_left, Bool.if_true_right, Bool.and_eq_true, Bool.or_eq_true, Bool.and_eq_false_imp, Bool.or_eq_false_iff, decide_eq_true_eq, decide_eq_false_iff_not, beq_iff_eq, bne_iff_ne, beq_eq_false_iff_ne, bne_eq_false_iff_eq, Bool.not_eq_true', Bool.not_eq_false', ne_eq, Decidable.not_not, Int.not_lt, Int.not_le] at hc); try (exfalso; omega)))))
        simp (disch := omega) only [go_sem, ↓reduceIte, Nat.reduceAdd, Nat.reduceSub, Nat.reduceMul, Nat.reduceEqDiff, Nat.reduceLT, Nat.reduceLeDiff, Nat.reduceBEq, Int.reduceNeg, Int.reduceLT, Int.reduceLE, Int.reduceEq, reduceCtorEq, m38, List.length_map]
    · refine ⟨by omega, by exact gC, ⟨_, by exact gC, by exact gC⟩, _, by exact gC, by (simp (disch := omega) only [go_sem, ↓reduceIte, Nat.reduceAdd, Nat.reduceSub, Nat.reduceMul, Nat.reduceEqDiff, Nat.reduceLT, Nat.reduceLeDiff, Nat.reduceBEq, Int.reduceNeg, Int.reduceLT, Int.reduceLE, Int.reduceEq, reduceCtorEq, List.range_zero, List.filter_nil] <;> repeat' first | rfl | refine ⟨?_, ?_⟩)⟩
  · rw [if_neg hv]
    refine pure_vkR (r := .v (.slice none 0 0)) ?_ (.nil 1)
    cases v
    · refine pure_intro (tok := 0) Tryd.func22 rfl Tryd.ntmps22 Tryd.results22 Tryd.call22 (by rfl) (by simp) ?_
      (repeat' (first | (with_reducible first | refine stp ?_ | apply gx1 | apply gx2 | apply gx3 | apply gx4 | apply gx5 | apply gx6 | apply gx7 | apply gy8 | apply gz2 | apply gz3 | refine gw0 (c1) ?_ ?_ | refine gw3 (c1) ?_ ?_ ?_) | (with_reducible refine all_v ?_; intro _) | ((with_reducible refine gE ?_); (try simp (disch := omega) only [go_sem, ↓reduceIte, Nat.reduceAdd, Nat.reduceSub, Nat.reduceMul, Nat.reduceEqDiff, Nat.reduceLT, Nat.reduceLeDiff, Nat.reduceBEq, Int.reduceNeg, Int.reduceLT, Int.reduceLE, Int.reduceEq, reduceCtorEq, decide_eq_true, decide_eq_false, if_pos, if_neg, Int.reduceAdd, Int.reduceSub, Int.reduceToNat, Int.zero_add]) <;> first | rfl | omega) | with_reducible refine t_in_other (by decide) ?_ | ((with_reducible apply gy1); iterate 3 focus rfl) | ((with_reducible apply gy2); iterate 3 focus rfl) | ((with_reducible apply gy3); iterate 2 focus rfl) | ((with_reducible apply gy4); iterate 1 focus rfl) | ((with_reducible apply gy5); iterate 4 focus rfl) | ((with_reducible apply gy6); iterate 4 focus rfl) | ((with_reducible apply d_bar); iterate 3 focus rfl) | ((with_reducible apply q_pub); iterate 1 focus rfl) | ((with_reducible apply gy7); iterate 1 focus rfl) | ((with_reducible apply gy9); (focus ((with_reducible refine gE ?_); (try simp (disch := omega) only [go_sem, ↓reduceIte, Nat.reduceAdd, Nat.reduceSub, Nat.reduceMul, Nat.reduceEqDiff, Nat.reduceLT, Nat.reduceLeDiff, Nat.reduceBEq, Int.reduceNeg, Int.reduceLT, Int.reduceLE, Int.reduceEq, reduceCtorEq, decide_eq_true, decide_eq_false, if_pos, if_neg, Int.reduceAdd, Int.reduceSub, Int.reduceToNat, Int.zero_add]) <;> rfl))) | ((with_reducible apply gz1); (focus first | rfl | (simp (disch := omega) only [go_sem, ↓reduceIte, Nat.reduceAdd, Nat.reduceSub, Nat.reduceMul, Nat.reduceEqDiff, Nat.reduceLT, Nat.reduceLeDiff, Nat.reduceBEq, Int.reduceNeg, Int.reduceLT, Int.reduceLE, Int.reduceEq, reduceCtorEq, decide_eq_true, decide_eq_false, if_pos, if_neg, Int.reduceAdd, Int.reduceSub, Int.reduceToNat, Int.zero_add]; done))) | ((with_reducible apply r_drawD (pickR []) [] []); (focus kernel_rfl); (focus rfl); (focus kernel_rfl); (focus (simp only [List.length_cons, List.length_nil, Nat.reduceAdd]; rfl))) | ((with_reducible first | apply og_split | apply dg_split | apply cg_split); all_goals (intro hc; (try simp only [Bool.if_false_right, Bool.if_true_left, Bool.if_false_left, Bool.if_true_right, Bool.and_eq_true, Bool.or_eq_true, Bool.and_eq_false_imp, Bool.or_eq_false_iff, decide_eq_true_eq, decide_eq_false_iff_not, beq_iff_eq, bne_iff_ne, beq_eq_false_iff_ne, bne_eq_false_iff_eq, Bool.not_eq_true', Bool.not_eq_false', ne_eq, Decidable.not_not, Int.not_lt, Int.not_le] at hc); try (exfalso; omega)))))
      (all_goals (try simp (disch := omega) only [go_sem, ↓reduceIte, Nat.reduceAdd, Nat.reduceSub, Nat.reduceMul, Nat.reduceEqDiff, Nat.reduceLT, Nat.reduceLeDiff, Nat.reduceBEq, Int.reduceNeg, Int.reduceLT, Int.reduceLE, Int.reduceEq, reduceCtorEq, decide_eq_true, decide_eq_false, if_pos, if_neg, Int.reduceAdd, Int.reduceSub, Int.reduceToNat, Int.zero_add])); (all_goals first | done | rfl | (congr 2; first | done | omega | (rw [Bool.eq_iff_iff]; simp only [Bool.if_false_right, Bool.if_true_left, Bool.if_false_left, Bool.if_true_right, Bool.and_eq_true, Bool.or_eq_true, Bool.and_eq_false_imp, Bool.or_eq_false_iff, decide_eq_true_eq, decide_eq_false_iff_not, beq_iff_eq, bne_iff_ne, beq_eq_false_iff_ne, bne_eq_false_iff_eq, Bool.not_eq_true', Bool.not_eq_false', ne_eq, Decidable.not_not, Int.not_lt, Int.not_le, Bool.false_eq_true, iff_true, true_iff, iff_false, false_iff]; omega)) | skip)
    · have hk : k = 3 := by
        rcases Decidable.em (k = 3) with h | h
        · exact h
        · exact (hv ⟨rfl, h⟩).elim
      subst hk
      refine pure_intro (tok := 0) Tryd.func22 rfl Tryd.ntmps22 Tryd.results22 Tryd.call22 (by rfl) (by simp) ?_
      (repeat' (first | (with_reducible first | refine stp ?_ | apply gx1 | apply gx2 | apply gx3 | apply gx4 | apply gx5 | apply gx6 | apply gx7 | apply gy8 | apply gz2 | apply gz3 | refine gw0 (c1) ?_ ?_ | refine gw3 (c1) ?_ ?_ ?_) | (with_reducible refine all_v ?_; intro _) | ((with_reducible refine gE ?_); (try simp (disch := omega) only [go_sem, ↓reduceIte, Nat.reduceAdd, Nat.reduceSub, Nat.reduceMul, Nat.reduceEqDiff, Nat.reduceLT, Nat.reduceLeDiff, Nat.reduceBEq, Int.reduceNeg, Int.reduceLT, Int.reduceLE, Int.reduceEq, reduceCtorEq, decide_eq_true, decide_eq_false, if_pos, if_neg, Int.reduceAdd, Int.reduceSub, Int.reduceToNat, Int.zero_add]) <;> first | rfl | omega) | with_reducible refine t_in_other (by decide) ?_ | ((with_reducible apply gy1); iterate 3 focus rfl) | ((with_reducible apply gy2); iterate 3 focus rfl) | ((with_reducible apply gy3); iterate 2 focus rfl) | ((with_reducible apply gy4); iterate 1 focus rfl) | ((with_reducible apply gy5); iterate 4 focus rfl) | ((with_reducible apply gy6); iterate 4 focus rfl) | ((with_reducible apply d_bar); iterate 3 focus rfl) | ((with_reducible apply q_pub); iterate 1 focus rfl) | ((with_reducible apply gy7); iterate 1 focus rfl) | ((with_reducible apply gy9); (focus ((with_reducible refine gE ?_); (try simp (disch := omega) only [go_sem, ↓reduceIte, Nat.reduceAdd, Nat.reduceSub, Nat.reduceMul, Nat.reduceEqDiff, Nat.reduceLT, Nat.reduceLeDiff, Nat.reduceBEq, Int.reduceNeg, Int.reduceLT, Int.reduceLE, Int.reduceEq, reduceCtorEq, decide_eq_true, decide_eq_false, if_pos, if_neg, Int.reduceAdd, Int.reduceSub, Int.reduceToNat, Int.zero_add]) <;> rfl))) | ((with_reducible apply gz1); (focus first | rfl | (simp (disch := omega) only [go_sem, ↓reduceIte, Nat.reduceAdd, Nat.reduceSub, Nat.reduceMul, Nat.reduceEqDiff, Nat.reduceLT, Nat.reduceLeDiff, Nat.reduceBEq, Int.reduceNeg, Int.reduceLT, Int.reduceLE, Int.reduceEq, reduceCtorEq, decide_eq_true, decide_eq_false, if_pos, if_neg, Int.reduceAdd, Int.reduceSub, Int.reduceToNat, Int.zero_add]; done))) | ((with_reducible apply r_drawD (pickR []) [] []); (focus kernel_rfl); (focus rfl); (focus kernel_rfl); (focus (simp only [List.length_cons, List.length_nil, Nat.reduceAdd]; rfl))) | ((with_reducible first | apply og_split | apply dg_split | apply cg_split); all_goals (intro hc; (try simp only [Bool.if_false_right, Bool.if_true_left, Bool.if_false_left, Bool.if_true_right, Bool.and_eq_true, Bool.or_eq_true, Bool.and_eq_false_imp, Bool.or_eq_false_iff, decide_eq_true_eq, decide_eq_false_iff_not, beq_iff_eq, bne_iff_ne, beq_eq_false_iff_ne, bne_eq_false_iff_eq, Bool.not_eq_true', Bool.not_eq_false', ne_eq, Decidable.not_not, Int.not_lt, Int.not_le] at hc); try (exfalso; omega)))))
      (all_goals (try simp (disch := omega) only [go_sem, ↓reduceIte, Nat.reduceAdd, Nat.reduceSub, Nat.reduceMul, Nat.reduceEqDiff, Nat.reduceLT, Nat.reduceLeDiff, Nat.reduceBEq, Int.reduceNeg, Int.reduceLT, Int.reduceLE, Int.reduceEq, reduceCtorEq, decide_eq_true, decide_eq_false, if_pos, if_neg, Int.reduceAdd, Int.reduceSub, Int.reduceToNat, Int.zero_add])); (all_goals first | done | rfl | (congr 2; first | done | omega | (rw [Bool.eq_iff_iff]; simp only [Bool.if_false_right, Bool.if_true_left, Bool.if_false_left, Bool.if_true_right, Bool.and_eq_true, Bool.or_eq_true, Bool.and_eq_false_imp, Bool.or_eq_false_iff, decide_eq_true_eq, decide_eq_false_iff_not, beq_iff_eq, bne_iff_ne, beq_eq_false_iff_ne, bne_eq_false_iff_eq, Bool.not_eq_true', Bool.not_eq_false', ne_eq, Decidable.not_not, Int.not_lt, Int.not_le, Bool.false_eq_true, iff_true, true_iff, iff_false, false_iff]; omega)) | skip)
end Go.Proofs.YtjiffehkemeloaaDoor
end
